/- Merged by bundles.py: SimRh, SimPath2, SimPath5. -/
import Derived.Test.YtpncekdhigappaaGreatDoorV26
import Derived.Test.YtpncekdhigappaaGreatDoorV13
import Derived.Test.YtpncekdhigappaaGreatDoorV23
/- Requests: the document's host: a walk. -/
namespace Go.Proofs.YtpncekdhigappaaGreatDoor.Ro
set_option linter.unusedVariables false
set_option linter.unusedSimpArgs false
open Go.RowKit Mem Sim Opn Hd Str Pth Rq
theorem neg_t {n : Int} {m : Int} (h : n ≠ m) : (!decide (n = m)) = true := by rw [decide_eq_false h]; rfl
theorem neg_f {n : Int} {m : Int} (h : n = m) : (!decide (n = m)) = false := by rw [decide_eq_true h]; rfl
theorem po_seq {P : Program} {bx : List (Nat × List A)} {ow : List (Nat × Own)} {o : Oper} {ρ : Operand → Option A} {x y : ByteArray} (he : x = y) (h : PureOp P bx ow o ρ (.t (.v (.string x)))) : PureOp P bx ow o ρ (.t (.v (.string y))) := he ▸ h
theorem tupB {a b c d : Bool} (h : a = c) (h2 : b = d) : T.tup [.v (.bool a), .v (.bool b)] = T.tup [.v (.bool c), .v (.bool d)] := by rw [h, h2]
theorem take_bad {s : L8} {p : UInt8 → Bool} {k n : Nat} (hk : k < n) (hs : k < s.length) (h : p s[k] = false) : (s.take n).all p = false := by
  rw [List.all_eq_false]
  refine ⟨s[k], ?_, by simp [h]⟩
  have : s[k] = (s.take n)[k]'(by rw [List.length_take]; omega) := by simp
  rw [this]; exact List.getElem_mem _
theorem numL_snoc5 (l : L8) {k : Nat} (h : k < l.length) (hd : digB l[k] = true) : (numL (l.take k) : Int) * 10 + (l[k].toNat : Int) - 48 = (numL (l.take (k + 1)) : Int) := by
  have h1 := numL_snoc l h
  unfold digB at hd
  have h2 := of_decide_eq_true hd
  rw [h1]; omega
set_option maxRecDepth 100000 in
set_option maxHeartbeats 4000000 in
theorem refHost_ (s : ByteArray) (hs : s.size ≤ 1000000) : PCalls Tryz.prog 45 [.v (.string s)] (.tup [.v (.bool (hostB s.toList)), .v (.bool (hostB s.toList && hasC s.toList))]) := by
  have hl := toList_len s
  obtain ⟨w1, w2, w3⟩ := tw_idx 58 s.toList
  have hfl := List.findIdx_le_length (xs := s.toList) (p := (· == 58))
  have hnot : ∀ k (hk : k < s.toList.findIdx (· == 58)) (hk2 : k < s.size), s[k].toNat ≠ 58 := fun k hk hk2 e => by
    have := List.not_of_lt_findIdx hk
    rw [toList_at s hk2] at this
    simp at this
    exact this (UInt8.toNat_inj.1 e)
  have hat : ∀ (hk : s.toList.findIdx (· == 58) < s.size), s[s.toList.findIdx (· == 58)].toNat = 58 := fun hk => by
    have := List.findIdx_getElem (xs := s.toList) (p := (· == 58)) (w := by omega)
    rw [toList_at s hk] at this
    have e : s[s.toList.findIdx (· == 58)] = 58 := by simpa using this
    rw [e]; rfl
  unfold hostB nameL portL hasC
  rw [w1, w2, w3, hl]
  generalize hn : s.toList.findIdx (· == 58) = n at *
  rw [List.drop_drop]
  have hnn : decide (s.toList.take n ≠ []) = decide (n ≠ 0) := by
    rw [decide_eq_decide]
    constructor
    · rintro h rfl; exact h rfl
    · intro h e
      have := congrArg List.length e
      rw [List.length_take] at this; simp only [List.length_nil] at this; omega
  rw [hnn]
  refine pcalls_of Tryz.func45 rfl rfl Tryz.ntmps45 rfl ?_
  by_cases h6 : s.size ≤ 64
  · rw [decide_eq_true h6]
    repeat' (first | refine rg 0 (aq49 ?_) | refine rg 1 (aq51 ?_) | refine rg 3 (aq0 ?_) | refine gc ?_ | refine ct ?_ | refine cf ?_ | refine sc ?_ ?_ <;> intro hc | refine rq rfl (rt (rt .nil)) ?_)
    refine swp_for (fun k => ⟨[(0, .t (.v (.string s))), (4, .t (.v (.int .i64 (k : Int))))], [], []⟩) (fun k => (s.toList.take k).all hostC = true) n (weak_sub (.cons rfl rfl rfl (.cons rfl rfl rfl .nil)) .nil .nil) rfl ?_
    intro k hk hI
    by_cases hlt : k < n
    · have hks : k < s.size := by omega
      have e58 := neg_t (m := 58) (show (s[k].toNat : Int) ≠ 58 by have := hnot k hlt hks; omega)
      cases hd : hostC s[k] with
      | true =>
        rcases hostC_yes hd with h | h | h | h
        · have e1 := neg_t (m := 46) (show (s[k].toNat : Int) ≠ 46 by omega)
          have e2 := neg_f (m := 45) (show (s[k].toNat : Int) = 45 by omega)
          repeat' (first | refine for_next hlt (weak_sub (.cons rfl rfl rfl (.cons rfl rfl rfl .nil)) .nil .nil) (all_snoc hI hks hd) | refine rg 4 (aq100 ?_) | refine rg 5 (aq25 ?_) | (refine rg 6 ?_; refine oMv ?_; refine oCm ?_; refine oMv ?_; refine oMv ?_ <;> refine oCm ?_ <;> refine oPt ?_ <;> refine oMv ?_ <;> (first | refine oMv ?_ | refine oK ?_) <;> (first | refine oCm ?_ | refine oK ?_) <;> (first | refine oMv ?_ | refine oK ?_) <;> (first | refine oMv ?_ | refine oK ?_) <;> (first | refine oCm ?_ | refine oK ?_) <;> (first | refine oPt ?_ | refine oPf ?_ | refine oK ?_) <;> (first | refine oPt ?_ | refine oPf ?_) <;> refine oMv ?_ <;> (first | refine oMv ?_ | refine oK ?_) <;> (first | refine oCm ?_ | refine oK ?_) <;> (first | refine oMv ?_ | refine oK ?_) <;> (first | refine oMv ?_ | refine oK ?_) <;> (first | refine oCm ?_ | refine oK ?_) <;> (first | refine oPt ?_ | refine oPf ?_ | refine oK ?_) <;> (first | refine oPt ?_ | refine oPf ?_) <;> refine oN ?_) | refine rg 8 (aq3 ?_) | refine gc ?_ | refine ct ?_ | refine cf ?_)
        · have e1 := neg_f (m := 46) (show (s[k].toNat : Int) = 46 by omega)
          repeat' (first | refine for_next hlt (weak_sub (.cons rfl rfl rfl (.cons rfl rfl rfl .nil)) .nil .nil) (all_snoc hI hks hd) | refine rg 4 (aq100 ?_) | refine rg 5 (aq25 ?_) | (refine rg 6 ?_; refine oMv ?_; refine oCm ?_; refine oMv ?_; (first | refine oMv ?_ | refine oK ?_) <;> (first | refine oCm ?_ | refine oK ?_) <;> (first | refine oPt ?_ | refine oPf ?_) <;> refine oMv ?_ <;> (first | refine oMv ?_ | refine oK ?_) <;> (first | refine oCm ?_ | refine oK ?_) <;> (first | refine oMv ?_ | refine oK ?_) <;> (first | refine oMv ?_ | refine oK ?_) <;> (first | refine oCm ?_ | refine oK ?_) <;> (first | refine oPt ?_ | refine oPf ?_ | refine oK ?_) <;> (first | refine oPt ?_ | refine oPf ?_) <;> refine oMv ?_ <;> (first | refine oMv ?_ | refine oK ?_) <;> (first | refine oCm ?_ | refine oK ?_) <;> (first | refine oMv ?_ | refine oK ?_) <;> (first | refine oMv ?_ | refine oK ?_) <;> (first | refine oCm ?_ | refine oK ?_) <;> (first | refine oPt ?_ | refine oPf ?_ | refine oK ?_) <;> (first | refine oPt ?_ | refine oPf ?_) <;> refine oN ?_) | refine rg 8 (aq3 ?_) | refine gc ?_ | refine ct ?_ | refine cf ?_)
        · have e1 := neg_t (m := 46) (show (s[k].toNat : Int) ≠ 46 by omega)
          have e2 := neg_t (m := 45) (show (s[k].toNat : Int) ≠ 45 by omega)
          repeat' (first | refine for_next hlt (weak_sub (.cons rfl rfl rfl (.cons rfl rfl rfl .nil)) .nil .nil) (all_snoc hI hks hd) | refine rg 4 (aq100 ?_) | refine rg 5 (aq25 ?_) | (refine rg 6 ?_; refine oMv ?_; refine oCm ?_; refine oMv ?_; refine oMv ?_ <;> refine oCm ?_ <;> refine oPt ?_ <;> refine oMv ?_ <;> refine oMv ?_ <;> refine oCm ?_ <;> refine oMv ?_ <;> refine oMv ?_ <;> refine oCm ?_ <;> (first | refine oPt ?_ | refine oPf ?_) <;> refine oPt ?_ <;> refine oMv ?_ <;> (first | refine oMv ?_ | refine oK ?_) <;> (first | refine oCm ?_ | refine oK ?_) <;> (first | refine oMv ?_ | refine oK ?_) <;> (first | refine oMv ?_ | refine oK ?_) <;> (first | refine oCm ?_ | refine oK ?_) <;> (first | refine oPt ?_ | refine oPf ?_ | refine oK ?_) <;> (first | refine oPt ?_ | refine oPf ?_) <;> refine oN ?_) | refine rg 8 (aq3 ?_) | refine gc ?_ | refine ct ?_ | refine cf ?_)
        · have e1 := neg_t (m := 46) (show (s[k].toNat : Int) ≠ 46 by omega)
          have e2 := neg_t (m := 45) (show (s[k].toNat : Int) ≠ 45 by omega)
          repeat' (first | refine for_next hlt (weak_sub (.cons rfl rfl rfl (.cons rfl rfl rfl .nil)) .nil .nil) (all_snoc hI hks hd) | refine rg 4 (aq100 ?_) | refine rg 5 (aq25 ?_) | (refine rg 6 ?_; refine oMv ?_; refine oCm ?_; refine oMv ?_; refine oMv ?_ <;> refine oCm ?_ <;> refine oPt ?_ <;> refine oMv ?_ <;> refine oMv ?_ <;> refine oCm ?_ <;> refine oMv ?_ <;> refine oMv ?_ <;> refine oCm ?_ <;> (first | refine oPt ?_ | refine oPf ?_) <;> refine oPt ?_ <;> refine oMv ?_ <;> refine oMv ?_ <;> refine oCm ?_ <;> refine oMv ?_ <;> refine oMv ?_ <;> refine oCm ?_ <;> (first | refine oPt ?_ | refine oPf ?_) <;> refine oPt ?_ <;> refine oN ?_) | refine rg 8 (aq3 ?_) | refine gc ?_ | refine ct ?_ | refine cf ?_)
      | false =>
        have hbad := take_bad (s := s.toList) (p := hostC) hlt (by omega) (by rw [toList_at s hks]; exact hd)
        rw [hbad, Bool.false_and, Bool.false_and]
        have e1 := neg_t (m := 46) (show (s[k].toNat : Int) ≠ 46 by have := hostC_no hd; omega)
        have e2 := neg_t (m := 45) (show (s[k].toNat : Int) ≠ 45 by have := hostC_no hd; omega)
        rcases hostC_no hd with h | h | h | h
        all_goals
          repeat' (first | refine rg 4 (aq100 ?_) | refine rg 5 (aq25 ?_) | (refine rg 6 ?_; refine oMv ?_; refine oCm ?_; refine oMv ?_; refine oMv ?_ <;> refine oCm ?_ <;> refine oPt ?_ <;> refine oMv ?_ <;> refine oMv ?_ <;> refine oCm ?_ <;> refine oMv ?_ <;> (first | refine oMv ?_ | refine oK ?_) <;> (first | refine oCm ?_ | refine oK ?_) <;> (first | refine oPt ?_ | refine oPf ?_) <;> refine oPt ?_ <;> refine oMv ?_ <;> refine oMv ?_ <;> refine oCm ?_ <;> refine oMv ?_ <;> (first | refine oMv ?_ | refine oK ?_) <;> (first | refine oCm ?_ | refine oK ?_) <;> (first | refine oPt ?_ | refine oPf ?_) <;> refine oPt ?_ <;> refine oN ?_) | refine rg 7 (aq49 ?_) | refine gc ?_ | refine ct ?_ | refine cf ?_ | refine sc ?_ ?_ <;> intro hc | refine rq rfl (rt (rt .nil)) ?_)
          rfl
    · obtain rfl : k = n := by omega
      rw [hI]
      by_cases hks : k < s.size
      · have e58 := neg_f (m := 58) (show (s[k].toNat : Int) = 58 by have := hat hks; omega)
        rw [decide_eq_true hks]
        by_cases h0 : k = 0
        · rw [decide_eq_false (show ¬ k ≠ 0 by omega)]
          repeat' (first | refine rg 4 (aq100 ?_) | refine rg 9 (aq22 ?_) | refine rg 10 (aq49 ?_) | refine gc ?_ | refine ct ?_ | refine cf ?_ | refine sc ?_ ?_ <;> intro hc | refine rq rfl (rt (rt .nil)) ?_)
          rfl
        · rw [decide_eq_true h0]
          have hx : s.extract (k + 1) s.size = bs (s.toList.drop (k + 1)) := by
            rw [ba_extract, List.take_of_length_le (by omega)]
          have hdb := bs_toList (s.toList.drop (k + 1))
          have hdz := bs_size (s.toList.drop (k + 1))
          rw [List.length_drop] at hdz
          rw [← hdb]
          generalize bs (s.toList.drop (k + 1)) = db at *
          clear hdb w1 w2 w3
          have hdl := toList_len db
          unfold portB
          rw [hdl]
          have hne : decide (db.toList ≠ []) = decide (db.size ≠ 0) := by
            rw [decide_eq_decide, ← hdl]; simp
          rw [hne]
          by_cases hd0 : db.size = 0
          · rw [decide_eq_false (show ¬ db.size ≠ 0 by omega)]
            repeat' (first | refine rg 4 (aq100 ?_) | refine rg 9 (aq22 ?_) | refine rg 11 (aq24 ?_) | (refine rg 13 (aq101 ?_); refine sp (po_seq hx (po_slice_str rfl rfl (tyR rfl) ⟨_, rfl⟩ rfl (by omega) (by omega))) ?_; refine aq0 ?_) | refine rg 14 (aq102 ?_) | refine rg 15 (aq49 ?_) | refine gc ?_ | refine ct ?_ | refine cf ?_ | refine sc ?_ ?_ <;> intro hc | refine rq rfl (rt (rt .nil)) ?_)
            rfl
          by_cases hd5 : db.size ≤ 5
          · have hd1 : 0 < db.size := by omega
            rw [decide_eq_true (show db.size ≠ 0 from hd0), decide_eq_true hd5, head_get db hd1]
            by_cases h48 : db[0].toNat = 48
            · rw [decide_eq_false (fun h => h (by rw [show db[0] = 48 from UInt8.toNat_inj.1 h48]))]
              repeat' (first | refine rg 4 (aq100 ?_) | refine rg 9 (aq22 ?_) | refine rg 11 (aq24 ?_) | (refine rg 13 (aq101 ?_); refine sp (po_seq hx (po_slice_str rfl rfl (tyR rfl) ⟨_, rfl⟩ rfl (by omega) (by omega))) ?_; refine aq0 ?_) | refine rg 14 (aq103 ?_) | refine rg 15 (aq49 ?_) | refine gc ?_ | refine ct ?_ | refine cf ?_ | refine sc ?_ ?_ <;> intro hc | refine rq rfl (rt (rt .nil)) ?_)
              rfl
            · rw [decide_eq_true (show (some db[0] : Option UInt8) ≠ some 48 from fun h => h48 (by injection h with h; rw [h]; rfl))]
              repeat' (first | refine rg 4 (aq100 ?_) | refine rg 9 (aq22 ?_) | refine rg 11 (aq24 ?_) | (refine rg 13 (aq101 ?_); refine sp (po_seq hx (po_slice_str rfl rfl (tyR rfl) ⟨_, rfl⟩ rfl (by omega) (by omega))) ?_; refine aq0 ?_) | refine rg 14 (aq103 ?_) | refine rg 16 (aq0 ?_) | refine rg 17 (aq0 ?_) | refine gc ?_ | refine ct ?_ | refine cf ?_ | refine sc ?_ ?_ <;> intro hc | refine rq rfl (rt (rt .nil)) ?_)
              refine swp_for (fun j => ⟨[(6, .t (.v (.string db))), (7, .t (.v (.int .i64 ((numL (db.toList.take j) : Nat) : Int)))), (8, .t (.v (.int .i64 (j : Int))))], [], []⟩) (fun j => (db.toList.take j).all digB = true) db.size (weak_sub (.cons rfl rfl rfl (.cons rfl rfl rfl (.cons rfl rfl rfl .nil))) .nil .nil) rfl ?_
              intro j hj hJ
              by_cases hjt : j < db.size
              · cases hd : digB db[j] with
                | true =>
                  have hd2 : 48 ≤ db[j].toNat ∧ db[j].toNat ≤ 57 := by unfold digB at hd; simpa using hd
                  have hb := numL_bd db.toList j hJ (by omega)
                  have hsn := numL_snoc5 db.toList (k := j) (by omega) (by rw [toList_at db hjt]; exact hd)
                  rw [toList_at db hjt] at hsn
                  repeat' (first | refine for_next hjt (weak_sub (.cons rfl (by rfl) rfl (.cons rfl (by first | rfl | (exact congrArg (fun n => A.t (T.v (Value.int .i64 n))) hsn)) rfl (.cons rfl (by rfl) rfl .nil))) .nil .nil) (all_snoc hJ hjt hd) | refine rg 18 (aq24 ?_) | refine rg 20 (aq94 ?_) | (refine rg 22 ?_; refine oMv ?_; refine sp (po_arith rfl rfl rfl (ar_mul (by first | rfl | (refine wrap_i64 ?_; omega)) rfl)) ?_; refine aq33 ?_; refine sp (po_conv_int rfl rfl (tyK rfl) (tyK rfl) (by (refine wrap_i64 ?_; omega))) ?_; (first | refine sp (xinc rfl) ?_ | refine sp (xadd rfl) ?_); (first | refine sp (po_dec rfl rfl rfl (by omega)) ?_ | refine sp (po_arith rfl rfl rfl (ar_sub (by first | rfl | (refine wrap_i64 ?_; omega)) rfl)) ?_); refine aq0 ?_) | refine rg 19 (aq3 ?_) | refine gc ?_ | refine ct ?_ | refine cf ?_)
                | false =>
                  rw [all_bad hjt hd]
                  have hd2 : db[j].toNat < 48 ∨ 57 < db[j].toNat := by
                    unfold digB at hd
                    have := of_decide_eq_false hd
                    omega
                  rcases hd2 with hd2 | hd2
                  all_goals
                    repeat' (first | refine rg 18 (aq24 ?_) | refine rg 20 (aq95 ?_) | refine rg 21 (aq49 ?_) | refine gc ?_ | refine ct ?_ | refine cf ?_ | refine sc ?_ ?_ <;> intro hc | refine rq rfl (rt (rt .nil)) ?_)
                    rfl
              · obtain rfl : j = db.size := by omega
                rw [take_full db (Nat.lt_irrefl _)] at hJ ⊢
                rw [hJ]
                by_cases hm : numL db.toList ≤ 65535
                · have hc : decide (((numL db.toList : Nat) : Int) ≤ 65535) = true := decide_eq_true (by omega)
                  rw [decide_eq_true hm]
                  repeat' (first | refine rg 18 (aq24 ?_) | (refine rg 23 ?_; refine oMv ?_; refine oCm ?_; refine oMv ?_; refine oCm ?_; refine oAs ?_; refine oAs ?_; refine oN ?_) | refine gc ?_ | refine ct ?_ | refine cf ?_ | refine sc ?_ ?_ <;> intro hc | refine rq rfl (rt (rt .nil)) ?_)
                  exact tupB (by rw [hc]; rfl) (by rw [hc]; rfl)
                · have hc : decide (((numL db.toList : Nat) : Int) ≤ 65535) = false := decide_eq_false (by omega)
                  rw [decide_eq_false hm]
                  repeat' (first | refine rg 18 (aq24 ?_) | (refine rg 23 ?_; refine oMv ?_; refine oCm ?_; refine oMv ?_; refine oCm ?_; refine oAs ?_; refine oAs ?_; refine oN ?_) | refine gc ?_ | refine ct ?_ | refine cf ?_ | refine sc ?_ ?_ <;> intro hc | refine rq rfl (rt (rt .nil)) ?_)
                  exact tupB (by rw [hc]; rfl) (by rw [hc]; rfl)
          · rw [decide_eq_false hd5]
            have hz : ∀ b c : Bool, (b && (c && (false && (db.toList.all digB && decide (numL db.toList ≤ 65535))))) = false := by simp
            rw [hz]
            repeat' (first | refine rg 4 (aq100 ?_) | refine rg 9 (aq22 ?_) | refine rg 11 (aq24 ?_) | (refine rg 13 (aq101 ?_); refine sp (po_seq hx (po_slice_str rfl rfl (tyR rfl) ⟨_, rfl⟩ rfl (by omega) (by omega))) ?_; refine aq0 ?_) | refine rg 14 (aq104 ?_) | refine rg 15 (aq49 ?_) | refine gc ?_ | refine ct ?_ | refine cf ?_ | refine sc ?_ ?_ <;> intro hc | refine rq rfl (rt (rt .nil)) ?_)
            rfl
      · obtain rfl : k = s.size := by omega
        rw [decide_eq_false hks]
        by_cases h0 : s.size = 0
        · rw [decide_eq_false (show ¬ s.size ≠ 0 by omega)]
          repeat' (first | refine rg 4 (aq105 ?_) | refine rg 9 (aq22 ?_) | refine rg 10 (aq49 ?_) | refine gc ?_ | refine ct ?_ | refine cf ?_ | refine sc ?_ ?_ <;> intro hc | refine rq rfl (rt (rt .nil)) ?_)
          rfl
        · rw [decide_eq_true h0]
          have hee : decide (((s.size : Nat) : Int) = ((s.size : Nat) : Int)) = true := decide_eq_true rfl
          repeat' (first | refine rg 4 (aq105 ?_) | refine rg 9 (aq22 ?_) | refine rg 11 (aq24 ?_) | refine rg 12 (aq49 ?_) | refine gc ?_ | refine ct ?_ | refine cf ?_ | refine sc ?_ ?_ <;> intro hc | refine rq rfl (rt (rt .nil)) ?_)
          rfl
  · rw [decide_eq_false h6]
    have hz : ∀ b c : Bool, (b && (c && (false && (!decide (n < s.size) || portB (s.toList.drop (n + 1)))))) = false := by simp
    rw [hz]
    repeat' (first | refine rg 0 (aq49 ?_) | refine rg 1 (aq51 ?_) | refine rg 2 (aq49 ?_) | refine gc ?_ | refine ct ?_ | refine cf ?_ | refine sc ?_ ?_ <;> intro hc | refine rq rfl (rt (rt .nil)) ?_)
    rfl
end Go.Proofs.YtpncekdhigappaaGreatDoor.Ro

/- Targets: what may be; what is said by %: walks. -/
namespace Go.Proofs.YtpncekdhigappaaGreatDoor.Pth
set_option linter.unusedVariables false
set_option linter.unusedSimpArgs false
open Go.RowKit Mem Sim Opn Str
theorem tl_drop (s : ByteArray) {k : Nat} (h : k < s.size) : s.toList.drop k = s[k] :: s.toList.drop (k + 1) := by
  have hl : k < s.toList.length := by rw [toList_len]; exact h
  rw [List.drop_eq_getElem_cons hl]
  have h1 := toList_get s k h
  rw [List.getElem?_eq_getElem hl] at h1
  injection h1 with h1; rw [h1]
theorem head_at (s : ByteArray) (h : 0 < s.size) : s.toList.head? = some s[0] := by
  have := tl_drop s h
  rw [List.drop_zero] at this
  rw [this]; rfl
theorem pct_at (s : ByteArray) {k : Nat} : pctB (s.toList.drop (k + 1)) = (if h : k + 2 < s.size then decide (0 ≤ dig s[k + 1]) && decide (0 ≤ dig s[k + 2]) else false) := by
  have hl := toList_len s
  by_cases h : k + 2 < s.size
  · rw [dif_pos h, tl_drop s (by omega : k + 1 < s.size), tl_drop s h]; rfl
  · rw [dif_neg h]
    have : (s.toList.drop (k + 1)).length ≤ 1 := by rw [List.length_drop]; omega
    match hq : s.toList.drop (k + 1), this with
    | [], _ => rfl
    | [a], _ => rfl
set_option maxRecDepth 100000 in
set_option maxHeartbeats 1000000 in
theorem may_ (s : ByteArray) (hs : s.size ≤ 100000) : PCalls Tryz.prog 105 [.v (.string s)] (.v (.bool (mayL s.toList))) := by
  have hsz : s.toList.length = s.size := toList_len s
  refine pcalls_of Tryz.func105 rfl rfl Tryz.ntmps105 rfl ?_
  have hng : (s.size < 1 ∨ 512 < s.size ∨ s.toList.head? ≠ some 47) → mayL s.toList = false := by
    intro h
    unfold mayL
    rcases h with h | h | h
    · have : s.toList = [] := List.eq_nil_of_length_eq_zero (by omega)
      rw [this]; rfl
    · rw [decide_eq_false (by omega)]; rfl
    · rw [decide_eq_false h]; simp
  by_cases h1 : s.size < 1
  · rw [hng (.inl h1)]
    repeat' (first | refine rg 0 (aq0 ?_) | refine rg 1 (aq102 ?_) | refine rg 2 (aq0 ?_) | refine gc ?_ | refine ct ?_ | refine cf ?_ | refine sc ?_ ?_ <;> intro hc | refine rq rfl (rt .nil) ?_)
    rfl
  by_cases h2 : 512 < s.size
  · rw [hng (.inr (.inl h2))]
    repeat' (first | refine rg 0 (aq0 ?_) | refine rg 1 (aq104 ?_) | refine rg 2 (aq0 ?_) | refine gc ?_ | refine ct ?_ | refine cf ?_ | refine sc ?_ ?_ <;> intro hc | refine rq rfl (rt .nil) ?_)
    rfl
  have h0 : 0 < s.size := by omega
  have hhd := head_at s h0
  by_cases h3 : s[0].toNat = 47
  · have hm : mayL s.toList = okL s.toList := by
      unfold mayL
      rw [decide_eq_true (by omega : s.toList.length ≤ 512), hhd, decide_eq_true (by rw [show s[0] = 47 from UInt8.toNat_inj.1 h3])]; rfl
    rw [hm]
    have h3' : (!decide (((s[0].toNat : Nat) : Int) = 47)) = false := by rw [h3]; rfl
    repeat' (first | refine rg 0 (aq0 ?_) | refine rg 1 (aq103 ?_) | refine rg 3 (aq0 ?_) | refine gc ?_ | refine ct ?_ | refine cf ?_ | refine sc ?_ ?_ <;> intro hc | refine rq rfl (rt .nil) ?_)
    refine swp_for (fun k => ⟨[(0, .t (.v (.string s))), (3, .t (.v (.int .i64 (k : Int))))], [], []⟩) (fun k => okL s.toList = okL (s.toList.drop k)) s.size (weak_sub (.cons rfl rfl rfl (.cons rfl rfl rfl .nil)) .nil .nil) rfl ?_
    intro k hk hI
    by_cases hlt : k < s.size
    · have e1 := tl_drop s hlt
      have e2 : okL (s.toList.drop k) = (!badC s[k] && (!decide (s[k] = 37) || pctB (s.toList.drop (k + 1))) && okL (s.toList.drop (k + 1))) := by rw [e1]; rfl
      rw [e2, pct_at] at hI
      have hc := indexByte_ (bs [34, 35, 60, 62, 92, 94, 96, 123, 124, 125]) s[k]
      have hi : decide (0 ≤ Lib.indexByte (bs [34, 35, 60, 62, 92, 94, 96, 123, 124, 125]).data.toList s[k]) = ([34, 35, 60, 62, 92, 94, 96, 123, 124, 125] : List UInt8).any (· == s[k]) := idx_any _ _
      by_cases hb : badC s[k] = true
      · rw [hb] at hI
        rw [show okL s.toList = false from hI]
        unfold badC at hb
        rw [← hi] at hb
        generalize Lib.indexByte (bs [34, 35, 60, 62, 92, 94, 96, 123, 124, 125]).data.toList s[k] = z at *
        have hb' : s[k].toNat < 33 ∨ 126 < s[k].toNat ∨ 0 ≤ z := by simpa [or_assoc] using hb
        by_cases hz1 : s[k].toNat < 33
        · repeat' (first | refine rg 4 (aq24 ?_) | refine rg 6 (aq25 ?_) | (refine rg 7 ?_; refine oMv ?_; refine oCm ?_; refine oMv ?_; (first | refine oMv ?_ | refine oK ?_) <;> (first | refine oCm ?_ | refine oK ?_) <;> refine oPt ?_ <;> refine oMv ?_ <;> (first | refine oMv ?_ | refine oK ?_) <;> refine oK ?_ <;> (first | refine oCm ?_ | refine oK ?_) <;> refine oPt ?_ <;> refine oN ?_) | refine rg 8 (aq0 ?_) | refine gc ?_ | refine ct ?_ | refine cf ?_ | refine sc ?_ ?_ <;> intro hc | refine rq rfl (rt .nil) ?_)
          rfl
        by_cases hz2 : 126 < s[k].toNat
        · repeat' (first | refine rg 4 (aq24 ?_) | refine rg 6 (aq25 ?_) | (refine rg 7 ?_; refine oMv ?_; refine oCm ?_; refine oMv ?_; refine oMv ?_ <;> refine oCm ?_ <;> (first | refine oPt ?_ | refine oPf ?_) <;> refine oMv ?_ <;> (first | refine oMv ?_ | refine oK ?_) <;> refine oK ?_ <;> (first | refine oCm ?_ | refine oK ?_) <;> refine oPt ?_ <;> refine oN ?_) | refine rg 8 (aq0 ?_) | refine gc ?_ | refine ct ?_ | refine cf ?_ | refine sc ?_ ?_ <;> intro hc | refine rq rfl (rt .nil) ?_)
          rfl
        · have hz3 : 0 ≤ z := by omega
          repeat' (first | refine rg 4 (aq24 ?_) | refine rg 6 (aq25 ?_) | (refine rg 7 (aq106 ?_) <;> refine oC (hc) rfl (ac (ac .nil)) ?_ <;> refine aq107 ?_) | refine rg 8 (aq0 ?_) | refine gc ?_ | refine ct ?_ | refine cf ?_ | refine sc ?_ ?_ <;> intro hc | refine rq rfl (rt .nil) ?_)
          rfl
      · have hb' : ¬ (s[k].toNat < 33) ∧ ¬ (126 < s[k].toNat) ∧ ¬ (0 ≤ Lib.indexByte (bs [34, 35, 60, 62, 92, 94, 96, 123, 124, 125]).data.toList s[k]) := by
          unfold badC at hb
          rw [← hi] at hb
          simpa [not_or, and_assoc] using hb
        have hbf : badC s[k] = false := by simpa using hb
        rw [hbf] at hI
        generalize Lib.indexByte (bs [34, 35, 60, 62, 92, 94, 96, 123, 124, 125]).data.toList s[k] = z at *
        obtain ⟨hz1, hz2, hz3⟩ := hb'
        by_cases hp : s[k].toNat = 37
        · have hp' : s[k] = 37 := UInt8.toNat_inj.1 hp
          rw [decide_eq_true hp'] at hI
          by_cases h5 : k + 2 < s.size
          · rw [dif_pos h5] at hI
            have ca := digit_ s[k + 1]
            have cb := digit_ s[k + 2]
            generalize dig s[k + 1] = da at *
            generalize dig s[k + 2] = db at *
            by_cases h6 : 0 ≤ da
            · by_cases h7 : 0 ≤ db
              · rw [decide_eq_true h6, decide_eq_true h7] at hI
                repeat' (first | refine for_next hlt (weak_sub (.cons rfl rfl rfl (.cons rfl rfl rfl .nil)) .nil .nil) (by simpa using hI) | refine rg 4 (aq24 ?_) | refine rg 6 (aq25 ?_) | (refine rg 7 (aq106 ?_) <;> refine oC (hc) rfl (ac (ac .nil)) ?_ <;> refine aq107 ?_) | (refine rg 9 (aq108 ?_) <;> (first | refine oC (hc) rfl (ac .nil) ?_ | refine oC (ca) rfl (ac .nil) ?_) <;> refine aq109 ?_ <;> (first | refine oC (hc) rfl (ac .nil) ?_ | refine oC (ca) rfl (ac .nil) ?_ | refine oC (cb) rfl (ac .nil) ?_) <;> refine aq110 ?_) | refine rg 5 (aq3 ?_) | refine gc ?_ | refine ct ?_ | refine cf ?_)
              · rw [decide_eq_true h6, decide_eq_false h7] at hI
                rw [show okL s.toList = false from by simpa using hI]
                repeat' (first | refine rg 4 (aq24 ?_) | refine rg 6 (aq25 ?_) | (refine rg 7 (aq106 ?_) <;> refine oC (hc) rfl (ac (ac .nil)) ?_ <;> refine aq107 ?_) | (refine rg 9 (aq108 ?_) <;> (first | refine oC (hc) rfl (ac .nil) ?_ | refine oC (ca) rfl (ac .nil) ?_) <;> refine aq109 ?_ <;> (first | refine oC (hc) rfl (ac .nil) ?_ | refine oC (ca) rfl (ac .nil) ?_ | refine oC (cb) rfl (ac .nil) ?_) <;> refine aq110 ?_) | refine rg 10 (aq0 ?_) | refine gc ?_ | refine ct ?_ | refine cf ?_ | refine sc ?_ ?_ <;> intro hc | refine rq rfl (rt .nil) ?_)
                rfl
            · rw [decide_eq_false h6] at hI
              rw [show okL s.toList = false from by simpa using hI]
              repeat' (first | refine rg 4 (aq24 ?_) | refine rg 6 (aq25 ?_) | (refine rg 7 (aq106 ?_) <;> refine oC (hc) rfl (ac (ac .nil)) ?_ <;> refine aq107 ?_) | (refine rg 9 (aq108 ?_) <;> (first | refine oC (hc) rfl (ac .nil) ?_ | refine oC (ca) rfl (ac .nil) ?_) <;> refine aq111 ?_ <;> (first | refine oC (hc) rfl (ac .nil) ?_ | refine oC (ca) rfl (ac .nil) ?_ | refine oK ?_) <;> refine aq112 ?_) | refine rg 10 (aq0 ?_) | refine gc ?_ | refine ct ?_ | refine cf ?_ | refine sc ?_ ?_ <;> intro hc | refine rq rfl (rt .nil) ?_)
              rfl
          · rw [dif_neg h5] at hI
            rw [show okL s.toList = false from by simpa using hI]
            repeat' (first | refine rg 4 (aq24 ?_) | refine rg 6 (aq25 ?_) | (refine rg 7 (aq106 ?_) <;> refine oC (hc) rfl (ac (ac .nil)) ?_ <;> refine aq107 ?_) | (refine rg 9 ?_; refine oMv ?_; refine oCm ?_; refine oMv ?_; refine oMv ?_; (first | refine sp (xinc rfl) ?_ | refine sp (xadd rfl) ?_); refine oMv ?_; refine sp (po_len_str rfl rfl (tyR rfl)) ?_; refine oCm ?_; refine oMv ?_; (first | refine oMv ?_ | refine oK ?_); (first | refine oMv ?_ | refine oK ?_); (first | refine sp (xinc rfl) ?_ | refine sp (xadd rfl) ?_ | refine oK ?_); (first | refine sp (xist rfl) ?_ | refine oK ?_) <;> (first | refine oC (hc) rfl (ac .nil) ?_ | refine oK ?_) <;> (first | refine oCm ?_ | refine oK ?_) <;> refine oPt ?_ <;> refine oMv ?_ <;> (first | refine oMv ?_ | refine oK ?_) <;> (first | refine oMv ?_ | refine oK ?_) <;> (first | refine sp (xinc rfl) ?_ | refine sp (xadd rfl) ?_ | refine oK ?_) <;> (first | refine sp (xist rfl) ?_ | refine oK ?_) <;> (first | refine oC (hc) rfl (ac .nil) ?_ | refine oK ?_) <;> refine aq112 ?_) | refine rg 10 (aq0 ?_) | refine gc ?_ | refine ct ?_ | refine cf ?_ | refine sc ?_ ?_ <;> intro hc | refine rq rfl (rt .nil) ?_)
            rfl
        · have hp' : s[k] ≠ 37 := fun e => hp (by rw [e]; rfl)
          rw [decide_eq_false hp'] at hI
          repeat' (first | refine for_next hlt (weak_sub (.cons rfl rfl rfl (.cons rfl rfl rfl .nil)) .nil .nil) (by simpa using hI) | refine rg 4 (aq24 ?_) | refine rg 6 (aq25 ?_) | (refine rg 7 (aq106 ?_) <;> refine oC (hc) rfl (ac (ac .nil)) ?_ <;> refine aq107 ?_) | (refine rg 9 ?_; refine oMv ?_; refine oCm ?_; refine oMv ?_; (first | refine oMv ?_ | refine oK ?_) <;> (first | refine sp (xinc rfl) ?_ | refine sp (xadd rfl) ?_ | refine oK ?_) <;> (first | refine oMv ?_ | refine oK ?_) <;> (first | refine sp (po_len_str rfl rfl (tyR rfl)) ?_ | refine oK ?_) <;> (first | refine oCm ?_ | refine oK ?_) <;> (first | refine oMv ?_ | refine oK ?_) <;> (first | refine oMv ?_ | refine oK ?_) <;> (first | refine oMv ?_ | refine oK ?_) <;> (first | refine sp (xinc rfl) ?_ | refine sp (xadd rfl) ?_ | refine oK ?_) <;> (first | refine sp (xist rfl) ?_ | refine oK ?_) <;> (first | refine oC (hc) rfl (ac .nil) ?_ | refine oK ?_) <;> (first | refine oCm ?_ | refine oK ?_) <;> (first | refine oPt ?_ | refine oPf ?_ | refine oK ?_) <;> (first | refine oMv ?_ | refine oK ?_) <;> (first | refine oMv ?_ | refine oK ?_) <;> (first | refine oMv ?_ | refine oK ?_) <;> (first | refine sp (xinc rfl) ?_ | refine sp (xadd rfl) ?_ | refine oK ?_) <;> (first | refine sp (xist rfl) ?_ | refine oK ?_) <;> (first | refine oC (hc) rfl (ac .nil) ?_ | refine oK ?_) <;> (first | refine oCm ?_ | refine oK ?_) <;> (first | refine oPt ?_ | refine oPf ?_ | refine oK ?_) <;> (first | refine oPt ?_ | refine oPf ?_) <;> refine oN ?_) | refine rg 5 (aq3 ?_) | refine gc ?_ | refine ct ?_ | refine cf ?_)
    · obtain rfl : k = s.size := by omega
      have e1 : s.toList.drop s.size = [] := List.drop_eq_nil_of_le (by omega)
      rw [e1] at hI
      rw [hI]
      repeat' (first | refine rg 4 (aq24 ?_) | refine rg 11 (aq0 ?_) | refine gc ?_ | refine ct ?_ | refine cf ?_ | refine sc ?_ ?_ <;> intro hc | refine rq rfl (rt .nil) ?_)
      rfl
  · rw [hng (.inr (.inr (by rw [hhd]; intro e; injection e with e; rw [e] at h3; exact h3 rfl)))]
    have h3' : (!decide (((s[0].toNat : Nat) : Int) = 47)) = true := by rw [decide_eq_false (by omega)]; rfl
    repeat' (first | refine rg 0 (aq0 ?_) | refine rg 1 (aq103 ?_) | refine rg 2 (aq0 ?_) | refine gc ?_ | refine ct ?_ | refine cf ?_ | refine sc ?_ ?_ <;> intro hc | refine rq rfl (rt .nil) ?_)
    rfl
end Go.Proofs.YtpncekdhigappaaGreatDoor.Pth

/- Targets: what is said by %: walk. -/
namespace Go.Proofs.YtpncekdhigappaaGreatDoor.Pth
set_option linter.unusedVariables false
set_option linter.unusedSimpArgs false
open Go.RowKit Mem Sim Opn Str Hd
theorem okL_tail {c : UInt8} {l : L8} (h : okL (c :: l) = true) : okL l = true := by
  have : okL (c :: l) = (!badC c && (!decide (c = 37) || pctB l) && okL l) := rfl
  rw [this, Bool.and_eq_true] at h; exact h.2
theorem okL_pct {l : L8} (h : okL (37 :: l) = true) : pctB l = true := by
  have : okL (37 :: l) = (!badC 37 && (!decide ((37 : UInt8) = 37) || pctB l) && okL l) := rfl
  rw [this, Bool.and_eq_true, Bool.and_eq_true] at h
  simpa using h.1.2
theorem num2_nat {a b : UInt8} (ha : 0 ≤ dig a) (hb : 0 ≤ dig b) : ((num2 a b).toNat : Int) = 16 * dig a + dig b := by
  have h1 := dig_rng a
  have h2 := dig_rng b
  unfold num2
  generalize dig a = x at *
  generalize dig b = y at *
  obtain ⟨n, hn⟩ := Int.eq_ofNat_of_zero_le (by omega : 0 ≤ 16 * x + y)
  rw [hn]
  have : n < 256 := by omega
  simp [Nat.mod_eq_of_lt this]
theorem hex_at : ∀ n : Nat, (h : n < 16) → ((⟨#[48, 49, 50, 51, 52, 53, 54, 55, 56, 57, 65, 66, 67, 68, 69, 70]⟩ : ByteArray)[n]'h).toNat = (hexU (n : Int)).toNat := by
  intro n h
  have key : ∀ m : Fin 16, ((⟨#[48, 49, 50, 51, 52, 53, 54, 55, 56, 57, 65, 66, 67, 68, 69, 70]⟩ : ByteArray)[m.1]'m.2).toNat = (hexU (m.1 : Int)).toNat := by decide
  exact key ⟨n, h⟩
theorem saidL_c {bad : UInt8 → Bool} {c : UInt8} {l : L8} (h : c ≠ 37) : saidL bad (c :: l) = (c :: (saidL bad l).1, (saidL bad l).2) := by
  match l with
  | a :: b :: l' => rw [saidL, if_neg h]
  | [] => simp [saidL, h]
  | [x] => rw [saidL, if_neg h]; intro a b l' e; cases e
theorem saidL_bad {bad : UInt8 → Bool} {a b : UInt8} {l : L8} (h : bad (num2 a b) = true) : saidL bad (37 :: a :: b :: l) = ([], false) := by
  rw [saidL, if_pos rfl]; simp [h]
theorem saidL_plain {bad : UInt8 → Bool} {a b : UInt8} {l : L8} (h : bad (num2 a b) = false) (hp : plainB (num2 a b) = true) : saidL bad (37 :: a :: b :: l) = (num2 a b :: (saidL bad l).1, (saidL bad l).2) := by
  rw [saidL, if_pos rfl]; simp [h, hp]
theorem saidL_hex {bad : UInt8 → Bool} {a b : UInt8} {l : L8} (h : bad (num2 a b) = false) (hp : plainB (num2 a b) = false) : saidL bad (37 :: a :: b :: l) = (37 :: hexU (dig a) :: hexU (dig b) :: (saidL bad l).1, (saidL bad l).2) := by
  rw [saidL, if_pos rfl]; simp [h, hp]
def SSd (s : ByteArray) (fb : FuncId) (x : L8 × Nat) : St := ⟨[(0, .t (.v (.string s))), (1, .t (.clo fb [])), (6, .own 106 (x.1.map byteT).length), (7, .t (.v (.bool true))), (8, .t (.v (.int .i64 (x.2 : Int))))], [], [(106, ⟨5, 1, x.1.map byteT⟩)]⟩
set_option maxRecDepth 100000 in
set_option maxHeartbeats 2000000 in
theorem said_ (bad : UInt8 → Bool) (fb : FuncId) (hb : ∀ c : UInt8, PCalls Tryz.prog fb [.v (.int .u8 (c.toNat : Int))] (.v (.bool (bad c)))) (s : ByteArray) (hs : s.size ≤ 100000) (hok : okL s.toList = true) :
    PCalls Tryz.prog 106 [.v (.string s), .clo fb []] (.tup [.v (.string (bs (saidL bad s.toList).1)), .v (.bool (saidL bad s.toList).2)]) := by
  have hsz : s.toList.length = s.size := toList_len s
  refine pcalls_of Tryz.func106 rfl rfl Tryz.ntmps106 rfl ?_
  repeat' (first | refine then_go ?_ | refine swp_seq ?_ | refine swp_scope ?_ | refine swp_label ?_ | refine nog_r ?_ | refine rg 0 (aq49 ?_) | refine rg 1 (aq0 ?_) | refine rg 2 (aq0 ?_) | refine rg 3 (aq0 ?_) | refine swp_ret ?_ | refine swp_skip ?_ | refine swp_block ?_ | refine swp_exit ?_ | refine block_go ?_ | refine block_exit ?_ | refine block_far rfl ?_ | refine block_ret ?_ | refine then_ret ?_ | refine then_exit ?_ | refine for_ret ?_ | refine for_exit ?_ | refine ct ?_ | refine cf ?_ | refine sc ?_ ?_ <;> intro hc | refine rq rfl (rt (rt .nil)) ?_)
  refine swp_fam (SSd s fb) (fun x => x.2 ≤ s.size ∧ x.1.length ≤ x.2 ∧ okL (s.toList.drop x.2) = true ∧ saidL bad s.toList = (x.1 ++ (saidL bad (s.toList.drop x.2)).1, (saidL bad (s.toList.drop x.2)).2)) (fun x => s.size - x.2) ([], 0) ?_ ⟨by simp, by simp, hok, rfl⟩ ?_
  · refine Weak.trans (weak_own0 (i := 106) 5 1 (s := 6) rfl rfl) ?_
    exact (weak_sub (.cons rfl rfl rfl (.cons rfl rfl rfl (.cons rfl rfl rfl (.cons rfl rfl rfl (.cons rfl rfl rfl .nil))))) .nil (.cons rfl rfl .nil))
  rintro ⟨out, k⟩ ⟨h1, h2, h3, h4⟩
  unfold SSd
  dsimp only at h1 h2 h3 h4 ⊢
  have hm : (out.map byteT).length = out.length := List.length_map _
  have hb1 : ((out.map byteT).length + 1) * 64 ≤ 140737488355328 := by omega
  have hb2 : (out.map byteT).length + 1 ≤ maxLen := by unfold maxLen; omega
  have hb3 : ((out.map byteT).length + 3) * 64 ≤ 140737488355328 := by omega
  have hb4 : (out.map byteT).length + 3 ≤ maxLen := by unfold maxLen; omega
  by_cases hlt : k < s.size
  · have e1 := tl_drop s hlt
    by_cases hp : s[k].toNat = 37
    · have hp' : s[k] = 37 := UInt8.toNat_inj.1 hp
      rw [e1, hp'] at h3 h4
      have hpc := okL_pct h3
      rw [pct_at] at hpc
      by_cases h5 : k + 2 < s.size
      · rw [dif_pos h5] at hpc
        rw [tl_drop s (by omega : k + 1 < s.size), tl_drop s h5] at h3 h4
        have h6 := okL_tail (okL_tail (okL_tail h3))
        have ca := digit_ s[k + 1]
        have cb := digit_ s[k + 2]
        have cc := hb (num2 s[k + 1] s[k + 2])
        have cp := plain_ (num2 s[k + 1] s[k + 2])
        rw [Bool.and_eq_true, decide_eq_true_eq, decide_eq_true_eq] at hpc
        have hn := num2_nat hpc.1 hpc.2
        have r1 := dig_rng s[k + 1]
        have r2 := dig_rng s[k + 2]
        have hu : (num2 s[k + 1] s[k + 2]).toNat < 256 := UInt8.toNat_lt _
        have h8 : IntKind.u8.wrap (16 * dig s[k + 1] + dig s[k + 2]) = ((num2 s[k + 1] s[k + 2]).toNat : Int) := by rw [← hn]; exact wrap_u8 (by omega)
        cases hbad : bad (num2 s[k + 1] s[k + 2]) with
        | true =>
          rw [saidL_bad hbad] at h4
          rw [h4, List.append_nil]
          rw [hbad] at cc
          repeat' (first | refine gc ?_ | refine fam_ret ?_ | refine fam_exit ?_ | refine nog_r ?_ | refine rg 4 (aq24 ?_) | refine rg 6 (aq25 ?_) | refine rg 7 (aq22 ?_) | (refine aq113 ?_; refine dC (ca) rfl (ac .nil) ?_; refine aq114 ?_; (first | refine dC (ca) rfl (ac .nil) ?_ | refine dC (cb) rfl (ac .nil) ?_); refine aq115 ?_) | (refine rg 10 ?_; refine oMv ?_; refine sp (po_arith rfl rfl rfl (ar_mul (by first | rfl | (refine wrap_i64 ?_; omega)) rfl)) ?_; refine aq80 ?_; refine sp (po_conv_int rfl rfl (tyK rfl) (tyK rfl) h8) ?_; refine aq0 ?_) | refine rg 11 (aq56 ?_) | (refine rg 13 (aq16 ?_); refine sp (po_call_clo rfl rfl (ac .nil) (cc)) ?_; refine aq0 ?_) | refine rg 14 (aq0 ?_) | (refine rg 17 ?_; refine oMv ?_; (first | refine sp (po_conv_int rfl rfl (tyK rfl) (tyK rfl) h8) ?_ | refine sp (po_bytes_str rfl rfl (by first | exact .t _ | exact .own rfl (by rfl)) byt23 (tyR rfl)) ?_); refine aq52 ?_) | refine ct ?_ | refine cf ?_ | refine sc ?_ ?_ <;> intro hc | refine rq rfl (rt (rt .nil)) ?_)
          rfl
        | false =>
          rw [hbad] at cc
          cases hpl : plainB (num2 s[k + 1] s[k + 2]) with
          | true =>
            rw [saidL_plain hbad hpl] at h4
            rw [hpl] at cp
            have hrow : (out ++ [num2 s[k + 1] s[k + 2]]).map byteT = out.map byteT ++ [[T.v (.int .u8 ((num2 s[k + 1] s[k + 2]).toNat : Int))]] := by rw [List.map_append]; rfl
            repeat' (first | refine fam_next (out ++ [num2 s[k + 1] s[k + 2]], k + 3) (by simp only; omega) (weak_sub (.cons rfl (by rfl) rfl (.cons rfl (by rfl) rfl (.cons rfl (by first | rfl | ((rw [hrow]); try rfl)) rfl (.cons rfl (by rfl) rfl (.cons rfl (by rfl) rfl .nil))))) .nil (.cons rfl (by first | rfl | ((rw [hrow]); try rfl)) .nil)) ⟨by simp only; omega, by simp; omega, h6, by rw [h4]; simp⟩ | refine rg 4 (aq24 ?_) | refine rg 6 (aq25 ?_) | refine rg 7 (aq22 ?_) | (refine aq113 ?_; refine dC (ca) rfl (ac .nil) ?_; refine aq114 ?_; (first | refine dC (ca) rfl (ac .nil) ?_ | refine dC (cb) rfl (ac .nil) ?_); refine aq115 ?_) | (refine rg 10 ?_; refine oMv ?_; refine sp (po_arith rfl rfl rfl (ar_mul (by first | rfl | (refine wrap_i64 ?_; omega)) rfl)) ?_; refine aq80 ?_; refine sp (po_conv_int rfl rfl (tyK rfl) (tyK rfl) h8) ?_; refine aq0 ?_) | refine rg 11 (aq56 ?_) | (refine rg 13 (aq16 ?_); refine sp (po_call_clo rfl rfl (ac .nil) (cc)) ?_; refine aq0 ?_) | (refine rg 15 ?_; refine oMv ?_; (first | refine oC (ca) rfl (ac .nil) ?_ | refine oC (cb) rfl (ac .nil) ?_ | refine oC (cp) rfl (ac .nil) ?_); refine aq0 ?_) | refine rg 16 (aq116 ?_) | refine rg 5 (aq56 ?_) | refine gc ?_ | refine ct ?_ | refine cf ?_)
          | false =>
            rw [saidL_hex hbad hpl] at h4
            rw [hpl] at cp
            obtain ⟨na, hna⟩ := Int.eq_ofNat_of_zero_le hpc.1
            obtain ⟨nb, hnb⟩ := Int.eq_ofNat_of_zero_le hpc.2
            rw [hna, hnb] at h4
            rw [hna] at ca r1 h8
            rw [hnb] at cb r2 h8
            have hna2 : na < (⟨#[48, 49, 50, 51, 52, 53, 54, 55, 56, 57, 65, 66, 67, 68, 69, 70]⟩ : ByteArray).size := by show na < 16; omega
            have hnb2 : nb < (⟨#[48, 49, 50, 51, 52, 53, 54, 55, 56, 57, 65, 66, 67, 68, 69, 70]⟩ : ByteArray).size := by show nb < 16; omega
            have hxa := hex_at na hna2
            have hxb := hex_at nb hnb2
            have hrow : (out ++ [37, hexU (na : Int), hexU (nb : Int)]).map byteT = out.map byteT ++ [[T.v (.int .u8 37)], [T.v (.int .u8 (((⟨#[48, 49, 50, 51, 52, 53, 54, 55, 56, 57, 65, 66, 67, 68, 69, 70]⟩ : ByteArray)[na].toNat : Nat) : Int))], [T.v (.int .u8 (((⟨#[48, 49, 50, 51, 52, 53, 54, 55, 56, 57, 65, 66, 67, 68, 69, 70]⟩ : ByteArray)[nb].toNat : Nat) : Int))]] := by rw [List.map_append, hxa, hxb]; rfl
            repeat' (first | refine fam_next (out ++ [37, hexU (na : Int), hexU (nb : Int)], k + 3) (by simp only; omega) (weak_sub (.cons rfl (by rfl) rfl (.cons rfl (by rfl) rfl (.cons rfl (by first | rfl | ((rw [hrow]); try rfl)) rfl (.cons rfl (by rfl) rfl (.cons rfl (by rfl) rfl .nil))))) .nil (.cons rfl (by first | rfl | ((rw [hrow]); try rfl)) .nil)) ⟨by simp only; omega, by simp; omega, h6, by rw [h4]; simp⟩ | refine rg 4 (aq24 ?_) | refine rg 6 (aq25 ?_) | refine rg 7 (aq22 ?_) | (refine aq113 ?_; refine dC (ca) rfl (ac .nil) ?_; refine aq114 ?_; (first | refine dC (ca) rfl (ac .nil) ?_ | refine dC (cb) rfl (ac .nil) ?_); refine aq115 ?_) | (refine rg 10 ?_; refine oMv ?_; refine sp (po_arith rfl rfl rfl (ar_mul (by first | rfl | (refine wrap_i64 ?_; omega)) rfl)) ?_; refine aq80 ?_; refine sp (po_conv_int rfl rfl (tyK rfl) (tyK rfl) h8) ?_; refine aq0 ?_) | refine rg 11 (aq56 ?_) | (refine rg 13 (aq16 ?_); refine sp (po_call_clo rfl rfl (ac .nil) (cc)) ?_; refine aq0 ?_) | (refine rg 15 ?_; refine oMv ?_; (first | refine oC (ca) rfl (ac .nil) ?_ | refine oC (cb) rfl (ac .nil) ?_ | refine oC (cp) rfl (ac .nil) ?_); refine aq0 ?_) | (refine swp_draw (id := 12) 6 mixed (by kernel_rfl) (by kernel_rfl) ?_; refine dMv ?_; refine dMv ?_; refine dp (xist rfl) ?_; refine dMv ?_; refine dp (xist rfl) ?_; refine dp (po_buildSlice rfl (tyE rfl) (dc (dc (dc (.nil _)))) rfl rfl rfl) ?_; refine dN ?_; refine sap rfl (tyE rfl) ?_; refine oAs ?_; refine oN ?_) | refine rg 5 (aq56 ?_) | refine gc ?_ | refine ct ?_ | refine cf ?_)
      · rw [dif_neg h5] at hpc; cases hpc
    · have hp' : s[k] ≠ 37 := fun e => hp (by rw [e]; rfl)
      rw [e1] at h3 h4
      rw [saidL_c hp'] at h4
      have hrow : (out ++ [s[k]]).map byteT = out.map byteT ++ [[T.v (.int .u8 (s[k].toNat : Int))]] := by rw [List.map_append]; rfl
      have h37 : (!decide (((s[k].toNat : Nat) : Int) = 37)) = true := by rw [decide_eq_false (by omega)]; rfl
      repeat' (first | refine fam_next (out ++ [s[k]], k + 1) (by simp only; omega) (weak_sub (.cons rfl (by rfl) rfl (.cons rfl (by rfl) rfl (.cons rfl (by first | rfl | ((rw [hrow]); try rfl)) rfl (.cons rfl (by rfl) rfl (.cons rfl (by rfl) rfl .nil))))) .nil (.cons rfl (by first | rfl | ((rw [hrow]); try rfl)) .nil)) ⟨by simp only; omega, by simp; omega, okL_tail h3, by rw [h4]; simp⟩ | refine rg 4 (aq24 ?_) | refine rg 6 (aq25 ?_) | refine rg 7 (aq22 ?_) | refine rg 8 (aq116 ?_) | refine rg 5 (aq3 ?_) | refine gc ?_ | refine ct ?_)
  · obtain rfl : k = s.size := by omega
    have e1 : s.toList.drop s.size = [] := List.drop_eq_nil_of_le (by omega)
    rw [e1] at h4
    rw [h4]
    repeat' (first | refine gc ?_ | refine fam_ret ?_ | refine fam_exit ?_ | refine nog_r ?_ | refine rg 4 (aq24 ?_) | (refine rg 17 ?_; refine oMv ?_; refine sp (po_bytes_str rfl rfl (by first | exact .t _ | exact .own rfl (by rfl)) byt23 (tyR rfl)) ?_; refine aq52 ?_) | refine ct ?_ | refine cf ?_ | refine sc ?_ ?_ <;> intro hc | refine rq rfl (rt (rt .nil)) ?_)
    show T.tup [T.v (.string (bs (out ++ []))), T.v (.bool true)] = _
    rw [List.append_nil]; rfl
end Go.Proofs.YtpncekdhigappaaGreatDoor.Pth
