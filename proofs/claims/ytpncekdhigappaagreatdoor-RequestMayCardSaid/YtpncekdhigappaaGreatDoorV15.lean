/- Merged by bundles.py: SimTrim2, SimHd5, SimHd2, SimHd6. -/
import Derived.Test.YtpncekdhigappaaGreatDoorV14
import Derived.Test.YtpncekdhigappaaGreatDoorV13
/- strings.Trim at blanks and tabs: a walk. -/
namespace Go.Proofs.YtpncekdhigappaaGreatDoor.Str
set_option linter.unusedVariables false
set_option linter.unusedSimpArgs false
open Go.RowKit Mem Sim
def ws : List UInt8 := [32, 9]
theorem bs_eq_nil (l : List UInt8) : decide (bs l = ⟨#[]⟩) = decide (l = []) := by
  by_cases h : l = []
  · subst h; rfl
  · have : ¬ bs l = ⟨#[]⟩ := fun e => h (by have := congrArg ByteArray.toList e; rw [bs_toList] at this; simpa using this)
    simp [h, this]
set_option maxRecDepth 100000 in
theorem trim_ (l : List UInt8) (hn : l.length ≤ maxLen) : PCalls Tryz.prog 170 [.v (.string (bs l)), .v (.string ⟨#[32, 9]⟩)] (.v (.string (bs (trimB ws l)))) := by
  have hM := makeASCIISet_ ws (by decide) (by decide)
  have hR := trimRight_ ws l hn
  have hL := trimLeft_ ws (rdrop (inB ws) l) (Nat.le_trans (rdrop_len _ _) hn)
  rw [drop_rdrop] at hL
  have e0 := bs_eq_nil l
  have e1 : decide ((⟨#[32, 9]⟩ : ByteArray) = ⟨#[]⟩) = false := by decide
  have e2 : decide (((⟨#[32, 9]⟩ : ByteArray).size : Int) = 1) = false := by decide
  refine pcalls_of Tryz.func170 rfl rfl Tryz.ntmps170 rfl ?_
  by_cases h : l = []
  · subst h
    repeat' (first | refine rg 0 (aq0 ?_) | (refine rg 1 ?_; refine oMv ?_; refine sp (po_str rfl rfl rfl rfl) ?_; refine oMv ?_; (first | refine oMv ?_ | refine oK ?_) <;> (first | refine sp (po_str rfl rfl rfl rfl) ?_ | refine oK ?_) <;> refine oPt ?_ <;> refine oN ?_) | refine rg 2 (aq4 ?_) | refine gc ?_ | refine ct ?_ | refine cf ?_ | refine sc ?_ ?_ <;> intro hc | refine rq rfl (rt .nil) ?_)
    rfl
  · rw [decide_eq_false h] at e0
    repeat' (first | refine rg 0 (aq0 ?_) | (refine rg 1 ?_; refine oMv ?_; refine sp (po_str rfl rfl rfl rfl) ?_; refine oMv ?_; refine oMv ?_ <;> refine sp (po_str rfl rfl rfl rfl) ?_ <;> (first | refine oPt ?_ | refine oPf ?_) <;> refine oN ?_) | (refine rg 3 ?_; refine oMv ?_; (first | refine sp (po_len_own rfl rfl (tyS rfl)) ?_ | refine sp (po_len_str rfl rfl (tyR rfl)) ?_); refine oCm ?_; refine oMv ?_; (first | refine oMv ?_ | refine oK ?_) <;> (first | refine sp (po_index_str (k := 0) rfl rfl rfl (tyR rfl) (by rfl) (by first | assumption | omega)) ?_ | refine oK ?_) <;> (first | refine oCm ?_ | refine oK ?_) <;> (first | refine oPt ?_ | refine oPf ?_) <;> refine oN ?_) | (refine rg 5 ?_; refine oMv ?_; (first | refine sops_lcall (hL) (fun _ => 5) (fun i => i) (fun _ => false) (.free rfl rfl) rfl rfl rfl (by first | ((repeat' (first | exact .nil | refine .cons rfl rfl rfl ?_ | refine .vw rfl (by exact .t _) ?_)) <;> fail) | fail) (.cons rfl rfl .nil) .nil rfl rfl (fun _ h => Bool.noConfusion h) ?_ | refine sops_lcall (hR) (fun _ => 5) (fun i => i) (fun _ => false) (.free rfl rfl) rfl rfl rfl (by first | ((repeat' (first | exact .nil | refine .cons rfl rfl rfl ?_ | refine .vw rfl (by exact .t _) ?_)) <;> fail) | fail) (.cons rfl rfl .nil) .nil rfl rfl (fun _ h => Bool.noConfusion h) ?_ | refine oC (hM) rfl (ac .nil) ?_); refine aq29 ?_; refine sops_alloc_256 zero203 (rep_cells _) rfl (.free rfl rfl) rfl rfl rfl rfl ?_; refine sops_store_arr (tyT rfl) (.free rfl rfl) rfl rfl rfl rfl rfl ?_; refine oAs ?_; refine oN ?_) | (refine rg 6 ?_; refine oMv ?_; refine oN ?_) | (refine rg 7 ?_; refine oMv ?_; (first | refine sops_lcall (hL) (fun _ => 5) (fun i => i) (fun _ => false) (.free rfl rfl) rfl rfl rfl (by first | ((repeat' (first | exact .nil | refine .cons rfl rfl rfl ?_ | refine .vw rfl (by exact .t _) ?_)) <;> fail) | fail) (.cons rfl rfl .nil) .nil rfl rfl (fun _ h => Bool.noConfusion h) ?_ | refine sops_lcall (hR) (fun _ => 5) (fun i => i) (fun _ => false) (.free rfl rfl) rfl rfl rfl (by ((repeat' (first | exact .nil | refine .cons rfl rfl rfl ?_)) <;> fail)) (.cons rfl rfl .nil) .nil rfl rfl (fun _ h => Bool.noConfusion h) ?_); (refine sops_lcall (hL) (fun _ => 5) (fun i => i) (fun _ => false) (.free rfl rfl) rfl rfl rfl (by ((repeat' (first | exact .nil | refine .cons rfl rfl rfl ?_)) <;> fail)) (.cons rfl rfl .nil) .nil rfl rfl (fun _ h => Bool.noConfusion h) ?_); refine aq0 ?_) | refine gc ?_ | refine ct ?_ | refine cf ?_ | refine sc ?_ ?_ <;> intro hc | refine rq rfl (rt .nil) ?_)
    rfl
end Go.Proofs.YtpncekdhigappaaGreatDoor.Str

/- Headers: names: walks. -/
namespace Go.Proofs.YtpncekdhigappaaGreatDoor.Hd
set_option linter.unusedVariables false
set_option linter.unusedSimpArgs false
open Go.RowKit Mem Sim Opn Str
def tokL : List UInt8 := [97, 98, 99, 100, 101, 102, 103, 104, 105, 106, 107, 108, 109, 110, 111, 112, 113, 114, 115, 116, 117, 118, 119, 120, 121, 122, 48, 49, 50, 51, 52, 53, 54, 55, 56, 57, 33, 35, 36, 37, 38, 39, 42, 43, 45, 46, 94, 95, 96, 124, 126]
theorem tok_ascii : ∀ b ∈ tokL, b.toNat < 128 := by decide
def cntF (cs : List UInt8) (i : Nat) : Value := .int .i64 (if (cs.any fun x => x.toNat == i) = true then 1 else 0)
theorem cntF_next (cs : List UInt8) {k : Nat} (h : k < cs.length) : arrA (fun j => if j = cs[k].toNat then .int .i64 1 else cntF (cs.take k) j) = arrA (cntF (cs.take (k + 1))) := by
  refine arrA_congr fun i _ => ?_
  show (if i = cs[k].toNat then Value.int .i64 1 else .int .i64 (if ((cs.take k).any fun x => x.toNat == i) = true then 1 else 0)) = .int .i64 (if ((cs.take (k + 1)).any fun x => x.toNat == i) = true then 1 else 0)
  rw [List.take_succ_eq_append_getElem h, List.any_append]
  by_cases hi : i = cs[k].toNat
  · rw [if_pos hi]; simp [hi]
  · rw [if_neg hi]; simp [Ne.symm hi]
theorem arr187 : arrI Tryz.prog 187 = some (256, 1) := by kernel_rfl
theorem zero187 : (Tryz.prog.info? 187).bind (·.zero) = some (.agg (Array.replicate 256 (.int .i64 0))) := by kernel_rfl
theorem tok_size : (bs tokL).size = 51 := by rw [bs_size]; rfl
set_option maxRecDepth 100000 in
theorem token_ : PCalls Tryz.prog 166 [] (.agg (arrT (cntF tokL))) := by
  have hlen : tokL.length = 51 := rfl
  have hsz := tok_size
  refine pcalls_of Tryz.func166 rfl rfl Tryz.ntmps166 rfl ?_
  repeat' (first | (refine rg 0 ?_; refine sops_alloc_256 zero187 (rep_cells _) rfl (.free rfl rfl) rfl rfl rfl rfl ?_; refine oN ?_) | (refine rg 1 ?_; refine sops_range 1000 (.free rfl rfl) rfl rfl rfl rfl (tyR rfl) rfl ?_; refine oN ?_) | refine gc ?_ | refine ct ?_ | refine cf ?_ | refine sc ?_ ?_ <;> intro hc | refine rq rfl (.cell rfl rfl (tyT rfl) (by first | exact vwl_arr0 _ | exact vwl_arr _ | exact vwl_spl _ _) rfl .nil) ?_)
  refine swp_for (fun k => ⟨[(0, .bp 0 0), (3, .bp 1000 0)], [(0, arrA (cntF (tokL.take k))), (1000, itC (bs tokL) k)], []⟩) (fun _ => True) 51 (weak_sub (.cons rfl rfl rfl (.cons rfl rfl rfl .nil)) (.cons rfl rfl rfl (.cons rfl rfl rfl .nil)) .nil) trivial ?_
  intro k hk _
  by_cases hlt : k < 51
  · have hlt' : k < (bs tokL).size := by omega
    have hl2 : k < tokL.length := by omega
    have hg := bs_getElem tokL hlt'
    have hnext := cntF_next tokL hl2
    have hlow := tok_ascii _ (List.getElem_mem hl2)
    rw [← hg] at hnext hlow
    have hdec := decode_ascii (bs tokL) k hlt' hlow
    have h256 := u8_lt ((bs tokL)[k])
    repeat' (first | refine for_next hlt (weak_sub (.cons rfl (by rfl) rfl (.cons rfl (by rfl) rfl .nil)) (.cons rfl (by first | rfl | (exact hnext)) rfl (.cons rfl (by rfl) rfl .nil)) .nil) trivial | refine rg 2 (aq30 ?_) | refine rg 3 (aq31 ?_) | (refine rg 4 ?_; refine oMv ?_; refine sp (po_index_arr rfl rfl rfl arr187 rfl h256) ?_; refine sops_store_at (tyT rfl) rfl h256 (.free rfl rfl) rfl rfl rfl rfl rfl rfl ?_; refine oN ?_) | refine gc ?_ | refine ct ?_)
  · obtain rfl : k = 51 := by omega
    repeat' (first | refine rg 2 (aq32 ?_) | (refine rg 5 ?_; refine sp (po_load_arr (tyT rfl) rfl rfl rfl) ?_; refine sops_store_arr (tyT rfl) (.free rfl rfl) rfl rfl rfl rfl rfl ?_; refine oN ?_) | refine gc ?_ | refine ct ?_ | refine cf ?_ | refine sc ?_ ?_ <;> intro hc | refine rq rfl (.cell rfl rfl (tyT rfl) (by first | exact vwl_arr0 _ | exact vwl_arr _ | exact vwl_spl _ _) rfl .nil) ?_)
    rfl
def mayName (s : ByteArray) : Bool := s.toList.all (inB tokL) && decide (1 ≤ s.size) && decide (s.size ≤ 64)
set_option maxRecDepth 100000 in
theorem mayName_ (s : ByteArray) (hs : s.size ≤ maxLen) : PCalls Tryz.prog 148 [.v (.string s)] (.v (.bool (mayName s))) := by
  unfold maxLen at hs
  refine pcalls_of Tryz.func148 rfl rfl Tryz.ntmps148 rfl ?_
  repeat' (first | refine rg 0 (aq0 ?_) | (refine rg 1 ?_; refine oC (token_) rfl .nil ?_; refine sops_alloc_256 zero187 (rep_cells _) rfl (.free rfl rfl) rfl rfl rfl rfl ?_; refine sops_store_arr (tyT rfl) (.free rfl rfl) rfl rfl rfl rfl rfl ?_; refine oN ?_) | refine rg 2 (aq0 ?_) | refine gc ?_ | refine ct ?_ | refine cf ?_ | refine sc ?_ ?_ <;> intro hc | refine rq rfl (rt .nil) ?_)
  refine swp_for (fun k => ⟨[(0, .t (.v (.string s))), (3, .bp 3 0), (4, .t (.v (.int .i64 (k : Int))))], [(3, arrA (cntF tokL))], []⟩) (fun k => (s.toList.take k).all (inB tokL) = true) s.size (weak_sub (.cons rfl rfl rfl (.cons rfl rfl rfl (.cons rfl rfl rfl .nil))) (.cons rfl rfl rfl .nil) .nil) rfl ?_
  intro k hk hI
  by_cases hlt : k < s.size
  · have h256 := u8_lt s[k]
    cases hb : inB tokL s[k] with
    | true =>
      have hb1 : decide ((if (tokL.any fun x => x.toNat == s[k].toNat) = true then (1 : Int) else 0) = 0) = false := by unfold inB at hb; rw [hb]; rfl
      repeat' (first | refine for_next hlt (weak_sub (.cons rfl rfl rfl (.cons rfl rfl rfl (.cons rfl rfl rfl .nil))) (.cons rfl rfl rfl .nil) .nil) (all_snoc hI hlt hb) | refine rg 3 (aq24 ?_) | (refine rg 5 (aq33 ?_); refine sp (po_index_arr rfl rfl rfl arr187 rfl h256) ?_; refine sp (po_load_at (tyT rfl) h256 rfl rfl rfl rfl) ?_; refine aq6 ?_) | refine rg 4 (aq3 ?_) | refine gc ?_ | refine ct ?_ | refine cf ?_)
    | false =>
      have hb1 : decide ((if (tokL.any fun x => x.toNat == s[k].toNat) = true then (1 : Int) else 0) = 0) = true := by unfold inB at hb; rw [hb]; rfl
      repeat' (first | refine rg 3 (aq24 ?_) | (refine rg 5 (aq33 ?_); refine sp (po_index_arr rfl rfl rfl arr187 rfl h256) ?_; refine sp (po_load_at (tyT rfl) h256 rfl rfl rfl rfl) ?_; refine aq6 ?_) | refine rg 6 (aq0 ?_) | refine gc ?_ | refine ct ?_ | refine cf ?_ | refine sc ?_ ?_ <;> intro hc | refine rq rfl (rt .nil) ?_)
      refine eq_b ?_
      unfold mayName
      rw [all_bad hlt hb]; rfl
  · obtain rfl : k = s.size := by omega
    rw [take_full s (Nat.lt_irrefl _)] at hI
    unfold mayName
    rw [hI]
    repeat' (first | refine rg 3 (aq24 ?_) | (refine rg 7 ?_; refine oMv ?_; refine sp (po_len_str rfl rfl (tyR rfl)) ?_; refine oCm ?_; refine oMv ?_; (first | refine oMv ?_ | refine oK ?_ | ((refine ssp (fun hc => ?_) (fun hc => ?_)) <;> first | refine oMv ?_ | refine oK ?_)) <;> (first | refine sp (po_len_str rfl rfl (tyR rfl)) ?_ | refine oK ?_) <;> (first | refine oCm ?_ | refine oK ?_) <;> (first | refine oPt ?_ | refine oPf ?_) <;> refine oAs ?_ <;> refine oN ?_) | refine gc ?_ | refine ct ?_ | refine cf ?_ | refine sc ?_ ?_ <;> intro hc | refine rq rfl (rt .nil) ?_)
    all_goals
      refine eq_b ?_
      rw [Bool.eq_iff_iff]
      simp at *; omega
def moreL : List UInt8 := [33, 35, 36, 37, 38, 39, 42, 43, 45, 46, 94, 95, 96, 124, 126]
def letN (c : Nat) : Bool := decide (97 ≤ c ∧ c ≤ 122) || decide (48 ≤ c ∧ c ≤ 57)
def moreN (c j : Nat) : Bool := (moreL.take j).any fun x => x.toNat == c
theorem tok_all : (List.range 256).all (fun c => (tokL.any fun x => x.toNat == c) == (letN c || moreN c 15)) = true := by kernel_rfl
theorem tok_eq (b : UInt8) : inB tokL b = (letN b.toNat || moreN b.toNat 15) := by
  have := (List.all_eq_true.1 tok_all) b.toNat (List.mem_range.2 (u8_lt b))
  exact eq_of_beq this
theorem moreN_next (c : Nat) {j : Nat} (h : j < 15) (x : UInt8) (hx : x = moreL[j]'h) : moreN c (j + 1) = (moreN c j || decide ((c : Int) = (x.toNat : Int))) := by
  have hl : j < moreL.length := h
  unfold moreN
  rw [List.take_succ_eq_append_getElem hl, List.any_append, hx]
  congr 1
  simp only [List.any_cons, List.any_nil, Bool.or_false]
  rw [Bool.eq_iff_iff]; simp only [beq_iff_eq, decide_eq_true_eq]; omega
theorem letN5 (c : Nat) : c < 48 ∨ (48 ≤ c ∧ c ≤ 57) ∨ (57 < c ∧ c < 97) ∨ (97 ≤ c ∧ c ≤ 122) ∨ 122 < c := by omega
set_option maxRecDepth 100000 in
set_option maxHeartbeats 4000000 in
theorem refMayName_ (s : ByteArray) (hs : s.size ≤ maxLen) : PCalls Tryz.prog 125 [.v (.string s)] (.v (.bool (mayName s))) := by
  unfold maxLen at hs
  refine pcalls_of Tryz.func125 rfl rfl Tryz.ntmps125 rfl ?_
  by_cases hz : 1 ≤ s.size ∧ s.size ≤ 64
  · repeat' (first | refine rg 0 (aq0 ?_) | (refine rg 1 ?_; refine oMv ?_; refine sp (po_len_str rfl rfl (tyR rfl)) ?_; refine oCm ?_; refine oMv ?_; refine oMv ?_ <;> refine sp (po_len_str rfl rfl (tyR rfl)) ?_ <;> refine oCm ?_ <;> (first | refine oPt ?_ | refine oPf ?_) <;> refine oN ?_) | refine rg 3 (aq0 ?_) | refine gc ?_ | refine ct ?_ | refine cf ?_ | refine sc ?_ ?_ <;> intro hc | refine rq rfl (rt .nil) ?_)
    refine swp_for (fun k => ⟨[(0, .t (.v (.string s))), (3, .t (.v (.int .i64 (k : Int))))], [], []⟩) (fun k => (s.toList.take k).all (inB tokL) = true) s.size (weak_sub (.cons rfl rfl rfl (.cons rfl rfl rfl .nil)) .nil .nil) rfl ?_
    intro k hk hI
    by_cases hlt : k < s.size
    · rcases letN5 s[k].toNat with h5 | h5 | h5 | h5 | h5
      all_goals
        repeat' (first | refine rg 4 (aq24 ?_) | (refine rg 6 ?_; refine oMv ?_; refine oMv ?_; refine sp (xist rfl) ?_; refine oCm ?_; refine oMv ?_; (first | refine oMv ?_ | refine oK ?_) <;> (first | refine oMv ?_ | refine oK ?_) <;> (first | refine sp (xist rfl) ?_ | refine oK ?_) <;> (first | refine oCm ?_ | refine oK ?_) <;> (first | refine oPt ?_ | refine oPf ?_) <;> refine oMv ?_ <;> (first | refine oMv ?_ | refine oK ?_) <;> (first | refine oMv ?_ | refine oK ?_) <;> (first | refine sp (xist rfl) ?_ | refine oK ?_) <;> (first | refine oCm ?_ | refine oK ?_) <;> (first | refine oMv ?_ | refine oK ?_) <;> (first | refine oMv ?_ | refine oK ?_) <;> (first | refine oMv ?_ | refine oK ?_) <;> (first | refine sp (xist rfl) ?_ | refine oK ?_) <;> (first | refine oCm ?_ | refine oK ?_) <;> (first | refine oPt ?_ | refine oPf ?_ | refine oK ?_) <;> (first | refine oPt ?_ | refine oPf ?_) <;> refine oAs ?_ <;> refine oN ?_) | refine rg 7 (aq0 ?_) | refine gc ?_ | refine ct ?_ | refine cf ?_ | refine sc ?_ ?_ <;> intro hc | refine rq rfl (rt .nil) ?_)
        refine swp_for (fun j => ⟨[(0, .t (.v (.string s))), (3, .t (.v (.int .i64 (k : Int)))), (4, .t (.v (.bool (letN s[k].toNat || moreN s[k].toNat j)))), (5, .t (.v (.int .i64 (j : Int))))], [], []⟩) (fun _ => True) 15 (weak_sub (.cons rfl (by first | rfl | (exact congrArg (fun b => A.t (T.v (Value.bool b))) (by rw [Bool.eq_iff_iff]; simp [letN, moreN]; try omega))) rfl (.cons rfl (by first | rfl | (exact congrArg (fun b => A.t (T.v (Value.bool b))) (by rw [Bool.eq_iff_iff]; simp [letN, moreN]; try omega))) rfl (.cons rfl (by first | rfl | (exact congrArg (fun b => A.t (T.v (Value.bool b))) (by rw [Bool.eq_iff_iff]; simp [letN, moreN]; try omega))) rfl (.cons rfl (by first | rfl | (exact congrArg (fun b => A.t (T.v (Value.bool b))) (by rw [Bool.eq_iff_iff]; simp [letN, moreN]; try omega))) rfl .nil)))) .nil .nil) trivial ?_
        intro j hj _
        by_cases hjl : j < 15
        · have hj' : j < (⟨#[33, 35, 36, 37, 38, 39, 42, 43, 45, 46, 94, 95, 96, 124, 126]⟩ : ByteArray).size := hjl
          have hn := moreN_next s[k].toNat hjl _ (bs_getElem moreL hj')
          cases hg : (letN s[k].toNat || moreN s[k].toNat j) with
          | true =>
            have hn2 : true = (letN s[k].toNat || moreN s[k].toNat (j + 1)) := by rw [hn, ← Bool.or_assoc, hg]; rfl
            repeat' (first | refine for_next hjl (weak_sub (.cons rfl (by rfl) rfl (.cons rfl (by rfl) rfl (.cons rfl (by first | rfl | (exact congrArg (fun b => A.t (T.v (Value.bool b))) hn2)) rfl (.cons rfl (by rfl) rfl .nil)))) .nil .nil) trivial | refine rg 8 (aq22 ?_) | (refine swp_draw (id := 10) 9 mixed (by kernel_rfl) (by kernel_rfl) ?_; refine dMv ?_; refine dMv ?_; (first | refine dMv ?_ | refine dK ?_) <;> (first | refine dMv ?_ | refine dK ?_) <;> (first | refine dp (xist rfl) ?_ | refine dK ?_) <;> (first | refine dMv ?_ | refine dK ?_) <;> (first | refine dp (xist rfl) ?_ | refine dK ?_) <;> (first | refine dCm ?_ | refine dK ?_) <;> refine dPt ?_ <;> refine dN ?_ <;> refine oAs ?_ <;> refine oN ?_) | refine rg 9 (aq3 ?_) | refine gc ?_ | refine ct ?_)
          | false =>
            have hn2 := congrArg (fun b => letN s[k].toNat || b) hn
            rw [← Bool.or_assoc, hg, Bool.false_or] at hn2
            replace hn2 := hn2.symm
            repeat' (first | refine for_next hjl (weak_sub (.cons rfl (by rfl) rfl (.cons rfl (by rfl) rfl (.cons rfl (by first | rfl | (exact congrArg (fun b => A.t (T.v (Value.bool b))) hn2)) rfl (.cons rfl (by rfl) rfl .nil)))) .nil .nil) trivial | refine rg 8 (aq22 ?_) | (refine swp_draw (id := 10) 9 mixed (by kernel_rfl) (by kernel_rfl) ?_; refine dMv ?_; refine dMv ?_; refine dMv ?_ <;> refine dMv ?_ <;> refine dp (xist rfl) ?_ <;> refine dMv ?_ <;> refine dp (xist rfl) ?_ <;> refine dCm ?_ <;> (first | refine dPt ?_ | refine dPf ?_) <;> refine dN ?_ <;> refine oAs ?_ <;> refine oN ?_) | refine rg 9 (aq3 ?_) | refine gc ?_ | refine ct ?_)
        · obtain rfl : j = 15 := by omega
          have htok := tok_eq s[k]
          cases hg : (letN s[k].toNat || moreN s[k].toNat 15) with
          | true =>
            rw [hg] at htok
            repeat' (first | refine for_next hlt (weak_sub (.cons rfl rfl rfl (.cons rfl rfl rfl .nil)) .nil .nil) (all_snoc hI hlt htok) | refine rg 8 (aq22 ?_) | refine rg 11 (aq34 ?_) | refine rg 5 (aq3 ?_) | refine gc ?_ | refine ct ?_ | refine cf ?_)
          | false =>
            rw [hg] at htok
            repeat' (first | refine rg 8 (aq22 ?_) | refine rg 11 (aq34 ?_) | refine rg 12 (aq0 ?_) | refine gc ?_ | refine ct ?_ | refine cf ?_ | refine sc ?_ ?_ <;> intro hc | refine rq rfl (rt .nil) ?_)
            refine eq_b ?_
            unfold mayName
            rw [all_bad hlt htok]; rfl
    · obtain rfl : k = s.size := by omega
      rw [take_full s (Nat.lt_irrefl _)] at hI
      repeat' (first | refine rg 4 (aq24 ?_) | refine rg 13 (aq0 ?_) | refine gc ?_ | refine ct ?_ | refine cf ?_ | refine sc ?_ ?_ <;> intro hc | refine rq rfl (rt .nil) ?_)
      refine eq_b ?_
      unfold mayName
      rw [hI]; simp; omega
  · by_cases h1 : 1 ≤ s.size
    all_goals
      repeat' (first | refine rg 0 (aq0 ?_) | (refine rg 1 ?_; refine oMv ?_; refine sp (po_len_str rfl rfl (tyR rfl)) ?_; refine oCm ?_; refine oMv ?_; (first | refine oMv ?_ | refine oK ?_) <;> (first | refine sp (po_len_str rfl rfl (tyR rfl)) ?_ | refine oK ?_) <;> (first | refine oCm ?_ | refine oK ?_) <;> (first | refine oPt ?_ | refine oPf ?_) <;> refine oN ?_) | refine rg 2 (aq0 ?_) | refine gc ?_ | refine ct ?_ | refine cf ?_ | refine sc ?_ ?_ <;> intro hc | refine rq rfl (rt .nil) ?_)
      refine eq_b ?_
      unfold mayName
      simp at *; omega
end Go.Proofs.YtpncekdhigappaaGreatDoor.Hd

/- Headers: MayValue, blank: walks. -/
namespace Go.Proofs.YtpncekdhigappaaGreatDoor.Hd
set_option linter.unusedVariables false
set_option linter.unusedSimpArgs false
open Go.RowKit Mem Sim Opn
def vcN (n i c : Nat) : Bool := decide (33 ≤ c ∧ c ≤ 126) || (decide (c = 32 ∨ c = 9) && decide (i ≠ 0 ∧ i + 1 ≠ n))
def vcs (s : ByteArray) (i : Nat) : Bool := if h : i < s.size then vcN s.size i (s[i]'h).toNat else true
def mayValue (s : ByteArray) : Bool := (List.range s.size).all (vcs s) && decide (s.size ≤ 512)
theorem vcs_at {s : ByteArray} {i : Nat} (hi : i < s.size) : vcs s i = vcN s.size i (s[i]'hi).toNat := dif_pos hi
theorem rng_more {f : Nat → Bool} {i : Nat} (h : (List.range i).all f = true) (hi : f i = true) : (List.range (i + 1)).all f = true := by
  rw [List.range_succ, List.all_append, h]; simp [hi]
theorem rng_no {f : Nat → Bool} {i n : Nat} (hi : i < n) (h : f i = false) : (List.range n).all f = false := by
  rw [List.all_eq_false]; exact ⟨i, by simpa using hi, by simp [h]⟩
def blankN (c : Nat) : Bool := decide (c = 32 ∨ c = 9)
set_option maxRecDepth 100000 in
theorem blank_ (c : Nat) : PCalls Tryz.prog 167 [.v (.int .u8 (c : Int))] (.v (.bool (blankN c))) := by
  unfold blankN
  refine pcalls_of Tryz.func167 rfl rfl Tryz.ntmps167 rfl ?_
  repeat' (first | refine rg 0 (aq0 ?_) | (refine rg 1 ?_; refine oMv ?_; refine oCm ?_; refine oMv ?_; (first | refine oMv ?_ | refine oK ?_ | ((refine ssp (fun hc => ?_) (fun hc => ?_)) <;> first | refine oMv ?_ | refine oK ?_)) <;> refine aq35 ?_) | refine gc ?_ | refine ct ?_ | refine cf ?_ | refine sc ?_ ?_ <;> intro hc | refine rq rfl (rt .nil) ?_)
  all_goals
    refine eq_b ?_
    rw [Bool.eq_iff_iff]
    simp at *; omega
set_option maxRecDepth 100000 in
set_option maxHeartbeats 1000000 in
theorem refMayValue_ (s : ByteArray) (hs : s.size ≤ maxLen) : PCalls Tryz.prog 126 [.v (.string s)] (.v (.bool (mayValue s))) := by
  unfold maxLen at hs
  refine pcalls_of Tryz.func126 rfl rfl Tryz.ntmps126 rfl ?_
  by_cases h512 : s.size ≤ 512
  · repeat' (first | refine rg 0 (aq0 ?_) | refine rg 1 (aq17 ?_) | refine rg 2 (aq22 ?_) | refine rg 4 (aq0 ?_) | refine gc ?_ | refine ct ?_ | refine cf ?_ | refine sc ?_ ?_ <;> intro hc | refine rq rfl (rt .nil) ?_)
    refine swp_for (fun k => ⟨[(0, .t (.v (.string s))), (3, .t (.v (.int .i64 (s.size : Int)))), (4, .t (.v (.int .i64 (k : Int))))], [], []⟩) (fun k => (List.range k).all (vcs s) = true) s.size (weak_sub (.cons rfl rfl rfl (.cons rfl rfl rfl (.cons rfl rfl rfl .nil))) .nil .nil) rfl ?_
    intro k hk hI
    by_cases hlt : k < s.size
    · have hv := vcs_at hlt
      repeat' (first | refine for_next hlt (weak_sub (.cons rfl rfl rfl (.cons rfl rfl rfl (.cons rfl rfl rfl .nil))) .nil .nil) ?_ | refine rg 5 (aq36 ?_) | (refine rg 7 ?_; refine oMv ?_; refine oMv ?_; refine sp (xist rfl) ?_; refine oCm ?_; refine oMv ?_; (first | refine oMv ?_ | refine oK ?_ | ((refine ssp (fun hc => ?_) (fun hc => ?_)) <;> first | refine oMv ?_ | refine oK ?_)) <;> refine aq37 ?_) | (refine rg 8 ?_; refine oMv ?_; refine oCm ?_; refine oMv ?_; (first | refine oMv ?_ | refine oK ?_ | ((refine ssp (fun hc => ?_) (fun hc => ?_)) <;> first | refine oMv ?_ | refine oK ?_)) <;> (first | refine oMv ?_ | refine oK ?_) <;> (first | refine sp (po_dec rfl rfl rfl (by omega)) ?_ | refine sp (po_arith rfl rfl rfl (ar_sub (by first | rfl | (refine wrap_i64 ?_; omega)) rfl)) ?_ | refine oK ?_) <;> (first | refine oCm ?_ | refine oK ?_) <;> (first | refine oPt ?_ | refine oPf ?_) <;> refine oN ?_) | refine rg 9 (aq0 ?_) | (refine rg 10 ?_; refine oMv ?_; refine oMv ?_; refine sp (xist rfl) ?_; refine oCm ?_; refine oMv ?_; (first | refine oMv ?_ | refine oK ?_ | ((refine ssp (fun hc => ?_) (fun hc => ?_)) <;> first | refine oMv ?_ | refine oK ?_)) <;> refine aq37 ?_) | refine rg 11 (aq0 ?_) | refine rg 6 (aq3 ?_) | refine gc ?_ | refine ct ?_ | refine cf ?_ | refine sc ?_ ?_ <;> intro hc | refine rq rfl (rt .nil) ?_)
      all_goals first
        | (refine eq_b ?_
           unfold mayValue
           rw [rng_no hlt]
           · rfl
           rw [hv, vcN]
           simp at *
           omega)
        | (refine rng_more hI ?_
           rw [hv, vcN]
           simp at *
           omega)
    · obtain rfl : k = s.size := by omega
      repeat' (first | refine rg 5 (aq36 ?_) | refine rg 12 (aq0 ?_) | refine gc ?_ | refine ct ?_ | refine cf ?_ | refine sc ?_ ?_ <;> intro hc | refine rq rfl (rt .nil) ?_)
      refine eq_b ?_
      unfold mayValue; rw [hI]; simp [h512]
  · repeat' (first | refine rg 0 (aq0 ?_) | refine rg 1 (aq17 ?_) | refine rg 2 (aq22 ?_) | refine rg 3 (aq0 ?_) | refine gc ?_ | refine ct ?_ | refine cf ?_ | refine sc ?_ ?_ <;> intro hc | refine rq rfl (rt .nil) ?_)
    refine eq_b ?_
    simp [mayValue, h512]
set_option maxRecDepth 100000 in
set_option maxHeartbeats 1000000 in
theorem mayValue_ (s : ByteArray) (hs : s.size ≤ maxLen) : PCalls Tryz.prog 149 [.v (.string s)] (.v (.bool (mayValue s))) := by
  unfold maxLen at hs
  refine pcalls_of Tryz.func149 rfl rfl Tryz.ntmps149 rfl ?_
  repeat' (first | refine rg 0 (aq0 ?_) | refine rg 1 (aq0 ?_) | refine gc ?_ | refine ct ?_ | refine cf ?_ | refine sc ?_ ?_ <;> intro hc | refine rq rfl (rt .nil) ?_)
  refine swp_for (fun k => ⟨[(0, .t (.v (.string s))), (3, .t (.v (.int .i64 (k : Int))))], [], []⟩) (fun k => (List.range k).all (vcs s) = true) s.size (weak_sub (.cons rfl rfl rfl (.cons rfl rfl rfl .nil)) .nil .nil) rfl ?_
  intro k hk hI
  by_cases hlt : k < s.size
  · have hv := vcs_at hlt
    have hbl := blank_ s[k].toNat
    cases hb : blankN s[k].toNat
    all_goals
      rw [hb] at hbl
      unfold blankN at hb
    all_goals
      by_cases h0 : k = 0
      all_goals
        by_cases h1 : k + 1 = s.size
        all_goals
          repeat' (first | refine for_next hlt (weak_sub (.cons rfl rfl rfl (.cons rfl rfl rfl .nil)) .nil .nil) ?_ | refine rg 2 (aq24 ?_) | (refine rg 4 ?_; refine oMv ?_; refine oCm ?_; refine oMv ?_; (first | refine oMv ?_ | refine oK ?_) <;> (first | refine sp (xinc rfl) ?_ | refine sp (xadd rfl) ?_ | refine oK ?_) <;> (first | refine oMv ?_ | refine oK ?_) <;> (first | refine sp (po_len_str rfl rfl (tyR rfl)) ?_ | refine oK ?_) <;> (first | refine oCm ?_ | refine oK ?_) <;> (first | refine oPt ?_ | refine oPf ?_) <;> refine oAs ?_ <;> refine oN ?_) | refine rg 5 (aq25 ?_) | (refine rg 6 ?_; refine oMv ?_; refine oCm ?_; refine oMv ?_; (first | refine oMv ?_ | refine oK ?_ | ((refine ssp (fun hc => ?_) (fun hc => ?_)) <;> first | refine oMv ?_ | refine oK ?_)) <;> refine aq38 ?_ <;> (first | refine oMv ?_ | refine oK ?_ | ((refine ssp (fun hc => ?_) (fun hc => ?_)) <;> first | refine oMv ?_ | refine oK ?_)) <;> (first | refine oC (hbl) rfl (ac .nil) ?_ | refine oK ?_) <;> (first | refine oMv ?_ | refine oK ?_) <;> (first | refine oMv ?_ | refine oK ?_) <;> (first | refine sp (po_not rfl rfl) ?_ | refine oK ?_) <;> (first | refine oPt ?_ | refine oPf ?_ | refine oK ?_) <;> (first | refine oPt ?_ | refine oPf ?_) <;> refine sp (po_not rfl rfl) ?_ <;> refine oN ?_) | refine rg 7 (aq0 ?_) | refine rg 3 (aq3 ?_) | refine gc ?_ | refine ct ?_ | refine cf ?_ | refine sc ?_ ?_ <;> intro hc | refine rq rfl (rt .nil) ?_)
    all_goals first
      | (refine eq_b ?_
         unfold mayValue
         rw [rng_no hlt]
         · rfl
         rw [hv, vcN]
         simp at *
         omega)
      | (refine rng_more hI ?_
         rw [hv, vcN]
         simp at *
         omega)
  · obtain rfl : k = s.size := by omega
    repeat' (first | refine rg 2 (aq24 ?_) | (refine rg 8 ?_; refine oMv ?_; refine sp (po_len_str rfl rfl (tyR rfl)) ?_; refine oCm ?_; refine oAs ?_; refine oN ?_) | refine gc ?_ | refine ct ?_ | refine cf ?_ | refine sc ?_ ?_ <;> intro hc | refine rq rfl (rt .nil) ?_)
    refine eq_b ?_
    unfold mayValue; rw [hI]; simp; omega
end Go.Proofs.YtpncekdhigappaaGreatDoor.Hd

/- Headers: may they be; a header's line: walks. -/
namespace Go.Proofs.YtpncekdhigappaaGreatDoor.Hd
set_option linter.unusedVariables false
set_option linter.unusedSimpArgs false
open Go.RowKit Mem Sim Opn Str
def good (h : Pl.Head) : Bool := mayName h.name && mayValue h.value
def mayL (l : List Pl.Head) : Bool := decide (l.length ≤ 24) && l.all good
set_option maxRecDepth 100000 in
theorem may_ (h : Pl.Head) (hh : okHead h) : PCalls Tryz.prog 116 [.agg (headT h)] (.v (.bool (good h))) := by
  have c1 := mayName_ h.name hh.1
  have c2 := mayValue_ h.value hh.2
  unfold good
  refine pcalls_of Tryz.func116 rfl rfl Tryz.ntmps116 rfl ?_
  cases h1 : mayName h.name
  all_goals
    rw [h1] at c1
    repeat' (first | refine rg 0 (aq39 ?_) | (refine rg 1 (aq40 ?_); refine oC (c1) rfl (ac .nil) ?_; refine aq41 ?_ <;> (first | refine oC (c1) rfl (ac .nil) ?_ | refine oC (c2) rfl (ac .nil) ?_ | refine oK ?_) <;> refine aq42 ?_) | refine gc ?_ | refine ct ?_ | refine cf ?_ | refine sc ?_ ?_ <;> intro hc | refine rq rfl (rt .nil) ?_)
    rfl
set_option maxRecDepth 100000 in
theorem refGood_ (h : Pl.Head) (hh : okHead h) : PCalls Tryz.prog 95 [.agg (headT h)] (.v (.bool (good h))) := by
  have c1 := refMayName_ h.name hh.1
  have c2 := refMayValue_ h.value hh.2
  unfold good
  refine pcalls_of Tryz.func95 rfl rfl Tryz.ntmps95 rfl ?_
  cases h1 : mayName h.name
  all_goals
    rw [h1] at c1
    repeat' (first | refine rg 0 (aq39 ?_) | (refine rg 1 (aq40 ?_); refine oC (c1) rfl (ac .nil) ?_; refine aq41 ?_ <;> (first | refine oC (c1) rfl (ac .nil) ?_ | refine oC (c2) rfl (ac .nil) ?_ | refine oK ?_) <;> refine aq42 ?_) | refine gc ?_ | refine ct ?_ | refine cf ?_ | refine sc ?_ ?_ <;> intro hc | refine rq rfl (rt .nil) ?_)
    rfl
set_option maxRecDepth 100000 in
theorem may1_ (h : Pl.Head) (hh : okHead h) : PCalls Tryz.prog 124 [.agg (headT h)] (.v (.bool (!good h))) := by
  have c1 := may_ h hh
  refine pcalls_of Tryz.func124 rfl rfl Tryz.ntmps124 rfl ?_
  repeat' (first | refine rg 0 (aq39 ?_) | (refine rg 1 (aq43 ?_); refine oC (c1) rfl (ac .nil) ?_; refine aq44 ?_) | refine gc ?_ | refine ct ?_ | refine cf ?_ | refine sc ?_ ?_ <;> intro hc | refine rq rfl (rt .nil) ?_)
  rfl
def idxP {α : Type} (p : α → Bool) (l : List α) : Int := if l.any p then ((l.findIdx p : Nat) : Int) else -1
theorem idxP_hit {α : Type} (p : α → Bool) (l : List α) (k : Nat) (h : k < l.length) (h1 : ∀ j, j < k → ∀ x, l[j]? = some x → p x = false) (h2 : p l[k] = true) : idxP p l = (k : Int) := by
  unfold idxP
  rw [if_pos (List.any_eq_true.2 ⟨_, List.getElem_mem h, h2⟩)]
  congr 1
  refine (List.findIdx_eq h).2 ⟨h2, fun j hj => ?_⟩
  exact h1 j hj _ (List.getElem?_eq_getElem (by omega))
theorem idxP_miss {α : Type} (p : α → Bool) (l : List α) (h : ∀ x ∈ l, p x = false) : idxP p l = -1 := by
  unfold idxP; rw [if_neg]; simp; exact h
def IHead (xs : List Pl.Head) (f : FuncId) (caps : List T) (k : Nat) : St := ⟨[(0, .t (headsT xs)), (1, .t (.clo f caps)), (7, .t (.v (.int .i64 (xs.length : Int)))), (8, .t (.v (.int .i64 (k : Int))))], [], []⟩
set_option maxRecDepth 100000 in
set_option maxHeartbeats 1000000 in
theorem idxHead (p : Pl.Head → Bool) (f : FuncId) (caps : List T) (xs : List Pl.Head) (r : Int) (hK : ∀ x ∈ xs, PCalls Tryz.prog f ([.agg (headT x)] ++ caps) (.v (.bool (p x)))) (hn : xs.length ≤ 1000)
    (h1 : ∀ k, (h : k < xs.length) → (∀ j, j < k → ∀ x, xs[j]? = some x → p x = false) → p xs[k] = true → r = (k : Int)) (h2 : (∀ x ∈ xs, p x = false) → r = -1) : PCalls Tryz.prog 154 [headsT xs, .clo f caps] (.v (.int .i64 r)) := by
  have hm1 : (xs.map headT).length = xs.length := List.length_map _
  refine pcalls_of Tryz.func154 rfl rfl Tryz.ntmps154 rfl ?_
  repeat' (first | refine rg 0 (aq0 ?_) | refine rg 1 (aq5 ?_) | refine gc ?_ | refine ct ?_ | refine cf ?_ | refine sc ?_ ?_ <;> intro hc | refine rq rfl (rt .nil) ?_)
  refine swp_for (IHead xs f caps) (fun k => ∀ j, j < k → ∀ x, xs[j]? = some x → p x = false) xs.length ?_ (fun j hj => by omega) ?_
  · exact (weak_sub (.cons rfl (by first | rfl | (exact congrArg (fun n : Nat => A.t (.v (.int .i64 (n : Int)))) hm1)) rfl (.cons rfl (by first | rfl | (exact congrArg (fun n : Nat => A.t (.v (.int .i64 (n : Int)))) hm1)) rfl (.cons rfl (by first | rfl | (exact congrArg (fun n : Nat => A.t (.v (.int .i64 (n : Int)))) hm1)) rfl (.cons rfl (by first | rfl | (exact congrArg (fun n : Nat => A.t (.v (.int .i64 (n : Int)))) hm1)) rfl .nil)))) .nil .nil)
  intro k hk hI
  unfold IHead
  by_cases hlt : k < xs.length
  · have c1 := hK _ (List.getElem_mem hlt)
    have hstep : p xs[k] = false → ∀ j, j < k + 1 → ∀ x, xs[j]? = some x → p x = false := fun hp j hj x hx => by
      by_cases h : j = k
      · subst h; rw [List.getElem?_eq_getElem hlt] at hx; injection hx with hx; subst hx; exact hp
      · exact hI j (by omega) x hx
    repeat' (first | refine for_next hlt (weak_sub (.cons rfl rfl rfl (.cons rfl rfl rfl (.cons rfl rfl rfl (.cons rfl rfl rfl .nil)))) .nil .nil) (hstep (by first | assumption | simp_all)) | refine rg 2 (aq6 ?_) | refine rg 3 (aq4 ?_) | (refine rg 4 ?_; refine oMv ?_; refine oMv ?_; refine oMv ?_; refine sp (pix rfl (tyS rfl)) ?_; (first | refine sp (po_load_bx_agg rfl rfl (tyT rfl) rfl (vc (vc .nil)) rfl) ?_ | refine sp (po_load_agg rfl rfl (tyT rfl) rfl rfl) ?_); refine sp (po_call_clo rfl rfl (ac .nil) (c1)) ?_; refine oN ?_) | refine rg 5 (aq4 ?_) | refine rg 6 (aq9 ?_) | refine gc ?_ | refine ct ?_ | refine cf ?_ | refine sc ?_ ?_ <;> intro hc | refine rq rfl (rt .nil) ?_)
    rw [h1 k hlt hI (by first | assumption | simp_all)]; rfl
  · obtain rfl : k = xs.length := by omega
    repeat' (first | refine rg 2 (aq6 ?_) | refine rg 7 (aq0 ?_) | refine gc ?_ | refine ct ?_ | refine cf ?_ | refine sc ?_ ?_ <;> intro hc | refine rq rfl (rt .nil) ?_)
    rw [h2 fun x hx => by obtain ⟨j, hj⟩ := List.getElem?_of_mem hx; exact hI j (List.getElem?_eq_some_iff.1 hj).1 x hj]; rfl
theorem idxP_ge {α : Type} (p : α → Bool) (l : List α) : decide (0 ≤ idxP p l) = l.any p := by
  unfold idxP
  cases h : l.any p <;> simp
set_option maxRecDepth 100000 in
theorem containsHead (p : Pl.Head → Bool) (f : FuncId) (caps : List T) (xs : List Pl.Head) (hK : ∀ x ∈ xs, PCalls Tryz.prog f ([.agg (headT x)] ++ caps) (.v (.bool (p x)))) (hn : xs.length ≤ 1000) : PCalls Tryz.prog 123 [headsT xs, .clo f caps] (.v (.bool (xs.any p))) := by
  have c1 := idxHead p f caps xs (idxP p xs) hK hn (idxP_hit p xs) (idxP_miss p xs)
  refine pcalls_of Tryz.func123 rfl rfl Tryz.ntmps123 rfl ?_
  repeat' (first | refine rg 0 (aq0 ?_) | (refine rg 1 (aq16 ?_); refine oC (c1) rfl (ac (ac .nil)) ?_; refine aq45 ?_) | refine gc ?_ | refine ct ?_ | refine cf ?_ | refine sc ?_ ?_ <;> intro hc | refine rq rfl (rt .nil) ?_)
  exact eq_b (idxP_ge p xs).symm
theorem not_any_not {α : Type} (p : α → Bool) (l : List α) : (!(l.any fun x => !p x)) = l.all p := by
  rw [List.all_eq_not_any_not]
set_option maxRecDepth 100000 in
theorem mayL_ (l : List Pl.Head) (hn : l.length ≤ 1000) (hh : ∀ h ∈ l, okHead h) : PCalls Tryz.prog 94 [headsT l] (.v (.bool (mayL l))) := by
  have hm1 : (l.map headT).length = l.length := List.length_map _
  have c1 := containsHead (fun x => !good x) 124 [] l (fun x hx => may1_ x (hh x hx)) hn
  unfold mayL
  refine pcalls_of Tryz.func94 rfl rfl Tryz.ntmps94 rfl ?_
  by_cases h : l.length ≤ 24
  · repeat' (first | refine rg 0 (aq0 ?_) | (refine rg 1 ?_; refine oMv ?_; refine sp (pln rfl (tyS rfl)) ?_; refine oCm ?_; refine oMv ?_; refine oMv ?_ <;> refine oC (c1) rfl (ac (ac .nil)) ?_ <;> refine sp (po_not rfl rfl) ?_ <;> refine oPt ?_ <;> refine oAs ?_ <;> refine oN ?_) | refine gc ?_ | refine ct ?_ | refine cf ?_ | refine sc ?_ ?_ <;> intro hc | refine rq rfl (rt .nil) ?_)
    refine eq_b ?_
    rw [not_any_not]; simp [h]
  · repeat' (first | refine rg 0 (aq0 ?_) | (refine rg 1 ?_; refine oMv ?_; refine sp (pln rfl (tyS rfl)) ?_; refine oCm ?_; refine oMv ?_; (first | refine oMv ?_ | refine oK ?_) <;> (first | refine oC (c1) rfl (ac (ac .nil)) ?_ | refine oK ?_) <;> (first | refine sp (po_not rfl rfl) ?_ | refine oK ?_) <;> (first | refine oPt ?_ | refine oPf ?_) <;> refine oAs ?_ <;> refine oN ?_) | refine gc ?_ | refine ct ?_ | refine cf ?_ | refine sc ?_ ?_ <;> intro hc | refine rq rfl (rt .nil) ?_)
    refine eq_b ?_
    simp [h]
set_option maxRecDepth 100000 in
theorem refMay_ (l : List Pl.Head) (hn : l.length ≤ 1000) (hh : ∀ h ∈ l, okHead h) : PCalls Tryz.prog 62 [headsT l] (.v (.bool (mayL l))) := by
  have hm1 : (l.map headT).length = l.length := List.length_map _
  unfold mayL
  refine pcalls_of Tryz.func62 rfl rfl Tryz.ntmps62 rfl ?_
  repeat' (first | refine rg 0 (aq0 ?_) | refine rg 1 (aq0 ?_) | refine gc ?_ | refine ct ?_ | refine cf ?_ | refine sc ?_ ?_ <;> intro hc | refine rq rfl (rt .nil) ?_)
  refine swp_for (fun k => ⟨[(0, .t (headsT l)), (3, .t (.v (.int .i64 (k : Int))))], [], []⟩) (fun k => (l.take k).any (fun x => !good x) = false) l.length (weak_sub (.cons rfl rfl rfl (.cons rfl rfl rfl .nil)) .nil .nil) rfl ?_
  intro k hk hI
  by_cases hlt : k < l.length
  · have c1 := refGood_ l[k] (hh _ (List.getElem_mem hlt))
    cases hg : good l[k] with
    | true =>
      rw [hg] at c1
      repeat' (first | refine for_next hlt (weak_sub (.cons rfl rfl rfl (.cons rfl rfl rfl .nil)) .nil .nil) (any_next hlt hI (by simp [hg])) | refine rg 2 (aq1 ?_) | (refine rg 4 (aq46 ?_); refine oC (c1) rfl (ac .nil) ?_; refine aq27 ?_) | refine rg 3 (aq3 ?_) | refine gc ?_ | refine ct ?_ | refine cf ?_)
    | false =>
      rw [hg] at c1
      repeat' (first | refine rg 2 (aq1 ?_) | (refine rg 4 (aq46 ?_); refine oC (c1) rfl (ac .nil) ?_; refine aq27 ?_) | refine rg 5 (aq0 ?_) | refine gc ?_ | refine ct ?_ | refine cf ?_ | refine sc ?_ ?_ <;> intro hc | refine rq rfl (rt .nil) ?_)
      refine eq_b ?_
      rw [← not_any_not, any_hit hlt (by simp [hg])]; simp
  · obtain rfl : k = l.length := by omega
    rw [List.take_length] at hI
    repeat' (first | refine rg 2 (aq1 ?_) | refine rg 6 (aq47 ?_) | refine gc ?_ | refine ct ?_ | refine cf ?_ | refine sc ?_ ?_ <;> intro hc | refine rq rfl (rt .nil) ?_)
    refine eq_b ?_
    rw [← not_any_not, hI]; simp; omega
def lineS (h : Pl.Head) : ByteArray := h.name ++ ⟨#[58, 32]⟩ ++ h.value
theorem mayName_size {s : ByteArray} (h : mayName s = true) : 1 ≤ s.size ∧ s.size ≤ 64 := by
  unfold mayName at h; simp at h; omega
theorem mayValue_size {s : ByteArray} (h : mayValue s = true) : s.size ≤ 512 := by
  unfold mayValue at h; simp at h; omega
theorem good_size {h : Pl.Head} (hg : good h = true) : 1 ≤ h.name.size ∧ h.name.size ≤ 64 ∧ h.value.size ≤ 512 := by
  unfold good at hg; rw [Bool.and_eq_true] at hg
  exact ⟨(mayName_size hg.1).1, (mayName_size hg.1).2, mayValue_size hg.2⟩
theorem sz2 : (⟨#[58, 32]⟩ : ByteArray).size = 2 := rfl
set_option maxRecDepth 100000 in
theorem line_ (h : Pl.Head) (hh : okHead h) : PCalls Tryz.prog 85 [.agg (headT h)] (if good h then .tup [.v (.string (lineS h)), .v (.int .i64 0)] else .tup [.v (.string ⟨#[]⟩), .v (.int .i64 1)]) := by
  have c1 := may_ h hh
  refine pcalls_of Tryz.func85 rfl rfl Tryz.ntmps85 rfl ?_
  cases hg : good h with
  | true =>
    rw [hg] at c1
    have hs := good_size hg
    have hz := sz2
    have hs2 : (h.name ++ ⟨#[58, 32]⟩).size = h.name.size + 2 := by rw [ByteArray.size_append]; rfl
    rw [if_pos rfl]
    repeat' (first | refine rg 0 (aq48 ?_) | (refine rg 1 (aq43 ?_); refine oC (c1) rfl (ac .nil) ?_; refine aq27 ?_) | (refine rg 3 ?_; refine oFb ?_; refine oLb ?_; refine sp (po_cat rfl rfl rfl (by omega)) ?_; refine oFb ?_; refine oLb ?_; refine sp (po_cat rfl rfl rfl (by omega)) ?_; refine oAs ?_; refine oAs ?_; refine oN ?_) | refine gc ?_ | refine ct ?_ | refine cf ?_ | refine sc ?_ ?_ <;> intro hc | refine rq rfl (rt (rt .nil)) ?_)
    rfl
  | false =>
    rw [hg] at c1
    rw [if_neg (by simp)]
    repeat' (first | refine rg 0 (aq48 ?_) | (refine rg 1 (aq43 ?_); refine oC (c1) rfl (ac .nil) ?_; refine aq27 ?_) | refine rg 2 (aq49 ?_) | refine gc ?_ | refine ct ?_ | refine cf ?_ | refine sc ?_ ?_ <;> intro hc | refine rq rfl (rt (rt .nil)) ?_)
    rfl
end Go.Proofs.YtpncekdhigappaaGreatDoor.Hd
