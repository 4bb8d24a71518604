/- Merged by bundles.py: SimHd5, SimHd2, SimHd6. -/
import Derived.Test.YtpncekdhigappaaGreatDoorU14
import Derived.Test.YtpncekdhigappaaGreatDoorU13
/- Headers: names: walks. -/
namespace Go.Proofs.YtpncekdhigappaaGreatDoor.Hd
set_option linter.unusedVariables false
set_option linter.unusedSimpArgs false
open Go.RowKit Mem Sim Opn Str
def tokL : List UInt8 := [97, 98, 99, 100, 101, 102, 103, 104, 105, 106, 107, 108, 109, 110, 111, 112, 113, 114, 115, 116, 117, 118, 119, 120, 121, 122, 48, 49, 50, 51, 52, 53, 54, 55, 56, 57, 33, 35, 36, 37, 38, 39, 42, 43, 45, 46, 94, 95, 96, 124, 126]
theorem tok_ascii : ∀ b ∈ tokL, b.toNat < 128 := by decide
def cntF (cs : List UInt8) (i : Nat) : Value := .int .i64 (if (cs.any fun x => x.toNat == i) = true then 1 else 0)
theorem cntF_next (cs : List UInt8) {k : Nat} (h : k < cs.length) : arrA (fun j => if j = cs[k].toNat then .int .i64 1 else cntF (cs.take k) j) = arrA (cntF (cs.take (k + 1))) := by
  refine arrA_congr fun i _ => ?_
  show (if i = cs[k].toNat then Value.int .i64 1 else .int .i64 (if ((cs.take k).any fun x => x.toNat == i) = true then 1 else 0)) = .int .i64 (if ((cs.take (k + 1)).any fun x => x.toNat == i) = true then 1 else 0)
  rw [List.take_succ_eq_append_getElem h, List.any_append]
  by_cases hi : i = cs[k].toNat
  · rw [if_pos hi]; simp [hi]
  · rw [if_neg hi]; simp [Ne.symm hi]
theorem arr187 : arrI Tryz.prog 187 = some (256, 1) := by kernel_rfl
theorem zero187 : (Tryz.prog.info? 187).bind (·.zero) = some (.agg (Array.replicate 256 (.int .i64 0))) := by kernel_rfl
theorem tok_size : (bs tokL).size = 51 := by rw [bs_size]; rfl
set_option maxRecDepth 100000 in
theorem token_ : PCalls Tryz.prog 166 [] (.agg (arrT (cntF tokL))) := by
  have hlen : tokL.length = 51 := rfl
  have hsz := tok_size
  refine pcalls_of Tryz.func166 rfl rfl Tryz.ntmps166 rfl ?_
  repeat' (first | (refine rg 0 ?_; refine sops_alloc_256 zero187 (rep_cells _) rfl (.free rfl rfl) rfl rfl rfl rfl ?_; refine oN ?_) | (refine rg 1 ?_; refine sops_range 1000 (.free rfl rfl) rfl rfl rfl rfl (tyR rfl) rfl ?_; refine oN ?_) | refine gc ?_ | refine ct ?_ | refine cf ?_ | refine sc ?_ ?_ <;> intro hc | refine rq rfl (.cell rfl rfl (tyT rfl) (by first | exact vwl_arr0 _ | exact vwl_arr _ | exact vwl_spl _ _) rfl .nil) ?_)
  refine swp_for (fun k => ⟨[(0, .bp 0 0), (3, .bp 1000 0)], [(0, arrA (cntF (tokL.take k))), (1000, itC (bs tokL) k)], []⟩) (fun _ => True) 51 (weak_sub (.cons rfl rfl rfl (.cons rfl rfl rfl .nil)) (.cons rfl rfl rfl (.cons rfl rfl rfl .nil)) .nil) trivial ?_
  intro k hk _
  by_cases hlt : k < 51
  · have hlt' : k < (bs tokL).size := by omega
    have hl2 : k < tokL.length := by omega
    have hg := bs_getElem tokL hlt'
    have hnext := cntF_next tokL hl2
    have hlow := tok_ascii _ (List.getElem_mem hl2)
    rw [← hg] at hnext hlow
    have hdec := decode_ascii (bs tokL) k hlt' hlow
    have h256 := u8_lt ((bs tokL)[k])
    repeat' (first | refine for_next hlt (weak_sub (.cons rfl (by rfl) rfl (.cons rfl (by rfl) rfl .nil)) (.cons rfl (by first | rfl | (exact hnext)) rfl (.cons rfl (by rfl) rfl .nil)) .nil) trivial | refine rg 2 (aq30 ?_) | refine rg 3 (aq31 ?_) | (refine rg 4 ?_; refine oMv ?_; refine sp (po_index_arr rfl rfl rfl arr187 rfl h256) ?_; refine sops_store_at (tyT rfl) rfl h256 (.free rfl rfl) rfl rfl rfl rfl rfl rfl ?_; refine oN ?_) | refine gc ?_ | refine ct ?_)
  · obtain rfl : k = 51 := by omega
    repeat' (first | refine rg 2 (aq32 ?_) | (refine rg 5 ?_; refine sp (po_load_arr (tyT rfl) rfl rfl rfl) ?_; refine sops_store_arr (tyT rfl) (.free rfl rfl) rfl rfl rfl rfl rfl ?_; refine oN ?_) | refine gc ?_ | refine ct ?_ | refine cf ?_ | refine sc ?_ ?_ <;> intro hc | refine rq rfl (.cell rfl rfl (tyT rfl) (by first | exact vwl_arr0 _ | exact vwl_arr _ | exact vwl_spl _ _) rfl .nil) ?_)
    rfl
def mayName (s : ByteArray) : Bool := s.toList.all (inB tokL) && decide (1 ≤ s.size) && decide (s.size ≤ 64)
set_option maxRecDepth 100000 in
theorem mayName_ (s : ByteArray) (hs : s.size ≤ maxLen) : PCalls Tryz.prog 148 [.v (.string s)] (.v (.bool (mayName s))) := by
  unfold maxLen at hs
  refine pcalls_of Tryz.func148 rfl rfl Tryz.ntmps148 rfl ?_
  repeat' (first | refine rg 0 (aq0 ?_) | (refine rg 1 ?_; refine oC (token_) rfl .nil ?_; refine sops_alloc_256 zero187 (rep_cells _) rfl (.free rfl rfl) rfl rfl rfl rfl ?_; refine sops_store_arr (tyT rfl) (.free rfl rfl) rfl rfl rfl rfl rfl ?_; refine oN ?_) | refine rg 2 (aq0 ?_) | refine gc ?_ | refine ct ?_ | refine cf ?_ | refine sc ?_ ?_ <;> intro hc | refine rq rfl (rt .nil) ?_)
  refine swp_for (fun k => ⟨[(0, .t (.v (.string s))), (3, .bp 3 0), (4, .t (.v (.int .i64 (k : Int))))], [(3, arrA (cntF tokL))], []⟩) (fun k => (s.toList.take k).all (inB tokL) = true) s.size (weak_sub (.cons rfl rfl rfl (.cons rfl rfl rfl (.cons rfl rfl rfl .nil))) (.cons rfl rfl rfl .nil) .nil) rfl ?_
  intro k hk hI
  by_cases hlt : k < s.size
  · have h256 := u8_lt s[k]
    cases hb : inB tokL s[k] with
    | true =>
      have hb1 : decide ((if (tokL.any fun x => x.toNat == s[k].toNat) = true then (1 : Int) else 0) = 0) = false := by unfold inB at hb; rw [hb]; rfl
      repeat' (first | refine for_next hlt (weak_sub (.cons rfl rfl rfl (.cons rfl rfl rfl (.cons rfl rfl rfl .nil))) (.cons rfl rfl rfl .nil) .nil) (all_snoc hI hlt hb) | refine rg 3 (aq24 ?_) | (refine rg 5 (aq33 ?_); refine sp (po_index_arr rfl rfl rfl arr187 rfl h256) ?_; refine sp (po_load_at (tyT rfl) h256 rfl rfl rfl rfl) ?_; refine aq6 ?_) | refine rg 4 (aq3 ?_) | refine gc ?_ | refine ct ?_ | refine cf ?_)
    | false =>
      have hb1 : decide ((if (tokL.any fun x => x.toNat == s[k].toNat) = true then (1 : Int) else 0) = 0) = true := by unfold inB at hb; rw [hb]; rfl
      repeat' (first | refine rg 3 (aq24 ?_) | (refine rg 5 (aq33 ?_); refine sp (po_index_arr rfl rfl rfl arr187 rfl h256) ?_; refine sp (po_load_at (tyT rfl) h256 rfl rfl rfl rfl) ?_; refine aq6 ?_) | refine rg 6 (aq0 ?_) | refine gc ?_ | refine ct ?_ | refine cf ?_ | refine sc ?_ ?_ <;> intro hc | refine rq rfl (rt .nil) ?_)
      refine eq_b ?_
      unfold mayName
      rw [all_bad hlt hb]; rfl
  · obtain rfl : k = s.size := by omega
    rw [take_full s (Nat.lt_irrefl _)] at hI
    unfold mayName
    rw [hI]
    repeat' (first | refine rg 3 (aq24 ?_) | (refine rg 7 ?_; refine oMv ?_; refine sp (po_len_str rfl rfl (tyR rfl)) ?_; refine oCm ?_; refine oMv ?_; (first | refine oMv ?_ | refine oK ?_ | ((refine ssp (fun hc => ?_) (fun hc => ?_)) <;> first | refine oMv ?_ | refine oK ?_)) <;> (first | refine sp (po_len_str rfl rfl (tyR rfl)) ?_ | refine oK ?_) <;> (first | refine oCm ?_ | refine oK ?_) <;> (first | refine oPt ?_ | refine oPf ?_) <;> refine oAs ?_ <;> refine oN ?_) | refine gc ?_ | refine ct ?_ | refine cf ?_ | refine sc ?_ ?_ <;> intro hc | refine rq rfl (rt .nil) ?_)
    all_goals
      refine eq_b ?_
      rw [Bool.eq_iff_iff]
      simp at *; omega
def moreL : List UInt8 := [33, 35, 36, 37, 38, 39, 42, 43, 45, 46, 94, 95, 96, 124, 126]
def letN (c : Nat) : Bool := decide (97 ≤ c ∧ c ≤ 122) || decide (48 ≤ c ∧ c ≤ 57)
def moreN (c j : Nat) : Bool := (moreL.take j).any fun x => x.toNat == c
theorem tok_all : (List.range 256).all (fun c => (tokL.any fun x => x.toNat == c) == (letN c || moreN c 15)) = true := by kernel_rfl
theorem tok_eq (b : UInt8) : inB tokL b = (letN b.toNat || moreN b.toNat 15) := by
  have := (List.all_eq_true.1 tok_all) b.toNat (List.mem_range.2 (u8_lt b))
  exact eq_of_beq this
theorem moreN_next (c : Nat) {j : Nat} (h : j < 15) (x : UInt8) (hx : x = moreL[j]'h) : moreN c (j + 1) = (moreN c j || decide ((c : Int) = (x.toNat : Int))) := by
  have hl : j < moreL.length := h
  unfold moreN
  rw [List.take_succ_eq_append_getElem hl, List.any_append, hx]
  congr 1
  simp only [List.any_cons, List.any_nil, Bool.or_false]
  rw [Bool.eq_iff_iff]; simp only [beq_iff_eq, decide_eq_true_eq]; omega
theorem letN5 (c : Nat) : c < 48 ∨ (48 ≤ c ∧ c ≤ 57) ∨ (57 < c ∧ c < 97) ∨ (97 ≤ c ∧ c ≤ 122) ∨ 122 < c := by omega
set_option maxRecDepth 100000 in
set_option maxHeartbeats 4000000 in
theorem refMayName_ (s : ByteArray) (hs : s.size ≤ maxLen) : PCalls Tryz.prog 125 [.v (.string s)] (.v (.bool (mayName s))) := by
  unfold maxLen at hs
  refine pcalls_of Tryz.func125 rfl rfl Tryz.ntmps125 rfl ?_
  by_cases hz : 1 ≤ s.size ∧ s.size ≤ 64
  · repeat' (first | refine rg 0 (aq0 ?_) | (refine rg 1 ?_; refine oMv ?_; refine sp (po_len_str rfl rfl (tyR rfl)) ?_; refine oCm ?_; refine oMv ?_; refine oMv ?_ <;> refine sp (po_len_str rfl rfl (tyR rfl)) ?_ <;> refine oCm ?_ <;> (first | refine oPt ?_ | refine oPf ?_) <;> refine oN ?_) | refine rg 3 (aq0 ?_) | refine gc ?_ | refine ct ?_ | refine cf ?_ | refine sc ?_ ?_ <;> intro hc | refine rq rfl (rt .nil) ?_)
    refine swp_for (fun k => ⟨[(0, .t (.v (.string s))), (3, .t (.v (.int .i64 (k : Int))))], [], []⟩) (fun k => (s.toList.take k).all (inB tokL) = true) s.size (weak_sub (.cons rfl rfl rfl (.cons rfl rfl rfl .nil)) .nil .nil) rfl ?_
    intro k hk hI
    by_cases hlt : k < s.size
    · rcases letN5 s[k].toNat with h5 | h5 | h5 | h5 | h5
      all_goals
        repeat' (first | refine rg 4 (aq24 ?_) | (refine rg 6 ?_; refine oMv ?_; refine oMv ?_; refine sp (xist rfl) ?_; refine oCm ?_; refine oMv ?_; (first | refine oMv ?_ | refine oK ?_) <;> (first | refine oMv ?_ | refine oK ?_) <;> (first | refine sp (xist rfl) ?_ | refine oK ?_) <;> (first | refine oCm ?_ | refine oK ?_) <;> (first | refine oPt ?_ | refine oPf ?_) <;> refine oMv ?_ <;> (first | refine oMv ?_ | refine oK ?_) <;> (first | refine oMv ?_ | refine oK ?_) <;> (first | refine sp (xist rfl) ?_ | refine oK ?_) <;> (first | refine oCm ?_ | refine oK ?_) <;> (first | refine oMv ?_ | refine oK ?_) <;> (first | refine oMv ?_ | refine oK ?_) <;> (first | refine oMv ?_ | refine oK ?_) <;> (first | refine sp (xist rfl) ?_ | refine oK ?_) <;> (first | refine oCm ?_ | refine oK ?_) <;> (first | refine oPt ?_ | refine oPf ?_ | refine oK ?_) <;> (first | refine oPt ?_ | refine oPf ?_) <;> refine oAs ?_ <;> refine oN ?_) | refine rg 7 (aq0 ?_) | refine gc ?_ | refine ct ?_ | refine cf ?_ | refine sc ?_ ?_ <;> intro hc | refine rq rfl (rt .nil) ?_)
        refine swp_for (fun j => ⟨[(0, .t (.v (.string s))), (3, .t (.v (.int .i64 (k : Int)))), (4, .t (.v (.bool (letN s[k].toNat || moreN s[k].toNat j)))), (5, .t (.v (.int .i64 (j : Int))))], [], []⟩) (fun _ => True) 15 (weak_sub (.cons rfl (by first | rfl | (exact congrArg (fun b => A.t (T.v (Value.bool b))) (by rw [Bool.eq_iff_iff]; simp [letN, moreN]; try omega))) rfl (.cons rfl (by first | rfl | (exact congrArg (fun b => A.t (T.v (Value.bool b))) (by rw [Bool.eq_iff_iff]; simp [letN, moreN]; try omega))) rfl (.cons rfl (by first | rfl | (exact congrArg (fun b => A.t (T.v (Value.bool b))) (by rw [Bool.eq_iff_iff]; simp [letN, moreN]; try omega))) rfl (.cons rfl (by first | rfl | (exact congrArg (fun b => A.t (T.v (Value.bool b))) (by rw [Bool.eq_iff_iff]; simp [letN, moreN]; try omega))) rfl .nil)))) .nil .nil) trivial ?_
        intro j hj _
        by_cases hjl : j < 15
        · have hj' : j < (⟨#[33, 35, 36, 37, 38, 39, 42, 43, 45, 46, 94, 95, 96, 124, 126]⟩ : ByteArray).size := hjl
          have hn := moreN_next s[k].toNat hjl _ (bs_getElem moreL hj')
          cases hg : (letN s[k].toNat || moreN s[k].toNat j) with
          | true =>
            have hn2 : true = (letN s[k].toNat || moreN s[k].toNat (j + 1)) := by rw [hn, ← Bool.or_assoc, hg]; rfl
            repeat' (first | refine for_next hjl (weak_sub (.cons rfl (by rfl) rfl (.cons rfl (by rfl) rfl (.cons rfl (by first | rfl | (exact congrArg (fun b => A.t (T.v (Value.bool b))) hn2)) rfl (.cons rfl (by rfl) rfl .nil)))) .nil .nil) trivial | refine rg 8 (aq22 ?_) | (refine swp_draw (id := 10) 9 mixed (by kernel_rfl) (by kernel_rfl) ?_; refine dMv ?_; refine dMv ?_; (first | refine dMv ?_ | refine dK ?_) <;> (first | refine dMv ?_ | refine dK ?_) <;> (first | refine dp (xist rfl) ?_ | refine dK ?_) <;> (first | refine dMv ?_ | refine dK ?_) <;> (first | refine dp (xist rfl) ?_ | refine dK ?_) <;> (first | refine dCm ?_ | refine dK ?_) <;> refine dPt ?_ <;> refine dN ?_ <;> refine oAs ?_ <;> refine oN ?_) | refine rg 9 (aq3 ?_) | refine gc ?_ | refine ct ?_)
          | false =>
            have hn2 := congrArg (fun b => letN s[k].toNat || b) hn
            rw [← Bool.or_assoc, hg, Bool.false_or] at hn2
            replace hn2 := hn2.symm
            repeat' (first | refine for_next hjl (weak_sub (.cons rfl (by rfl) rfl (.cons rfl (by rfl) rfl (.cons rfl (by first | rfl | (exact congrArg (fun b => A.t (T.v (Value.bool b))) hn2)) rfl (.cons rfl (by rfl) rfl .nil)))) .nil .nil) trivial | refine rg 8 (aq22 ?_) | (refine swp_draw (id := 10) 9 mixed (by kernel_rfl) (by kernel_rfl) ?_; refine dMv ?_; refine dMv ?_; refine dMv ?_ <;> refine dMv ?_ <;> refine dp (xist rfl) ?_ <;> refine dMv ?_ <;> refine dp (xist rfl) ?_ <;> refine dCm ?_ <;> (first | refine dPt ?_ | refine dPf ?_) <;> refine dN ?_ <;> refine oAs ?_ <;> refine oN ?_) | refine rg 9 (aq3 ?_) | refine gc ?_ | refine ct ?_)
        · obtain rfl : j = 15 := by omega
          have htok := tok_eq s[k]
          cases hg : (letN s[k].toNat || moreN s[k].toNat 15) with
          | true =>
            rw [hg] at htok
            repeat' (first | refine for_next hlt (weak_sub (.cons rfl rfl rfl (.cons rfl rfl rfl .nil)) .nil .nil) (all_snoc hI hlt htok) | refine rg 8 (aq22 ?_) | refine rg 11 (aq34 ?_) | refine rg 5 (aq3 ?_) | refine gc ?_ | refine ct ?_ | refine cf ?_)
          | false =>
            rw [hg] at htok
            repeat' (first | refine rg 8 (aq22 ?_) | refine rg 11 (aq34 ?_) | refine rg 12 (aq0 ?_) | refine gc ?_ | refine ct ?_ | refine cf ?_ | refine sc ?_ ?_ <;> intro hc | refine rq rfl (rt .nil) ?_)
            refine eq_b ?_
            unfold mayName
            rw [all_bad hlt htok]; rfl
    · obtain rfl : k = s.size := by omega
      rw [take_full s (Nat.lt_irrefl _)] at hI
      repeat' (first | refine rg 4 (aq24 ?_) | refine rg 13 (aq0 ?_) | refine gc ?_ | refine ct ?_ | refine cf ?_ | refine sc ?_ ?_ <;> intro hc | refine rq rfl (rt .nil) ?_)
      refine eq_b ?_
      unfold mayName
      rw [hI]; simp; omega
  · by_cases h1 : 1 ≤ s.size
    all_goals
      repeat' (first | refine rg 0 (aq0 ?_) | (refine rg 1 ?_; refine oMv ?_; refine sp (po_len_str rfl rfl (tyR rfl)) ?_; refine oCm ?_; refine oMv ?_; (first | refine oMv ?_ | refine oK ?_) <;> (first | refine sp (po_len_str rfl rfl (tyR rfl)) ?_ | refine oK ?_) <;> (first | refine oCm ?_ | refine oK ?_) <;> (first | refine oPt ?_ | refine oPf ?_) <;> refine oN ?_) | refine rg 2 (aq0 ?_) | refine gc ?_ | refine ct ?_ | refine cf ?_ | refine sc ?_ ?_ <;> intro hc | refine rq rfl (rt .nil) ?_)
      refine eq_b ?_
      unfold mayName
      simp at *; omega
end Go.Proofs.YtpncekdhigappaaGreatDoor.Hd

/- Headers: MayValue, blank: walks. -/
namespace Go.Proofs.YtpncekdhigappaaGreatDoor.Hd
set_option linter.unusedVariables false
set_option linter.unusedSimpArgs false
open Go.RowKit Mem Sim Opn
def vcN (n i c : Nat) : Bool := decide (33 ≤ c ∧ c ≤ 126) || (decide (c = 32 ∨ c = 9) && decide (i ≠ 0 ∧ i + 1 ≠ n))
def vcs (s : ByteArray) (i : Nat) : Bool := if h : i < s.size then vcN s.size i (s[i]'h).toNat else true
def mayValue (s : ByteArray) : Bool := (List.range s.size).all (vcs s) && decide (s.size ≤ 512)
theorem vcs_at {s : ByteArray} {i : Nat} (hi : i < s.size) : vcs s i = vcN s.size i (s[i]'hi).toNat := dif_pos hi
theorem rng_more {f : Nat → Bool} {i : Nat} (h : (List.range i).all f = true) (hi : f i = true) : (List.range (i + 1)).all f = true := by
  rw [List.range_succ, List.all_append, h]; simp [hi]
theorem rng_no {f : Nat → Bool} {i n : Nat} (hi : i < n) (h : f i = false) : (List.range n).all f = false := by
  rw [List.all_eq_false]; exact ⟨i, by simpa using hi, by simp [h]⟩
def blankN (c : Nat) : Bool := decide (c = 32 ∨ c = 9)
set_option maxRecDepth 100000 in
theorem blank_ (c : Nat) : PCalls Tryz.prog 167 [.v (.int .u8 (c : Int))] (.v (.bool (blankN c))) := by
  unfold blankN
  refine pcalls_of Tryz.func167 rfl rfl Tryz.ntmps167 rfl ?_
  repeat' (first | refine rg 0 (aq0 ?_) | (refine rg 1 ?_; refine oMv ?_; refine oCm ?_; refine oMv ?_; (first | refine oMv ?_ | refine oK ?_ | ((refine ssp (fun hc => ?_) (fun hc => ?_)) <;> first | refine oMv ?_ | refine oK ?_)) <;> refine aq35 ?_) | refine gc ?_ | refine ct ?_ | refine cf ?_ | refine sc ?_ ?_ <;> intro hc | refine rq rfl (rt .nil) ?_)
  all_goals
    refine eq_b ?_
    rw [Bool.eq_iff_iff]
    simp at *; omega
set_option maxRecDepth 100000 in
set_option maxHeartbeats 1000000 in
theorem refMayValue_ (s : ByteArray) (hs : s.size ≤ maxLen) : PCalls Tryz.prog 126 [.v (.string s)] (.v (.bool (mayValue s))) := by
  unfold maxLen at hs
  refine pcalls_of Tryz.func126 rfl rfl Tryz.ntmps126 rfl ?_
  by_cases h512 : s.size ≤ 512
  · repeat' (first | refine rg 0 (aq0 ?_) | refine rg 1 (aq17 ?_) | refine rg 2 (aq22 ?_) | refine rg 4 (aq0 ?_) | refine gc ?_ | refine ct ?_ | refine cf ?_ | refine sc ?_ ?_ <;> intro hc | refine rq rfl (rt .nil) ?_)
    refine swp_for (fun k => ⟨[(0, .t (.v (.string s))), (3, .t (.v (.int .i64 (s.size : Int)))), (4, .t (.v (.int .i64 (k : Int))))], [], []⟩) (fun k => (List.range k).all (vcs s) = true) s.size (weak_sub (.cons rfl rfl rfl (.cons rfl rfl rfl (.cons rfl rfl rfl .nil))) .nil .nil) rfl ?_
    intro k hk hI
    by_cases hlt : k < s.size
    · have hv := vcs_at hlt
      repeat' (first | refine for_next hlt (weak_sub (.cons rfl rfl rfl (.cons rfl rfl rfl (.cons rfl rfl rfl .nil))) .nil .nil) ?_ | refine rg 5 (aq36 ?_) | (refine rg 7 ?_; refine oMv ?_; refine oMv ?_; refine sp (xist rfl) ?_; refine oCm ?_; refine oMv ?_; (first | refine oMv ?_ | refine oK ?_ | ((refine ssp (fun hc => ?_) (fun hc => ?_)) <;> first | refine oMv ?_ | refine oK ?_)) <;> refine aq37 ?_) | (refine rg 8 ?_; refine oMv ?_; refine oCm ?_; refine oMv ?_; (first | refine oMv ?_ | refine oK ?_ | ((refine ssp (fun hc => ?_) (fun hc => ?_)) <;> first | refine oMv ?_ | refine oK ?_)) <;> (first | refine oMv ?_ | refine oK ?_) <;> (first | refine sp (po_dec rfl rfl rfl (by omega)) ?_ | refine sp (po_arith rfl rfl rfl (ar_sub (by first | rfl | (refine wrap_i64 ?_; omega)) rfl)) ?_ | refine oK ?_) <;> (first | refine oCm ?_ | refine oK ?_) <;> (first | refine oPt ?_ | refine oPf ?_) <;> refine oN ?_) | refine rg 9 (aq0 ?_) | (refine rg 10 ?_; refine oMv ?_; refine oMv ?_; refine sp (xist rfl) ?_; refine oCm ?_; refine oMv ?_; (first | refine oMv ?_ | refine oK ?_ | ((refine ssp (fun hc => ?_) (fun hc => ?_)) <;> first | refine oMv ?_ | refine oK ?_)) <;> refine aq37 ?_) | refine rg 11 (aq0 ?_) | refine rg 6 (aq3 ?_) | refine gc ?_ | refine ct ?_ | refine cf ?_ | refine sc ?_ ?_ <;> intro hc | refine rq rfl (rt .nil) ?_)
      all_goals first
        | (refine eq_b ?_
           unfold mayValue
           rw [rng_no hlt]
           · rfl
           rw [hv, vcN]
           simp at *
           omega)
        | (refine rng_more hI ?_
           rw [hv, vcN]
           simp at *
           omega)
    · obtain rfl : k = s.size := by omega
      repeat' (first | refine rg 5 (aq36 ?_) | refine rg 12 (aq0 ?_) | refine gc ?_ | refine ct ?_ | refine cf ?_ | refine sc ?_ ?_ <;> intro hc | refine rq rfl (rt .nil) ?_)
      refine eq_b ?_
      unfold mayValue; rw [hI]; simp [h512]
  · repeat' (first | refine rg 0 (aq0 ?_) | refine rg 1 (aq17 ?_) | refine rg 2 (aq22 ?_) | refine rg 3 (aq0 ?_) | refine gc ?_ | refine ct ?_ | refine cf ?_ | refine sc ?_ ?_ <;> intro hc | refine rq rfl (rt .nil) ?_)
    refine eq_b ?_
    simp [mayValue, h512]
set_option maxRecDepth 100000 in
set_option maxHeartbeats 1000000 in
theorem mayValue_ (s : ByteArray) (hs : s.size ≤ maxLen) : PCalls Tryz.prog 149 [.v (.string s)] (.v (.bool (mayValue s))) := by
  unfold maxLen at hs
  refine pcalls_of Tryz.func149 rfl rfl Tryz.ntmps149 rfl ?_
  repeat' (first | refine rg 0 (aq0 ?_) | refine rg 1 (aq0 ?_) | refine gc ?_ | refine ct ?_ | refine cf ?_ | refine sc ?_ ?_ <;> intro hc | refine rq rfl (rt .nil) ?_)
  refine swp_for (fun k => ⟨[(0, .t (.v (.string s))), (3, .t (.v (.int .i64 (k : Int))))], [], []⟩) (fun k => (List.range k).all (vcs s) = true) s.size (weak_sub (.cons rfl rfl rfl (.cons rfl rfl rfl .nil)) .nil .nil) rfl ?_
  intro k hk hI
  by_cases hlt : k < s.size
  · have hv := vcs_at hlt
    have hbl := blank_ s[k].toNat
    cases hb : blankN s[k].toNat
    all_goals
      rw [hb] at hbl
      unfold blankN at hb
    all_goals
      by_cases h0 : k = 0
      all_goals
        by_cases h1 : k + 1 = s.size
        all_goals
          repeat' (first | refine for_next hlt (weak_sub (.cons rfl rfl rfl (.cons rfl rfl rfl .nil)) .nil .nil) ?_ | refine rg 2 (aq24 ?_) | (refine rg 4 ?_; refine oMv ?_; refine oCm ?_; refine oMv ?_; (first | refine oMv ?_ | refine oK ?_) <;> (first | refine sp (xinc rfl) ?_ | refine sp (xadd rfl) ?_ | refine oK ?_) <;> (first | refine oMv ?_ | refine oK ?_) <;> (first | refine sp (po_len_str rfl rfl (tyR rfl)) ?_ | refine oK ?_) <;> (first | refine oCm ?_ | refine oK ?_) <;> (first | refine oPt ?_ | refine oPf ?_) <;> refine oAs ?_ <;> refine oN ?_) | refine rg 5 (aq25 ?_) | (refine rg 6 ?_; refine oMv ?_; refine oCm ?_; refine oMv ?_; (first | refine oMv ?_ | refine oK ?_ | ((refine ssp (fun hc => ?_) (fun hc => ?_)) <;> first | refine oMv ?_ | refine oK ?_)) <;> refine aq38 ?_ <;> (first | refine oMv ?_ | refine oK ?_ | ((refine ssp (fun hc => ?_) (fun hc => ?_)) <;> first | refine oMv ?_ | refine oK ?_)) <;> (first | refine oC (hbl) rfl (ac .nil) ?_ | refine oK ?_) <;> (first | refine oMv ?_ | refine oK ?_) <;> (first | refine oMv ?_ | refine oK ?_) <;> (first | refine sp (po_not rfl rfl) ?_ | refine oK ?_) <;> (first | refine oPt ?_ | refine oPf ?_ | refine oK ?_) <;> (first | refine oPt ?_ | refine oPf ?_) <;> refine sp (po_not rfl rfl) ?_ <;> refine oN ?_) | refine rg 7 (aq0 ?_) | refine rg 3 (aq3 ?_) | refine gc ?_ | refine ct ?_ | refine cf ?_ | refine sc ?_ ?_ <;> intro hc | refine rq rfl (rt .nil) ?_)
    all_goals first
      | (refine eq_b ?_
         unfold mayValue
         rw [rng_no hlt]
         · rfl
         rw [hv, vcN]
         simp at *
         omega)
      | (refine rng_more hI ?_
         rw [hv, vcN]
         simp at *
         omega)
  · obtain rfl : k = s.size := by omega
    repeat' (first | refine rg 2 (aq24 ?_) | (refine rg 8 ?_; refine oMv ?_; refine sp (po_len_str rfl rfl (tyR rfl)) ?_; refine oCm ?_; refine oAs ?_; refine oN ?_) | refine gc ?_ | refine ct ?_ | refine cf ?_ | refine sc ?_ ?_ <;> intro hc | refine rq rfl (rt .nil) ?_)
    refine eq_b ?_
    unfold mayValue; rw [hI]; simp; omega
end Go.Proofs.YtpncekdhigappaaGreatDoor.Hd

/- Headers: may they be; a header's line: walks. -/
namespace Go.Proofs.YtpncekdhigappaaGreatDoor.Hd
set_option linter.unusedVariables false
set_option linter.unusedSimpArgs false
open Go.RowKit Mem Sim Opn Str
def good (h : Pl.Head) : Bool := mayName h.name && mayValue h.value
def mayL (l : List Pl.Head) : Bool := decide (l.length ≤ 24) && l.all good
set_option maxRecDepth 100000 in
theorem may_ (h : Pl.Head) (hh : okHead h) : PCalls Tryz.prog 116 [.agg (headT h)] (.v (.bool (good h))) := by
  have c1 := mayName_ h.name hh.1
  have c2 := mayValue_ h.value hh.2
  unfold good
  refine pcalls_of Tryz.func116 rfl rfl Tryz.ntmps116 rfl ?_
  cases h1 : mayName h.name
  all_goals
    rw [h1] at c1
    repeat' (first | refine rg 0 (aq39 ?_) | (refine rg 1 (aq40 ?_); refine oC (c1) rfl (ac .nil) ?_; refine aq41 ?_ <;> (first | refine oC (c1) rfl (ac .nil) ?_ | refine oC (c2) rfl (ac .nil) ?_ | refine oK ?_) <;> refine aq42 ?_) | refine gc ?_ | refine ct ?_ | refine cf ?_ | refine sc ?_ ?_ <;> intro hc | refine rq rfl (rt .nil) ?_)
    rfl
set_option maxRecDepth 100000 in
theorem refGood_ (h : Pl.Head) (hh : okHead h) : PCalls Tryz.prog 95 [.agg (headT h)] (.v (.bool (good h))) := by
  have c1 := refMayName_ h.name hh.1
  have c2 := refMayValue_ h.value hh.2
  unfold good
  refine pcalls_of Tryz.func95 rfl rfl Tryz.ntmps95 rfl ?_
  cases h1 : mayName h.name
  all_goals
    rw [h1] at c1
    repeat' (first | refine rg 0 (aq39 ?_) | (refine rg 1 (aq40 ?_); refine oC (c1) rfl (ac .nil) ?_; refine aq41 ?_ <;> (first | refine oC (c1) rfl (ac .nil) ?_ | refine oC (c2) rfl (ac .nil) ?_ | refine oK ?_) <;> refine aq42 ?_) | refine gc ?_ | refine ct ?_ | refine cf ?_ | refine sc ?_ ?_ <;> intro hc | refine rq rfl (rt .nil) ?_)
    rfl
theorem mayName_size {s : ByteArray} (h : mayName s = true) : 1 ≤ s.size ∧ s.size ≤ 64 := by
  unfold mayName at h; simp at h; omega
theorem mayValue_size {s : ByteArray} (h : mayValue s = true) : s.size ≤ 512 := by
  unfold mayValue at h; simp at h; omega
theorem good_size {h : Pl.Head} (hg : good h = true) : 1 ≤ h.name.size ∧ h.name.size ≤ 64 ∧ h.value.size ≤ 512 := by
  unfold good at hg; rw [Bool.and_eq_true] at hg
  exact ⟨(mayName_size hg.1).1, (mayName_size hg.1).2, mayValue_size hg.2⟩
end Go.Proofs.YtpncekdhigappaaGreatDoor.Hd
