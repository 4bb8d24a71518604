/- Merged by bundles.py: SimPath1. -/
import Derived.Test.YtpncekdhigappaaGreatDoorV14
import Derived.Test.YtpncekdhigappaaGreatDoorV22
import Derived.Test.YtpncekdhigappaaGreatDoorV0
import Derived.Test.YtpncekdhigappaaGreatDoorV13
/- Targets: digits, bytes, what may be, what is said by %: walks. -/
namespace Go.Proofs.YtpncekdhigappaaGreatDoor.Pth
set_option linter.unusedVariables false
set_option linter.unusedSimpArgs false
open Go.RowKit Mem Sim Opn Str
theorem idx_any (l : List UInt8) (c : UInt8) : decide (0 ≤ Lib.indexByte l c) = l.any (· == c) := by
  rw [idx_list]
  by_cases h : l.findIdx (· == c) < l.length
  · rw [if_pos h, decide_eq_true (by omega)]
    exact (List.any_eq_true.2 (by
      have := List.findIdx_getElem (w := h)
      exact ⟨_, List.getElem_mem h, this⟩)).symm
  · rw [if_neg h, decide_eq_false (by decide)]
    refine (List.any_eq_false.2 fun x hx hc => h ?_).symm
    exact List.findIdx_lt_length_of_exists ⟨x, hx, hc⟩
theorem dig_ways (n : Nat) : n < 48 ∨ (48 ≤ n ∧ n ≤ 57) ∨ (57 < n ∧ n < 65) ∨ (65 ≤ n ∧ n ≤ 70) ∨ (70 < n ∧ n < 97) ∨ (97 ≤ n ∧ n ≤ 102) ∨ 102 < n := by omega
theorem let_ways (n : Nat) : n < 48 ∨ (48 ≤ n ∧ n ≤ 57) ∨ (57 < n ∧ n < 65) ∨ (65 ≤ n ∧ n ≤ 90) ∨ (90 < n ∧ n < 97) ∨ (97 ≤ n ∧ n ≤ 122) ∨ 122 < n := by omega
theorem ext_bs (l : List UInt8) (a b : Nat) : (bs l).extract a b = bs ((l.take b).drop a) := bs_inj (by
  rw [bs_toList, ByteArray.toList_eq, ByteArray.data_extract]
  simp [bs, List.extract_eq_take_drop, List.drop_take])
set_option maxRecDepth 100000 in
theorem digit_ (c : UInt8) : PCalls Tryz.prog 143 [.v (.int .u8 (c.toNat : Int))] (.v (.int .i64 (dig c))) := by
  have hlt := c.toNat_lt
  unfold dig
  generalize c.toNat = n at *
  refine pcalls_of Tryz.func143 rfl rfl Tryz.ntmps143 rfl ?_
  rcases dig_ways n with h | h | h | h | h | h | h
  all_goals
    repeat' (first | refine rg 0 (aq0 ?_) | refine rg 1 (aq90 ?_) | (refine rg 2 ?_; refine oMv ?_; (first | refine sp (po_dec rfl rfl rfl (by omega)) ?_ | refine sp (po_arith rfl rfl rfl (ar_sub (by first | rfl | (refine wrap_i64 ?_; omega) | (refine wrap_u8 ?_; omega)) rfl)) ?_); refine sp (po_conv_int rfl rfl (tyK rfl) (tyK rfl) (by (refine wrap_i64 ?_; omega))) ?_; refine aq0 ?_) | refine rg 3 (aq90 ?_) | (refine rg 4 ?_; refine oMv ?_; (first | refine sp (po_dec rfl rfl rfl (by omega)) ?_ | refine sp (po_arith rfl rfl rfl (ar_sub (by first | rfl | (refine wrap_i64 ?_; omega) | (refine wrap_u8 ?_; omega)) rfl)) ?_); refine sp (po_conv_int rfl rfl (tyK rfl) (tyK rfl) (by (refine wrap_i64 ?_; omega))) ?_; (first | refine sp (xinc rfl) ?_ | refine sp (po_arith rfl rfl rfl (ar_add (by first | rfl | (refine wrap_i64 ?_; omega)) rfl)) ?_); refine aq0 ?_) | refine rg 5 (aq90 ?_) | (refine rg 6 ?_; refine oMv ?_; (first | refine sp (po_dec rfl rfl rfl (by omega)) ?_ | refine sp (po_arith rfl rfl rfl (ar_sub (by first | rfl | (refine wrap_i64 ?_; omega) | (refine wrap_u8 ?_; omega)) rfl)) ?_); refine sp (po_conv_int rfl rfl (tyK rfl) (tyK rfl) (by (refine wrap_i64 ?_; omega))) ?_; (first | refine sp (xinc rfl) ?_ | refine sp (po_arith rfl rfl rfl (ar_add (by first | rfl | (refine wrap_i64 ?_; omega)) rfl)) ?_); refine aq0 ?_) | refine rg 7 (aq0 ?_) | refine gc ?_ | refine ct ?_ | refine cf ?_ | refine sc ?_ ?_ <;> intro hc | refine rq rfl (rt .nil) ?_)
    first
      | (rw [if_pos (by omega)]; rfl)
      | (rw [if_neg (by omega), if_pos (by omega)]; rfl)
      | (rw [if_neg (by omega), if_neg (by omega), if_pos (by omega)]; rfl)
      | (rw [if_neg (by omega), if_neg (by omega), if_neg (by omega)]; rfl)
set_option maxRecDepth 100000 in
theorem plain_ (c : UInt8) : PCalls Tryz.prog 144 [.v (.int .u8 (c.toNat : Int))] (.v (.bool (plainB c))) := by
  have hc := indexByte_ (bs [45, 46, 95, 126]) c
  have hi : decide (0 ≤ Lib.indexByte (bs [45, 46, 95, 126]).data.toList c) = ([45, 46, 95, 126] : List UInt8).any (· == c) := idx_any _ c
  unfold plainB
  generalize ([45, 46, 95, 126] : List UInt8).any (· == c) = b at *
  generalize Lib.indexByte (bs [45, 46, 95, 126]).data.toList c = z at *
  generalize c.toNat = n at *
  refine pcalls_of Tryz.func144 rfl rfl Tryz.ntmps144 rfl ?_
  rcases let_ways n with h | h | h | h | h | h | h
  all_goals
    repeat' (first | refine rg 0 (aq0 ?_) | (refine rg 1 ?_; refine oMv ?_; refine oCm ?_; refine oMv ?_; (first | refine oMv ?_ | refine oK ?_); (first | refine oCm ?_ | refine oK ?_); (first | refine oPt ?_ | refine oPf ?_); refine oMv ?_; (first | refine oMv ?_ | refine oK ?_); (first | refine oCm ?_ | refine oK ?_); (first | refine oMv ?_ | refine oK ?_); (first | refine oMv ?_ | refine oK ?_); (first | refine oCm ?_ | refine oK ?_); (first | refine oPt ?_ | refine oPf ?_ | refine oK ?_); (first | refine oPt ?_ | refine oPf ?_); refine oMv ?_; (first | refine oMv ?_ | refine oK ?_); (first | refine oCm ?_ | refine oK ?_); (first | refine oMv ?_ | refine oK ?_); (first | refine oMv ?_ | refine oK ?_); (first | refine oCm ?_ | refine oK ?_); (first | refine oPt ?_ | refine oPf ?_ | refine oK ?_); (first | refine oPt ?_ | refine oPf ?_); refine oMv ?_; (first | refine oMv ?_ | refine oK ?_) <;> (first | refine oC (hc) rfl (ac (ac .nil)) ?_ | refine oK ?_) <;> refine aq35 ?_) | refine gc ?_ | refine ct ?_ | refine cf ?_ | refine sc ?_ ?_ <;> intro hc | refine rq rfl (rt .nil) ?_)
    refine eq_b ?_
    subst hi
    rw [Bool.eq_iff_iff]
    simp at *; try omega
set_option maxRecDepth 100000 in
theorem hidden_ (c : UInt8) : PCalls Tryz.prog 107 [.v (.int .u8 (c.toNat : Int))] (.v (.bool (hiddenB c))) := by
  unfold hiddenB
  generalize c.toNat = n at *
  refine pcalls_of Tryz.func107 rfl rfl Tryz.ntmps107 rfl ?_
  repeat' (first | refine rg 0 (aq0 ?_) | (refine rg 1 ?_; refine oMv ?_; refine oCm ?_; refine oMv ?_; (first | refine oMv ?_ | refine oK ?_ | ((refine ssp (fun hc => ?_) (fun hc => ?_)) <;> first | refine oMv ?_ | refine oK ?_)) <;> refine aq38 ?_ <;> (first | refine oMv ?_ | refine oK ?_ | ((refine ssp (fun hc => ?_) (fun hc => ?_)) <;> first | refine oMv ?_ | refine oK ?_)) <;> refine aq38 ?_ <;> (first | refine oMv ?_ | refine oK ?_ | ((refine ssp (fun hc => ?_) (fun hc => ?_)) <;> first | refine oMv ?_ | refine oK ?_)) <;> refine aq35 ?_) | refine gc ?_ | refine ct ?_ | refine cf ?_ | refine sc ?_ ?_ <;> intro hc | refine rq rfl (rt .nil) ?_)
  all_goals
    refine eq_b ?_
    rw [Bool.eq_iff_iff]
    simp at *; try omega
set_option maxRecDepth 100000 in
theorem none_ (c : UInt8) : PCalls Tryz.prog 108 [.v (.int .u8 (c.toNat : Int))] (.v (.bool false)) := by
  refine pcalls_of Tryz.func108 rfl rfl Tryz.ntmps108 rfl ?_
  repeat' (first | refine rg 0 (aq0 ?_) | refine rg 1 (aq0 ?_) | refine gc ?_ | refine ct ?_ | refine cf ?_ | refine sc ?_ ?_ <;> intro hc | refine rq rfl (rt .nil) ?_)
  rfl
end Go.Proofs.YtpncekdhigappaaGreatDoor.Pth
