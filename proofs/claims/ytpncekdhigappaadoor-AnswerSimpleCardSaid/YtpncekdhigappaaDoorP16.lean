/- Merged by bundles.py: SimHd4, SimStr. -/
import Derived.Test.YtpncekdhigappaaDoorP15
import Derived.Test.YtpncekdhigappaaDoorP13
import Derived.Test.YtpncekdhigappaaDoorP14
/- Headers: letters made small: walks. -/
namespace Go.Proofs.YtpncekdhigappaaDoor.Hd
set_option linter.unusedVariables false
set_option linter.unusedSimpArgs false
open Go.RowKit Mem Sim Opn
theorem byt24 : byE Tryd.prog 24 = some 5 := by kernel_rfl
def lowU (b : UInt8) : UInt8 := if 65 ≤ b.toNat ∧ b.toNat ≤ 90 then b + 32 else b
def small (s : ByteArray) : ByteArray := bs (s.toList.map lowU)
/-- the first k letters made small -/
def mix (l : List UInt8) (k : Nat) : List UInt8 := (l.take k).map lowU ++ l.drop k
theorem mix0 (l : List UInt8) : mix l 0 = l := by simp [mix]
theorem mix_len (l : List UInt8) (k : Nat) : (mix l k).length = l.length := by simp [mix]; omega
theorem mix_all (l : List UInt8) {k : Nat} (h : l.length ≤ k) : mix l k = l.map lowU := by
  unfold mix; rw [List.take_of_length_le h, List.drop_of_length_le h]; simp
theorem mix_at (l : List UInt8) {k : Nat} (h : k < l.length) : (mix l k)[k]? = some l[k] := by
  unfold mix
  rw [List.getElem?_append_right (by simp; omega)]
  simp [Nat.min_eq_left (Nat.le_of_lt h), h]
theorem mix_next (l : List UInt8) {k : Nat} (h : k < l.length) : mix l (k + 1) = (mix l k).set k (lowU l[k]) := by
  unfold mix
  rw [List.set_append_right _ _ (by simp; omega)]
  simp only [List.length_map, List.length_take, Nat.min_eq_left (Nat.le_of_lt h), Nat.sub_self]
  rw [List.drop_eq_getElem_cons h, List.set_cons_zero, List.take_succ_eq_append_getElem h, List.map_append, List.append_assoc]; rfl
theorem low_up {b : UInt8} (h : 65 ≤ b.toNat ∧ b.toNat ≤ 90) : ((lowU b).toNat : Int) = (b.toNat : Int) + 32 := by
  unfold lowU; rw [if_pos h, UInt8.toNat_add]
  have : (32 : UInt8).toNat = 32 := rfl
  omega
theorem low_no {b : UInt8} (h : ¬ (65 ≤ b.toNat ∧ b.toNat ≤ 90)) : lowU b = b := by unfold lowU; rw [if_neg h]
def mixR (l : List UInt8) (k : Nat) : List (List T) := (mix l k).map byteT
theorem mixR_at (l : List UInt8) {k : Nat} (h : k < l.length) : (mixR l k)[k]? = some (byteT l[k]) := by
  unfold mixR; rw [List.getElem?_map, mix_at l h]; rfl
theorem mixR_len (l : List UInt8) (k : Nat) : (mixR l k).length = l.length := by unfold mixR; rw [List.length_map, mix_len]
theorem mixR_up (l : List UInt8) {k : Nat} (h : k < l.length) (hb : 65 ≤ l[k].toNat ∧ l[k].toNat ≤ 90) : (mixR l k).set k [T.v (.int .u8 ((l[k].toNat : Int) + 32))] = mixR l (k + 1) := by
  unfold mixR; rw [mix_next l h, List.map_set]; unfold byteT; rw [low_up hb]
theorem mixR_no (l : List UInt8) {k : Nat} (h : k < l.length) (hb : ¬ (65 ≤ l[k].toNat ∧ l[k].toNat ≤ 90)) : mixR l k = mixR l (k + 1) := by
  unfold mixR; rw [mix_next l h, low_no hb]
  congr 1
  exact (set_self (mix_at l h)).symm
def Sm (l : List UInt8) (k : Nat) : St := ⟨[(3, .own 1000 l.length), (8, .own 1000 l.length), (9, .t (.v (.int .i64 (l.length : Int)))), (10, .t (.v (.int .i64 (k : Int))))], [], [(1000, ⟨5, 1, mixR l k⟩)]⟩
def SmR (l : List UInt8) (k : Nat) : St := ⟨[(3, .own 1000 l.length), (4, .t (.v (.int .i64 (k : Int))))], [], [(1000, ⟨5, 1, mixR l k⟩)]⟩
theorem up3 (n : Nat) : (65 ≤ n ∧ n ≤ 90) ∨ n < 65 ∨ 90 < n := by omega
theorem bytes0 (l : List UInt8) : (⟨5, 1, l.map byteT⟩ : Own) = ⟨5, 1, mixR l 0⟩ := by unfold mixR; rw [mix0]
set_option maxRecDepth 100000 in
theorem small_ (s : ByteArray) (hs : s.size ≤ maxLen) : PCalls Tryd.prog 55 [.v (.string s)] (.v (.string (small s))) := by
  have hl : s.toList.length = s.size := toList_len s
  have hb : (s.toList.map byteT).length = s.toList.length := List.length_map _
  have hml : s.toList.length ≤ 9223372036854775807 := by unfold maxLen at hs; omega
  refine pcalls_of Tryd.func55 rfl rfl Tryd.ntmps55 rfl ?_
  unfold small
  repeat' (first | (refine rg 0 ?_; refine oAs ?_; refine oN ?_) | (refine rg 1 ?_; refine oMv ?_; refine sops_str_bytes 1000 (.free rfl rfl) rfl rfl rfl rfl (tyR rfl) byt24 (by first | assumption | (simp [maxLen] at *; omega)) rfl ?_; refine oAs ?_; refine oN ?_) | (refine rg 2 ?_; refine oMv ?_; (first | refine sp (po_len_own rfl rfl (tyS rfl)) ?_ | refine sp (pln rfl (tyS rfl)) ?_); refine oMv ?_; refine oN ?_) | refine gc ?_ | refine ct ?_ | refine cf ?_ | refine swp_cond rfl (fun hc => ?_) (fun hc => ?_) | refine rq rfl (rt .nil) ?_)
  refine swp_for (Sm s.toList) (fun _ => True) s.toList.length (weak_sub (.cons rfl (by first | rfl | (first | rw [hb] | exact bytes0 s.toList)) rfl (.cons rfl (by first | rfl | (first | rw [hb] | exact bytes0 s.toList)) rfl (.cons rfl (by first | rfl | (first | rw [hb] | exact bytes0 s.toList)) rfl (.cons rfl (by first | rfl | (first | rw [hb] | exact bytes0 s.toList)) rfl .nil)))) .nil (.cons rfl (by first | rfl | (first | rw [hb] | exact bytes0 s.toList)) .nil)) trivial ?_
  intro k hk _
  unfold Sm
  have hq := mixR_len s.toList k
  have hq' := hq.symm
  by_cases hlt : k < s.toList.length
  · have hrow := mixR_at s.toList hlt
    rcases up3 s.toList[k].toNat with h1 | h1 | h1
    · have hn := mixR_up s.toList hlt h1
      repeat' (first | refine for_next hlt (weak_sub (.cons rfl (by first | rfl | (exact congrArg (Own.mk _ 1) hn)) rfl (.cons rfl (by first | rfl | (exact congrArg (Own.mk _ 1) hn)) rfl (.cons rfl (by first | rfl | (exact congrArg (Own.mk _ 1) hn)) rfl (.cons rfl (by first | rfl | (exact congrArg (Own.mk _ 1) hn)) rfl .nil)))) .nil (.cons rfl (by first | rfl | (exact congrArg (Own.mk _ 1) hn)) .nil)) trivial | (refine rg 3 ?_; refine oCm ?_; refine oN ?_) | (refine rg 4 ?_; refine oMv ?_; (first | refine sp (ixo rfl) ?_ | refine sp (pix rfl (tyS rfl)) ?_); (first | refine oLb ?_ | refine oLd ?_ | refine sp (ldo rfl) ?_); refine oAs ?_; refine oAs ?_; refine oN ?_) | (refine rg 5 ?_; refine oMv ?_; refine oCm ?_; refine oMv ?_; (first | refine oMv ?_ | refine oK ?_ | ((refine ssp (fun hc => ?_) (fun hc => ?_)) <;> first | refine oMv ?_ | refine oK ?_)) <;> (first | refine oCm ?_ | refine oK ?_) <;> (first | refine oPt ?_ | refine oPf ?_) <;> (refine oN ?_)) | (refine rg 6 ?_; refine oMv ?_; refine oMv ?_; refine oMv ?_; (first | refine sp (xinc rfl) ?_ | refine sp (po_arith rfl rfl rfl (ar_add (by first | rfl | (refine wrap_i64 ?_; omega) | (refine wrap_u8 ?_; omega)) rfl)) ?_); (first | refine sp (ixo rfl) ?_ | refine sp (pix rfl (tyS rfl)) ?_); (first | refine oS ?_ | refine sso ?_); refine oN ?_) | (refine rg 7 ?_; (first | refine sp (xinc rfl) ?_ | refine sp (po_arith rfl rfl rfl (ar_add (by first | rfl | (refine wrap_i64 ?_; omega) | (refine wrap_u8 ?_; omega)) rfl)) ?_); refine oMv ?_; refine oN ?_) | refine gc ?_ | refine ct ?_ | refine cf ?_ | refine swp_cond rfl (fun hc => ?_) (fun hc => ?_) | refine rq rfl (rt .nil) ?_)
    all_goals
      have hn := mixR_no s.toList hlt (fun h => by omega)
      repeat' (first | refine for_next hlt (weak_sub (.cons rfl (by first | rfl | (exact congrArg (Own.mk _ 1) hn)) rfl (.cons rfl (by first | rfl | (exact congrArg (Own.mk _ 1) hn)) rfl (.cons rfl (by first | rfl | (exact congrArg (Own.mk _ 1) hn)) rfl (.cons rfl (by first | rfl | (exact congrArg (Own.mk _ 1) hn)) rfl .nil)))) .nil (.cons rfl (by first | rfl | (exact congrArg (Own.mk _ 1) hn)) .nil)) trivial | (refine rg 3 ?_; refine oCm ?_; refine oN ?_) | (refine rg 4 ?_; refine oMv ?_; (first | refine sp (ixo rfl) ?_ | refine sp (pix rfl (tyS rfl)) ?_); (first | refine oLb ?_ | refine oLd ?_ | refine sp (ldo rfl) ?_); refine oAs ?_; refine oAs ?_; refine oN ?_) | (refine rg 5 ?_; refine oMv ?_; refine oCm ?_; refine oMv ?_; (first | refine oMv ?_ | refine oK ?_ | ((refine ssp (fun hc => ?_) (fun hc => ?_)) <;> first | refine oMv ?_ | refine oK ?_)) <;> (first | refine oCm ?_ | refine oK ?_) <;> (first | refine oPt ?_ | refine oPf ?_) <;> (refine oN ?_)) | (refine rg 7 ?_; (first | refine sp (xinc rfl) ?_ | refine sp (xadd rfl) ?_); refine oMv ?_; refine oN ?_) | refine gc ?_ | refine ct ?_ | refine cf ?_ | refine swp_cond rfl (fun hc => ?_) (fun hc => ?_) | refine rq rfl (rt .nil) ?_)
  · obtain rfl : k = s.toList.length := by omega
    have hr : mixR s.toList s.toList.length = (s.toList.map lowU).map byteT := by unfold mixR; rw [mix_all s.toList (Nat.le_refl _)]
    rw [hr]
    repeat' (first | (refine rg 3 ?_; refine oCm ?_; refine oN ?_) | (refine rg 8 ?_; refine oMv ?_; refine sp (po_bytes_str rfl rfl (by first | exact .t _ | exact .own rfl (by first | rfl | assumption | omega | (simp; done) | (simp; omega) | (simp at *; omega)) | exact .nil _ | exact .emp _) byt24 (tyR rfl)) ?_; refine oAs ?_; refine oN ?_) | refine gc ?_ | refine ct ?_ | refine cf ?_ | refine swp_cond rfl (fun hc => ?_) (fun hc => ?_) | refine rq rfl (rt .nil) ?_)
    rfl
set_option maxRecDepth 100000 in
theorem refSmall_ (s : ByteArray) (hs : s.size ≤ maxLen) : PCalls Tryd.prog 36 [.v (.string s)] (.v (.string (small s))) := by
  have hl : s.toList.length = s.size := toList_len s
  have hb : (s.toList.map byteT).length = s.toList.length := List.length_map _
  have hml : s.toList.length ≤ 9223372036854775807 := by unfold maxLen at hs; omega
  refine pcalls_of Tryd.func36 rfl rfl Tryd.ntmps36 rfl ?_
  unfold small
  repeat' (first | (refine rg 0 ?_; refine oAs ?_; refine oN ?_) | (refine rg 1 ?_; refine oMv ?_; refine sops_str_bytes 1000 (.free rfl rfl) rfl rfl rfl rfl (tyR rfl) byt24 (by first | assumption | (simp [maxLen] at *; omega)) rfl ?_; refine oAs ?_; refine oN ?_) | (refine rg 2 ?_; refine oAs ?_; refine oN ?_) | refine gc ?_ | refine ct ?_ | refine cf ?_ | refine swp_cond rfl (fun hc => ?_) (fun hc => ?_) | refine rq rfl (rt .nil) ?_)
  refine swp_for (SmR s.toList) (fun _ => True) s.toList.length (weak_sub (.cons rfl (by first | rfl | (first | rw [hb] | exact bytes0 s.toList)) rfl (.cons rfl (by first | rfl | (first | rw [hb] | exact bytes0 s.toList)) rfl .nil)) .nil (.cons rfl (by first | rfl | (first | rw [hb] | exact bytes0 s.toList)) .nil)) trivial ?_
  intro k hk _
  unfold SmR
  have hq := mixR_len s.toList k
  have hq' := hq.symm
  by_cases hlt : k < s.toList.length
  · have hrow := mixR_at s.toList hlt
    rcases up3 s.toList[k].toNat with h1 | h1 | h1
    · have hn := mixR_up s.toList hlt h1
      repeat' (first | refine for_next hlt (weak_sub (.cons rfl (by first | rfl | (exact congrArg (Own.mk _ 1) hn)) rfl (.cons rfl (by first | rfl | (exact congrArg (Own.mk _ 1) hn)) rfl .nil)) .nil (.cons rfl (by first | rfl | (exact congrArg (Own.mk _ 1) hn)) .nil)) trivial | (refine rg 3 ?_; refine oMv ?_; refine oMv ?_; (first | refine sp (po_len_own rfl rfl (tyS rfl)) ?_ | refine sp (pln rfl (tyS rfl)) ?_); refine oCm ?_; refine oN ?_) | (refine rg 5 ?_; refine oMv ?_; refine oMv ?_; (first | refine sp (ixo rfl) ?_ | refine sp (pix rfl (tyS rfl)) ?_); (first | refine oLb ?_ | refine oLd ?_ | refine sp (ldo rfl) ?_); refine oCm ?_; refine oMv ?_; (first | refine oMv ?_ | refine oK ?_ | ((refine ssp (fun hc => ?_) (fun hc => ?_)) <;> first | refine oMv ?_ | refine oK ?_)) <;> (first | refine oMv ?_ | refine oK ?_) <;> (first | refine sp (ixo rfl) ?_ | refine sp (pix rfl (tyS rfl)) ?_ | refine oK ?_) <;> (first | refine oLb ?_ | refine oLd ?_ | refine sp (ldo rfl) ?_ | refine oK ?_) <;> (first | refine oCm ?_ | refine oK ?_) <;> (first | refine oPt ?_ | refine oPf ?_) <;> (refine oN ?_)) | (refine rg 6 ?_; refine oMv ?_; refine oMv ?_; refine oMv ?_; refine oMv ?_; (first | refine sp (ixo rfl) ?_ | refine sp (pix rfl (tyS rfl)) ?_); (first | refine oLb ?_ | refine oLd ?_ | refine sp (ldo rfl) ?_); (first | refine sp (xinc rfl) ?_ | refine sp (po_arith rfl rfl rfl (ar_add (by first | rfl | (refine wrap_i64 ?_; omega) | (refine wrap_u8 ?_; omega)) rfl)) ?_); (first | refine sp (ixo rfl) ?_ | refine sp (pix rfl (tyS rfl)) ?_); (first | refine oS ?_ | refine sso ?_); refine oN ?_) | (refine rg 4 ?_; refine oMv ?_; (first | refine sp (xinc rfl) ?_ | refine sp (po_arith rfl rfl rfl (ar_add (by first | rfl | (refine wrap_i64 ?_; omega) | (refine wrap_u8 ?_; omega)) rfl)) ?_); refine oAs ?_; refine oN ?_) | refine gc ?_ | refine ct ?_ | refine cf ?_ | refine swp_cond rfl (fun hc => ?_) (fun hc => ?_) | refine rq rfl (rt .nil) ?_)
    all_goals
      have hn := mixR_no s.toList hlt (fun h => by omega)
      repeat' (first | refine for_next hlt (weak_sub (.cons rfl (by first | rfl | (exact congrArg (Own.mk _ 1) hn)) rfl (.cons rfl (by first | rfl | (exact congrArg (Own.mk _ 1) hn)) rfl .nil)) .nil (.cons rfl (by first | rfl | (exact congrArg (Own.mk _ 1) hn)) .nil)) trivial | (refine rg 3 ?_; refine oMv ?_; refine oMv ?_; (first | refine sp (po_len_own rfl rfl (tyS rfl)) ?_ | refine sp (pln rfl (tyS rfl)) ?_); refine oCm ?_; refine oN ?_) | (refine rg 5 ?_; refine oMv ?_; refine oMv ?_; (first | refine sp (ixo rfl) ?_ | refine sp (pix rfl (tyS rfl)) ?_); (first | refine oLb ?_ | refine oLd ?_ | refine sp (ldo rfl) ?_); refine oCm ?_; refine oMv ?_; (first | refine oMv ?_ | refine oK ?_ | ((refine ssp (fun hc => ?_) (fun hc => ?_)) <;> first | refine oMv ?_ | refine oK ?_)) <;> (first | refine oMv ?_ | refine oK ?_) <;> (first | refine sp (ixo rfl) ?_ | refine sp (pix rfl (tyS rfl)) ?_ | refine oK ?_) <;> (first | refine oLb ?_ | refine oLd ?_ | refine sp (ldo rfl) ?_ | refine oK ?_) <;> (first | refine oCm ?_ | refine oK ?_) <;> (first | refine oPt ?_ | refine oPf ?_) <;> (refine oN ?_)) | (refine rg 4 ?_; refine oMv ?_; (first | refine sp (xinc rfl) ?_ | refine sp (xadd rfl) ?_); refine oAs ?_; refine oN ?_) | refine gc ?_ | refine ct ?_ | refine cf ?_ | refine swp_cond rfl (fun hc => ?_) (fun hc => ?_) | refine rq rfl (rt .nil) ?_)
  · obtain rfl : k = s.toList.length := by omega
    have hr : mixR s.toList s.toList.length = (s.toList.map lowU).map byteT := by unfold mixR; rw [mix_all s.toList (Nat.le_refl _)]
    rw [hr]
    repeat' (first | (refine rg 3 ?_; refine oMv ?_; refine oMv ?_; (first | refine sp (po_len_own rfl rfl (tyS rfl)) ?_ | refine sp (pln rfl (tyS rfl)) ?_); refine oCm ?_; refine oN ?_) | (refine rg 7 ?_; refine oMv ?_; refine sp (po_bytes_str rfl rfl (by first | exact .t _ | exact .own rfl (by first | rfl | assumption | omega | (simp; done) | (simp; omega) | (simp at *; omega)) | exact .nil _ | exact .emp _) byt24 (tyR rfl)) ?_; refine oAs ?_; refine oN ?_) | refine gc ?_ | refine ct ?_ | refine cf ?_ | refine swp_cond rfl (fun hc => ?_) (fun hc => ?_) | refine rq rfl (rt .nil) ?_)
    rfl
end Go.Proofs.YtpncekdhigappaaDoor.Hd

/- Functions of the library over texts: walks. -/
namespace Go.Proofs.YtpncekdhigappaaDoor.Str
set_option linter.unusedVariables false
set_option linter.unusedSimpArgs false
open Go.RowKit Mem Sim
/-- where a byte stands first; else the length -/
def fidx (s : ByteArray) (c : UInt8) : Nat := s.toList.findIdx (· == c)
theorem idx_list (c : UInt8) : ∀ l : List UInt8, Lib.indexByte l c = if l.findIdx (· == c) < l.length then ((l.findIdx (· == c) : Nat) : Int) else -1
  | [] => by simp [Lib.indexByte]
  | b :: l => by
    have ih := idx_list c l
    unfold Lib.indexByte
    rw [List.findIdx_cons]
    cases hb : b == c with
    | true => simp
    | false =>
      simp only [Bool.false_eq_true, if_false, cond_false, List.length_cons]
      rw [ih]
      by_cases h : l.findIdx (· == c) < l.length
      · rw [if_pos h, if_neg (by simp), if_pos (by omega)]; omega
      · rw [if_neg h, if_pos (by rfl), if_neg (by omega)]
theorem idx_eq (s : ByteArray) (c : UInt8) : Lib.indexByte s.data.toList c = if fidx s c < s.size then ((fidx s c : Nat) : Int) else -1 := by
  rw [idx_list]; unfold fidx
  rw [ByteArray.toList_eq]; rfl
theorem u8_back (c : UInt8) : ((c.toNat : Int)).toNat.toUInt8 = c := by simp
theorem ext_idx (s : ByteArray) (c : UInt8) (w : World) : (callFunc 81 [Value.string s, .int .u8 (c.toNat : Int)].toArray).run Tryd.prog w = .ok (.value (.int .i64 (Lib.indexByte s.data.toList c))) w := by
  rw [run_callFunc_extern (e := Extern.BytealgIndexByte.indexByte) Tryd.func81 (by kernel_rfl) (by kernel_rfl) (by kernel_rfl) (by kernel_rfl)]
  have := Lib.run_indexByteString (P := Tryd.prog) s (c.toNat : Int) w
  rw [u8_back] at this
  rw [show [Value.string s, .int .u8 (c.toNat : Int)].toArray = #[Value.string s, .int .u8 (c.toNat : Int)] from rfl, this]; rfl
set_option maxRecDepth 100000 in
theorem idxb_ (s : ByteArray) (c : UInt8) : PCalls Tryd.prog 70 [.v (.string s), .v (.int .u8 (c.toNat : Int))] (.v (.int .i64 (Lib.indexByte s.data.toList c))) := by
  refine pcalls_of Tryd.func70 rfl rfl Tryd.ntmps70 rfl ?_
  repeat' (first | (refine rg 0 ?_; refine oAs ?_; refine oN ?_) | (refine rg 1 ?_; refine oMv ?_; refine oMv ?_; refine sp (po_ext (ext_idx s c) rfl (ac (ac .nil))) ?_; refine oAs ?_; refine oN ?_) | refine gc ?_ | refine ct ?_ | refine cf ?_ | refine swp_cond rfl (fun hc => ?_) (fun hc => ?_) | refine rq rfl (rt .nil) ?_)
  rfl
set_option maxRecDepth 100000 in
theorem indexByte_ (s : ByteArray) (c : UInt8) : PCalls Tryd.prog 84 [.v (.string s), .v (.int .u8 (c.toNat : Int))] (.v (.int .i64 (Lib.indexByte s.data.toList c))) := by
  refine pcalls_of Tryd.func84 rfl rfl Tryd.ntmps84 rfl ?_
  repeat' (first | (refine rg 0 ?_; refine oAs ?_; refine oN ?_) | (refine rg 1 ?_; refine oMv ?_; refine oMv ?_; refine oC (idxb_ s c) rfl (ac (ac .nil)) ?_; refine oAs ?_; refine oN ?_) | refine gc ?_ | refine ct ?_ | refine cf ?_ | refine swp_cond rfl (fun hc => ?_) (fun hc => ?_) | refine rq rfl (rt .nil) ?_)
  rfl
set_option maxRecDepth 100000 in
theorem index1_ (s : ByteArray) (c : UInt8) : PCalls Tryd.prog 60 [.v (.string s), .v (.string ⟨#[c]⟩)] (.v (.int .i64 (Lib.indexByte s.data.toList c))) := by
  have z0 : decide ((((⟨#[c]⟩ : ByteArray).size : Nat) : Int) = 0) = false := rfl
  have z1 : decide ((((⟨#[c]⟩ : ByteArray).size : Nat) : Int) = 1) = true := rfl
  have z2 : 0 < (⟨#[c]⟩ : ByteArray).size := Nat.one_pos
  refine pcalls_of Tryd.func60 rfl rfl Tryd.ntmps60 rfl ?_
  by_cases he : (⟨#[c]⟩ : ByteArray) = s
  · have he' : decide ((⟨#[c]⟩ : ByteArray) = s) = true := by simp [he]
    repeat' (first | (refine rg 0 ?_; refine oAs ?_; refine oN ?_) | (refine rg 1 ?_; refine oMv ?_; refine sp (po_len_str rfl rfl (tyR rfl)) ?_; refine oAs ?_; refine oN ?_) | (refine rg 2 ?_; refine oMv ?_; refine oCm ?_; refine oMv ?_; (first | refine oMv ?_ | refine oK ?_ | ((refine ssp (fun hc => ?_) (fun hc => ?_)) <;> first | refine oMv ?_ | refine oK ?_)) <;> (first | refine oMv ?_ | refine oK ?_) <;> (first | refine sp (po_str rfl rfl rfl rfl) ?_ | refine oK ?_) <;> (first | refine oPt ?_ | refine oPf ?_) <;> (refine oAs ?_) <;> (refine oN ?_)) | (refine rg 3 ?_; refine oAs ?_; refine oN ?_) | refine gc ?_ | refine ct ?_ | refine cf ?_ | refine swp_cond rfl (fun hc => ?_) (fun hc => ?_) | refine rq rfl (rt .nil) ?_)
    refine eq_i ?_
    subst he
    simp [Lib.indexByte]
  · have he' : decide ((⟨#[c]⟩ : ByteArray) = s) = false := by simp [he]
    repeat' (first | (refine rg 0 ?_; refine oAs ?_; refine oN ?_) | (refine rg 1 ?_; refine oMv ?_; refine sp (po_len_str rfl rfl (tyR rfl)) ?_; refine oAs ?_; refine oN ?_) | (refine rg 2 ?_; refine oMv ?_; refine oCm ?_; refine oMv ?_; (first | refine oMv ?_ | refine oK ?_ | ((refine ssp (fun hc => ?_) (fun hc => ?_)) <;> first | refine oMv ?_ | refine oK ?_)) <;> (first | refine oMv ?_ | refine oK ?_) <;> (first | refine sp (po_str rfl rfl rfl rfl) ?_ | refine oK ?_) <;> (first | refine oPt ?_ | refine oPf ?_) <;> (refine oAs ?_) <;> (refine oN ?_)) | (refine rg 4 ?_; refine oMv ?_; refine oCm ?_; refine oAs ?_; refine oN ?_) | (refine rg 5 ?_; refine oMv ?_; refine oMv ?_; refine sp (po_index_str (k := 0) rfl rfl rfl (tyR rfl) (by first | rfl | omega) (by first | assumption | omega)) ?_; refine oC (idxb_ s c) rfl (ac (ac .nil)) ?_; refine oAs ?_; refine oN ?_) | refine gc ?_ | refine ct ?_ | refine cf ?_ | refine swp_cond rfl (fun hc => ?_) (fun hc => ?_) | refine rq rfl (rt .nil) ?_)
    rfl
def cutT (s : ByteArray) (c : UInt8) : T := if fidx s c < s.size then .tup [.v (.string (s.extract 0 (fidx s c))), .v (.string (s.extract (fidx s c + 1) s.size)), .v (.bool true)] else .tup [.v (.string s), .v (.string ⟨#[]⟩), .v (.bool false)]
set_option maxRecDepth 100000 in
theorem cut1_ (s : ByteArray) (c : UInt8) (hs : s.size ≤ maxLen) : PCalls Tryd.prog 48 [.v (.string s), .v (.string ⟨#[c]⟩)] (cutT s c) := by
  unfold maxLen at hs
  have hI := index1_ s c
  rw [idx_eq] at hI
  unfold cutT
  refine pcalls_of Tryd.func48 rfl rfl Tryd.ntmps48 rfl ?_
  by_cases h : fidx s c < s.size
  · rw [if_pos h] at hI
    rw [if_pos h]
    generalize fidx s c = n at *
    repeat' (first | (refine rg 0 ?_; refine oAs ?_; refine oAs ?_; refine oAs ?_; refine oN ?_) | (refine rg 1 ?_; refine oMv ?_; refine oMv ?_; refine oC (hI) rfl (ac (ac .nil)) ?_; refine oAs ?_; refine oN ?_) | (refine rg 2 ?_; refine oMv ?_; refine oCm ?_; refine oN ?_) | (refine rd 3 ?_; refine dMv ?_; refine dMv ?_; refine dp (po_slice_str rfl rfl (tyR rfl) (by first | rfl | exact ⟨_, rfl⟩) (by first | rfl | exact ⟨_, rfl⟩) (by omega) (by omega)) ?_; refine dMv ?_; refine dMv ?_; refine dMv ?_; refine dp (po_len_str rfl rfl (tyR rfl)) ?_; (first | refine dp (xinc rfl) ?_ | refine dp (xadd rfl) ?_); refine dp (po_slice_str rfl rfl (tyR rfl) (by first | rfl | exact ⟨_, rfl⟩) (by first | rfl | exact ⟨_, rfl⟩) (by omega) (by omega)) ?_; refine dAs ?_; refine dAs ?_; refine dAs ?_; refine dN ?_; refine oN ?_) | refine gc ?_ | refine ct ?_ | refine cf ?_ | refine swp_cond rfl (fun hc => ?_) (fun hc => ?_) | refine rq rfl (rt (rt (rt .nil))) ?_)
    rfl
  · rw [if_neg h] at hI
    rw [if_neg h]
    repeat' (first | (refine rg 0 ?_; refine oAs ?_; refine oAs ?_; refine oAs ?_; refine oN ?_) | (refine rg 1 ?_; refine oMv ?_; refine oMv ?_; refine oC (hI) rfl (ac (ac .nil)) ?_; refine oAs ?_; refine oN ?_) | (refine rg 2 ?_; refine oMv ?_; refine oCm ?_; refine oN ?_) | (refine rg 4 ?_; refine oMv ?_; refine oAs ?_; refine oAs ?_; refine oAs ?_; refine oN ?_) | refine gc ?_ | refine ct ?_ | refine cf ?_ | refine swp_cond rfl (fun hc => ?_) (fun hc => ?_) | refine rq rfl (rt (rt (rt .nil))) ?_)
    rfl
set_option maxRecDepth 100000 in
theorem cut_ (s : ByteArray) (c : UInt8) (hs : s.size ≤ maxLen) : PCalls Tryd.prog 26 [.v (.string s), .v (.string ⟨#[c]⟩)] (cutT s c) := by
  have hI := cut1_ s c hs
  refine pcalls_of Tryd.func26 rfl rfl Tryd.ntmps26 rfl ?_
  unfold cutT at *
  by_cases h : fidx s c < s.size
  · rw [if_pos h] at hI
    rw [if_pos h]
    repeat' (first | (refine rg 0 ?_; refine oAs ?_; refine oAs ?_; refine oAs ?_; refine oN ?_) | (refine rg 1 ?_; refine oMv ?_; refine oMv ?_; refine oC (hI) rfl (ac (ac .nil)) ?_; refine oEx ?_; refine oEx ?_; refine oEx ?_; refine oAs ?_; refine oAs ?_; refine oAs ?_; refine oN ?_) | refine gc ?_ | refine ct ?_ | refine cf ?_ | refine swp_cond rfl (fun hc => ?_) (fun hc => ?_) | refine rq rfl (rt (rt (rt .nil))) ?_)
    rfl
  · rw [if_neg h] at hI
    rw [if_neg h]
    repeat' (first | (refine rg 0 ?_; refine oAs ?_; refine oAs ?_; refine oAs ?_; refine oN ?_) | (refine rg 1 ?_; refine oMv ?_; refine oMv ?_; refine oC (hI) rfl (ac (ac .nil)) ?_; refine oEx ?_; refine oEx ?_; refine oEx ?_; refine oAs ?_; refine oAs ?_; refine oAs ?_; refine oN ?_) | refine gc ?_ | refine ct ?_ | refine cf ?_ | refine swp_cond rfl (fun hc => ?_) (fun hc => ?_) | refine rq rfl (rt (rt (rt .nil))) ?_)
    rfl
end Go.Proofs.YtpncekdhigappaaDoor.Str
