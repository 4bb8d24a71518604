/- Merged by bundles.py: SimPath6, SimPath7. -/
import Derived.Test.YtkmhaijefpgfiaaDoorQ13
import Derived.Test.YtkmhaijefpgfiaaDoorQ15
/- Targets: path.Normal and what stands on it: walks. -/
namespace Go.Proofs.YtkmhaijefpgfiaaDoor.Pth
set_option linter.unusedVariables false
set_option linter.unusedSimpArgs false
open Go.RowKit Mem Sim Opn Str
theorem bs_cat (a b : L8) : bs a ++ bs b = bs (a ++ b) := bs_inj (by rw [toList_append, bs_toList, bs_toList, bs_toList])
set_option maxRecDepth 100000 in
theorem joined_ (dir : Bool) (l : List L8) (hn : tot l ≤ 1000000) : PCalls Tryd.prog 25 [.v (.bool dir), .sl 1 (l.map strT)] (.v (.string (bs (joinL dir l)))) := by
  have hm : (l.map strT).length = l.length := List.length_map _
  have hl : l.length ≤ 1000000 := by unfold tot at hn; omega
  have hi := inter_len l
  have h47 : (⟨#[47]⟩ : ByteArray).toList = [47] := bs_toList [47]
  have hj := Jn.join_ l ⟨#[47]⟩ hl (by rw [h47]; omega)
  rw [h47] at hj
  have hsz := bs_size (([47] : L8).intercalate l)
  have h1 : (⟨#[47]⟩ : ByteArray).size = 1 := rfl
  have hc1 : (⟨#[47]⟩ : ByteArray) ++ bs (([47] : L8).intercalate l) = bs (47 :: ([47] : L8).intercalate l) := bs_cat [47] _
  have hc2 : bs (47 :: ([47] : L8).intercalate l) ++ (⟨#[47]⟩ : ByteArray) = bs (47 :: ([47] : L8).intercalate l ++ [47]) := bs_cat _ [47]
  have hs3 : ((⟨#[47]⟩ : ByteArray) ++ bs (([47] : L8).intercalate l)).size = 1 + (([47] : L8).intercalate l).length := by rw [hc1, bs_size]; simp; omega
  have hmx : (⟨#[47]⟩ : ByteArray).size + (bs (([47] : L8).intercalate l)).size ≤ maxLen := by unfold maxLen; omega
  have hmx2 : ((⟨#[47]⟩ : ByteArray) ++ bs (([47] : L8).intercalate l)).size + (⟨#[47]⟩ : ByteArray).size ≤ maxLen := by unfold maxLen; omega
  refine pcalls_of Tryd.func25 rfl rfl Tryd.ntmps25 rfl ?_
  unfold joinL
  cases dir with
  | false =>
    repeat' (first | (refine rg 0 ?_; refine oAs ?_; refine oN ?_) | (refine rg 1 ?_; refine oMv ?_; refine oC (hj) rfl (ac (ac .nil)) ?_; refine sp (po_cat rfl rfl rfl (by omega)) ?_; refine oAs ?_; refine oN ?_) | (refine rg 2 ?_; refine oMv ?_; refine oMv ?_; (first | refine oMv ?_ | refine oK ?_ | ((refine ssp (fun hc => ?_) (fun hc => ?_)) <;> first | refine oMv ?_ | refine oK ?_)) <;> (first | refine sp (pln rfl (tyS rfl)) ?_ | refine oK ?_) <;> (first | refine oCm ?_ | refine oK ?_) <;> (first | refine oPt ?_ | refine oPf ?_) <;> (refine oN ?_)) | (refine rg 4 ?_; refine oMv ?_; refine oAs ?_; refine oN ?_) | refine gc ?_ | refine ct ?_ | refine cf ?_ | refine swp_cond rfl (fun hc => ?_) (fun hc => ?_) | refine rq rfl (rt .nil) ?_)
    show _ = T.v (.string _)
    rw [hc1]; simp
  | true =>
    by_cases h0 : l = []
    · have hz : ¬ (0 : Int) < (((l.map strT).length : Nat) : Int) := by subst h0; simp
      repeat' (first | (refine rg 0 ?_; refine oAs ?_; refine oN ?_) | (refine rg 1 ?_; refine oMv ?_; refine oC (hj) rfl (ac (ac .nil)) ?_; refine sp (po_cat rfl rfl rfl (by omega)) ?_; refine oAs ?_; refine oN ?_) | (refine rg 2 ?_; refine oMv ?_; refine oMv ?_; (first | refine oMv ?_ | refine oK ?_ | ((refine ssp (fun hc => ?_) (fun hc => ?_)) <;> first | refine oMv ?_ | refine oK ?_)) <;> (first | refine sp (pln rfl (tyS rfl)) ?_ | refine oK ?_) <;> (first | refine oCm ?_ | refine oK ?_) <;> (first | refine oPt ?_ | refine oPf ?_) <;> (refine oN ?_)) | (refine rg 4 ?_; refine oMv ?_; refine oAs ?_; refine oN ?_) | refine gc ?_ | refine ct ?_ | refine cf ?_ | refine swp_cond rfl (fun hc => ?_) (fun hc => ?_) | refine rq rfl (rt .nil) ?_)
      show _ = T.v (.string _)
      rw [hc1]; simp [h0]
    · have hz : (0 : Int) < (((l.map strT).length : Nat) : Int) := by cases l with | nil => exact absurd rfl h0 | cons _ _ => simp
      repeat' (first | (refine rg 0 ?_; refine oAs ?_; refine oN ?_) | (refine rg 1 ?_; refine oMv ?_; refine oC (hj) rfl (ac (ac .nil)) ?_; refine sp (po_cat rfl rfl rfl (by omega)) ?_; refine oAs ?_; refine oN ?_) | (refine rg 2 ?_; refine oMv ?_; refine oMv ?_; (first | refine oMv ?_ | refine oK ?_ | ((refine ssp (fun hc => ?_) (fun hc => ?_)) <;> first | refine oMv ?_ | refine oK ?_)) <;> (first | refine sp (pln rfl (tyS rfl)) ?_ | refine oK ?_) <;> (first | refine oCm ?_ | refine oK ?_) <;> (first | refine oPt ?_ | refine oPf ?_) <;> (refine oN ?_)) | (refine rg 3 ?_; refine oMv ?_; refine sp (po_cat rfl rfl rfl (by omega)) ?_; refine oAs ?_; refine oN ?_) | (refine rg 4 ?_; refine oMv ?_; refine oAs ?_; refine oN ?_) | refine gc ?_ | refine ct ?_ | refine cf ?_ | refine swp_cond rfl (fun hc => ?_) (fun hc => ?_) | refine rq rfl (rt .nil) ?_)
      show _ = T.v (.string _)
      rw [hc1, hc2]; simp [h0]
def normT (x : Option (L8 × L8)) : T := match x with
  | some (p, q) => .tup [.v (.string (bs p)), .v (.string (bs q)), .v (.int .i64 0)]
  | none => .tup [.v (.string ⟨#[]⟩), .v (.string ⟨#[]⟩), .v (.int .i64 2)]
theorem cutT_L (s : ByteArray) : ∃ b : Bool, cutT s 63 = .tup [.v (.string (bs (cutL s.toList).1)), .v (.string (bs (cutL s.toList).2)), .v (.bool b)] := by
  have hl := toList_len s
  have e : ∀ a b, s.extract a b = bs ((s.toList.take b).drop a) := fun a b => by
    have := ext_bs s.toList a b
    rw [toList_bs] at this; exact this
  unfold cutT
  rw [cut_idx]
  unfold fidx
  by_cases h : s.toList.findIdx (· == 63) < s.size
  · rw [if_pos h]
    refine ⟨true, ?_⟩
    rw [e, e, List.drop_zero, List.take_of_length_le (by omega : s.toList.length ≤ s.size)]
  · rw [if_neg h]
    refine ⟨false, ?_⟩
    have h1 : s.toList.findIdx (· == 63) = s.toList.length := by
      have := List.findIdx_le_length (xs := s.toList) (p := (· == 63)); omega
    rw [h1, List.take_length, List.drop_of_length_le (by omega), toList_bs]; rfl
set_option maxRecDepth 100000 in
set_option maxHeartbeats 1000000 in
theorem Normal_ (s : ByteArray) (hs : s.size ≤ 100000) : PCalls Tryd.prog 8 [.v (.string s)] (normT (normL s.toList)) := by
  have c0 := may_ s hs
  unfold normL
  refine pcalls_of Tryd.func8 rfl rfl Tryd.ntmps8 rfl ?_
  cases hmay : mayL s.toList with
  | false =>
    rw [hmay] at c0
    repeat' (first | (refine rg 0 ?_; refine oAs ?_; refine oAs ?_; refine oAs ?_; refine oN ?_) | (refine rg 1 ?_; refine oMv ?_; refine oC (c0) rfl (ac .nil) ?_; refine sp (po_not rfl rfl) ?_; refine oN ?_) | (refine rg 2 ?_; refine oAs ?_; refine oAs ?_; refine oAs ?_; refine oN ?_) | refine gc ?_ | refine ct ?_ | refine cf ?_ | refine swp_cond rfl (fun hc => ?_) (fun hc => ?_) | refine rq rfl (rt (rt (rt .nil))) ?_)
    rfl
  | true =>
    rw [hmay] at c0
    obtain ⟨m1, m2, m3⟩ := may_parts hmay
    have hl := toList_len s
    obtain ⟨b, hcut⟩ := cutT_L s
    have c1 := cut_ s 63 (by unfold maxLen; omega)
    rw [hcut] at c1
    obtain ⟨k1, k2⟩ := cut_ok m3
    obtain ⟨n1, n2⟩ := cut_len s.toList
    have hh := head_cut m2
    have c2 := said_ hiddenB 22 hidden_ (bs (cutL s.toList).1) (by rw [bs_size]; omega) (by rw [bs_toList]; exact k1)
    have c3 := said_ (fun _ => false) 23 none_ (bs (cutL s.toList).2) (by rw [bs_size]; omega) (by rw [bs_toList]; exact k2)
    rw [bs_toList] at c2 c3
    have hh2 := said_head (bad := hiddenB) hh.1
    have l2 := saidL_len hiddenB (cutL s.toList).1
    generalize (cutL s.toList).1 = road0 at *
    generalize (cutL s.toList).2 = q0 at *
    generalize saidL hiddenB road0 = rd at *
    generalize saidL (fun _ => false) q0 = qd at *
    obtain ⟨road, ok⟩ := rd
    obtain ⟨q, qok⟩ := qd
    dsimp only at *
    have c4 := kept_ road hh2.2 (by omega)
    have ht : ∀ r, keptL road = some r → tot r.1 ≤ road.length := fun r => tot_keptL hh2.2
    rw [if_pos rfl]
    cases hk : keptL road with
    | none =>
      rw [hk] at c4
      unfold keptT at c4
      dsimp only at c4
      cases ok with
      | true =>
        repeat' (first | (refine rg 0 ?_; refine oAs ?_; refine oAs ?_; refine oAs ?_; refine oN ?_) | (refine rg 1 ?_; refine oMv ?_; (first | refine oC (c0) rfl (ac .nil) ?_ | refine oC (c1) rfl (ac .nil) ?_ | refine oC (c2) rfl (ac .nil) ?_ | refine oC (c3) rfl (ac .nil) ?_ | refine oC (c4) rfl (ac .nil) ?_); refine sp (po_not rfl rfl) ?_; refine oN ?_) | (refine rg 3 ?_; refine oMv ?_; (first | refine oC (c0) rfl (ac (ac .nil)) ?_ | refine oC (c1) rfl (ac (ac .nil)) ?_ | refine oC (c2) rfl (ac (ac .nil)) ?_ | refine oC (c3) rfl (ac (ac .nil)) ?_ | refine oC (c4) rfl (ac (ac .nil)) ?_); refine oMv ?_; refine oEx ?_; refine oEx ?_; refine oEx ?_; refine oAs ?_; refine oAs ?_; refine oAs ?_; refine oN ?_) | (refine rg 4 ?_; refine oMv ?_; (first | refine oC (c0) rfl (ac (ac .nil)) ?_ | refine oC (c1) rfl (ac (ac .nil)) ?_ | refine oC (c2) rfl (ac (ac .nil)) ?_ | refine oC (c3) rfl (ac (ac .nil)) ?_ | refine oC (c4) rfl (ac (ac .nil)) ?_); refine oMv ?_; refine oEx ?_; refine oEx ?_; refine oAs ?_; refine oAs ?_; refine oN ?_) | (refine rg 5 ?_; refine oMv ?_; (first | refine oC (c0) rfl (ac (ac .nil)) ?_ | refine oC (c1) rfl (ac (ac .nil)) ?_ | refine oC (c2) rfl (ac (ac .nil)) ?_ | refine oC (c3) rfl (ac (ac .nil)) ?_ | refine oC (c4) rfl (ac (ac .nil)) ?_); refine oMv ?_; refine oEx ?_; refine oEx ?_; refine oAs ?_; refine oN ?_) | (refine rg 6 ?_; refine oMv ?_; (first | refine oC (c0) rfl (ac .nil) ?_ | refine oC (c1) rfl (ac .nil) ?_ | refine oC (c2) rfl (ac .nil) ?_ | refine oC (c3) rfl (ac .nil) ?_ | refine oC (c4) rfl (ac .nil) ?_); refine oMv ?_; refine oEx ?_; refine oEx ?_; refine oEx ?_; refine oAs ?_; refine oAs ?_; refine oAs ?_; refine oN ?_) | (refine rg 7 ?_; refine oMv ?_; refine sp (po_not rfl rfl) ?_; refine oMv ?_; (first | refine oMv ?_ | refine oK ?_ | ((refine ssp (fun hc => ?_) (fun hc => ?_)) <;> first | refine oMv ?_ | refine oK ?_)) <;> (first | refine sp (po_not rfl rfl) ?_ | refine oK ?_) <;> (first | refine oPt ?_ | refine oPf ?_) <;> (refine oN ?_)) | (refine rg 8 ?_; refine oAs ?_; refine oAs ?_; refine oAs ?_; refine oN ?_) | refine gc ?_ | refine ct ?_ | refine cf ?_ | refine swp_cond rfl (fun hc => ?_) (fun hc => ?_) | refine rq rfl (rt (rt (rt .nil))) ?_)
        rfl
      | false =>
        repeat' (first | (refine rg 0 ?_; refine oAs ?_; refine oAs ?_; refine oAs ?_; refine oN ?_) | (refine rg 1 ?_; refine oMv ?_; (first | refine oC (c0) rfl (ac .nil) ?_ | refine oC (c1) rfl (ac .nil) ?_ | refine oC (c2) rfl (ac .nil) ?_ | refine oC (c3) rfl (ac .nil) ?_ | refine oC (c4) rfl (ac .nil) ?_); refine sp (po_not rfl rfl) ?_; refine oN ?_) | (refine rg 3 ?_; refine oMv ?_; (first | refine oC (c0) rfl (ac (ac .nil)) ?_ | refine oC (c1) rfl (ac (ac .nil)) ?_ | refine oC (c2) rfl (ac (ac .nil)) ?_ | refine oC (c3) rfl (ac (ac .nil)) ?_ | refine oC (c4) rfl (ac (ac .nil)) ?_); refine oMv ?_; refine oEx ?_; refine oEx ?_; refine oEx ?_; refine oAs ?_; refine oAs ?_; refine oAs ?_; refine oN ?_) | (refine rg 4 ?_; refine oMv ?_; (first | refine oC (c0) rfl (ac (ac .nil)) ?_ | refine oC (c1) rfl (ac (ac .nil)) ?_ | refine oC (c2) rfl (ac (ac .nil)) ?_ | refine oC (c3) rfl (ac (ac .nil)) ?_ | refine oC (c4) rfl (ac (ac .nil)) ?_); refine oMv ?_; refine oEx ?_; refine oEx ?_; refine oAs ?_; refine oAs ?_; refine oN ?_) | (refine rg 5 ?_; refine oMv ?_; (first | refine oC (c0) rfl (ac (ac .nil)) ?_ | refine oC (c1) rfl (ac (ac .nil)) ?_ | refine oC (c2) rfl (ac (ac .nil)) ?_ | refine oC (c3) rfl (ac (ac .nil)) ?_ | refine oC (c4) rfl (ac (ac .nil)) ?_); refine oMv ?_; refine oEx ?_; refine oEx ?_; refine oAs ?_; refine oN ?_) | (refine rg 6 ?_; refine oMv ?_; (first | refine oC (c0) rfl (ac .nil) ?_ | refine oC (c1) rfl (ac .nil) ?_ | refine oC (c2) rfl (ac .nil) ?_ | refine oC (c3) rfl (ac .nil) ?_ | refine oC (c4) rfl (ac .nil) ?_); refine oMv ?_; refine oEx ?_; refine oEx ?_; refine oEx ?_; refine oAs ?_; refine oAs ?_; refine oAs ?_; refine oN ?_) | (refine rg 7 ?_; refine oMv ?_; refine sp (po_not rfl rfl) ?_; refine oMv ?_; (first | refine oMv ?_ | refine oK ?_ | ((refine ssp (fun hc => ?_) (fun hc => ?_)) <;> first | refine oMv ?_ | refine oK ?_)) <;> (first | refine sp (po_not rfl rfl) ?_ | refine oK ?_) <;> (first | refine oPt ?_ | refine oPf ?_) <;> (refine oN ?_)) | (refine rg 8 ?_; refine oAs ?_; refine oAs ?_; refine oAs ?_; refine oN ?_) | refine gc ?_ | refine ct ?_ | refine cf ?_ | refine swp_cond rfl (fun hc => ?_) (fun hc => ?_) | refine rq rfl (rt (rt (rt .nil))) ?_)
        rfl
    | some r =>
      obtain ⟨left, dir⟩ := r
      have ht' := ht _ hk
      dsimp only at ht'
      rw [hk] at c4
      unfold keptT at c4
      dsimp only at c4
      have c5 := joined_ dir left (by omega)
      cases ok with
      | true =>
        repeat' (first | (refine rg 0 ?_; refine oAs ?_; refine oAs ?_; refine oAs ?_; refine oN ?_) | (refine rg 1 ?_; refine oMv ?_; (first | refine oC (c0) rfl (ac .nil) ?_ | refine oC (c1) rfl (ac .nil) ?_ | refine oC (c2) rfl (ac .nil) ?_ | refine oC (c3) rfl (ac .nil) ?_ | refine oC (c4) rfl (ac .nil) ?_ | refine oC (c5) rfl (ac .nil) ?_); refine sp (po_not rfl rfl) ?_; refine oN ?_) | (refine rg 3 ?_; refine oMv ?_; (first | refine oC (c0) rfl (ac (ac .nil)) ?_ | refine oC (c1) rfl (ac (ac .nil)) ?_ | refine oC (c2) rfl (ac (ac .nil)) ?_ | refine oC (c3) rfl (ac (ac .nil)) ?_ | refine oC (c4) rfl (ac (ac .nil)) ?_ | refine oC (c5) rfl (ac (ac .nil)) ?_); refine oMv ?_; refine oEx ?_; refine oEx ?_; refine oEx ?_; refine oAs ?_; refine oAs ?_; refine oAs ?_; refine oN ?_) | (refine rg 4 ?_; refine oMv ?_; (first | refine oC (c0) rfl (ac (ac .nil)) ?_ | refine oC (c1) rfl (ac (ac .nil)) ?_ | refine oC (c2) rfl (ac (ac .nil)) ?_ | refine oC (c3) rfl (ac (ac .nil)) ?_ | refine oC (c4) rfl (ac (ac .nil)) ?_ | refine oC (c5) rfl (ac (ac .nil)) ?_); refine oMv ?_; refine oEx ?_; refine oEx ?_; refine oAs ?_; refine oAs ?_; refine oN ?_) | (refine rg 5 ?_; refine oMv ?_; (first | refine oC (c0) rfl (ac (ac .nil)) ?_ | refine oC (c1) rfl (ac (ac .nil)) ?_ | refine oC (c2) rfl (ac (ac .nil)) ?_ | refine oC (c3) rfl (ac (ac .nil)) ?_ | refine oC (c4) rfl (ac (ac .nil)) ?_ | refine oC (c5) rfl (ac (ac .nil)) ?_); refine oMv ?_; refine oEx ?_; refine oEx ?_; refine oAs ?_; refine oN ?_) | (refine rg 6 ?_; refine oMv ?_; (first | refine oC (c0) rfl (ac .nil) ?_ | refine oC (c1) rfl (ac .nil) ?_ | refine oC (c2) rfl (ac .nil) ?_ | refine oC (c3) rfl (ac .nil) ?_ | refine oC (c4) rfl (ac .nil) ?_ | refine oC (c5) rfl (ac .nil) ?_); refine oMv ?_; refine oEx ?_; refine oEx ?_; refine oEx ?_; refine oAs ?_; refine oAs ?_; refine oAs ?_; refine oN ?_) | (refine rg 7 ?_; refine oMv ?_; refine sp (po_not rfl rfl) ?_; refine oMv ?_; (first | refine oMv ?_ | refine oK ?_ | ((refine ssp (fun hc => ?_) (fun hc => ?_)) <;> first | refine oMv ?_ | refine oK ?_)) <;> (first | refine sp (po_not rfl rfl) ?_ | refine oK ?_) <;> (first | refine oPt ?_ | refine oPf ?_) <;> (refine oN ?_)) | (refine rg 9 ?_; refine oMv ?_; refine oMv ?_; (first | refine oC (c0) rfl (ac (ac .nil)) ?_ | refine oC (c1) rfl (ac (ac .nil)) ?_ | refine oC (c2) rfl (ac (ac .nil)) ?_ | refine oC (c3) rfl (ac (ac .nil)) ?_ | refine oC (c4) rfl (ac (ac .nil)) ?_ | refine oC (c5) rfl (ac (ac .nil)) ?_); refine oMv ?_; refine oAs ?_; refine oAs ?_; refine oAs ?_; refine oN ?_) | refine gc ?_ | refine ct ?_ | refine cf ?_ | refine swp_cond rfl (fun hc => ?_) (fun hc => ?_) | refine rq rfl (rt (rt (rt .nil))) ?_)
        rfl
      | false =>
        repeat' (first | (refine rg 0 ?_; refine oAs ?_; refine oAs ?_; refine oAs ?_; refine oN ?_) | (refine rg 1 ?_; refine oMv ?_; (first | refine oC (c0) rfl (ac .nil) ?_ | refine oC (c1) rfl (ac .nil) ?_ | refine oC (c2) rfl (ac .nil) ?_ | refine oC (c3) rfl (ac .nil) ?_ | refine oC (c4) rfl (ac .nil) ?_); refine sp (po_not rfl rfl) ?_; refine oN ?_) | (refine rg 3 ?_; refine oMv ?_; (first | refine oC (c0) rfl (ac (ac .nil)) ?_ | refine oC (c1) rfl (ac (ac .nil)) ?_ | refine oC (c2) rfl (ac (ac .nil)) ?_ | refine oC (c3) rfl (ac (ac .nil)) ?_ | refine oC (c4) rfl (ac (ac .nil)) ?_); refine oMv ?_; refine oEx ?_; refine oEx ?_; refine oEx ?_; refine oAs ?_; refine oAs ?_; refine oAs ?_; refine oN ?_) | (refine rg 4 ?_; refine oMv ?_; (first | refine oC (c0) rfl (ac (ac .nil)) ?_ | refine oC (c1) rfl (ac (ac .nil)) ?_ | refine oC (c2) rfl (ac (ac .nil)) ?_ | refine oC (c3) rfl (ac (ac .nil)) ?_ | refine oC (c4) rfl (ac (ac .nil)) ?_); refine oMv ?_; refine oEx ?_; refine oEx ?_; refine oAs ?_; refine oAs ?_; refine oN ?_) | (refine rg 5 ?_; refine oMv ?_; (first | refine oC (c0) rfl (ac (ac .nil)) ?_ | refine oC (c1) rfl (ac (ac .nil)) ?_ | refine oC (c2) rfl (ac (ac .nil)) ?_ | refine oC (c3) rfl (ac (ac .nil)) ?_ | refine oC (c4) rfl (ac (ac .nil)) ?_); refine oMv ?_; refine oEx ?_; refine oEx ?_; refine oAs ?_; refine oN ?_) | (refine rg 6 ?_; refine oMv ?_; (first | refine oC (c0) rfl (ac .nil) ?_ | refine oC (c1) rfl (ac .nil) ?_ | refine oC (c2) rfl (ac .nil) ?_ | refine oC (c3) rfl (ac .nil) ?_ | refine oC (c4) rfl (ac .nil) ?_); refine oMv ?_; refine oEx ?_; refine oEx ?_; refine oEx ?_; refine oAs ?_; refine oAs ?_; refine oAs ?_; refine oN ?_) | (refine rg 7 ?_; refine oMv ?_; refine sp (po_not rfl rfl) ?_; refine oMv ?_; (first | refine oMv ?_ | refine oK ?_ | ((refine ssp (fun hc => ?_) (fun hc => ?_)) <;> first | refine oMv ?_ | refine oK ?_)) <;> (first | refine sp (po_not rfl rfl) ?_ | refine oK ?_) <;> (first | refine oPt ?_ | refine oPf ?_) <;> (refine oN ?_)) | (refine rg 8 ?_; refine oAs ?_; refine oAs ?_; refine oAs ?_; refine oN ?_) | refine gc ?_ | refine ct ?_ | refine cf ?_ | refine swp_cond rfl (fun hc => ?_) (fun hc => ?_) | refine rq rfl (rt (rt (rt .nil))) ?_)
        rfl
end Go.Proofs.YtkmhaijefpgfiaaDoor.Pth

/- Targets: canonical paths, their segments, joined ones: walks. -/
namespace Go.Proofs.YtkmhaijefpgfiaaDoor.Pth
set_option linter.unusedVariables false
set_option linter.unusedSimpArgs false
open Go.RowKit Mem Sim Opn Str
def canonL (s : L8) : Bool := match normL s with
  | some (p, _) => decide (p = s)
  | none => false
def segsL (s : L8) : List L8 := match keptL s with
  | some (l, _) => l
  | none => []
theorem bs_dec2 (p : L8) (s : ByteArray) : decide (bs p = s) = decide (p = s.toList) := by
  have := bs_dec p s.toList
  rwa [toList_bs] at this
set_option maxRecDepth 100000 in
theorem Canon_ (s : ByteArray) (hs : s.size ≤ 100000) : PCalls Tryd.prog 10 [.v (.string s)] (.v (.bool (canonL s.toList))) := by
  have c0 := Normal_ s hs
  unfold canonL
  refine pcalls_of Tryd.func10 rfl rfl Tryd.ntmps10 rfl ?_
  cases hn : normL s.toList with
  | none =>
    rw [hn] at c0
    unfold normT at c0
    dsimp only at c0 ⊢
    repeat' (first | (refine rg 0 ?_; refine oAs ?_; refine oN ?_) | (refine rg 1 ?_; refine oMv ?_; refine oC (c0) rfl (ac .nil) ?_; refine oMv ?_; refine oEx ?_; refine oEx ?_; refine oEx ?_; refine oAs ?_; refine oAs ?_; refine oAs ?_; refine oN ?_) | (refine rg 2 ?_; refine oMv ?_; refine oCm ?_; refine oMv ?_; (first | refine oMv ?_ | refine oK ?_ | ((refine ssp (fun hc => ?_) (fun hc => ?_)) <;> first | refine oMv ?_ | refine oK ?_)) <;> (first | refine oMv ?_ | refine oK ?_) <;> (first | refine sp (po_str rfl rfl rfl rfl) ?_ | refine oK ?_) <;> (first | refine oPt ?_ | refine oPf ?_) <;> (refine oAs ?_) <;> (refine oN ?_)) | refine gc ?_ | refine ct ?_ | refine cf ?_ | refine swp_cond rfl (fun hc => ?_) (fun hc => ?_) | refine rq rfl (rt .nil) ?_)
    rfl
  | some x =>
    obtain ⟨p, q⟩ := x
    rw [hn] at c0
    unfold normT at c0
    dsimp only at c0 ⊢
    rw [← bs_dec2]
    repeat' (first | (refine rg 0 ?_; refine oAs ?_; refine oN ?_) | (refine rg 1 ?_; refine oMv ?_; refine oC (c0) rfl (ac .nil) ?_; refine oMv ?_; refine oEx ?_; refine oEx ?_; refine oEx ?_; refine oAs ?_; refine oAs ?_; refine oAs ?_; refine oN ?_) | (refine rg 2 ?_; refine oMv ?_; refine oCm ?_; refine oMv ?_; (first | refine oMv ?_ | refine oK ?_ | ((refine ssp (fun hc => ?_) (fun hc => ?_)) <;> first | refine oMv ?_ | refine oK ?_)) <;> (first | refine oMv ?_ | refine oK ?_) <;> (first | refine sp (po_str rfl rfl rfl rfl) ?_ | refine oK ?_) <;> (first | refine oPt ?_ | refine oPf ?_) <;> (refine oAs ?_) <;> (refine oN ?_)) | refine gc ?_ | refine ct ?_ | refine cf ?_ | refine swp_cond rfl (fun hc => ?_) (fun hc => ?_) | refine rq rfl (rt .nil) ?_)
    rfl
theorem canon_may {s : L8} (h : canonL s = true) : mayL s = true := by
  unfold canonL normL at h
  cases hm : mayL s with
  | true => rfl
  | false => rw [hm] at h; cases h
def segT (s : L8) : T := if canonL s then .tup [.sl 1 ((segsL s).map strT), .v (.int .i64 0)] else .tup [.sl 1 [], .v (.int .i64 2)]
set_option maxRecDepth 100000 in
theorem Segments_ (s : ByteArray) (hs : s.size ≤ 100000) : PCalls Tryd.prog 12 [.v (.string s)] (segT s.toList) := by
  have c0 := Canon_ s hs
  unfold segT
  refine pcalls_of Tryd.func12 rfl rfl Tryd.ntmps12 rfl ?_
  cases hc : canonL s.toList with
  | false =>
    rw [hc] at c0
    repeat' (first | refine gc ?_ | refine rq rfl (.tmp rfl (.nil 1) (rt .nil)) ?_ | (refine rg 0 ?_; refine oAs ?_; refine oAs ?_; refine oN ?_) | (refine rg 1 ?_; refine oMv ?_; refine oC (c0) rfl (ac .nil) ?_; refine sp (po_not rfl rfl) ?_; refine oN ?_) | (refine rg 2 ?_; refine oAs ?_; refine oAs ?_; refine oN ?_) | refine ct ?_ | refine cf ?_ | refine swp_cond rfl (fun hc => ?_) (fun hc => ?_) | refine rq rfl (rt (rt .nil)) ?_)
    rfl
  | true =>
    rw [hc] at c0
    obtain ⟨m1, m2, _⟩ := may_parts (canon_may hc)
    have hl := toList_len s
    have h1 : 1 ≤ s.toList.length := by
      cases hq : s.toList with
      | nil => rw [hq] at m2; cases m2
      | cons a l => simp
    have c1 := kept_ s.toList h1 (by omega)
    rw [toList_bs] at c1
    unfold segsL
    cases hk : keptL s.toList with
    | none =>
      rw [hk] at c1
      unfold keptT at c1
      dsimp only at c1
      repeat' (first | (refine rg 0 ?_; refine oAs ?_; refine oAs ?_; refine oN ?_) | (refine rg 1 ?_; refine oMv ?_; (first | refine oC (c0) rfl (ac .nil) ?_ | refine oC (c1) rfl (ac .nil) ?_); refine sp (po_not rfl rfl) ?_; refine oN ?_) | (refine rg 3 ?_; refine oMv ?_; (first | refine oC (c0) rfl (ac .nil) ?_ | refine oC (c1) rfl (ac .nil) ?_); refine oMv ?_; refine oEx ?_; refine oEx ?_; refine oEx ?_; refine oAs ?_; refine oAs ?_; refine oAs ?_; refine oN ?_) | (refine rg 4 ?_; refine oMv ?_; refine oAs ?_; refine oAs ?_; refine oN ?_) | refine gc ?_ | refine ct ?_ | refine cf ?_ | refine swp_cond rfl (fun hc => ?_) (fun hc => ?_) | refine rq rfl (rt (rt .nil)) ?_)
      rfl
    | some r =>
      obtain ⟨left, dir⟩ := r
      rw [hk] at c1
      unfold keptT at c1
      dsimp only at c1
      repeat' (first | (refine rg 0 ?_; refine oAs ?_; refine oAs ?_; refine oN ?_) | (refine rg 1 ?_; refine oMv ?_; (first | refine oC (c0) rfl (ac .nil) ?_ | refine oC (c1) rfl (ac .nil) ?_); refine sp (po_not rfl rfl) ?_; refine oN ?_) | (refine rg 3 ?_; refine oMv ?_; (first | refine oC (c0) rfl (ac .nil) ?_ | refine oC (c1) rfl (ac .nil) ?_); refine oMv ?_; refine oEx ?_; refine oEx ?_; refine oEx ?_; refine oAs ?_; refine oAs ?_; refine oAs ?_; refine oN ?_) | (refine rg 4 ?_; refine oMv ?_; refine oAs ?_; refine oAs ?_; refine oN ?_) | refine gc ?_ | refine ct ?_ | refine cf ?_ | refine swp_cond rfl (fun hc => ?_) (fun hc => ?_) | refine rq rfl (rt (rt .nil)) ?_)
      rfl
theorem strs_at {l : List L8} {k : Nat} (h : k < l.length) : (l.map strT)[k]? = some [T.v (.string (bs l[k]))] := by
  rw [List.getElem?_map, List.getElem?_eq_getElem h]; rfl
theorem take_eq_succ {a b : List L8} {k : Nat} (h : a.take k = b.take k) (ha : k < a.length) (hb : k < b.length) (he : a[k] = b[k]) : a.take (k + 1) = b.take (k + 1) := by
  rw [List.take_succ_eq_append_getElem ha, List.take_succ_eq_append_getElem hb, h, he]
theorem bs_dec3 (a b : L8) : (!decide (bs a = bs b)) = !decide (a = b) := by rw [bs_dec]
set_option maxRecDepth 100000 in
set_option maxHeartbeats 1000000 in
theorem equalS_ (a b : List L8) (ha : a.length ≤ 1000000) : PCalls Tryd.prog 28 [.sl 1 (a.map strT), .sl 1 (b.map strT)] (.v (.bool (decide (a = b)))) := by
  have hma : (a.map strT).length = a.length := List.length_map _
  have hmb : (b.map strT).length = b.length := List.length_map _
  refine pcalls_of Tryd.func28 rfl rfl Tryd.ntmps28 rfl ?_
  by_cases hl : a.length = b.length
  · have hz : (!decide ((((a.map strT).length : Nat) : Int) = (((b.map strT).length : Nat) : Int))) = false := by rw [hma, hmb, hl]; simp
    repeat' (first | (refine rg 0 ?_; refine oAs ?_; refine oN ?_) | (refine rg 1 ?_; refine oMv ?_; refine sp (pln rfl (tyS rfl)) ?_; refine oMv ?_; refine sp (pln rfl (tyS rfl)) ?_; refine oCm ?_; refine oN ?_) | (refine rg 3 ?_; refine oMv ?_; refine sp (pln rfl (tyS rfl)) ?_; refine oMv ?_; refine oN ?_) | refine gc ?_ | refine ct ?_ | refine cf ?_ | refine swp_cond rfl (fun hc => ?_) (fun hc => ?_) | refine rq rfl (rt .nil) ?_)
    refine swp_for (fun k => ⟨[(0, .t (.sl 1 (a.map strT))), (1, .t (.sl 1 (b.map strT))), (12, .t (.v (.int .i64 (a.length : Int)))), (13, .t (.v (.int .i64 (k : Int))))], [], []⟩) (fun k => a.take k = b.take k) a.length (weak_sub (.cons rfl (by first | rfl | (rw [← hma])) rfl (.cons rfl (by first | rfl | (rw [← hma])) rfl (.cons rfl (by first | rfl | (rw [← hma])) rfl (.cons rfl (by first | rfl | (rw [← hma])) rfl .nil)))) .nil .nil) rfl ?_
    intro k hk hI
    by_cases hlt : k < a.length
    · have hlb : k < b.length := by omega
      have h1 := strs_at hlt
      have h2 := strs_at hlb
      by_cases he : a[k] = b[k]
      · have e1 : (!decide (bs a[k] = bs b[k])) = false := by rw [bs_dec3, decide_eq_true he]; rfl
        repeat' (first | refine for_next hlt (weak_sub (.cons rfl rfl rfl (.cons rfl rfl rfl (.cons rfl rfl rfl (.cons rfl rfl rfl .nil)))) .nil .nil) (take_eq_succ hI hlt hlb he) | (refine rg 4 ?_; refine oCm ?_; refine oN ?_) | (refine rg 5 ?_; refine oMv ?_; refine oAs ?_; refine oN ?_) | (refine rd 6 ?_; refine dMv ?_; refine dMv ?_; refine dp (pix rfl (tyS rfl)) ?_; (first | refine dLb ?_ | refine dLd ?_); refine dMv ?_; refine dMv ?_; refine dp (pix rfl (tyS rfl)) ?_; (first | refine dLb ?_ | refine dLd ?_); refine dp (po_str rfl rfl rfl rfl) ?_; refine dN ?_; refine oN ?_) | (refine rg 8 ?_; (first | refine sp (xinc rfl) ?_ | refine sp (xadd rfl) ?_); refine oMv ?_; refine oN ?_) | refine gc ?_ | refine ct ?_ | refine cf ?_ | refine swp_cond rfl (fun hc => ?_) (fun hc => ?_) | refine rq rfl (rt .nil) ?_)
      · have e1 : (!decide (bs a[k] = bs b[k])) = true := by rw [bs_dec3, decide_eq_false he]; rfl
        have hne : a ≠ b := fun e => he (by subst e; rfl)
        rw [decide_eq_false hne]
        repeat' (first | (refine rg 4 ?_; refine oCm ?_; refine oN ?_) | (refine rg 5 ?_; refine oMv ?_; refine oAs ?_; refine oN ?_) | (refine rd 6 ?_; refine dMv ?_; refine dMv ?_; refine dp (pix rfl (tyS rfl)) ?_; (first | refine dLb ?_ | refine dLd ?_); refine dMv ?_; refine dMv ?_; refine dp (pix rfl (tyS rfl)) ?_; (first | refine dLb ?_ | refine dLd ?_); refine dp (po_str rfl rfl rfl rfl) ?_; refine dN ?_; refine oN ?_) | (refine rg 7 ?_; refine oAs ?_; refine oN ?_) | refine gc ?_ | refine ct ?_ | refine cf ?_ | refine swp_cond rfl (fun hc => ?_) (fun hc => ?_) | refine rq rfl (rt .nil) ?_)
        rfl
    · obtain rfl : k = a.length := by omega
      have he : a = b := by rw [List.take_length, hl, List.take_length] at hI; exact hI
      rw [decide_eq_true he]
      repeat' (first | (refine rg 4 ?_; refine oCm ?_; refine oN ?_) | (refine rg 9 ?_; refine oAs ?_; refine oN ?_) | refine gc ?_ | refine ct ?_ | refine cf ?_ | refine swp_cond rfl (fun hc => ?_) (fun hc => ?_) | refine rq rfl (rt .nil) ?_)
      rfl
  · have hz : (!decide ((((a.map strT).length : Nat) : Int) = (((b.map strT).length : Nat) : Int))) = true := by rw [hma, hmb, decide_eq_false (by omega)]; rfl
    rw [decide_eq_false (fun e => hl (by rw [e]))]
    repeat' (first | (refine rg 0 ?_; refine oAs ?_; refine oN ?_) | (refine rg 1 ?_; refine oMv ?_; refine sp (pln rfl (tyS rfl)) ?_; refine oMv ?_; refine sp (pln rfl (tyS rfl)) ?_; refine oCm ?_; refine oN ?_) | (refine rg 2 ?_; refine oAs ?_; refine oN ?_) | refine gc ?_ | refine ct ?_ | refine cf ?_ | refine swp_cond rfl (fun hc => ?_) (fun hc => ?_) | refine rq rfl (rt .nil) ?_)
    rfl
def joinB (dir : Bool) (l : List L8) : Bool := canonL (joinL dir l) && decide (segsL (joinL dir l) = l)
def joinT (dir : Bool) (l : List L8) : T := if joinB dir l then .tup [.v (.string (bs (joinL dir l))), .v (.int .i64 0)] else .tup [.v (.string ⟨#[]⟩), .v (.int .i64 2)]
theorem segs_len (s : L8) (hs : 1 ≤ s.length) : (segsL s).length ≤ s.length := by
  unfold segsL
  cases hk : keptL s with
  | none => simp
  | some r =>
    have := tot_keptL hs hk
    unfold tot at this
    dsimp only
    omega
set_option maxRecDepth 100000 in
theorem Join_ (dir : Bool) (l : List L8) (hn : tot l ≤ 90000) : PCalls Tryd.prog 17 [.v (.bool dir), .sl 1 (l.map strT)] (joinT dir l) := by
  have c0 := joined_ dir l (by omega)
  have hlen := joinL_len dir l
  have c1 := Segments_ (bs (joinL dir l)) (by rw [bs_size]; omega)
  rw [bs_toList] at c1
  have hj1 : 1 ≤ (joinL dir l).length := by unfold joinL; simp
  have hsl := segs_len (joinL dir l) hj1
  have c2 := equalS_ (segsL (joinL dir l)) l (by omega)
  unfold joinT joinB
  unfold segT at c1
  generalize joinL dir l = s at *
  generalize segsL s = sg at *
  refine pcalls_of Tryd.func17 rfl rfl Tryd.ntmps17 rfl ?_
  cases hc : canonL s with
  | false =>
    rw [hc] at c1
    rw [if_neg (by simp)] at c1
    repeat' (first | (refine rg 0 ?_; refine oAs ?_; refine oAs ?_; refine oN ?_) | (refine rg 1 ?_; refine oMv ?_; refine oMv ?_; (first | refine oC (c0) rfl (ac (ac .nil)) ?_ | refine oC (c1) rfl (ac (ac .nil)) ?_); refine oAs ?_; refine oN ?_) | (refine rg 2 ?_; refine oMv ?_; (first | refine oC (c0) rfl (ac .nil) ?_ | refine oC (c1) rfl (ac .nil) ?_); refine oMv ?_; refine oEx ?_; refine oEx ?_; refine oAs ?_; refine oAs ?_; refine oN ?_) | (refine rg 3 ?_; refine oMv ?_; refine oCm ?_; refine oMv ?_; (first | refine oMv ?_ | refine oK ?_ | ((refine ssp (fun hc => ?_) (fun hc => ?_)) <;> first | refine oMv ?_ | refine oK ?_)) <;> (first | refine oMv ?_ | refine oK ?_) <;> (first | refine oC (c0) rfl (ac (ac .nil)) ?_ | refine oC (c1) rfl (ac (ac .nil)) ?_ | refine oK ?_) <;> (first | refine sp (po_not rfl rfl) ?_ | refine oK ?_) <;> (first | refine oPt ?_ | refine oPf ?_) <;> (refine oN ?_)) | (refine rg 4 ?_; refine oAs ?_; refine oAs ?_; refine oN ?_) | refine gc ?_ | refine ct ?_ | refine cf ?_ | refine swp_cond rfl (fun hc => ?_) (fun hc => ?_) | refine rq rfl (rt (rt .nil)) ?_)
    rfl
  | true =>
    rw [hc, if_pos rfl] at c1
    by_cases he : sg = l
    · rw [decide_eq_true he] at c2 ⊢
      repeat' (first | (refine rg 0 ?_; refine oAs ?_; refine oAs ?_; refine oN ?_) | (refine rg 1 ?_; refine oMv ?_; refine oMv ?_; (first | refine oC (c0) rfl (ac (ac .nil)) ?_ | refine oC (c1) rfl (ac (ac .nil)) ?_ | refine oC (c2) rfl (ac (ac .nil)) ?_); refine oAs ?_; refine oN ?_) | (refine rg 2 ?_; refine oMv ?_; (first | refine oC (c0) rfl (ac .nil) ?_ | refine oC (c1) rfl (ac .nil) ?_ | refine oC (c2) rfl (ac .nil) ?_); refine oMv ?_; refine oEx ?_; refine oEx ?_; refine oAs ?_; refine oAs ?_; refine oN ?_) | (refine rg 3 ?_; refine oMv ?_; refine oCm ?_; refine oMv ?_; (first | refine oMv ?_ | refine oK ?_ | ((refine ssp (fun hc => ?_) (fun hc => ?_)) <;> first | refine oMv ?_ | refine oK ?_)) <;> (first | refine oMv ?_ | refine oK ?_) <;> (first | refine oC (c0) rfl (ac (ac .nil)) ?_ | refine oC (c1) rfl (ac (ac .nil)) ?_ | refine oC (c2) rfl (ac (ac .nil)) ?_ | refine oK ?_) <;> (first | refine sp (po_not rfl rfl) ?_ | refine oK ?_) <;> (first | refine oPt ?_ | refine oPf ?_) <;> (refine oN ?_)) | (refine rg 5 ?_; refine oMv ?_; refine oAs ?_; refine oAs ?_; refine oN ?_) | refine gc ?_ | refine ct ?_ | refine cf ?_ | refine swp_cond rfl (fun hc => ?_) (fun hc => ?_) | refine rq rfl (rt (rt .nil)) ?_)
      rfl
    · rw [decide_eq_false he] at c2 ⊢
      repeat' (first | (refine rg 0 ?_; refine oAs ?_; refine oAs ?_; refine oN ?_) | (refine rg 1 ?_; refine oMv ?_; refine oMv ?_; (first | refine oC (c0) rfl (ac (ac .nil)) ?_ | refine oC (c1) rfl (ac (ac .nil)) ?_ | refine oC (c2) rfl (ac (ac .nil)) ?_); refine oAs ?_; refine oN ?_) | (refine rg 2 ?_; refine oMv ?_; (first | refine oC (c0) rfl (ac .nil) ?_ | refine oC (c1) rfl (ac .nil) ?_ | refine oC (c2) rfl (ac .nil) ?_); refine oMv ?_; refine oEx ?_; refine oEx ?_; refine oAs ?_; refine oAs ?_; refine oN ?_) | (refine rg 3 ?_; refine oMv ?_; refine oCm ?_; refine oMv ?_; (first | refine oMv ?_ | refine oK ?_ | ((refine ssp (fun hc => ?_) (fun hc => ?_)) <;> first | refine oMv ?_ | refine oK ?_)) <;> (first | refine oMv ?_ | refine oK ?_) <;> (first | refine oC (c0) rfl (ac (ac .nil)) ?_ | refine oC (c1) rfl (ac (ac .nil)) ?_ | refine oC (c2) rfl (ac (ac .nil)) ?_ | refine oK ?_) <;> (first | refine sp (po_not rfl rfl) ?_ | refine oK ?_) <;> (first | refine oPt ?_ | refine oPf ?_) <;> (refine oN ?_)) | (refine rg 4 ?_; refine oAs ?_; refine oAs ?_; refine oN ?_) | refine gc ?_ | refine ct ?_ | refine cf ?_ | refine swp_cond rfl (fun hc => ?_) (fun hc => ?_) | refine rq rfl (rt (rt .nil)) ?_)
      rfl
end Go.Proofs.YtkmhaijefpgfiaaDoor.Pth
