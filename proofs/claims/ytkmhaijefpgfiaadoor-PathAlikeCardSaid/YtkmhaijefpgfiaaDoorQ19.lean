/- Merged by bundles.py: SimPath10, SimPath11. -/
import Derived.Test.YtkmhaijefpgfiaaDoorQ16
import Derived.Test.YtkmhaijefpgfiaaDoorQ18
/- Targets: the document's answer: rows of segments: walks. -/
namespace Go.Proofs.YtkmhaijefpgfiaaDoor.Pth
set_option linter.unusedVariables false
set_option linter.unusedSimpArgs false
open Go.RowKit Mem Sim Opn Str
def refKeptT (x : Option (List L8)) : T := match x with
  | some out => .tup [.sl 1 (out.map strT), .v (.bool true)]
  | none => .tup [.sl 1 [], .v (.bool false)]
def KSt (l : List L8) (x : List L8 × Nat) : St := ⟨[(0, .t (.sl 1 (l.map strT))), (4, .own 104 (x.1.map strT).length), (5, .t (.v (.int .i64 (x.2 : Int))))], [], [(104, ⟨9, 1, x.1.map strT⟩)]⟩
theorem drop_at (l : List L8) {k : Nat} (h : k < l.length) : l.drop k = l[k] :: l.drop (k + 1) := List.drop_eq_getElem_cons h
set_option maxRecDepth 100000 in
set_option maxHeartbeats 1000000 in
theorem refKept_ (l : List L8) (hn : l.length ≤ 100000) : PCalls Tryd.prog 13 [.sl 1 (l.map strT)] (refKeptT (keptG [] l)) := by
  have hml : (l.map strT).length = l.length := List.length_map _
  refine pcalls_of Tryd.func13 rfl rfl Tryd.ntmps13 rfl ?_
  repeat' (first | (refine rg 0 ?_; refine oAs ?_; refine oAs ?_; refine oN ?_) | (refine rg 1 ?_; refine oAs ?_; refine oN ?_) | (refine rg 2 ?_; refine oAs ?_; refine oN ?_) | refine gc ?_ | refine ct ?_ | refine cf ?_ | refine swp_cond rfl (fun hc => ?_) (fun hc => ?_) | refine rq rfl (rt (rt .nil)) ?_)
  refine swp_fam (KSt l) (fun x => x.2 ≤ l.length ∧ x.1.length ≤ x.2 ∧ keptG [] l = keptG x.1 (l.drop x.2)) (fun x => l.length - x.2) ([], 0) ?_ ⟨by simp, by simp, rfl⟩ ?_
  · refine Weak.trans (weak_own0 (i := 104) 9 1 (s := 4) rfl rfl) ?_
    exact (weak_sub (.cons rfl rfl rfl (.cons rfl rfl rfl (.cons rfl rfl rfl .nil))) .nil (.cons rfl rfl .nil))
  rintro ⟨out, k⟩ ⟨h1, h2, h3⟩
  unfold KSt
  dsimp only at h1 h2 h3 ⊢
  have hm : (out.map strT).length = out.length := List.length_map _
  by_cases hlt : k < l.length
  · have hrow := strs_at hlt
    rw [drop_at l hlt, keptG_cons] at h3
    have g0 : decide (bs l[k] = ⟨#[]⟩) = decide (l[k] = []) := bs_dec _ []
    have g1 : decide (bs l[k] = ⟨#[46]⟩) = decide (l[k] = [46]) := bs_dec _ [46]
    have g2 : (!decide (bs l[k] = ⟨#[46, 46]⟩)) = !decide (l[k] = [46, 46]) := by rw [show decide (bs l[k] = ⟨#[46, 46]⟩) = decide (l[k] = [46, 46]) from bs_dec _ [46, 46]]
    generalize l[k] = seg at *
    by_cases hs0 : seg = []
    · have g0' := g0.trans (decide_eq_true hs0)
      have hk : keep1 out seg = some out := by subst hs0; rfl
      rw [hk] at h3
      clear g0 g1 g2
      repeat' (first | refine fam_next (out, k + 1) (by simp only; omega) (weak_sub (.cons rfl rfl rfl (.cons rfl rfl rfl (.cons rfl rfl rfl .nil))) .nil (.cons rfl rfl .nil)) ⟨by simp only; omega, by simp only; omega, h3⟩ | (refine rg 3 ?_; refine oMv ?_; refine oMv ?_; refine sp (pln rfl (tyS rfl)) ?_; refine oCm ?_; refine oN ?_) | (refine rg 5 ?_; refine oMv ?_; refine oMv ?_; refine sp (pix rfl (tyS rfl)) ?_; (first | refine oLb ?_ | refine oLd ?_); refine sp (po_str rfl rfl rfl rfl) ?_; refine oMv ?_; (first | refine oMv ?_ | refine oK ?_ | ((refine ssp (fun hc => ?_) (fun hc => ?_)) <;> first | refine oMv ?_ | refine oK ?_)) <;> (first | refine oMv ?_ | refine oK ?_) <;> (first | refine sp (pix rfl (tyS rfl)) ?_ | refine oK ?_) <;> (first | refine oLb ?_ | refine oLd ?_ | refine oK ?_) <;> (first | refine sp (po_str rfl rfl rfl rfl) ?_ | refine oK ?_) <;> (first | refine oPt ?_ | refine oPf ?_) <;> (refine oN ?_)) | (refine rg 4 ?_; refine oMv ?_; (first | refine sp (xinc rfl) ?_ | refine sp (xadd rfl) ?_); refine oAs ?_; refine oN ?_) | refine gc ?_ | refine ct ?_ | refine cf ?_ | refine swp_cond rfl (fun hc => ?_) (fun hc => ?_) | refine rq rfl (rt (rt .nil)) ?_)
    by_cases hs1 : seg = [46]
    · have g0' := g0.trans (decide_eq_false hs0)
      have g1' := g1.trans (decide_eq_true hs1)
      have hk : keep1 out seg = some out := by subst hs1; rfl
      rw [hk] at h3
      clear g0 g1 g2
      repeat' (first | refine fam_next (out, k + 1) (by simp only; omega) (weak_sub (.cons rfl rfl rfl (.cons rfl rfl rfl (.cons rfl rfl rfl .nil))) .nil (.cons rfl rfl .nil)) ⟨by simp only; omega, by simp only; omega, h3⟩ | (refine rg 3 ?_; refine oMv ?_; refine oMv ?_; refine sp (pln rfl (tyS rfl)) ?_; refine oCm ?_; refine oN ?_) | (refine rg 5 ?_; refine oMv ?_; refine oMv ?_; refine sp (pix rfl (tyS rfl)) ?_; (first | refine oLb ?_ | refine oLd ?_); refine sp (po_str rfl rfl rfl rfl) ?_; refine oMv ?_; (first | refine oMv ?_ | refine oK ?_ | ((refine ssp (fun hc => ?_) (fun hc => ?_)) <;> first | refine oMv ?_ | refine oK ?_)) <;> (first | refine oMv ?_ | refine oK ?_) <;> (first | refine sp (pix rfl (tyS rfl)) ?_ | refine oK ?_) <;> (first | refine oLb ?_ | refine oLd ?_ | refine oK ?_) <;> (first | refine sp (po_str rfl rfl rfl rfl) ?_ | refine oK ?_) <;> (first | refine oPt ?_ | refine oPf ?_) <;> (refine oN ?_)) | (refine rg 4 ?_; refine oMv ?_; (first | refine sp (xinc rfl) ?_ | refine sp (xadd rfl) ?_); refine oAs ?_; refine oN ?_) | refine gc ?_ | refine ct ?_ | refine cf ?_ | refine swp_cond rfl (fun hc => ?_) (fun hc => ?_) | refine rq rfl (rt (rt .nil)) ?_)
    have g0' := g0.trans (decide_eq_false hs0)
    have g1' := g1.trans (decide_eq_false hs1)
    by_cases hs2 : seg = [46, 46]
    · have g2' : (!decide (bs seg = ⟨#[46, 46]⟩)) = false := by rw [g2, decide_eq_true hs2]; rfl
      clear g0 g1 g2
      by_cases ho : out = []
      · have hk : keep1 out seg = none := by unfold keep1; rw [if_pos hs2, if_pos ho]
        rw [hk] at h3
        rw [h3]
        subst ho
        repeat' (first | refine gc ?_ | refine fam_ret ?_ | refine rq rfl (.tmp rfl (.nil 1) (rt .nil)) ?_ | (refine rg 3 ?_; refine oMv ?_; refine oMv ?_; refine sp (pln rfl (tyS rfl)) ?_; refine oCm ?_; refine oN ?_) | (refine rg 5 ?_; refine oMv ?_; refine oMv ?_; refine sp (pix rfl (tyS rfl)) ?_; (first | refine oLb ?_ | refine oLd ?_); refine sp (po_str rfl rfl rfl rfl) ?_; refine oMv ?_; (first | refine oMv ?_ | refine oK ?_ | ((refine ssp (fun hc => ?_) (fun hc => ?_)) <;> first | refine oMv ?_ | refine oK ?_)) <;> (first | refine oMv ?_ | refine oK ?_) <;> (first | refine sp (pix rfl (tyS rfl)) ?_ | refine oK ?_) <;> (first | refine oLb ?_ | refine oLd ?_ | refine oK ?_) <;> (first | refine sp (po_str rfl rfl rfl rfl) ?_ | refine oK ?_) <;> (first | refine oPt ?_ | refine oPf ?_) <;> (refine oN ?_)) | (refine rg 6 ?_; refine oMv ?_; refine oMv ?_; refine sp (pix rfl (tyS rfl)) ?_; (first | refine oLb ?_ | refine oLd ?_); refine sp (po_str rfl rfl rfl rfl) ?_; refine oN ?_) | (refine rg 8 ?_; refine oMv ?_; refine sp (pln rfl (tyS rfl)) ?_; refine oCm ?_; refine oN ?_) | (refine rg 9 ?_; refine oAs ?_; refine oAs ?_; refine oN ?_) | refine ct ?_ | refine cf ?_ | refine swp_cond rfl (fun hc => ?_) (fun hc => ?_) | refine rq rfl (rt (rt .nil)) ?_)
        rfl
      · have hop : 1 ≤ out.length := by cases out with | nil => exact absurd rfl ho | cons _ _ => simp
        have hk : keep1 out seg = some out.dropLast := by unfold keep1; rw [if_pos hs2, if_neg ho]
        rw [hk] at h3
        have hz : decide ((((out.map strT).length : Nat) : Int) = 0) = false := decide_eq_false (by omega)
        have hr : (out.map strT).take ((out.map strT).length - 1) = out.dropLast.map strT := by rw [List.length_map, ← List.map_take, List.dropLast_eq_take]
        have hdl : out.dropLast.length = out.length - 1 := List.length_dropLast
        have hr' : [] ++ List.drop 0 ((out.map strT).take ((out.map strT).length - 1)) = out.dropLast.map strT := by rw [hr]; rfl
        repeat' (first | (refine rg 3 ?_; refine oMv ?_; refine oMv ?_; refine sp (pln rfl (tyS rfl)) ?_; refine oCm ?_; refine oN ?_) | (refine rg 5 ?_; refine oMv ?_; refine oMv ?_; refine sp (pix rfl (tyS rfl)) ?_; (first | refine oLb ?_ | refine oLd ?_); refine sp (po_str rfl rfl rfl rfl) ?_; refine oMv ?_; (first | refine oMv ?_ | refine oK ?_ | ((refine ssp (fun hc => ?_) (fun hc => ?_)) <;> first | refine oMv ?_ | refine oK ?_)) <;> (first | refine oMv ?_ | refine oK ?_) <;> (first | refine sp (pix rfl (tyS rfl)) ?_ | refine oK ?_) <;> (first | refine oLb ?_ | refine oLd ?_ | refine oK ?_) <;> (first | refine sp (po_str rfl rfl rfl rfl) ?_ | refine oK ?_) <;> (first | refine oPt ?_ | refine oPf ?_) <;> (refine oN ?_)) | (refine rg 6 ?_; refine oMv ?_; refine oMv ?_; refine sp (pix rfl (tyS rfl)) ?_; (first | refine oLb ?_ | refine oLd ?_); refine sp (po_str rfl rfl rfl rfl) ?_; refine oN ?_) | (refine rg 8 ?_; refine oMv ?_; refine sp (pln rfl (tyS rfl)) ?_; refine oCm ?_; refine oN ?_) | (refine rg 10 ?_; refine sops_build0 (.free rfl rfl) rfl rfl rfl (tyE rfl) rfl ?_; refine oMv ?_; refine oMv ?_; refine sp (pln rfl (tyS rfl)) ?_; (first | refine sp (po_dec rfl rfl rfl (by omega)) ?_ | refine sp (po_arith rfl rfl rfl (ar_sub (by first | rfl | (refine wrap_i64 ?_; omega)) rfl)) ?_); refine sp (po_slice rfl rfl (by first | exact .t _ | exact .own rfl (by first | rfl | assumption | (simp; done) | (simp; omega)) | exact .nil _ | exact .emp _ | exact .fn _) (tyS rfl) (by first | rfl | exact ⟨_, rfl⟩) (by first | rfl | exact ⟨_, rfl⟩) (by omega) (by omega)) ?_; (first | refine sap rfl (tyE rfl) ?_ | refine san rfl (tyE rfl) ?_); refine oAs ?_; refine oN ?_) | (refine rg 4 ?_; refine oMv ?_; (first | refine sp (xinc rfl) ?_ | refine sp (xadd rfl) ?_); refine oAs ?_; refine oN ?_) | refine gc ?_ | refine ct ?_ | refine cf ?_ | refine swp_cond rfl (fun hc => ?_) (fun hc => ?_) | refine rq rfl (rt (rt .nil)) ?_)
        refine fam_next (out.dropLast, k + 1) (by simp only; omega) (Weak.trans (b := ⟨[(0, .t (.sl 1 (l.map strT))), (4, .own 39 (out.dropLast.map strT).length), (5, .t (.v (.int .i64 ((k + 1 : Nat) : Int))))], [], [(39, ⟨9, 1, out.dropLast.map strT⟩)]⟩) (weak_sub (.cons rfl (by first | rfl | (((try dsimp only); rw [hr']; try rfl))) rfl (.cons rfl (by first | rfl | (((try dsimp only); rw [hr']; try rfl))) rfl (.cons rfl (by first | rfl | (((try dsimp only); rw [hr']; try rfl))) rfl .nil))) .nil (.cons rfl (by first | rfl | (((try dsimp only); rw [hr']; try rfl))) .nil)) (weak_renv 39 104 rfl rfl rfl rfl rfl rfl rfl)) ⟨by simp only; omega, by simp only; omega, h3⟩
    · have g2' : (!decide (bs seg = ⟨#[46, 46]⟩)) = true := by rw [g2, decide_eq_false hs2]; rfl
      have hk : keep1 out seg = some (out ++ [seg]) := by
        unfold keep1
        rw [if_neg hs2, show dotB seg = false by unfold dotB; rw [decide_eq_false hs0, decide_eq_false hs1, decide_eq_false hs2]; rfl]; rfl
      rw [hk] at h3
      have ha : (out ++ [seg]).map strT = out.map strT ++ [[T.v (.string (bs seg))]] := by rw [List.map_append]; rfl
      have hb1 : ((out.map strT).length + 1) * 64 ≤ 140737488355328 := by omega
      have hb2 : (out.map strT).length + 1 ≤ maxLen := by unfold maxLen; omega
      clear g0 g1 g2
      repeat' (first | refine fam_next (out ++ [seg], k + 1) (by simp only; omega) (weak_sub (.cons rfl (by first | rfl | ((dsimp only; rw [ha]; try rfl))) rfl (.cons rfl (by first | rfl | ((dsimp only; rw [ha]; try rfl))) rfl (.cons rfl (by first | rfl | ((dsimp only; rw [ha]; try rfl))) rfl .nil))) .nil (.cons rfl (by first | rfl | ((dsimp only; rw [ha]; try rfl))) .nil)) ⟨by simp only; omega, by simp; omega, h3⟩ | (refine rg 3 ?_; refine oMv ?_; refine oMv ?_; refine sp (pln rfl (tyS rfl)) ?_; refine oCm ?_; refine oN ?_) | (refine rg 5 ?_; refine oMv ?_; refine oMv ?_; refine sp (pix rfl (tyS rfl)) ?_; (first | refine oLb ?_ | refine oLd ?_); refine sp (po_str rfl rfl rfl rfl) ?_; refine oMv ?_; (first | refine oMv ?_ | refine oK ?_ | ((refine ssp (fun hc => ?_) (fun hc => ?_)) <;> first | refine oMv ?_ | refine oK ?_)) <;> (first | refine oMv ?_ | refine oK ?_) <;> (first | refine sp (pix rfl (tyS rfl)) ?_ | refine oK ?_) <;> (first | refine oLb ?_ | refine oLd ?_ | refine oK ?_) <;> (first | refine sp (po_str rfl rfl rfl rfl) ?_ | refine oK ?_) <;> (first | refine oPt ?_ | refine oPf ?_) <;> (refine oN ?_)) | (refine rg 6 ?_; refine oMv ?_; refine oMv ?_; refine sp (pix rfl (tyS rfl)) ?_; (first | refine oLb ?_ | refine oLd ?_); refine sp (po_str rfl rfl rfl rfl) ?_; refine oN ?_) | (refine rg 7 ?_; refine oMv ?_; refine oMv ?_; refine oMv ?_; refine sp (pix rfl (tyS rfl)) ?_; (first | refine oLb ?_ | refine oLd ?_); refine sp (po_buildSlice rfl (tyE rfl) (dc (.nil _)) rfl rfl rfl) ?_; (first | refine sap rfl (tyE rfl) ?_ | refine san rfl (tyE rfl) ?_); refine oAs ?_; refine oN ?_) | (refine rg 4 ?_; refine oMv ?_; (first | refine sp (xinc rfl) ?_ | refine sp (xadd rfl) ?_); refine oAs ?_; refine oN ?_) | refine gc ?_ | refine ct ?_ | refine cf ?_ | refine swp_cond rfl (fun hc => ?_) (fun hc => ?_) | refine rq rfl (rt (rt .nil)) ?_)
  · obtain rfl : k = l.length := by omega
    have e1 : l.drop l.length = [] := List.drop_eq_nil_of_le (by omega)
    rw [e1] at h3
    rw [h3]
    repeat' (first | refine fam_ret ?_ | refine fam_exit ?_ | (refine rg 3 ?_; refine oMv ?_; refine oMv ?_; refine sp (pln rfl (tyS rfl)) ?_; refine oCm ?_; refine oN ?_) | (refine rg 11 ?_; refine oMv ?_; refine oAs ?_; refine oAs ?_; refine oN ?_) | refine gc ?_ | refine ct ?_ | refine cf ?_ | refine swp_cond rfl (fun hc => ?_) (fun hc => ?_) | refine rq rfl (rt (rt .nil)) ?_)
    rfl
end Go.Proofs.YtkmhaijefpgfiaaDoor.Pth

/- Targets: the document's answer: split, joined, the same: walks. -/
namespace Go.Proofs.YtkmhaijefpgfiaaDoor.Pth
set_option linter.unusedVariables false
set_option linter.unusedSimpArgs false
open Go.RowKit Mem Sim Opn Str
structure SpX where
  l : List L8
  f : Nat
  i : Nat
def SpS (s : ByteArray) (x : SpX) : St := ⟨[(0, .t (.v (.string s))), (3, .own 103 (x.l.map strT).length), (4, .t (.v (.int .i64 (x.f : Int)))), (5, .t (.v (.int .i64 (x.i : Int))))], [], [(103, ⟨9, 1, x.l.map strT⟩)]⟩
theorem seg_all {s : L8} {f i : Nat} (hf : f ≤ i) (hi : i ≤ s.length) : s.drop f = (s.take i).drop f ++ s.drop i := by
  conv => lhs; rw [← List.take_append_drop i s]
  rw [List.drop_append_of_le_length (by rw [List.length_take]; omega)]
theorem seg_next {s : ByteArray} {f i : Nat} (hf : f ≤ i) (hi : i < s.size) : (s.toList.take (i + 1)).drop f = (s.toList.take i).drop f ++ [s[i]] := by
  have hl := toList_len s
  have h1 : s.toList[i]'(by omega) = s[i] := by
    have := toList_get s i hi
    rw [List.getElem?_eq_getElem (by omega)] at this
    injection this
  rw [List.take_succ_eq_append_getElem (by omega), List.drop_append_of_le_length (by rw [List.length_take]; omega), h1]
set_option maxRecDepth 100000 in
set_option maxHeartbeats 1000000 in
theorem refSplit_ (s : ByteArray) (h0 : 1 ≤ s.size) (hs : s.size ≤ 100000) : PCalls Tryd.prog 14 [.v (.string s)] (.sl 1 ((splL (s.toList.drop 1)).map strT)) := by
  have hl := toList_len s
  refine pcalls_of Tryd.func14 rfl rfl Tryd.ntmps14 rfl ?_
  repeat' (first | (refine rg 0 ?_; refine oAs ?_; refine oN ?_) | (refine rg 1 ?_; refine oAs ?_; refine oN ?_) | (refine rg 2 ?_; refine oAs ?_; refine oN ?_) | (refine rg 3 ?_; refine oAs ?_; refine oN ?_) | refine gc ?_ | refine ct ?_ | refine cf ?_ | refine swp_cond rfl (fun hc => ?_) (fun hc => ?_) | refine rq rfl (rt .nil) ?_)
  refine swp_fam (SpS s) (fun x => 1 ≤ x.f ∧ x.l.length ≤ x.i ∧ x.i ≤ s.size + 1 ∧ ((x.i = s.size + 1 ∧ splL (s.toList.drop 1) = x.l) ∨ (x.f ≤ x.i ∧ x.i ≤ s.size ∧ splL (s.toList.drop 1) = x.l ++ splL (s.toList.drop x.f) ∧ ∀ c ∈ (s.toList.take x.i).drop x.f, c ≠ 47))) (fun x => s.size + 2 - x.i) ⟨[], 1, 1⟩ ?_ ⟨Nat.le_refl _, by simp, by simp only; omega, .inr ⟨Nat.le_refl _, h0, rfl, fun c hc => ?_⟩⟩ ?_
  · refine Weak.trans (weak_own0 (i := 103) 9 1 (s := 3) rfl rfl) ?_
    exact (weak_sub (.cons rfl rfl rfl (.cons rfl rfl rfl (.cons rfl rfl rfl (.cons rfl rfl rfl .nil)))) .nil (.cons rfl rfl .nil))
  · simp at hc
  rintro ⟨l, f, i⟩ ⟨h1, h2, h3, h4⟩
  unfold SpS
  dsimp only at h1 h2 h3 h4 ⊢
  have hm : (l.map strT).length = l.length := List.length_map _
  have hb1 : ((l.map strT).length + 1) * 64 ≤ 140737488355328 := by omega
  have hb2 : (l.map strT).length + 1 ≤ maxLen := by unfold maxLen; omega
  rcases h4 with ⟨h4, h5⟩ | ⟨h4, h5, h6, h7⟩
  · subst h4
    rw [h5]
    have hle : decide (((s.size + 1 : Nat) : Int) ≤ (s.size : Int)) = false := decide_eq_false (by omega)
    repeat' (first | refine fam_ret ?_ | refine fam_exit ?_ | (refine rg 4 ?_; refine oMv ?_; refine oMv ?_; refine sp (po_len_str rfl rfl (tyR rfl)) ?_; refine oCm ?_; refine oN ?_) | (refine rg 9 ?_; refine oMv ?_; refine oAs ?_; refine oN ?_) | refine gc ?_ | refine ct ?_ | refine cf ?_ | refine swp_cond rfl (fun hc => ?_) (fun hc => ?_) | refine rq rfl (rt .nil) ?_)
    rfl
  · have hle : decide ((i : Int) ≤ (s.size : Int)) = true := decide_eq_true (by omega)
    have hex : s.extract f i = bs ((s.toList.take i).drop f) := by
      have := ext_bs s.toList f i
      rwa [toList_bs] at this
    have ha : (l ++ [(s.toList.take i).drop f]).map strT = l.map strT ++ [[T.v (.string (s.extract f i))]] := by rw [List.map_append, hex]; rfl
    by_cases he : i = s.size
    · subst he
      have hd : s.toList.drop f = (s.toList.take s.size).drop f := by rw [List.take_of_length_le (by omega)]
      have hsp : splL (s.toList.drop f) = [(s.toList.take s.size).drop f] := by rw [hd]; exact splL_all _ h7
      rw [hsp] at h6
      have hee : decide ((s.size : Int) = (s.size : Int)) = true := decide_eq_true rfl
      repeat' (first | refine fam_next ⟨l ++ [(s.toList.take s.size).drop f], s.size + 1, s.size + 1⟩ (by simp only; omega) (weak_sub (.cons rfl (by first | rfl | (((try dsimp only); rw [ha]; try rfl))) rfl (.cons rfl (by first | rfl | (((try dsimp only); rw [ha]; try rfl))) rfl (.cons rfl (by first | rfl | (((try dsimp only); rw [ha]; try rfl))) rfl (.cons rfl (by first | rfl | (((try dsimp only); rw [ha]; try rfl))) rfl .nil)))) .nil (.cons rfl (by first | rfl | (((try dsimp only); rw [ha]; try rfl))) .nil)) ⟨by simp only; omega, by simp; omega, by simp only; omega, .inl ⟨rfl, h6⟩⟩ | (refine rg 4 ?_; refine oMv ?_; refine oMv ?_; refine sp (po_len_str rfl rfl (tyR rfl)) ?_; refine oCm ?_; refine oN ?_) | (refine rg 6 ?_; refine oMv ?_; refine oMv ?_; refine sp (po_len_str rfl rfl (tyR rfl)) ?_; refine oCm ?_; refine oMv ?_; (first | refine oMv ?_ | refine oK ?_ | ((refine ssp (fun hc => ?_) (fun hc => ?_)) <;> first | refine oMv ?_ | refine oK ?_)) <;> (first | refine oMv ?_ | refine oK ?_) <;> (first | refine sp (xist rfl) ?_ | refine oK ?_) <;> (first | refine oCm ?_ | refine oK ?_) <;> (first | refine oPt ?_ | refine oPf ?_) <;> (refine oN ?_)) | (refine rg 7 ?_; refine oMv ?_; refine oMv ?_; refine oMv ?_; refine oMv ?_; refine sp (po_slice_str rfl rfl (tyR rfl) (by first | rfl | exact ⟨_, rfl⟩) (by first | rfl | exact ⟨_, rfl⟩) (by omega) (by omega)) ?_; refine sp (po_buildSlice rfl (tyE rfl) (dc (.nil _)) rfl rfl rfl) ?_; (first | refine sap rfl (tyE rfl) ?_ | refine san rfl (tyE rfl) ?_); refine oAs ?_; refine oN ?_) | (refine rg 8 ?_; refine oMv ?_; (first | refine sp (xinc rfl) ?_ | refine sp (xadd rfl) ?_); refine oAs ?_; refine oN ?_) | (refine rg 5 ?_; refine oMv ?_; (first | refine sp (xinc rfl) ?_ | refine sp (xadd rfl) ?_); refine oAs ?_; refine oN ?_) | refine gc ?_ | refine ct ?_ | refine cf ?_ | refine swp_cond rfl (fun hc => ?_) (fun hc => ?_) | refine rq rfl (rt .nil) ?_)
    · have hlt : i < s.size := by omega
      have hne : decide ((i : Int) = (s.size : Int)) = false := decide_eq_false (by omega)
      have hall := seg_all (s := s.toList) h4 (by omega)
      rw [tl_drop s hlt] at hall
      by_cases hc : s[i].toNat = 47
      · have hc' : s[i] = 47 := UInt8.toNat_inj.1 hc
        rw [hc'] at hall
        have hsp : splL (s.toList.drop f) = (s.toList.take i).drop f :: splL (s.toList.drop (i + 1)) := by rw [hall]; exact splL_pre _ _ h7
        rw [hsp] at h6
        have hI : 1 ≤ i + 1 ∧ (l ++ [(s.toList.take i).drop f]).length ≤ i + 1 ∧ i + 1 ≤ s.size + 1 ∧ ((i + 1 = s.size + 1 ∧ splL (s.toList.drop 1) = l ++ [(s.toList.take i).drop f]) ∨ (i + 1 ≤ i + 1 ∧ i + 1 ≤ s.size ∧ splL (s.toList.drop 1) = (l ++ [(s.toList.take i).drop f]) ++ splL (s.toList.drop (i + 1)) ∧ ∀ c ∈ (s.toList.take (i + 1)).drop (i + 1), c ≠ 47)) :=
          ⟨by omega, by simp; omega, by omega, .inr ⟨Nat.le_refl _, by omega, by rw [h6]; simp, fun c hc => by rw [List.drop_of_length_le (by rw [List.length_take]; omega)] at hc; cases hc⟩⟩
        repeat' (first | refine fam_next ⟨l ++ [(s.toList.take i).drop f], i + 1, i + 1⟩ (by simp only; omega) (weak_sub (.cons rfl (by first | rfl | (((try dsimp only); rw [ha]; try rfl))) rfl (.cons rfl (by first | rfl | (((try dsimp only); rw [ha]; try rfl))) rfl (.cons rfl (by first | rfl | (((try dsimp only); rw [ha]; try rfl))) rfl (.cons rfl (by first | rfl | (((try dsimp only); rw [ha]; try rfl))) rfl .nil)))) .nil (.cons rfl (by first | rfl | (((try dsimp only); rw [ha]; try rfl))) .nil)) hI | (refine rg 4 ?_; refine oMv ?_; refine oMv ?_; refine sp (po_len_str rfl rfl (tyR rfl)) ?_; refine oCm ?_; refine oN ?_) | (refine rg 6 ?_; refine oMv ?_; refine oMv ?_; refine sp (po_len_str rfl rfl (tyR rfl)) ?_; refine oCm ?_; refine oMv ?_; (first | refine oMv ?_ | refine oK ?_ | ((refine ssp (fun hc => ?_) (fun hc => ?_)) <;> first | refine oMv ?_ | refine oK ?_)) <;> (first | refine oMv ?_ | refine oK ?_) <;> (first | refine sp (xist rfl) ?_ | refine oK ?_) <;> (first | refine oCm ?_ | refine oK ?_) <;> (first | refine oPt ?_ | refine oPf ?_) <;> (refine oN ?_)) | (refine rg 7 ?_; refine oMv ?_; refine oMv ?_; refine oMv ?_; refine oMv ?_; refine sp (po_slice_str rfl rfl (tyR rfl) (by first | rfl | exact ⟨_, rfl⟩) (by first | rfl | exact ⟨_, rfl⟩) (by omega) (by omega)) ?_; refine sp (po_buildSlice rfl (tyE rfl) (dc (.nil _)) rfl rfl rfl) ?_; (first | refine sap rfl (tyE rfl) ?_ | refine san rfl (tyE rfl) ?_); refine oAs ?_; refine oN ?_) | (refine rg 8 ?_; refine oMv ?_; (first | refine sp (xinc rfl) ?_ | refine sp (xadd rfl) ?_); refine oAs ?_; refine oN ?_) | (refine rg 5 ?_; refine oMv ?_; (first | refine sp (xinc rfl) ?_ | refine sp (xadd rfl) ?_); refine oAs ?_; refine oN ?_) | refine gc ?_ | refine ct ?_ | refine cf ?_ | refine swp_cond rfl (fun hc => ?_) (fun hc => ?_) | refine rq rfl (rt .nil) ?_)
      · have hc' : s[i] ≠ 47 := fun e => hc (by rw [e]; rfl)
        have hnx := seg_next (s := s) h4 hlt
        repeat' (first | refine fam_next ⟨l, f, i + 1⟩ (by simp only; omega) (weak_sub (.cons rfl rfl rfl (.cons rfl rfl rfl (.cons rfl rfl rfl (.cons rfl rfl rfl .nil)))) .nil (.cons rfl rfl .nil)) ⟨h1, by simp only; omega, by simp only; omega, .inr ⟨by simp only; omega, by simp only; omega, h6, fun c hc => by rw [hnx, List.mem_append] at hc; rcases hc with hc | hc; exact h7 c hc; rw [List.mem_singleton] at hc; rw [hc]; exact hc'⟩⟩ | (refine rg 4 ?_; refine oMv ?_; refine oMv ?_; refine sp (po_len_str rfl rfl (tyR rfl)) ?_; refine oCm ?_; refine oN ?_) | (refine rg 6 ?_; refine oMv ?_; refine oMv ?_; refine sp (po_len_str rfl rfl (tyR rfl)) ?_; refine oCm ?_; refine oMv ?_; (first | refine oMv ?_ | refine oK ?_ | ((refine ssp (fun hc => ?_) (fun hc => ?_)) <;> first | refine oMv ?_ | refine oK ?_)) <;> (first | refine oMv ?_ | refine oK ?_) <;> (first | refine sp (xist rfl) ?_ | refine oK ?_) <;> (first | refine oCm ?_ | refine oK ?_) <;> (first | refine oPt ?_ | refine oPf ?_) <;> (refine oN ?_)) | (refine rg 5 ?_; refine oMv ?_; (first | refine sp (xinc rfl) ?_ | refine sp (xadd rfl) ?_); refine oAs ?_; refine oN ?_) | refine gc ?_ | refine ct ?_ | refine cf ?_ | refine swp_cond rfl (fun hc => ?_) (fun hc => ?_) | refine rq rfl (rt .nil) ?_)
set_option maxRecDepth 100000 in
set_option maxHeartbeats 1000000 in
theorem refSame_ (a b : List L8) (ha : a.length ≤ 1000000) : PCalls Tryd.prog 15 [.sl 1 (a.map strT), .sl 1 (b.map strT)] (.v (.bool (decide (a = b)))) := by
  have hma : (a.map strT).length = a.length := List.length_map _
  have hmb : (b.map strT).length = b.length := List.length_map _
  refine pcalls_of Tryd.func15 rfl rfl Tryd.ntmps15 rfl ?_
  by_cases hl : a.length = b.length
  · have hz : (!decide ((((a.map strT).length : Nat) : Int) = (((b.map strT).length : Nat) : Int))) = false := by rw [hma, hmb, hl]; simp
    repeat' (first | (refine rg 0 ?_; refine oAs ?_; refine oN ?_) | (refine rg 1 ?_; refine oMv ?_; refine sp (pln rfl (tyS rfl)) ?_; refine oMv ?_; refine sp (pln rfl (tyS rfl)) ?_; refine oCm ?_; refine oN ?_) | (refine rg 3 ?_; refine oAs ?_; refine oN ?_) | refine gc ?_ | refine ct ?_ | refine cf ?_ | refine swp_cond rfl (fun hc => ?_) (fun hc => ?_) | refine rq rfl (rt .nil) ?_)
    refine swp_for (fun k => ⟨[(0, .t (.sl 1 (a.map strT))), (1, .t (.sl 1 (b.map strT))), (5, .t (.v (.int .i64 (k : Int))))], [], []⟩) (fun k => a.take k = b.take k) a.length (weak_sub (.cons rfl rfl rfl (.cons rfl rfl rfl (.cons rfl rfl rfl .nil))) .nil .nil) rfl ?_
    intro k hk hI
    by_cases hlt : k < a.length
    · have hlb : k < b.length := by omega
      have h1 := strs_at hlt
      have h2 := strs_at hlb
      by_cases he : a[k] = b[k]
      · have e1 : (!decide (bs a[k] = bs b[k])) = false := by rw [bs_dec3, decide_eq_true he]; rfl
        repeat' (first | refine for_next hlt (weak_sub (.cons rfl rfl rfl (.cons rfl rfl rfl (.cons rfl rfl rfl .nil))) .nil .nil) (take_eq_succ hI hlt hlb he) | (refine rg 4 ?_; refine oMv ?_; refine oMv ?_; refine sp (pln rfl (tyS rfl)) ?_; refine oCm ?_; refine oN ?_) | (refine rd 6 ?_; refine dMv ?_; refine dMv ?_; refine dp (pix rfl (tyS rfl)) ?_; (first | refine dLb ?_ | refine dLd ?_); refine dMv ?_; refine dMv ?_; refine dp (pix rfl (tyS rfl)) ?_; (first | refine dLb ?_ | refine dLd ?_); refine dp (po_str rfl rfl rfl rfl) ?_; refine dN ?_; refine oN ?_) | (refine rg 5 ?_; refine oMv ?_; (first | refine sp (xinc rfl) ?_ | refine sp (xadd rfl) ?_); refine oAs ?_; refine oN ?_) | refine gc ?_ | refine ct ?_ | refine cf ?_ | refine swp_cond rfl (fun hc => ?_) (fun hc => ?_) | refine rq rfl (rt .nil) ?_)
      · have e1 : (!decide (bs a[k] = bs b[k])) = true := by rw [bs_dec3, decide_eq_false he]; rfl
        have hne : a ≠ b := fun e => he (by subst e; rfl)
        rw [decide_eq_false hne]
        repeat' (first | (refine rg 4 ?_; refine oMv ?_; refine oMv ?_; refine sp (pln rfl (tyS rfl)) ?_; refine oCm ?_; refine oN ?_) | (refine rd 6 ?_; refine dMv ?_; refine dMv ?_; refine dp (pix rfl (tyS rfl)) ?_; (first | refine dLb ?_ | refine dLd ?_); refine dMv ?_; refine dMv ?_; refine dp (pix rfl (tyS rfl)) ?_; (first | refine dLb ?_ | refine dLd ?_); refine dp (po_str rfl rfl rfl rfl) ?_; refine dN ?_; refine oN ?_) | (refine rg 7 ?_; refine oAs ?_; refine oN ?_) | refine gc ?_ | refine ct ?_ | refine cf ?_ | refine swp_cond rfl (fun hc => ?_) (fun hc => ?_) | refine rq rfl (rt .nil) ?_)
        rfl
    · obtain rfl : k = a.length := by omega
      have he : a = b := by rw [List.take_length, hl, List.take_length] at hI; exact hI
      rw [decide_eq_true he]
      repeat' (first | (refine rg 4 ?_; refine oMv ?_; refine oMv ?_; refine sp (pln rfl (tyS rfl)) ?_; refine oCm ?_; refine oN ?_) | (refine rg 8 ?_; refine oAs ?_; refine oN ?_) | refine gc ?_ | refine ct ?_ | refine cf ?_ | refine swp_cond rfl (fun hc => ?_) (fun hc => ?_) | refine rq rfl (rt .nil) ?_)
      rfl
  · have hz : (!decide ((((a.map strT).length : Nat) : Int) = (((b.map strT).length : Nat) : Int))) = true := by rw [hma, hmb, decide_eq_false (by omega)]; rfl
    rw [decide_eq_false (fun e => hl (by rw [e]))]
    repeat' (first | (refine rg 0 ?_; refine oAs ?_; refine oN ?_) | (refine rg 1 ?_; refine oMv ?_; refine sp (pln rfl (tyS rfl)) ?_; refine oMv ?_; refine sp (pln rfl (tyS rfl)) ?_; refine oCm ?_; refine oN ?_) | (refine rg 2 ?_; refine oAs ?_; refine oN ?_) | refine gc ?_ | refine ct ?_ | refine cf ?_ | refine swp_cond rfl (fun hc => ?_) (fun hc => ?_) | refine rq rfl (rt .nil) ?_)
    rfl
def jk (l : List L8) (k : Nat) : L8 := (l.take k).flatMap fun s => 47 :: s
theorem jk_succ {l : List L8} {k : Nat} (h : k < l.length) : bs (jk l k) ++ (⟨#[47]⟩ : ByteArray) ++ bs l[k] = bs (jk l (k + 1)) := bs_inj (by
  rw [toList_append, toList_append, bs_toList, bs_toList, bs_toList, show (⟨#[47]⟩ : ByteArray).toList = [47] from bs_toList [47]]
  unfold jk
  rw [List.take_succ_eq_append_getElem h, List.flatMap_append]
  simp)
set_option maxRecDepth 100000 in
set_option maxHeartbeats 1000000 in
theorem refJoin_ (dir : Bool) (l : List L8) (hn : tot l ≤ 1000000) : PCalls Tryd.prog 18 [.v (.bool dir), .sl 1 (l.map strT)] (.v (.string (bs (joinL dir l)))) := by
  have hm : (l.map strT).length = l.length := List.length_map _
  have hl : l.length ≤ 1000000 := by unfold tot at hn; omega
  have hj := fun k => take_flat_len l k
  have hsz : ∀ k, (bs (jk l k)).size ≤ 1000000 := fun k => by rw [bs_size]; have := hj k; unfold jk; omega
  have h47 : (⟨#[47]⟩ : ByteArray).size = 1 := rfl
  refine pcalls_of Tryd.func18 rfl rfl Tryd.ntmps18 rfl ?_
  rw [joinL_R]
  repeat' (first | (refine rg 0 ?_; refine oAs ?_; refine oN ?_) | (refine rg 1 ?_; refine oAs ?_; refine oN ?_) | (refine rg 2 ?_; refine oAs ?_; refine oN ?_) | refine gc ?_ | refine ct ?_ | refine cf ?_ | refine swp_cond rfl (fun hc => ?_) (fun hc => ?_) | refine rq rfl (rt .nil) ?_)
  refine swp_for (fun k => ⟨[(0, .t (.v (.bool dir))), (1, .t (.sl 1 (l.map strT))), (5, .t (.v (.string (bs (jk l k))))), (6, .t (.v (.int .i64 (k : Int))))], [], []⟩) (fun _ => True) l.length (weak_sub (.cons rfl rfl rfl (.cons rfl rfl rfl (.cons rfl rfl rfl (.cons rfl rfl rfl .nil)))) .nil .nil) trivial ?_
  intro k hk _
  by_cases hlt : k < l.length
  · have hrow := strs_at hlt
    have hnx := jk_succ hlt
    have h1 := hsz k
    have h2 : (bs (jk l k) ++ (⟨#[47]⟩ : ByteArray)).size = (bs (jk l k)).size + 1 := by rw [ByteArray.size_append, h47]
    have h3 : (bs l[k]).size ≤ 1000000 := by
      have := hsz (k + 1)
      rw [← hnx, ByteArray.size_append] at this; omega
    repeat' (first | refine for_next hlt (weak_sub (.cons rfl (by first | rfl | (exact str_eq hnx)) rfl (.cons rfl (by first | rfl | (exact str_eq hnx)) rfl (.cons rfl (by first | rfl | (exact str_eq hnx)) rfl (.cons rfl (by first | rfl | (exact str_eq hnx)) rfl .nil)))) .nil .nil) trivial | (refine rg 3 ?_; refine oMv ?_; refine oMv ?_; refine sp (pln rfl (tyS rfl)) ?_; refine oCm ?_; refine oN ?_) | (refine rg 5 ?_; refine oMv ?_; refine sp (po_cat rfl rfl rfl (by omega)) ?_; refine oMv ?_; refine oMv ?_; refine sp (pix rfl (tyS rfl)) ?_; (first | refine oLb ?_ | refine oLd ?_); refine sp (po_cat rfl rfl rfl (by omega)) ?_; refine oAs ?_; refine oN ?_) | (refine rg 4 ?_; refine oMv ?_; (first | refine sp (xinc rfl) ?_ | refine sp (xadd rfl) ?_); refine oAs ?_; refine oN ?_) | refine gc ?_ | refine ct ?_ | refine cf ?_ | refine swp_cond rfl (fun hc => ?_) (fun hc => ?_) | refine rq rfl (rt .nil) ?_)
  · obtain rfl : k = l.length := by omega
    have h1 := hsz l.length
    have hjl : jk l l.length = l.flatMap fun s => 47 :: s := by unfold jk; rw [List.take_length]
    have hc : bs (jk l l.length) ++ (⟨#[47]⟩ : ByteArray) = bs (jk l l.length ++ [47]) := bs_cat _ [47]
    unfold joinR
    by_cases hz : l = []
    · have hz' : decide ((((l.map strT).length : Nat) : Int) = 0) = true := by subst hz; rfl
      rw [if_pos (.inl hz), ← hjl, ← hc]
      repeat' (first | (refine rg 3 ?_; refine oMv ?_; refine oMv ?_; refine sp (pln rfl (tyS rfl)) ?_; refine oCm ?_; refine oN ?_) | (refine rg 6 ?_; refine oMv ?_; refine sp (pln rfl (tyS rfl)) ?_; refine oCm ?_; refine oMv ?_; (first | refine oMv ?_ | refine oK ?_ | ((refine ssp (fun hc => ?_) (fun hc => ?_)) <;> first | refine oMv ?_ | refine oK ?_)) <;> (first | refine oPt ?_ | refine oPf ?_) <;> (refine oN ?_)) | (refine rg 7 ?_; refine oMv ?_; refine sp (po_cat rfl rfl rfl (by omega)) ?_; refine oAs ?_; refine oN ?_) | (refine rg 8 ?_; refine oMv ?_; refine oAs ?_; refine oN ?_) | refine gc ?_ | refine ct ?_ | refine cf ?_ | refine swp_cond rfl (fun hc => ?_) (fun hc => ?_) | refine rq rfl (rt .nil) ?_)
      rfl
    · have hz' : decide ((((l.map strT).length : Nat) : Int) = 0) = false := decide_eq_false (by cases l with | nil => exact absurd rfl hz | cons _ _ => simp; omega)
      cases dir with
      | true =>
        rw [if_pos (.inr rfl), ← hjl, ← hc]
        repeat' (first | (refine rg 3 ?_; refine oMv ?_; refine oMv ?_; refine sp (pln rfl (tyS rfl)) ?_; refine oCm ?_; refine oN ?_) | (refine rg 6 ?_; refine oMv ?_; refine sp (pln rfl (tyS rfl)) ?_; refine oCm ?_; refine oMv ?_; (first | refine oMv ?_ | refine oK ?_ | ((refine ssp (fun hc => ?_) (fun hc => ?_)) <;> first | refine oMv ?_ | refine oK ?_)) <;> (first | refine oPt ?_ | refine oPf ?_) <;> (refine oN ?_)) | (refine rg 7 ?_; refine oMv ?_; refine sp (po_cat rfl rfl rfl (by omega)) ?_; refine oAs ?_; refine oN ?_) | (refine rg 8 ?_; refine oMv ?_; refine oAs ?_; refine oN ?_) | refine gc ?_ | refine ct ?_ | refine cf ?_ | refine swp_cond rfl (fun hc => ?_) (fun hc => ?_) | refine rq rfl (rt .nil) ?_)
        rfl
      | false =>
        rw [if_neg (by simp [hz]), ← hjl, List.append_nil]
        repeat' (first | (refine rg 3 ?_; refine oMv ?_; refine oMv ?_; refine sp (pln rfl (tyS rfl)) ?_; refine oCm ?_; refine oN ?_) | (refine rg 6 ?_; refine oMv ?_; refine sp (pln rfl (tyS rfl)) ?_; refine oCm ?_; refine oMv ?_; (first | refine oMv ?_ | refine oK ?_ | ((refine ssp (fun hc => ?_) (fun hc => ?_)) <;> first | refine oMv ?_ | refine oK ?_)) <;> (first | refine oPt ?_ | refine oPf ?_) <;> (refine oN ?_)) | (refine rg 8 ?_; refine oMv ?_; refine oAs ?_; refine oN ?_) | refine gc ?_ | refine ct ?_ | refine cf ?_ | refine swp_cond rfl (fun hc => ?_) (fun hc => ?_) | refine rq rfl (rt .nil) ?_)
        rfl
end Go.Proofs.YtkmhaijefpgfiaaDoor.Pth
