/- The law SplitHalves returns true for every input, and its arguments read afterwards as before. There is no condition. -/
import Derived.Test.YtnclifgiakmmoaaGreatSplitHalves
import Derived.Test.YtnclifgiakmmoaaGreatH32
import Derived.Test.YtnclifgiakmmoaaGreatH11
namespace Go.Proofs.YtnclifgiakmmoaaGreat.SplitHalves
set_option linter.unusedVariables false
set_option linter.unusedSimpArgs false
open Go.ChangeShapes Go.WideShapes Go.ChangeAt Go.RowKit Mem Post
open Go.ChangeMaps (open_string)
open Opn

set_option maxRecDepth 100000 in
theorem lifted (os : Os) (started : os.Started) (H : Type) (enc : TypeId × Value → H) :
    ReturnsInHanded {} Tryz.checked os 3 .any (Rows.splitHalvesSpec.pre6 enc Tryz.prog Tryz.f3 Rows.splitHalvesRow.domain false) (Rows.splitHalvesSpec.post enc Tryz.prog Tryz.f3 false true false false) := by
  refine returnsInHanded_of_change (C := Tryz.checked) Post.Tryz.own started (by kernel_rfl) Tryz.func3
    (ChangeSpec.witness6 (enc := enc) (C := Tryz.checked) false ⟨#[], #[.slice none 0 0, .slice none 0 0, .agg #[.slice none 0 0, .slice none 0 0, .slice none 0 0]], []⟩ 8 (by kernel_rfl) (by kernel_rfl) (by kernel_rfl) (by kernel_rfl)) ?_
  intro W base args ds gs before hval0 hW _ _
  have hval : ∀ (j : Nat) t v, Tryz.f3.params[j]? = some t → args[j]? = some v → Value.okWide Tryz.prog W .any base t v := hval0
  have hW' := hW
  obtain ⟨p, q, hA0, hV, rfl, _, _⟩ := hW
  have hA : DataW.TrodAll enc Tryz.prog W 0 (fun _ => true) true Tryz.f3.params.toList args.toList ds p := hA0
  rw [Tryz.params3] at hA hval
  obtain ⟨v0, vs0, d0, ds0, p0, q0, hargs, rfl, rfl, h0, r0⟩ := trodAll_cons hA
  obtain ⟨v1, vs1, d1, ds1, p1, q1, rfl, rfl, rfl, h1, r1⟩ := trodAll_cons r0
  obtain ⟨v2, vs2, d2, ds2, p2, q2, rfl, rfl, rfl, h2, r2⟩ := trodAll_cons r1
  obtain ⟨rfl, rfl, rfl⟩ := trodAll_nil r2
  obtain rfl : args = #[v0, v1, v2] := by cases args; simp_all
  obtain ⟨A0, cap0, l, rfl, hpol, hl1, hl2⟩ := open_slice_arg Tryz.underlying22 (opens_slice (R := PolicyR) Tryz.underlying22 cells_Policy (by omega) policy_opens) (hval 0 22 v0 rfl rfl) h0
  obtain ⟨A1, cap1, m, rfl, hpm, hm1, hm2⟩ := open_slice_arg Tryz.underlying22 (opens_slice (R := PolicyR) Tryz.underlying22 cells_Policy (by omega) policy_opens) (hval 1 22 v1 rfl rfl) h1
  obtain ⟨rcs, r, rfl, hrr⟩ := open_struct_arg Tryz.underlying27 rule_opens (hval 2 27 v2 rfl rfl) h2
  clear hA0 hval0
  refine (walk l A0 cap0 m A1 cap1 r rcs W hpol hl1 hl2 hpm hm1 hm2 hrr).mono fun e W' ⟨he, hb⟩ => ?_
  subst he
  exact ⟨_, rfl, law_post (tb := 4) Post.Tryz.laidOut (of_decide_eq_true (by kernel_rfl)) rfl Tryz.underlying4 (by kernel_rfl) (by rintro rfl; rfl) hW' hb⟩

theorem holds : Rows.SplitHalvesSaid :=
  OpenClaim.holds_of_wide 3 Tryz.f3 rfl rfl rfl rfl rfl rfl rfl ⟨rfl, rfl, rfl, rfl, rfl⟩ rfl rfl rfl rfl rfl (by kernel_rfl) Tryz.func3 (by kernel_rfl)
    (of_decide_eq_true (by kernel_rfl)) (by unfold Func.isWrapper; first | (rw [if_pos (by decide +kernel)]; kernel_rfl) | (rw [if_neg (by decide +kernel)]; exact ⟨rfl, rfl⟩))
    (fun os started H enc _ => lifted os started H enc)
#print axioms holds
end Go.Proofs.YtnclifgiakmmoaaGreat.SplitHalves
