/- The law TimersTime returns true for every input, and its arguments read afterwards as before. There is no condition. -/
import Derived.Test.YtmjckopplkihlaaTimersTime
import Derived.Test.YtmjckopplkihlaaOpenDue
import Derived.Test.YtmjckopplkihlaaPost0
namespace Go.Proofs.Ytmjckopplkihlaa.TimersTime
set_option linter.unusedVariables false
set_option linter.unusedSimpArgs false
open Go.ChangeShapes Go.WideShapes Go.ChangeAt Go.RowKit Mem Post
open Go.ChangeMaps (open_string)
open Opn

set_option maxRecDepth 100000 in
theorem lifted (os : Os) (started : os.Started) (H : Type) (enc : TypeId × Value → H) :
    ReturnsInHanded {} Try.checked os 5 .any (Rows.timersTimeSpec.pre6 enc Try.prog Try.f5 Rows.timersTimeRow.domain false) (Rows.timersTimeSpec.post enc Try.prog Try.f5 false true false false) := by
  refine returnsInHanded_of_change (C := Try.checked) Post.Try.own started (by kernel_rfl) Try.func5
    (ChangeSpec.witness6 (enc := enc) (C := Try.checked) false ⟨#[], #[.slice none 0 0, .slice none 0 0], []⟩ 8 (by kernel_rfl) (by kernel_rfl) (by kernel_rfl) (by kernel_rfl)) ?_
  intro W base args ds gs before hval0 hW _ _
  have hval : ∀ (j : Nat) t v, Try.f5.params[j]? = some t → args[j]? = some v → Value.okWide Try.prog W .any base t v := hval0
  have hW' := hW
  obtain ⟨p, q, hA0, hV, rfl, _, _⟩ := hW
  have hA : DataW.TrodAll enc Try.prog W 0 (fun _ => true) true Try.f5.params.toList args.toList ds p := hA0
  rw [Try.params5] at hA hval
  obtain ⟨v0, vs0, d0, ds0, p0, q0, hargs, rfl, rfl, h0, r0⟩ := trodAll_cons hA
  obtain ⟨v1, vs1, d1, ds1, p1, q1, rfl, rfl, rfl, h1, r1⟩ := trodAll_cons r0
  obtain ⟨rfl, rfl, rfl⟩ := trodAll_nil r1
  obtain rfl : args = #[v0, v1] := by cases args; simp_all
  obtain ⟨A0, cap0, l, rfl, hAl, hl1, hl2⟩ := open_slice_arg Try.underlying22 dues_opens (hval 0 22 v0 rfl rfl) h0
  obtain ⟨A1, cap1, st, rfl, hst, hs1, hs2⟩ := open_slice_arg Try.underlying43 ints_opens (hval 1 43 v1 rfl rfl) h1
  clear hA0 hval0
  refine (walk A0 cap0 l A1 cap1 st W hAl (Nat.le_refl _) hl1 hl2 hst hs1 hs2).mono fun e W' ⟨he, hb⟩ => ?_
  subst he
  exact ⟨_, rfl, law_post (tb := 4) Post.Try.laidOut (of_decide_eq_true (by kernel_rfl)) rfl Try.underlying4 (by kernel_rfl) (by rintro rfl; rfl) hW' hb⟩

theorem holds : Rows.TimersTimeSaid :=
  OpenClaim.holds_of_wide 5 Try.f5 rfl rfl rfl rfl rfl rfl rfl ⟨rfl, rfl, rfl, rfl, rfl⟩ rfl rfl rfl rfl rfl (by kernel_rfl) Try.func5 (by kernel_rfl)
    (of_decide_eq_true (by kernel_rfl)) (by unfold Func.isWrapper; first | (rw [if_pos (by decide +kernel)]; kernel_rfl) | (rw [if_neg (by decide +kernel)]; exact ⟨rfl, rfl⟩))
    (fun os started H enc _ => lifted os started H enc)
#print axioms holds
end Go.Proofs.Ytmjckopplkihlaa.TimersTime
