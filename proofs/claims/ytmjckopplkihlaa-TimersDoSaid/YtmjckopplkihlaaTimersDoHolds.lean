/- The law TimersDo returns true for every input, and its arguments read afterwards as before. There is no condition. -/
import Derived.Test.YtmjckopplkihlaaTimersDoB2
import Derived.Test.YtmjckopplkihlaaOpenDue
import Derived.Test.YtmjckopplkihlaaPost0
namespace Go.Proofs.Ytmjckopplkihlaa.TimersDo
set_option linter.unusedVariables false
set_option linter.unusedSimpArgs false
open Go.ChangeShapes Go.WideShapes Go.ChangeAt Go.RowKit Mem Post
open Go.ChangeMaps (open_string)
open Opn

set_option maxRecDepth 100000 in
theorem lifted (os : Os) (started : os.Started) (H : Type) (enc : TypeId × Value → H) :
    ReturnsInHanded {} Try.checked os 3 .any (Rows.timersDoSpec.pre6 enc Try.prog Try.f3 Rows.timersDoRow.domain false) (Rows.timersDoSpec.post enc Try.prog Try.f3 false true false false) := by
  refine returnsInHanded_of_change (C := Try.checked) Post.Try.own started (by kernel_rfl) Try.func3
    (ChangeSpec.witness6 (enc := enc) (C := Try.checked) false ⟨#[], #[.slice none 0 0, .slice none 0 0, .agg #[.int .u64 0, .int .i64 0, .int .u64 0], .int .u64 0], []⟩ 8 (by kernel_rfl) (by kernel_rfl) (by kernel_rfl) (by kernel_rfl)) ?_
  intro W base args ds gs before hval0 hW _ _
  have hval : ∀ (j : Nat) t v, Try.f3.params[j]? = some t → args[j]? = some v → Value.okWide Try.prog W .any base t v := hval0
  have hW' := hW
  obtain ⟨p, q, hA0, hV, rfl, _, _⟩ := hW
  have hA : DataW.TrodAll enc Try.prog W 0 (fun _ => true) true Try.f3.params.toList args.toList ds p := hA0
  rw [Try.params3] at hA hval
  obtain ⟨v0, vs0, d0, ds0, p0, q0, hargs, rfl, rfl, h0, r0⟩ := trodAll_cons hA
  obtain ⟨v1, vs1, d1, ds1, p1, q1, rfl, rfl, rfl, h1, r1⟩ := trodAll_cons r0
  obtain ⟨v2, vs2, d2, ds2, p2, q2, rfl, rfl, rfl, h2, r2⟩ := trodAll_cons r1
  obtain ⟨v3, vs3, d3, ds3, p3, q3, rfl, rfl, rfl, h3, r3⟩ := trodAll_cons r2
  obtain ⟨rfl, rfl, rfl⟩ := trodAll_nil r3
  obtain rfl : args = #[v0, v1, v2, v3] := by cases args; simp_all
  obtain ⟨A0, cap0, l, rfl, hAl, hl1, hl2⟩ := open_slice_arg Try.underlying22 dues_opens (hval 0 22 v0 rfl rfl) h0
  obtain ⟨A1, cap1, m, rfl, hA1, hm1, hm2⟩ := open_slice_arg Try.underlying22 dues_opens (hval 1 22 v1 rfl rfl) h1
  obtain ⟨_, d, rfl, hd⟩ := open_struct_arg Try.underlying25 due_opens (hval 2 25 v2 rfl rfl) h2
  obtain ⟨hcs, hd0, hd1, hd2⟩ := hd
  obtain rfl := arr_of_list hcs
  obtain ⟨now, rfl, hnow⟩ := open_int_arg Try.underlying23 (hval 3 23 v3 rfl rfl) h3
  clear hA0 hval0
  refine (walk A0 cap0 l A1 cap1 m d now W hAl (Nat.le_refl _) hl1 hl2 hA1 hm1 hm2 ⟨hd0, hd1, hd2⟩).mono fun e W' ⟨he, hb⟩ => ?_
  subst he
  exact ⟨_, rfl, law_post (tb := 4) Post.Try.laidOut (of_decide_eq_true (by kernel_rfl)) rfl Try.underlying4 (by kernel_rfl) (by rintro rfl; rfl) hW' hb⟩

theorem holds : Rows.TimersDoSaid :=
  OpenClaim.holds_of_wide 3 Try.f3 rfl rfl rfl rfl rfl rfl rfl ⟨rfl, rfl, rfl, rfl, rfl⟩ rfl rfl rfl rfl rfl (by kernel_rfl) Try.func3 (by kernel_rfl)
    (of_decide_eq_true (by kernel_rfl)) (by unfold Func.isWrapper; first | (rw [if_pos (by decide +kernel)]; kernel_rfl) | (rw [if_neg (by decide +kernel)]; exact ⟨rfl, rfl⟩))
    (fun os started H enc _ => lifted os started H enc)
#print axioms holds
end Go.Proofs.Ytmjckopplkihlaa.TimersDo
