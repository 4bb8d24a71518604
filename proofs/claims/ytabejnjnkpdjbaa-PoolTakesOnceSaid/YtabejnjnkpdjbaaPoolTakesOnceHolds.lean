/- The law PoolTakesOnce returns true for every input, and its arguments read afterwards as before. There is no condition. -/
import Derived.Test.YtabejnjnkpdjbaaPoolTakesOnce
import Derived.Test.YtabejnjnkpdjbaaS35
import Derived.Test.YtabejnjnkpdjbaaS32
import Derived.Test.YtabejnjnkpdjbaaS15
namespace Go.Proofs.Ytabejnjnkpdjbaa.PoolTakesOnce
set_option linter.unusedVariables false
set_option linter.unusedSimpArgs false
open Go Go.ChangeShapes Go.WideShapes Go.ChangeAt Go.RowKit Mem Post Sim
open Opn

set_option maxRecDepth 100000 in
theorem lifted (os : Os) (started : os.Started) (H : Type) (enc : TypeId × Value → H) :
    ReturnsInHanded {} Try.checked os 3 .any (Rows.poolTakesOnceSpec.pre6 enc Try.prog Try.f3 Rows.poolTakesOnceRow.domain false) (Rows.poolTakesOnceSpec.post enc Try.prog Try.f3 false true false false) := by
  refine returnsInHanded_of_change_sized (C := Try.checked) Post.Try.own started (by kernel_rfl) Try.func3
    (ChangeSpec.witness6 (enc := enc) (C := Try.checked) false ⟨#[], #[.slice none 0 0, .slice none 0 0], []⟩ 8 (by kernel_rfl) (by kernel_rfl) (by kernel_rfl) (by kernel_rfl)) ?_
  intro W base args ds gs before hval0 hW _ hZ _
  have hval : ∀ (j : Nat) t v, Try.f3.params[j]? = some t → args[j]? = some v → Value.okWide Try.prog W .any base t v := hval0
  have hW' := hW
  obtain ⟨p, q, hA0, hV, rfl, _, _⟩ := hW
  have hA : DataW.TrodAll enc Try.prog W 0 (fun _ => true) true Try.f3.params.toList args.toList ds p := hA0
  rw [Try.params3] at hA hval hZ
  have hlight := R21.light_each _ _ hZ
  obtain ⟨v0, vs0, d0, ds0, p0, q0, hargs, rfl, rfl, h0, r0⟩ := trodAll_cons hA
  obtain ⟨v1, vs1, d1, ds1, p1, q1, rfl, rfl, rfl, h1, r1⟩ := trodAll_cons r0
  obtain ⟨rfl, rfl, rfl⟩ := trodAll_nil r1
  obtain rfl : args = #[v0, v1] := by cases args; simp_all
  obtain ⟨A0, cap0, x0, rfl, hB0, hl0, hm0⟩ := R21.open_slice_argW Try.underlying22 R21.cells_uint64 (by omega) R21.U_opens (hlight 0 _ _ rfl rfl) (hval 0 22 v0 rfl rfl) h0
  obtain ⟨A1, cap1, x1, rfl, hB1, hl1, hm1⟩ := R21.open_slice_argW Try.underlying23 R21.cells_bool (by omega) R21.Bo_opens (hlight 1 _ _ rfl rfl) (hval 1 23 v1 rfl rfl) h1
  clear hA0 hval0
  refine ((law_ x0 x1 (R21.len_ok hl0 hm0) (R21.len_ok hl1 hm1)).law W _ rfl (fun i t v h1 h2 => ?_) (fun b o v h => absurd (show (none : Option Value) = some v from h) (by simp))).mono fun e W' ⟨he, hb⟩ => ?_
  · match i, h1, h2 with
    | 0, h1, h2 => simp at h1 h2; subst h1 h2; exact R21.sl_bwdA (fun _ => rfl) R21.U_bwd hB0 hl0 hm0
    | 1, h1, h2 => simp at h1 h2; subst h1 h2; exact R21.sl_bwdA (fun _ => rfl) R21.Bo_bwd hB1 hl1 hm1
  · subst he
    exact ⟨_, rfl, law_post (tb := 4) Post.Try.laidOut (of_decide_eq_true (by kernel_rfl)) rfl Try.underlying4 (by kernel_rfl) (by rintro rfl; rfl) hW' hb⟩

theorem holds : Rows.PoolTakesOnceSaid :=
  OpenClaim.holds_of_wide 3 Try.f3 rfl rfl rfl rfl rfl rfl rfl ⟨rfl, rfl, rfl, rfl, rfl⟩ rfl rfl rfl rfl rfl (by kernel_rfl) Try.func3 (by kernel_rfl)
    (of_decide_eq_true (by kernel_rfl)) (by unfold Func.isWrapper; first | (rw [if_pos (by decide +kernel)]; kernel_rfl) | (rw [if_neg (by decide +kernel)]; exact ⟨rfl, rfl⟩))
    (fun os started H enc _ => lifted os started H enc)
#print axioms holds
end Go.Proofs.Ytabejnjnkpdjbaa.PoolTakesOnce
