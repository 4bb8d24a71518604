/- The law PoolOnce returns true for every input, and its arguments read afterwards as before. There is no condition. -/
import Derived.Test.YtabejnjnkpdjbaaPoolOnce
import Derived.Test.YtabejnjnkpdjbaaT30
import Derived.Test.YtabejnjnkpdjbaaT28
import Derived.Test.YtabejnjnkpdjbaaT15
namespace Go.Proofs.Ytabejnjnkpdjbaa.PoolOnce
set_option linter.unusedVariables false
set_option linter.unusedSimpArgs false
open Go Go.ChangeShapes Go.WideShapes Go.ChangeAt Go.RowKit Mem Post Sim
open Opn

set_option maxRecDepth 100000 in
theorem lifted (os : Os) (started : os.Started) (H : Type) (enc : TypeId × Value → H) :
    ReturnsInHanded {} Try.checked os 5 .any (Rows.poolOnceSpec.pre6 enc Try.prog Try.f5 Rows.poolOnceRow.domain false) (Rows.poolOnceSpec.post enc Try.prog Try.f5 false true false false) := by
  refine returnsInHanded_of_change_sized (C := Try.checked) Post.Try.own started (by kernel_rfl) Try.func5
    (ChangeSpec.witness6 (enc := enc) (C := Try.checked) false ⟨#[], #[.int .i64 0, .slice none 0 0], []⟩ 8 (by kernel_rfl) (by kernel_rfl) (by kernel_rfl) (by kernel_rfl)) ?_
  intro W base args ds gs before hval0 hW _ hZ _
  have hval : ∀ (j : Nat) t v, Try.f5.params[j]? = some t → args[j]? = some v → Value.okWide Try.prog W .any base t v := hval0
  have hW' := hW
  obtain ⟨p, q, hA0, hV, rfl, _, _⟩ := hW
  have hA : DataW.TrodAll enc Try.prog W 0 (fun _ => true) true Try.f5.params.toList args.toList ds p := hA0
  rw [Try.params5] at hA hval hZ
  have hlight := R21.light_each _ _ hZ
  obtain ⟨v0, vs0, d0, ds0, p0, q0, hargs, rfl, rfl, h0, r0⟩ := trodAll_cons hA
  obtain ⟨v1, vs1, d1, ds1, p1, q1, rfl, rfl, rfl, h1, r1⟩ := trodAll_cons r0
  obtain ⟨rfl, rfl, rfl⟩ := trodAll_nil r1
  obtain rfl : args = #[v0, v1] := by cases args; simp_all
  obtain ⟨x0, rfl, hx0⟩ := open_int_arg Try.underlying3 (hval 0 3 v0 rfl rfl) h0
  obtain ⟨A1, cap1, x1, rfl, hB1, hl1, hm1⟩ := R21.open_slice_argW Try.underlying55 R21.cells_gatepostlaw21_Act (by omega) R21.Act_opens (hlight 1 _ _ rfl rfl) (hval 1 55 v1 rfl rfl) h1
  clear hA0 hval0
  refine ((law_ x0 x1 (R21.len_ok hl1 hm1)).law W _ rfl (fun i t v h1 h2 => ?_) (fun b o v h => absurd (show (none : Option Value) = some v from h) (by simp))).mono fun e W' ⟨he, hb⟩ => ?_
  · match i, h1, h2 with
    | 0, h1, h2 => simp at h1 h2; subst h1 h2; exact .v _
    | 1, h1, h2 => simp at h1 h2; subst h1 h2; exact R21.sl_bwdA (fun _ => rfl) R21.Act_bwd hB1 hl1 hm1
  · subst he
    exact ⟨_, rfl, law_post (tb := 4) Post.Try.laidOut (of_decide_eq_true (by kernel_rfl)) rfl Try.underlying4 (by kernel_rfl) (by rintro rfl; rfl) hW' hb⟩

theorem holds : Rows.PoolOnceSaid :=
  OpenClaim.holds_of_wide 5 Try.f5 rfl rfl rfl rfl rfl rfl rfl ⟨rfl, rfl, rfl, rfl, rfl⟩ rfl rfl rfl rfl rfl (by kernel_rfl) Try.func5 (by kernel_rfl)
    (of_decide_eq_true (by kernel_rfl)) (by unfold Func.isWrapper; first | (rw [if_pos (by decide +kernel)]; kernel_rfl) | (rw [if_neg (by decide +kernel)]; exact ⟨rfl, rfl⟩))
    (fun os started H enc _ => lifted os started H enc)
#print axioms holds
end Go.Proofs.Ytabejnjnkpdjbaa.PoolOnce
