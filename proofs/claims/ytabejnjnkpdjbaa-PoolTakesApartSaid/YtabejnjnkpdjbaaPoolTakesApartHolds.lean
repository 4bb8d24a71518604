/- The law PoolTakesApart returns true for every input, and its arguments read afterwards as before. There is no condition. -/
import Derived.Test.YtabejnjnkpdjbaaPoolTakesApart
import Derived.Test.YtabejnjnkpdjbaaU39
import Derived.Test.YtabejnjnkpdjbaaU15
namespace Go.Proofs.Ytabejnjnkpdjbaa.PoolTakesApart
set_option linter.unusedVariables false
set_option linter.unusedSimpArgs false
open Go Go.ChangeShapes Go.WideShapes Go.ChangeAt Go.RowKit Mem Post Sim
open Opn

set_option maxRecDepth 100000 in
theorem lifted (os : Os) (started : os.Started) (H : Type) (enc : TypeId × Value → H) :
    ReturnsInHanded {} Try.checked os 4 .any (Rows.poolTakesApartSpec.pre6 enc Try.prog Try.f4 Rows.poolTakesApartRow.domain false) (Rows.poolTakesApartSpec.post enc Try.prog Try.f4 false true false false) := by
  refine returnsInHanded_of_change_sized (C := Try.checked) Post.Try.own started (by kernel_rfl) Try.func4
    (ChangeSpec.witness6 (enc := enc) (C := Try.checked) false ⟨#[], #[.agg #[.slice none 0 0], .int .i64 0, .int .i64 0, .int .u64 0, .int .u64 0], []⟩ 8 (by kernel_rfl) (by kernel_rfl) (by kernel_rfl) (by kernel_rfl)) ?_
  intro W base args ds gs before hval0 hW _ hZ _
  have hval : ∀ (j : Nat) t v, Try.f4.params[j]? = some t → args[j]? = some v → Value.okWide Try.prog W .any base t v := hval0
  have hW' := hW
  obtain ⟨p, q, hA0, hV, rfl, _, _⟩ := hW
  have hA : DataW.TrodAll enc Try.prog W 0 (fun _ => true) true Try.f4.params.toList args.toList ds p := hA0
  rw [Try.params4] at hA hval hZ
  have hlight := R21.light_each _ _ hZ
  obtain ⟨v0, vs0, d0, ds0, p0, q0, hargs, rfl, rfl, h0, r0⟩ := trodAll_cons hA
  obtain ⟨v1, vs1, d1, ds1, p1, q1, rfl, rfl, rfl, h1, r1⟩ := trodAll_cons r0
  obtain ⟨v2, vs2, d2, ds2, p2, q2, rfl, rfl, rfl, h2, r2⟩ := trodAll_cons r1
  obtain ⟨v3, vs3, d3, ds3, p3, q3, rfl, rfl, rfl, h3, r3⟩ := trodAll_cons r2
  obtain ⟨v4, vs4, d4, ds4, p4, q4, rfl, rfl, rfl, h4, r4⟩ := trodAll_cons r3
  obtain ⟨rfl, rfl, rfl⟩ := trodAll_nil r4
  obtain rfl : args = #[v0, v1, v2, v3, v4] := by cases args; simp_all
  obtain ⟨cs0, x0, rfl, hh0⟩ := R21.open_struct_argW Try.underlying29 R21.Inl_opens (hlight 0 _ _ rfl rfl) (hval 0 29 v0 rfl rfl) h0
  obtain ⟨x1, rfl, hx1⟩ := open_int_arg Try.underlying3 (hval 1 3 v1 rfl rfl) h1
  obtain ⟨x2, rfl, hx2⟩ := open_int_arg Try.underlying3 (hval 2 3 v2 rfl rfl) h2
  obtain ⟨x3, rfl, hx3⟩ := open_int_arg Try.underlying24 (hval 3 24 v3 rfl rfl) h3
  obtain ⟨x4, rfl, hx4⟩ := open_int_arg Try.underlying24 (hval 4 24 v4 rfl rfl) h4
  clear hA0 hval0
  have hbnd := R21.inl_ok hh0
  refine ((law_ x0.tuns x1 x2 x3 x4 hbnd.1 hbnd.2).law W _ rfl (fun i t v h1 h2 => ?_) (fun b o v h => absurd (show (none : Option Value) = some v from h) (by simp))).mono fun e W' ⟨he, hb⟩ => ?_
  · match i, h1, h2 with
    | 0, h1, h2 => simp at h1 h2; subst h1 h2; exact (show TR (allm W) (.agg (R21.inlL x0)) _ from R21.st_bwd R21.Inl_bwd hh0)
    | 1, h1, h2 => simp at h1 h2; subst h1 h2; exact .v _
    | 2, h1, h2 => simp at h1 h2; subst h1 h2; exact .v _
    | 3, h1, h2 => simp at h1 h2; subst h1 h2; exact .v _
    | 4, h1, h2 => simp at h1 h2; subst h1 h2; exact .v _
  · subst he
    exact ⟨_, rfl, law_post (tb := 4) Post.Try.laidOut (of_decide_eq_true (by kernel_rfl)) rfl Try.underlying4 (by kernel_rfl) (by rintro rfl; rfl) hW' hb⟩

theorem holds : Rows.PoolTakesApartSaid :=
  OpenClaim.holds_of_wide 4 Try.f4 rfl rfl rfl rfl rfl rfl rfl ⟨rfl, rfl, rfl, rfl, rfl⟩ rfl rfl rfl rfl rfl (by kernel_rfl) Try.func4 (by kernel_rfl)
    (of_decide_eq_true (by kernel_rfl)) (by unfold Func.isWrapper; first | (rw [if_pos (by decide +kernel)]; kernel_rfl) | (rw [if_neg (by decide +kernel)]; exact ⟨rfl, rfl⟩))
    (fun os started H enc _ => lifted os started H enc)
#print axioms holds
end Go.Proofs.Ytabejnjnkpdjbaa.PoolTakesApart
