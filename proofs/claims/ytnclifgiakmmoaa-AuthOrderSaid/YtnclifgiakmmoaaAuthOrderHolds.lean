/- The law AuthOrder returns true for every input, and its arguments read afterwards as before. There is no condition. -/
import Derived.Test.YtnclifgiakmmoaaAuthOrder
import Derived.Test.YtnclifgiakmmoaaC23
import Derived.Test.YtnclifgiakmmoaaC7
namespace Go.Proofs.Ytnclifgiakmmoaa.AuthOrder
set_option linter.unusedVariables false
set_option linter.unusedSimpArgs false
open Go.ChangeShapes Go.WideShapes Go.ChangeAt Go.RowKit Mem Post
open Go.ChangeMaps (open_string)
open Opn

set_option maxRecDepth 100000 in
theorem lifted (os : Os) (started : os.Started) (H : Type) (enc : TypeId × Value → H) :
    ReturnsInHanded {} Try.checked os 4 .any (Rows.authOrderSpec.pre6 enc Try.prog Try.f4 Rows.authOrderRow.domain false) (Rows.authOrderSpec.post enc Try.prog Try.f4 false true false false) := by
  refine returnsInHanded_of_change (C := Try.checked) Post.Try.own started (by kernel_rfl) Try.func4
    (ChangeSpec.witness6 (enc := enc) (C := Try.checked) false ⟨#[], #[.slice none 0 0, .int .i64 0, .agg #[.string ⟨#[]⟩, .string ⟨#[]⟩, .int .u32 0], .int .i64 0, .agg #[.string ⟨#[]⟩, .string ⟨#[]⟩, .string ⟨#[]⟩, .string ⟨#[]⟩, .string ⟨#[]⟩, .slice none 0 0, .slice none 0 0]], []⟩ 8 (by kernel_rfl) (by kernel_rfl) (by kernel_rfl) (by kernel_rfl)) ?_
  intro W base args ds gs before hval0 hW _ _
  have hval : ∀ (j : Nat) t v, Try.f4.params[j]? = some t → args[j]? = some v → Value.okWide Try.prog W .any base t v := hval0
  have hW' := hW
  obtain ⟨p, q, hA0, hV, rfl, _, _⟩ := hW
  have hA : DataW.TrodAll enc Try.prog W 0 (fun _ => true) true Try.f4.params.toList args.toList ds p := hA0
  rw [Try.params4] at hA hval
  obtain ⟨v0, vs0, d0, ds0, p0, q0, hargs, rfl, rfl, h0, r0⟩ := trodAll_cons hA
  obtain ⟨v1, vs1, d1, ds1, p1, q1, rfl, rfl, rfl, h1, r1⟩ := trodAll_cons r0
  obtain ⟨v2, vs2, d2, ds2, p2, q2, rfl, rfl, rfl, h2, r2⟩ := trodAll_cons r1
  obtain ⟨v3, vs3, d3, ds3, p3, q3, rfl, rfl, rfl, h3, r3⟩ := trodAll_cons r2
  obtain ⟨v4, vs4, d4, ds4, p4, q4, rfl, rfl, rfl, h4, r4⟩ := trodAll_cons r3
  obtain ⟨rfl, rfl, rfl⟩ := trodAll_nil r4
  obtain rfl : args = #[v0, v1, v2, v3, v4] := by cases args; simp_all
  obtain ⟨A0, cap0, l, rfl, hpol, hl1, hl2⟩ := open_slice_arg Try.underlying22 (opens_slice (R := PolicyR) Try.underlying22 cells_Policy (by omega) policy_opens) (hval 0 22 v0 rfl rfl) h0
  obtain ⟨at_, rfl, hat⟩ := open_int_arg Try.underlying3 (hval 1 3 v1 rfl rfl) h1
  obtain ⟨_, who, rfl, hw⟩ := open_struct_arg Try.underlying36 asker_opens (hval 2 36 v2 rfl rfl) h2
  obtain ⟨hcs, hw0, hw1, hw2⟩ := hw
  obtain rfl := arr_of_list hcs
  obtain ⟨port, rfl, hport⟩ := open_int_arg Try.underlying3 (hval 3 3 v3 rfl rfl) h3
  obtain ⟨_, q, rfl, hq⟩ := open_struct_arg Try.underlying40 req_opens (hval 4 40 v4 rfl rfl) h4
  obtain ⟨c5, c6, hcs, hq0, hq1, hq2, hq3, hq4, ⟨hqA, hqcap, hqe5, hqhA, hql1, hql2⟩, ⟨_, _, hqe6, _⟩⟩ := hq
  injection hqe5 with hqe5; injection hqe6 with hqe6; subst hqe5 hqe6
  obtain rfl := arr_of_list hcs
  clear hA0 hval0
  refine (walk l A0 cap0 at_ ⟨who.1, who.2.1, who.2.2⟩ port ⟨q.method, q.path, q.host, q.heads⟩ hqA hqcap q.target q.query _ rfl W hpol hl1 hl2 hw2 ⟨hw0, hw1, hq0, hq2, hq4, hqhA, Nat.le_trans hql1 hql2⟩ hql1 hql2).mono fun e W' ⟨he, hb⟩ => ?_
  subst he
  exact ⟨_, rfl, law_post (tb := 4) Post.Try.laidOut (of_decide_eq_true (by kernel_rfl)) rfl Try.underlying4 (by kernel_rfl) (by rintro rfl; rfl) hW' hb⟩

theorem holds : Rows.AuthOrderSaid :=
  OpenClaim.holds_of_wide 4 Try.f4 rfl rfl rfl rfl rfl rfl rfl ⟨rfl, rfl, rfl, rfl, rfl⟩ rfl rfl rfl rfl rfl (by kernel_rfl) Try.func4 (by kernel_rfl)
    (of_decide_eq_true (by kernel_rfl)) (by unfold Func.isWrapper; first | (rw [if_pos (by decide +kernel)]; kernel_rfl) | (rw [if_neg (by decide +kernel)]; exact ⟨rfl, rfl⟩))
    (fun os started H enc _ => lifted os started H enc)
#print axioms holds
end Go.Proofs.Ytnclifgiakmmoaa.AuthOrder
