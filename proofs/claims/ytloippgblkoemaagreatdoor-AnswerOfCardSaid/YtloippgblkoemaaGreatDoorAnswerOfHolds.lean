/- The law AnswerOf returns true for every input, and its arguments read afterwards as before. There is no condition. -/
import Derived.Test.YtloippgblkoemaaGreatDoorAnswerOf
import Derived.Test.YtloippgblkoemaaGreatDoorO30
import Derived.Test.YtloippgblkoemaaGreatDoorO31
import Derived.Test.YtloippgblkoemaaGreatDoorO12
import Derived.Test.YtloippgblkoemaaGreatDoorTie
import Derived.Test.YtloippgblkoemaaGreatDoorCards
import Derived.LaidMore
import Derived.Lay
import Derived.SevenTiedAt
import Derived.Stop.Joined
namespace Go.Proofs.YtloippgblkoemaaGreatDoor.AnswerOf
set_option linter.unusedVariables false
set_option linter.unusedSimpArgs false
open Go Go.ChangeShapes Go.WideShapes Go.ChangeAt Go.RowKit Mem Post
open Go.ChangeMaps (open_string)
open Opn

set_option maxRecDepth 100000 in
theorem lifted (os : Os) (started : os.Started) (H : Type) (enc : TypeId × Value → H) :
    ReturnsInHanded {} Tryz.checked os 3 .any (fun w args => (Rows.answerOfSpec.pre enc Tryz.prog Tryz.f3 Rows.answerOfRow.domain false w args ∧ laidMetH Tryz.prog Rows.answerOfRow.laid w) ∧ sizedMet enc Tryz.prog Tryz.f3 (OpenSpec.ofChange Rows.answerOfSpec) false w args) (Rows.answerOfSpec.post enc Tryz.prog Tryz.f3 false true false false) := by
  refine returnsInHanded_of_change_and (C := Tryz.checked) (X := fun w _ => laidMetH Tryz.prog Rows.answerOfRow.laid w) (fun _ _ _ hh h => h.of_heap hh) Post.Tryz.own started (by kernel_rfl) Tryz.func3
    (ChangeSpec.witness_shaped (enc := enc) (C := Tryz.checked) (os := os) (X := fun w _ => laidMetH Tryz.prog Rows.answerOfRow.laid w) false (World.laidAll Tryz.prog os Rows.answerOfRow.laid) #[.agg #[.string ⟨#[]⟩, .slice none 0 0, .slice none 0 0], .slice none 0 0] 8 (World.laidAll_os _ _ _)
      (World.shaped_of_ZipB (by kernel_rfl) (by kernel_rfl)) (by kernel_rfl) (by kernel_rfl) (by kernel_rfl)
      (by rw [MakeChecks.laidMetH_plain _ _ _ (by kernel_rfl)]; exact laidMet_laidAll _ (by kernel_rfl) (by kernel_rfl))) ?_
  intro W base args ds gs before hval0 hW _ _ hL _
  have hval : ∀ (j : Nat) t v, Tryz.f3.params[j]? = some t → args[j]? = some v → Value.okWide Tryz.prog W .any base t v := hval0
  have hW' := hW
  obtain ⟨p, q, hA0, hV, rfl, _, _⟩ := hW
  have hA : DataW.TrodAll enc Tryz.prog W 0 (fun _ => true) true Tryz.f3.params.toList args.toList ds p := hA0
  rw [Tryz.params3] at hA hval
  obtain ⟨v0, vs0, d0, ds0, p0, q0, hargs, rfl, rfl, h0, r0⟩ := trodAll_cons hA
  obtain ⟨v1, vs1, d1, ds1, p1, q1, rfl, rfl, rfl, h1, r1⟩ := trodAll_cons r0
  obtain ⟨rfl, rfl, rfl⟩ := trodAll_nil r1
  obtain rfl : args = #[v0, v1] := by cases args; simp_all
  obtain ⟨cs0, x0, rfl, hh0⟩ := open_struct_arg Tryz.underlying25 Rq.raw_opens (hval 0 25 v0 rfl rfl) h0
  obtain ⟨A1, cap1, x1, rfl, hB1, hl1, hm1⟩ := open_slice_arg Tryz.underlying23 Rq.bytes_opens (hval 1 23 v1 rfl rfl) h1
  clear hA0 hval0
  refine ((law_ x0 x1 (Rq.raw_ok _ _ _ _ hh0) (Nat.le_trans hl1 hm1)).law W _ rfl (fun i t v h1 h2 => ?_) (Mp.tabs_law hL)).mono fun e W' ⟨he, hb⟩ => ?_
  · match i, h1, h2 with
    | 0, h1, h2 => simp at h1 h2; subst h1 h2; exact Rq.raw_bwdT hh0
    | 1, h1, h2 => simp at h1 h2; subst h1 h2; exact Rq.sl_bwdA (fun _ => rfl) Rq.byte_bwd hB1 hl1 hm1
  · subst he
    exact ⟨_, rfl, law_post (tb := 4) Post.Tryz.laidOut (of_decide_eq_true (by kernel_rfl)) rfl Tryz.underlying4 (by kernel_rfl) (by rintro rfl; rfl) hW' hb⟩

theorem row_holds : Rows.AnswerOfSaid :=
  OpenClaim.holds_of_wide 3 Tryz.f3 rfl rfl rfl rfl rfl rfl rfl ⟨rfl, rfl, rfl, rfl, rfl⟩ rfl rfl rfl rfl rfl (by kernel_rfl) Tryz.func3 (by kernel_rfl)
    (of_decide_eq_true (by kernel_rfl)) (by unfold Func.isWrapper; first | (rw [if_pos (by decide +kernel)]; kernel_rfl) | (rw [if_neg (by decide +kernel)]; exact ⟨rfl, rfl⟩))
    (fun os started H enc _ => lifted os started H enc)
theorem holds : Rows.AnswerOfCardSaid :=
  Claim7.holds_tied_plain_at .later [] [.data, .pinned] true _ false row_holds (fun _ h => by cases h) (by kernel_rfl) (fun _ h => by cases h) answerOf_row_tie rfl ⟨rfl, rfl⟩ (by kernel_rfl) rfl
    (fun f fn hf hfn => by
      obtain rfl : f = 3 := Option.some.inj ((show Tryz.prog.funcNamed "gatepost/gatepostlaw11.AnswerOf" = some 3 by kernel_rfl).symm.trans hf) |>.symm
      obtain rfl : fn = Tryz.f3 := (Option.some.inj (Tryz.func3.symm.trans hfn)).symm
      exact ⟨by kernel_rfl, fun j t ht => by
        rw [Tryz.params3] at ht
        have hm : t ∈ [25, 23] := by simpa using Array.mem_of_getElem? ht
        have hall : ([25, 23].all fun u => !Tryz.prog.wantsStandIn u) = true := by kernel_rfl
        exact (show Tryz.prog.wantsStandIn t = false by simpa using List.all_eq_true.1 hall t hm)⟩)
    (by kernel_rfl)
#print axioms holds
end Go.Proofs.YtloippgblkoemaaGreatDoor.AnswerOf
