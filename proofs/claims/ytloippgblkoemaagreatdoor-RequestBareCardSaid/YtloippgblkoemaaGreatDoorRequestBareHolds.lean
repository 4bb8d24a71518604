/- The law RequestBare returns true for every input, and its arguments read afterwards as before. There is no condition. -/
import Derived.Test.YtloippgblkoemaaGreatDoorRequestBare
import Derived.Test.YtloippgblkoemaaGreatDoorB29
import Derived.Test.YtloippgblkoemaaGreatDoorB30
import Derived.Test.YtloippgblkoemaaGreatDoorB12
import Derived.Test.YtloippgblkoemaaGreatDoorTie
import Derived.Test.YtloippgblkoemaaGreatDoorCards
import Derived.LaidMore
import Derived.Lay
import Derived.SevenTiedAt
import Derived.Stop.Joined
namespace Go.Proofs.YtloippgblkoemaaGreatDoor.RequestBare
set_option linter.unusedVariables false
set_option linter.unusedSimpArgs false
open Go Go.ChangeShapes Go.WideShapes Go.ChangeAt Go.RowKit Mem Post
open Go.ChangeMaps (open_string)
open Opn

set_option maxRecDepth 100000 in
theorem lifted (os : Os) (started : os.Started) (H : Type) (enc : TypeId × Value → H) :
    ReturnsInHanded {} Tryz.checked os 5 .any (fun w args => (Rows.requestBareSpec.pre enc Tryz.prog Tryz.f5 Rows.requestBareRow.domain false w args ∧ laidMetH Tryz.prog Rows.requestBareRow.laid w) ∧ sizedMet enc Tryz.prog Tryz.f5 (OpenSpec.ofChange Rows.requestBareSpec) false w args) (Rows.requestBareSpec.post enc Tryz.prog Tryz.f5 false true false false) := by
  refine returnsInHanded_of_change_and (C := Tryz.checked) (X := fun w _ => laidMetH Tryz.prog Rows.requestBareRow.laid w) (fun _ _ _ hh h => h.of_heap hh) Post.Tryz.own started (by kernel_rfl) Tryz.func5
    (ChangeSpec.witness_shaped (enc := enc) (C := Tryz.checked) (os := os) (X := fun w _ => laidMetH Tryz.prog Rows.requestBareRow.laid w) false (World.laidAll Tryz.prog os Rows.requestBareRow.laid) #[.agg #[.string ⟨#[]⟩, .string ⟨#[]⟩, .string ⟨#[]⟩, .string ⟨#[]⟩, .string ⟨#[]⟩, .slice none 0 0, .slice none 0 0], .int .i64 0, .int .i64 0] 8 (World.laidAll_os _ _ _)
      (World.shaped_of_ZipB (by kernel_rfl) (by kernel_rfl)) (by kernel_rfl) (by kernel_rfl) (by kernel_rfl)
      (by rw [MakeChecks.laidMetH_plain _ _ _ (by kernel_rfl)]; exact laidMet_laidAll _ (by kernel_rfl) (by kernel_rfl))) ?_
  intro W base args ds gs before hval0 hW _ hZ hL _
  have hval : ∀ (j : Nat) t v, Tryz.f5.params[j]? = some t → args[j]? = some v → Value.okWide Tryz.prog W .any base t v := hval0
  have hW' := hW
  obtain ⟨p, q, hA0, hV, rfl, _, _⟩ := hW
  have hA : DataW.TrodAll enc Tryz.prog W 0 (fun _ => true) true Tryz.f5.params.toList args.toList ds p := hA0
  rw [Tryz.params5] at hA hval
  obtain ⟨v0, vs0, d0, ds0, p0, q0, hargs, rfl, rfl, h0, r0⟩ := trodAll_cons hA
  obtain ⟨v1, vs1, d1, ds1, p1, q1, rfl, rfl, rfl, h1, r1⟩ := trodAll_cons r0
  obtain ⟨v2, vs2, d2, ds2, p2, q2, rfl, rfl, rfl, h2, r2⟩ := trodAll_cons r1
  obtain ⟨rfl, rfl, rfl⟩ := trodAll_nil r2
  obtain rfl : args = #[v0, v1, v2] := by cases args; simp_all
  rw [Tryz.params5] at hZ
  have hlight := Rq.light_each _ _ hZ
  obtain ⟨cs0, x0, rfl, hh0⟩ := Rq.open_struct_argW Tryz.underlying39 Rq.req_opensW (hlight 0 _ _ rfl rfl) (hval 0 39 v0 rfl rfl) h0
  obtain ⟨x1, rfl, hx1⟩ := open_int_arg Tryz.underlying3 (hval 1 3 v1 rfl rfl) h1
  obtain ⟨x2, rfl, hx2⟩ := open_int_arg Tryz.underlying3 (hval 2 3 v2 rfl rfl) h2
  clear hA0 hval0
  refine ((law_ x0 x1 x2 (Rq.req_okW _ _ _ _ hh0) hx1 hx2).law W _ rfl (fun i t v h1 h2 => ?_) (Mp.tabs_law hL)).mono fun e W' ⟨he, hb⟩ => ?_
  · match i, h1, h2 with
    | 0, h1, h2 => simp at h1 h2; subst h1 h2; exact Rq.req_bwdT hh0.1
    | 1, h1, h2 => simp at h1 h2; subst h1 h2; exact .v _
    | 2, h1, h2 => simp at h1 h2; subst h1 h2; exact .v _
  · subst he
    exact ⟨_, rfl, law_post (tb := 4) Post.Tryz.laidOut (of_decide_eq_true (by kernel_rfl)) rfl Tryz.underlying4 (by kernel_rfl) (by rintro rfl; rfl) hW' hb⟩

theorem row_holds : Rows.RequestBareSaid :=
  OpenClaim.holds_of_wide 5 Tryz.f5 rfl rfl rfl rfl rfl rfl rfl ⟨rfl, rfl, rfl, rfl, rfl⟩ rfl rfl rfl rfl rfl (by kernel_rfl) Tryz.func5 (by kernel_rfl)
    (of_decide_eq_true (by kernel_rfl)) (by unfold Func.isWrapper; first | (rw [if_pos (by decide +kernel)]; kernel_rfl) | (rw [if_neg (by decide +kernel)]; exact ⟨rfl, rfl⟩))
    (fun os started H enc _ => lifted os started H enc)
theorem holds : Rows.RequestBareCardSaid :=
  Claim7.holds_tied_plain_at .later [] [.data, .pinned] true _ false row_holds (fun _ h => by cases h) (by kernel_rfl) (fun _ h => by cases h) requestBare_row_tie rfl ⟨rfl, rfl⟩ (by kernel_rfl) rfl
    (fun f fn hf hfn => by
      obtain rfl : f = 5 := Option.some.inj ((show Tryz.prog.funcNamed "gatepost/gatepostlaw10.RequestBare" = some 5 by kernel_rfl).symm.trans hf) |>.symm
      obtain rfl : fn = Tryz.f5 := (Option.some.inj (Tryz.func5.symm.trans hfn)).symm
      exact ⟨by kernel_rfl, fun j t ht => by
        rw [Tryz.params5] at ht
        have hm : t ∈ [39, 3, 3] := by simpa using Array.mem_of_getElem? ht
        have hall : ([39, 3, 3].all fun u => !Tryz.prog.wantsStandIn u) = true := by kernel_rfl
        exact (show Tryz.prog.wantsStandIn t = false by simpa using List.all_eq_true.1 hall t hm)⟩)
    (by kernel_rfl)
#print axioms holds
end Go.Proofs.YtloippgblkoemaaGreatDoor.RequestBare
