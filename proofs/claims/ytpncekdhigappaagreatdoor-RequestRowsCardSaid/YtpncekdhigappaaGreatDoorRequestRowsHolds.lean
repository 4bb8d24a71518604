/- The law RequestRows returns true for every input, and its arguments read afterwards as before. There is no condition. -/
import Derived.Test.YtpncekdhigappaaGreatDoorRequestRows
import Derived.Test.YtpncekdhigappaaGreatDoorS34
import Derived.Test.YtpncekdhigappaaGreatDoorS35
import Derived.Test.YtpncekdhigappaaGreatDoorS12
import Derived.Test.YtpncekdhigappaaGreatDoorTie
import Derived.Test.YtpncekdhigappaaGreatDoorCards
import Derived.LaidMore
import Derived.Lay
import Derived.SevenTiedAt
import Derived.Stop.Joined
namespace Go.Proofs.YtpncekdhigappaaGreatDoor.RequestRows
set_option linter.unusedVariables false
set_option linter.unusedSimpArgs false
open Go Go.ChangeShapes Go.WideShapes Go.ChangeAt Go.RowKit Mem Post
open Go.ChangeMaps (open_string)
open Opn

set_option maxRecDepth 100000 in
theorem lifted (os : Os) (started : os.Started) (H : Type) (enc : TypeId × Value → H) :
    ReturnsInHanded {} Tryz.checked os 13 .any (fun w args => (Rows.requestRowsSpec.pre enc Tryz.prog Tryz.f13 Rows.requestRowsRow.domain false w args ∧ laidMetH Tryz.prog Rows.requestRowsRow.laid w) ∧ sizedMet enc Tryz.prog Tryz.f13 (OpenSpec.ofChange Rows.requestRowsSpec) false w args) (Rows.requestRowsSpec.post enc Tryz.prog Tryz.f13 false true false false) := by
  refine returnsInHanded_of_change_and (C := Tryz.checked) (X := fun w _ => laidMetH Tryz.prog Rows.requestRowsRow.laid w) (fun _ _ _ hh h => h.of_heap hh) Post.Tryz.own started (by kernel_rfl) Tryz.func13
    (ChangeSpec.witness_shaped (enc := enc) (C := Tryz.checked) (os := os) (X := fun w _ => laidMetH Tryz.prog Rows.requestRowsRow.laid w) false (World.laidAll Tryz.prog os Rows.requestRowsRow.laid) #[.slice none 0 0] 8 (World.laidAll_os _ _ _)
      (World.shaped_of_ZipB (by kernel_rfl) (by kernel_rfl)) (by kernel_rfl) (by kernel_rfl) (by kernel_rfl)
      (by rw [MakeChecks.laidMetH_plain _ _ _ (by kernel_rfl)]; exact laidMet_laidAll _ (by kernel_rfl) (by kernel_rfl))) ?_
  intro W base args ds gs before hval0 hW _ hZ hL _
  have hval : ∀ (j : Nat) t v, Tryz.f13.params[j]? = some t → args[j]? = some v → Value.okWide Tryz.prog W .any base t v := hval0
  have hW' := hW
  obtain ⟨p, q, hA0, hV, rfl, _, _⟩ := hW
  have hA : DataW.TrodAll enc Tryz.prog W 0 (fun _ => true) true Tryz.f13.params.toList args.toList ds p := hA0
  rw [Tryz.params13] at hA hval
  obtain ⟨v0, vs0, d0, ds0, p0, q0, hargs, rfl, rfl, h0, r0⟩ := trodAll_cons hA
  obtain ⟨rfl, rfl, rfl⟩ := trodAll_nil r0
  obtain rfl : args = #[v0] := by cases args; simp_all
  rw [Tryz.params13] at hZ
  have hlight := Rq.light_each _ _ hZ
  obtain ⟨A0, cap0, x0, rfl, hB0, hl0, hm0⟩ := Rq.open_slice_argW Tryz.underlying80 Rq.cells_Req (by omega) Rq.req_opensW (hlight 0 _ _ rfl rfl) (hval 0 80 v0 rfl rfl) h0
  clear hA0 hval0
  refine ((law_ x0 (Rq.sl_ok Rq.req_okW hB0)).law W _ rfl (fun i t v h1 h2 => ?_) (Mp.tabs_law hL)).mono fun e W' ⟨he, hb⟩ => ?_
  · match i, h1, h2 with
    | 0, h1, h2 => simp at h1 h2; subst h1 h2; exact Rq.sl_bwdA (fun _ => rfl) (fun x cs h => Rq.req_bwd x cs h.1) hB0 hl0 hm0
  · subst he
    exact ⟨_, rfl, law_post (tb := 4) Post.Tryz.laidOut (of_decide_eq_true (by kernel_rfl)) rfl Tryz.underlying4 (by kernel_rfl) (by rintro rfl; rfl) hW' hb⟩

theorem row_holds : Rows.RequestRowsSaid :=
  OpenClaim.holds_of_wide 13 Tryz.f13 rfl rfl rfl rfl rfl rfl rfl ⟨rfl, rfl, rfl, rfl, rfl⟩ rfl rfl rfl rfl rfl (by kernel_rfl) Tryz.func13 (by kernel_rfl)
    (of_decide_eq_true (by kernel_rfl)) (by unfold Func.isWrapper; first | (rw [if_pos (by decide +kernel)]; kernel_rfl) | (rw [if_neg (by decide +kernel)]; exact ⟨rfl, rfl⟩))
    (fun os started H enc _ => lifted os started H enc)
theorem holds : Rows.RequestRowsCardSaid :=
  Claim7.holds_tied_plain_at .later [] [.data, .pinned] true _ false row_holds (fun _ h => by cases h) (by kernel_rfl) (fun _ h => by cases h) requestRows_row_tie rfl ⟨rfl, rfl⟩ (by kernel_rfl) rfl
    (fun f fn hf hfn => by
      obtain rfl : f = 13 := Option.some.inj ((show Tryz.prog.funcNamed "gatepost/gatepostlaw10.RequestRows" = some 13 by kernel_rfl).symm.trans hf) |>.symm
      obtain rfl : fn = Tryz.f13 := (Option.some.inj (Tryz.func13.symm.trans hfn)).symm
      exact ⟨by kernel_rfl, fun j t ht => by
        rw [Tryz.params13] at ht
        have hm : t ∈ [80] := by simpa using Array.mem_of_getElem? ht
        have hall : ([80].all fun u => !Tryz.prog.wantsStandIn u) = true := by kernel_rfl
        exact (show Tryz.prog.wantsStandIn t = false by simpa using List.all_eq_true.1 hall t hm)⟩)
    (by kernel_rfl)
#print axioms holds
end Go.Proofs.YtpncekdhigappaaGreatDoor.RequestRows
