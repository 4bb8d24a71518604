/- The law HeadsOne returns true for every input, and its arguments read afterwards as before. There is no condition. -/
import Derived.Test.YtcpbdcamfhoiaaaDoorHeadsOne
import Derived.Test.YtcpbdcamfhoiaaaDoorHdC0
import Derived.Test.YtcpbdcamfhoiaaaDoorPost0
import Derived.Test.YtcpbdcamfhoiaaaDoorTie
import Derived.Test.YtcpbdcamfhoiaaaDoorCards
import Derived.LaidMore
import Derived.Lay
import Derived.SevenTiedAt
import Derived.Stop.Joined
namespace Go.Proofs.YtcpbdcamfhoiaaaDoor.HeadsOne
set_option linter.unusedVariables false
set_option linter.unusedSimpArgs false
open Go Go.ChangeShapes Go.WideShapes Go.ChangeAt Go.RowKit Mem Post
open Go.ChangeMaps (open_string)
open Opn

set_option maxRecDepth 100000 in
theorem lifted (os : Os) (started : os.Started) (H : Type) (enc : TypeId × Value → H) :
    ReturnsInHanded {} Tryd.checked os 8 .any (fun w args => (Rows.headsOneSpec.pre enc Tryd.prog Tryd.f8 Rows.headsOneRow.domain false w args ∧ laidMetH Tryd.prog Rows.headsOneRow.laid w) ∧ sizedMet enc Tryd.prog Tryd.f8 (OpenSpec.ofChange Rows.headsOneSpec) false w args) (Rows.headsOneSpec.post enc Tryd.prog Tryd.f8 false true false false) := by
  refine returnsInHanded_of_change_and (C := Tryd.checked) (X := fun w _ => laidMetH Tryd.prog Rows.headsOneRow.laid w) (fun _ _ _ hh h => h.of_heap hh) Post.Tryd.own started (by kernel_rfl) Tryd.func8
    (ChangeSpec.witness_shaped (enc := enc) (C := Tryd.checked) (os := os) (X := fun w _ => laidMetH Tryd.prog Rows.headsOneRow.laid w) false (World.laidAll Tryd.prog os Rows.headsOneRow.laid) #[.slice none 0 0, .int .i64 0, .agg #[.string ⟨#[]⟩, .string ⟨#[]⟩], .string ⟨#[]⟩] 8 (World.laidAll_os _ _ _)
      (World.shaped_of_ZipB (by kernel_rfl) (by kernel_rfl)) (by kernel_rfl) (by kernel_rfl) (by kernel_rfl)
      (by rw [MakeChecks.laidMetH_plain _ _ _ (by kernel_rfl)]; exact laidMet_laidAll _ (by kernel_rfl) (by kernel_rfl))) ?_
  intro W base args ds gs before hval0 hW _ _ _ _
  have hval : ∀ (j : Nat) t v, Tryd.f8.params[j]? = some t → args[j]? = some v → Value.okWide Tryd.prog W .any base t v := hval0
  have hW' := hW
  obtain ⟨p, q, hA0, hV, rfl, _, _⟩ := hW
  have hA : DataW.TrodAll enc Tryd.prog W 0 (fun _ => true) true Tryd.f8.params.toList args.toList ds p := hA0
  rw [Tryd.params8] at hA hval
  obtain ⟨v0, vs0, d0, ds0, p0, q0, hargs, rfl, rfl, h0, r0⟩ := trodAll_cons hA
  obtain ⟨v1, vs1, d1, ds1, p1, q1, rfl, rfl, rfl, h1, r1⟩ := trodAll_cons r0
  obtain ⟨v2, vs2, d2, ds2, p2, q2, rfl, rfl, rfl, h2, r2⟩ := trodAll_cons r1
  obtain ⟨v3, vs3, d3, ds3, p3, q3, rfl, rfl, rfl, h3, r3⟩ := trodAll_cons r2
  obtain ⟨rfl, rfl, rfl⟩ := trodAll_nil r3
  obtain rfl : args = #[v0, v1, v2, v3] := by cases args; simp_all
  obtain ⟨A0, cap0, l, rfl, hAl, hl1, hl2⟩ := open_slice_arg Tryd.underlying44 Hd.heads_opens (hval 0 44 v0 rfl rfl) h0
  obtain ⟨at_, rfl, hat⟩ := open_int_arg Tryd.underlying3 (hval 1 3 v1 rfl rfl) h1
  obtain ⟨_, h, rfl, hh⟩ := open_struct_arg Tryd.underlying53 Hd.head_opens (hval 2 53 v2 rfl rfl) h2
  obtain ⟨hcs, hh0, hh1⟩ := hh
  obtain rfl := arr_of_list hcs
  obtain ⟨s, rfl, -, -, zs⟩ := open_string Tryd.underlying9 (hval 3 9 v3 rfl rfl) h3
  clear hA0 hval0
  refine (walk A0 cap0 l at_ h.name h.value s W hAl (Nat.le_refl _) hl1 hl2 hh0 hh1 zs).mono fun e W' ⟨he, hb⟩ => ?_
  subst he
  exact ⟨_, rfl, law_post (tb := 4) Post.Tryd.laidOut (of_decide_eq_true (by kernel_rfl)) rfl Tryd.underlying4 (by kernel_rfl) (by rintro rfl; rfl) hW' hb⟩

theorem row_holds : Rows.HeadsOneSaid :=
  OpenClaim.holds_of_wide 8 Tryd.f8 rfl rfl rfl rfl rfl rfl rfl ⟨rfl, rfl, rfl, rfl, rfl⟩ rfl rfl rfl rfl rfl (by kernel_rfl) Tryd.func8 (by kernel_rfl)
    (of_decide_eq_true (by kernel_rfl)) (by unfold Func.isWrapper; first | (rw [if_pos (by decide +kernel)]; kernel_rfl) | (rw [if_neg (by decide +kernel)]; exact ⟨rfl, rfl⟩))
    (fun os started H enc _ => lifted os started H enc)
theorem holds : Rows.HeadsOneCardSaid :=
  Claim7.holds_tied_plain_at .later [] [.data, .pinned] true _ false row_holds (fun _ h => by cases h) (by kernel_rfl) (fun _ h => by cases h) headsOne_row_tie rfl ⟨rfl, rfl⟩ (by kernel_rfl) rfl
    (fun f fn hf hfn => by
      obtain rfl : f = 8 := Option.some.inj ((show Tryd.prog.funcNamed "gatepost/gatepostlaw09.HeadsOne" = some 8 by kernel_rfl).symm.trans hf) |>.symm
      obtain rfl : fn = Tryd.f8 := (Option.some.inj (Tryd.func8.symm.trans hfn)).symm
      exact ⟨by kernel_rfl, fun j t ht => by
        rw [Tryd.params8] at ht
        have hm : t ∈ [44, 3, 53, 9] := by simpa using Array.mem_of_getElem? ht
        have hall : ([44, 3, 53, 9].all fun u => !Tryd.prog.wantsStandIn u) = true := by kernel_rfl
        exact (show Tryd.prog.wantsStandIn t = false by simpa using List.all_eq_true.1 hall t hm)⟩)
    (by kernel_rfl)
#print axioms holds
end Go.Proofs.YtcpbdcamfhoiaaaDoor.HeadsOne
