/- The walk of chapter 7's examples (awake). -/
import Derived.Test.YtlcecabfmemfeaaWTerm
import Derived.Test.YtlcecabfmemfeaaWMatch7
import Derived.Test.YtlcecabfmemfeaaWMatch6
namespace Go.Proofs.Ytlcecabfmemfeaa.WMatch
set_option linter.unusedVariables false
set_option linter.unusedSimpArgs false
open Go.RowKit Mem BigFrame

theorem aw1 : Pl.matches_ 2 (⟨#[47, 97]⟩ : ByteArray).toList (⟨#[47, 97]⟩ : ByteArray).toList = true := by simp only [ByteArray.toList_mk]; decide
theorem aw2 : Pl.matches_ 2 (⟨#[47, 97]⟩ : ByteArray).toList (⟨#[47, 97, 98]⟩ : ByteArray).toList = true := by simp only [ByteArray.toList_mk]; decide
theorem aw3 : Pl.matches_ 2 (⟨#[47, 97]⟩ : ByteArray).toList (⟨#[47]⟩ : ByteArray).toList = false := by simp only [ByteArray.toList_mk]; decide
theorem aw4 : Pl.implies 1 (⟨#[97, 98]⟩ : ByteArray).toList 2 (⟨#[97]⟩ : ByteArray).toList = true := by simp only [ByteArray.toList_mk]; decide
theorem aw5 : Pl.implies 2 (⟨#[97]⟩ : ByteArray).toList 1 (⟨#[97]⟩ : ByteArray).toList = false := by simp only [ByteArray.toList_mk]; decide
theorem aw6 : Pl.implies 3 (⟨#[97]⟩ : ByteArray).toList 4 (⟨#[]⟩ : ByteArray).toList = true := by simp only [ByteArray.toList_mk]; decide
theorem aw7 : parW (Pl.parse (⟨#[42]⟩ : ByteArray).toList) = .tuple #[.agg #[.int .i64 4, .string ⟨#[]⟩], .int .i64 0] := by
  have : Pl.parse (⟨#[42]⟩ : ByteArray).toList = some (4, []) := by simp only [ByteArray.toList_mk]; decide
  rw [this]; rfl
theorem aw8 : parW (Pl.parse (⟨#[97, 42, 98]⟩ : ByteArray).toList) = .tuple #[.agg #[.int .i64 0, .string ⟨#[]⟩], .int .i64 2] := by
  have : Pl.parse (⟨#[97, 42, 98]⟩ : ByteArray).toList = none := by simp only [ByteArray.toList_mk]; decide
  rw [this]; rfl
theorem aw9 : Pl.may 3 (⟨#[46, 106, 115]⟩ : ByteArray).toList = true := by simp only [ByteArray.toList_mk]; decide
theorem aw10 : bs (Pl.text 3 (⟨#[46, 106, 115]⟩ : ByteArray).toList) = ⟨#[42, 46, 106, 115]⟩ := by
  have : Pl.text 3 (⟨#[46, 106, 115]⟩ : ByteArray).toList = [42, 46, 106, 115] := by simp only [ByteArray.toList_mk]; decide
  rw [this]; rfl
theorem aw11 : (⟨#[42, 46, 106, 115]⟩ : ByteArray).toList = [42, 46, 106, 115] := by simp only [ByteArray.toList_mk]
theorem print_aw (w : World) : Calls Try.prog 24 #[.agg #[.int .i64 3, .string ⟨#[46, 106, 115]⟩]] w fun e w' => e = .returned (.tuple #[.string ⟨#[42, 46, 106, 115]⟩, .int .i64 0]) ∧ Lo w w' := by
  have := print 3 ⟨#[46, 106, 115]⟩ w (by decide)
  rw [aw9, if_pos rfl, if_pos rfl, aw10] at this
  exact this

set_option maxHeartbeats 4000000 in
theorem awake (w : World) : Calls Try.prog 17 #[] w fun e w' => e = .returned (.bool true) ∧ Lo w w' := by
  go_enter Try.func17, Try.ntmps17
  go_wp2_with fail
  refine (term _ _ _).mono ?_; rintro e wa ⟨rfl, hb⟩; obtain ⟨hc, hf, hz⟩ := hb.facts
  go_wp2_with fail
  refine (term _ _ _).mono ?_; rintro e wb ⟨rfl, hb⟩; obtain ⟨hc, hf, hz⟩ := hb.facts; have hz0 := hz wa.heap.size (by first | assumption | (simp; done) | (simp; omega)); have hq0 := fun o => hc wa.heap.size o (by first | assumption | (simp; done) | (simp; omega))
  go_wp2_with fail
  refine (print_aw _).mono ?_; rintro e wc ⟨rfl, hb⟩; obtain ⟨hc, hf, hz⟩ := hb.facts; have hz0 := hz wa.heap.size (by first | assumption | (simp; done) | (simp; omega)); have hq0 := fun o => hc wa.heap.size o (by first | assumption | (simp; done) | (simp; omega))
  go_wp2_with fail
  refine (parse _ _ (by decide)).mono ?_; rw [aw7]; rintro e wd ⟨rfl, hb⟩; obtain ⟨hc, hf, hz⟩ := hb.facts; have hz0 := hz wa.heap.size (by first | assumption | (simp; done) | (simp; omega)); have hq0 := fun o => hc wa.heap.size o (by first | assumption | (simp; done) | (simp; omega))
  go_wp2_with fail
  refine (parse _ _ (by decide)).mono ?_; rw [aw8]; rintro e we ⟨rfl, hb⟩; obtain ⟨hc, hf, hz⟩ := hb.facts; have hz0 := hz wa.heap.size (by first | assumption | (simp; done) | (simp; omega)); have hq0 := fun o => hc wa.heap.size o (by first | assumption | (simp; done) | (simp; omega)); have hz1 := hz wd.heap.size (by first | assumption | (simp; done) | (simp; omega)); have hq1 := fun o => hc wd.heap.size o (by first | assumption | (simp; done) | (simp; omega))
  go_wp2_with (first
    | (go_at_call 22; refine (matches_ _ _ _ _ (by decide) (by decide)).mono ?_; rintro e w1 ⟨rfl, hb⟩; obtain ⟨hc, hf, hz⟩ := hb.facts; have hz0 := hz wa.heap.size (by first | assumption | (simp; done) | (simp; omega)); have hq0 := fun o => hc wa.heap.size o (by first | assumption | (simp; done) | (simp; omega)); have hz1 := hz wd.heap.size (by first | assumption | (simp; done) | (simp; omega)); have hq1 := fun o => hc wd.heap.size o (by first | assumption | (simp; done) | (simp; omega)); (first | rw [aw1] | rw [aw2] | rw [aw3]))
    | (go_at_call 60; refine (term _ _ _).mono ?_; rintro e w1 ⟨rfl, hb⟩; obtain ⟨hc, hf, hz⟩ := hb.facts; have hz0 := hz wa.heap.size (by first | assumption | (simp; done) | (simp; omega)); have hq0 := fun o => hc wa.heap.size o (by first | assumption | (simp; done) | (simp; omega)); have hz1 := hz wd.heap.size (by first | assumption | (simp; done) | (simp; omega)); have hq1 := fun o => hc wd.heap.size o (by first | assumption | (simp; done) | (simp; omega)))
    | (go_at_call 20; refine (implies _ _ _ _ _ (by decide) (by decide)).mono ?_; rintro e w1 ⟨rfl, hb⟩; obtain ⟨hc, hf, hz⟩ := hb.facts; have hz0 := hz wa.heap.size (by first | assumption | (simp; done) | (simp; omega)); have hq0 := fun o => hc wa.heap.size o (by first | assumption | (simp; done) | (simp; omega)); have hz1 := hz wd.heap.size (by first | assumption | (simp; done) | (simp; omega)); have hq1 := fun o => hc wd.heap.size o (by first | assumption | (simp; done) | (simp; omega)); (first | rw [aw4] | rw [aw5] | rw [aw6])))
  go_ret
  exact ⟨ret_bool (by simp [aw11]), (by repeat (first | exact Lo.refl _ | assumption | refine Lo.drew ?_ | refine Lo.alloc ?_ _ | refine Lo.setCell ?_ (by first | (dsimp only; omega) | (simp; omega) | (simp; done)) _ | refine Lo.trans ?_ (by assumption)))⟩
end Go.Proofs.Ytlcecabfmemfeaa.WMatch
