/- The closures of timers, and what order says. -/
import Derived.Test.YtmjckopplkihlaaWOrder
namespace Go.Proofs.Ytmjckopplkihlaa.Due
set_option linter.unusedVariables false
set_option linter.unusedSimpArgs false
open Go.RowKit Mem BigFrame

theorem cmpD_pos (d e : Pl.Due) : decide (0 < cmpD d e) = Pl.ahead e d := by
  unfold cmpD orI orI orI orI cmpI Pl.ahead
  repeat' split
  all_goals first | (simp; omega) | (exfalso; omega) | simp_all
theorem cmpI_neg (a b : Int) : decide (cmpI a b < 0) = decide (a < b) := by
  unfold cmpI; repeat' split
  all_goals first | (simp; omega) | (exfalso; omega) | simp_all

def BoxD (w : World) (b : Nat) (d : Pl.Due) : Prop := w.cell? ⟨b, 0, none⟩ = some (.int .u64 d.at_) ∧ w.cell? ⟨b, 1, none⟩ = some (.int .i64 d.kind) ∧ w.cell? ⟨b, 2, none⟩ = some (.int .u64 d.key)
theorem BoxD.lo {w w' : World} {b : Nat} {d : Pl.Due} (h : BoxD w b d) (hl : Lo w w') : BoxD w' b d := ⟨lo_keep hl h.1, lo_keep hl h.2.1, lo_keep hl h.2.2⟩

theorem mayC (x d : Pl.Due) (b : Nat) (w : World) (hd : BoxD w b d) : Calls Try.prog 28 #[dueV x, .pointer (some ⟨b, 0, none⟩)] w fun e w' => e = .returned (.bool (Pl.isD d.kind d.key x)) ∧ Lo w w' := by
  obtain ⟨d0, d1, d2⟩ := hd
  have hb := World.block_lt_of_cell? w _ d0
  go_enter Try.func28, Try.ntmps28
  go_wp2_with (go_at_call 29; refine (isD_ x _ _ _).mono ?_; rintro e w1 ⟨rfl, hb1⟩)
  go_ret
  exact ⟨ret_bool rfl, (by repeat (first | exact Lo.refl _ | assumption | refine Lo.drew ?_ | refine Lo.alloc ?_ _ | refine Lo.setCell ?_ (by first | (dsimp only; omega) | (simp; omega) | (simp; done)) _ | refine Lo.trans ?_ (by assumption)))⟩
theorem dropC (x : Pl.Due) (kind key : Int) (b c : Nat) (w : World) (h1 : w.cell? ⟨b, 0, none⟩ = some (.int .i64 kind)) (h2 : w.cell? ⟨c, 0, none⟩ = some (.int .u64 key)) : Calls Try.prog 40 #[dueV x, .pointer (some ⟨b, 0, none⟩), .pointer (some ⟨c, 0, none⟩)] w fun e w' => e = .returned (.bool (Pl.isD kind key x)) ∧ Lo w w' := by
  have hb := World.block_lt_of_cell? w _ h1
  have hc := World.block_lt_of_cell? w _ h2
  go_enter Try.func40, Try.ntmps40
  go_wp2_with (go_at_call 29; refine (isD_ x _ _ _).mono ?_; rintro e w1 ⟨rfl, hb1⟩)
  go_ret
  exact ⟨ret_bool rfl, (by repeat (first | exact Lo.refl _ | assumption | refine Lo.drew ?_ | refine Lo.alloc ?_ _ | refine Lo.setCell ?_ (by first | (dsimp only; omega) | (simp; omega) | (simp; done)) _ | refine Lo.trans ?_ (by assumption)))⟩
theorem findC (x : Pl.Due) (kind key : Int) (b c : Nat) (w : World) (h1 : w.cell? ⟨b, 0, none⟩ = some (.int .i64 kind)) (h2 : w.cell? ⟨c, 0, none⟩ = some (.int .u64 key)) : Calls Try.prog 42 #[dueV x, .pointer (some ⟨b, 0, none⟩), .pointer (some ⟨c, 0, none⟩)] w fun e w' => e = .returned (.bool (Pl.isD kind key x)) ∧ Lo w w' := by
  have hb := World.block_lt_of_cell? w _ h1
  have hc := World.block_lt_of_cell? w _ h2
  go_enter Try.func42, Try.ntmps42
  go_wp2_with (go_at_call 29; refine (isD_ x _ _ _).mono ?_; rintro e w1 ⟨rfl, hb1⟩)
  go_ret
  exact ⟨ret_bool rfl, (by repeat (first | exact Lo.refl _ | assumption | refine Lo.drew ?_ | refine Lo.alloc ?_ _ | refine Lo.setCell ?_ (by first | (dsimp only; omega) | (simp; omega) | (simp; done)) _ | refine Lo.trans ?_ (by assumption)))⟩
theorem nextC (x y : Pl.Due) (w : World) : Calls Try.prog 44 #[dueV x, dueV y] w fun e w' => e = .returned (.int .i64 (cmpI x.at_ y.at_)) ∧ Lo w w' := by
  go_enter Try.func44, Try.ntmps44
  go_wp2_with (go_at_call 45; refine (cmpU _ _ _).mono ?_; rintro e w1 ⟨rfl, rfl⟩)
  go_ret
  exact ⟨ret_int rfl, (by repeat (first | exact Lo.refl _ | assumption | refine Lo.drew ?_ | refine Lo.alloc ?_ _ | refine Lo.setCell ?_ (by first | (dsimp only; omega) | (simp; omega) | (simp; done)) _ | refine Lo.trans ?_ (by assumption)))⟩
end Go.Proofs.Ytmjckopplkihlaa.Due
