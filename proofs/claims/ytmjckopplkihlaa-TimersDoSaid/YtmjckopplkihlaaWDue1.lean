/- The walks of cmp.Compare, cmp.Or, timers.order, is, may. -/
import Derived.Test.YtmjckopplkihlaaRelDue
namespace Go.Proofs.Ytmjckopplkihlaa.Due
set_option linter.unusedVariables false
set_option linter.unusedSimpArgs false
open Go.RowKit Mem BigFrame

def cmpI (a b : Int) : Int := if a < b then -1 else if b < a then 1 else 0
theorem nanU (a : Int) (w : World) : Calls Try.prog 50 #[.int .u64 a] w fun e w' => e = .returned (.bool false) ∧ w = w' := by
  go_enter Try.func50, Try.ntmps50
  go_wp2
  go_ret
  exact ⟨ret_bool (by simp), rfl⟩
theorem nanI (a : Int) (w : World) : Calls Try.prog 51 #[.int .i64 a] w fun e w' => e = .returned (.bool false) ∧ w = w' := by
  go_enter Try.func51, Try.ntmps51
  go_wp2
  go_ret
  exact ⟨ret_bool (by simp), rfl⟩
theorem cmpU (a b : Int) (w : World) : Calls Try.prog 45 #[.int .u64 a, .int .u64 b] w fun e w' => e = .returned (.int .i64 (cmpI a b)) ∧ w = w' := by
  unfold cmpI
  by_cases h1 : a < b <;> by_cases h2 : b < a
  · exfalso; omega
  all_goals
    go_enter Try.func45, Try.ntmps45
    go_wp2_with (go_at_call 50; refine (nanU _ _).mono ?_; rintro e w' ⟨rfl, rfl⟩)
    go_ret
    exact ⟨ret_int (by simp [h1, h2]), rfl⟩
theorem cmpS (a b : Int) (w : World) : Calls Try.prog 47 #[.int .i64 a, .int .i64 b] w fun e w' => e = .returned (.int .i64 (cmpI a b)) ∧ w = w' := by
  unfold cmpI
  by_cases h1 : a < b <;> by_cases h2 : b < a
  · exfalso; omega
  all_goals
    go_enter Try.func47, Try.ntmps47
    go_wp2_with (go_at_call 51; refine (nanI _ _).mono ?_; rintro e w' ⟨rfl, rfl⟩)
    go_ret
    exact ⟨ret_int (by simp [h1, h2]), rfl⟩
theorem isD_ (d : Pl.Due) (kind key : Int) (w : World) : Calls Try.prog 29 #[dueV d, .int .i64 kind, .int .u64 key] w fun e w' => e = .returned (.bool (Pl.isD kind key d)) ∧ Lo w w' := by
  unfold Pl.isD
  cases h1 : (d.kind == kind) <;> cases h2 : (d.key == key)
  all_goals
    go_enter Try.func29, Try.ntmps29
    go_wp2
    go_ret
    exact ⟨ret_bool (by simp), (by repeat (first | exact Lo.refl _ | assumption | refine Lo.drew ?_ | refine Lo.alloc ?_ _ | refine Lo.setCell ?_ (by first | (dsimp only; omega) | (simp; omega) | (simp; done)) _ | refine Lo.trans ?_ (by assumption)))⟩
set_option maxHeartbeats 800000 in
theorem may_ (d : Pl.Due) (w : World) : Calls Try.prog 30 #[dueV d] w fun e w' => e = .returned (.bool (Pl.mayD d)) ∧ Lo w w' := by
  unfold Pl.mayD
  by_cases h1 : 1 ≤ d.kind <;> by_cases h2 : d.kind ≤ 255 <;> by_cases h3 : d.at_ ≤ 4611686018427387903
  all_goals try (exfalso; omega)
  all_goals
    go_enter Try.func30, Try.ntmps30
    go_wp2
    go_ret
    exact ⟨ret_bool (by simp [h1, h2, h3]), (by repeat (first | exact Lo.refl _ | assumption | refine Lo.drew ?_ | refine Lo.alloc ?_ _ | refine Lo.setCell ?_ (by first | (dsimp only; omega) | (simp; omega) | (simp; done)) _ | refine Lo.trans ?_ (by assumption)))⟩
end Go.Proofs.Ytmjckopplkihlaa.Due
