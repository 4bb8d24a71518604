/- gatepostlaw24.due. -/
import Derived.Test.YtmjckopplkihlaaWEqual
namespace Go.Proofs.Ytmjckopplkihlaa.Due
set_option linter.unusedVariables false
set_option linter.unusedSimpArgs false
open Go.RowKit Mem BigFrame
theorem due_ (d : Pl.Due) (w : World) : Calls Try.prog 26 #[.int .u64 d.at_, .int .i64 d.kind, .int .u64 d.key] w fun e w' => e = .returned (dueV d) ∧ Lo w w' := by
  go_enter Try.func26, Try.ntmps26
  go_wp2
  exact bodyPost_ret (v := dueV d) (by simp [results, Try.results26, go_sem]) rfl ⟨rfl, (by repeat (first | exact Lo.refl _ | assumption | refine Lo.drew ?_ | refine Lo.alloc ?_ _ | refine Lo.setCell ?_ (by first | (dsimp only; omega) | (simp; omega) | (simp; done)) _ | refine Lo.trans ?_ (by assumption)))⟩
end Go.Proofs.Ytmjckopplkihlaa.Due
