/- Things that are due opened. -/
import Derived.Test.YtmjckopplkihlaaOpen0
import Derived.Test.YtmjckopplkihlaaRelDue
namespace Go.Proofs.Ytmjckopplkihlaa.Opn
set_option linter.unusedVariables false
set_option linter.unusedSimpArgs false
open Go.RowKit Go.WideShapes Go.ChangeShapes Go.Joins Mem Due
theorem one_int : Try.prog.cellsOf 3 = 1 := by kernel_rfl
theorem one_uint64 : Try.prog.cellsOf 23 = 1 := by kernel_rfl
theorem cells_Due : Try.prog.cellsOf 25 = 3 := by kernel_rfl
set_option maxRecDepth 100000 in
theorem due_opens : Opens 25 DueR := by
  intro H enc w base spare held fuel cs x h
  obtain ⟨xs, n, _, hx, hlen, hxl, hf⟩ := DataW.trod_struct Try.underlying25 h
  have hl := hlen.trans cells_Due
  obtain ⟨c0, c1, c2, rfl⟩ : ∃ c0 c1 c2, cs = [c0, c1, c2] := by
    match cs, hl with
    | [c0, c1, c2], _ => exact ⟨c0, c1, c2, rfl⟩
  obtain ⟨y0, y1, y2, rfl⟩ : ∃ y0 y1 y2, xs = [y0, y1, y2] := by
    match xs, hxl with
    | [y0, y1, y2], _ => exact ⟨y0, y1, y2, rfl⟩
  have f0 : DataW.trod enc Try.prog w base spare held n 23 [c0] = some y0 := by
    have := hf 0 _ rfl
    simpa [one_uint64] using this
  obtain ⟨v0, r0, z0⟩ := (opens_int Try.underlying23) H enc w base spare held n [c0] y0 f0
  have f1 : DataW.trod enc Try.prog w base spare held n 3 [c1] = some y1 := by
    have := hf 1 _ rfl
    simpa [one_int] using this
  obtain ⟨v1, r1, z1⟩ := (opens_int Try.underlying3) H enc w base spare held n [c1] y1 f1
  have f2 : DataW.trod enc Try.prog w base spare held n 23 [c2] = some y2 := by
    have := hf 2 _ rfl
    simpa [one_uint64] using this
  obtain ⟨v2, r2, z2⟩ := (opens_int Try.underlying23) H enc w base spare held n [c2] y2 f2
  injection r0 with r0; injection r1 with r1; injection r2 with r2; subst r0 r1 r2
  exact ⟨⟨v0, v1, v2⟩, rfl, z0, z1, z2⟩
theorem ints_opens : Opens 43 (SliceC (IntC .i64) 1) := opens_slice (R := IntC .i64) Try.underlying43 one_int (by omega) (opens_int Try.underlying3)
theorem dues_opens : Opens 22 (SliceC DueR 3) := opens_slice (R := DueR) Try.underlying22 cells_Due (by omega) due_opens
end Go.Proofs.Ytmjckopplkihlaa.Opn
