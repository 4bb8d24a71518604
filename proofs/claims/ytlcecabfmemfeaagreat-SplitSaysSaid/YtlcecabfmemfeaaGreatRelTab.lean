/- A table in memory: its relation, opened. -/
import Derived.Test.YtlcecabfmemfeaaGreatRel13
namespace Go.Proofs.YtlcecabfmemfeaaGreat.Pl
set_option linter.unusedVariables false
set_option linter.unusedSimpArgs false
structure Table where
  pols : List Policy
  allow : Int
end Go.Proofs.YtlcecabfmemfeaaGreat.Pl
namespace Go.Proofs.YtlcecabfmemfeaaGreat.Opn
set_option linter.unusedVariables false
set_option linter.unusedSimpArgs false
open Go.RowKit Go.WideShapes Go.ChangeShapes Go.Joins Mem WMatch
set_option maxRecDepth 100000
def TableR : Rel Pl.Table := fun B w x cs => ∃ c0 c1, cs = [c0, c1] ∧ (SliceC PolicyR 5) B w x.pols [c0] ∧ (IntC .i64) B w x.allow [c1]
theorem cells_Table : Tryz.prog.cellsOf 24 = 2 := by kernel_rfl
theorem one_l_api_Policy : Tryz.prog.cellsOf 22 = 1 := by kernel_rfl
theorem table_opens : Opens 24 TableR := by
  intro H enc w base spare held fuel cs x h
  obtain ⟨xs, n, _, hx, hlen, hxl, hf⟩ := DataW.trod_struct Tryz.underlying24 h
  have hl := hlen.trans cells_Table
  obtain ⟨c0, c1, rfl⟩ : ∃ c0 c1, cs = [c0, c1] := by
    match cs, hl with
    | [c0, c1], _ => exact ⟨c0, c1, rfl⟩
  obtain ⟨y0, y1, rfl⟩ : ∃ y0 y1, xs = [y0, y1] := by
    match xs, hxl with
    | [y0, y1], _ => exact ⟨y0, y1, rfl⟩
  have f0 : DataW.trod enc Tryz.prog w base spare held n 22 [c0] = some y0 := by
    have := hf 0 _ rfl
    simpa [one_l_api_Policy] using this
  obtain ⟨v0, r0⟩ := (opens_slice (R := PolicyR) Tryz.underlying22 cells_Policy (by omega) policy_opens) H enc w base spare held n [c0] y0 f0
  have f1 : DataW.trod enc Tryz.prog w base spare held n 3 [c1] = some y1 := by
    have := hf 1 _ rfl
    simpa [one_int] using this
  obtain ⟨v1, r1⟩ := (opens_int Tryz.underlying3) H enc w base spare held n [c1] y1 f1
  exact ⟨⟨v0, v1⟩, c0, c1, rfl, r0, r1⟩
end Go.Proofs.YtlcecabfmemfeaaGreat.Opn
