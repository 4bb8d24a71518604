/- Rows of terms opened. -/
import Derived.Test.YtlcecabfmemfeaaGreatOpen
import Derived.Test.YtlcecabfmemfeaaGreatWTerm
namespace Go.Proofs.YtlcecabfmemfeaaGreat.Opn
set_option linter.unusedVariables false
set_option linter.unusedSimpArgs false
open Go.RowKit Go.WideShapes Go.ChangeShapes Go.Joins Mem WMatch

instance : Inhabited Pl.Term := ⟨⟨0, ⟨#[]⟩⟩⟩
theorem cells_int : Tryz.prog.cellsOf 3 = 1 := by kernel_rfl
theorem cells_string : Tryz.prog.cellsOf 9 = 1 := by kernel_rfl
set_option maxRecDepth 100000 in
theorem term_opens : Opens 90 TermR := by
  intro H enc w base spare held fuel cs x h
  obtain ⟨xs, n, _, hx, hlen, hxl, hf⟩ := DataW.trod_struct Tryz.underlying90 h
  have hl2 : cs.length = 2 := hlen.trans Post.Tryz.cellsTerm
  obtain ⟨c0, c1, rfl⟩ : ∃ c0 c1, cs = [c0, c1] := by
    match cs, hl2 with
    | [c0, c1], _ => exact ⟨c0, c1, rfl⟩
  obtain ⟨y0, y1, rfl⟩ : ∃ y0 y1, xs = [y0, y1] := by
    match xs, hxl with
    | [y0, y1], _ => exact ⟨y0, y1, rfl⟩
  have f0 := hf 0 _ rfl
  have f1 := hf 1 _ rfl
  simp [cells_int, cells_string] at f0 f1
  obtain ⟨k, e0, _, _⟩ := DataW.trod_int Tryz.underlying3 (x := y0) (by simpa using f0)
  obtain ⟨s, e1, _, ws⟩ := DataW.trod_string Tryz.underlying9 (x := y1) (by simpa using f1)
  simp at e0 e1
  subst e0 e1
  exact ⟨⟨k, s⟩, rfl, ws⟩
set_option maxRecDepth 100000 in
theorem open_terms {H : Type} {enc : TypeId × Value → H} {w : World} {r : Reach} {b0 base : Nat} {spare : Nat → Bool} {held : Bool} {v : Value} {d : DataW H} {p : List MemPlace}
    (hv : Value.okWide Tryz.prog w r b0 75 v) (h : DataW.Trod enc Tryz.prog w base spare held 75 v d p) :
    ∃ (A : Option Addr) (cap : Nat) (ts : List Pl.Term), v = .slice A ts.length cap ∧ Terms w.heap.size w A ts ∧ ts.length ≤ maxLen := by
  obtain ⟨a, len, c, rfl⟩ := okWide_slice Tryz.underlying75 hv
  obtain ⟨fuel, hf⟩ := h
  obtain ⟨A, cap, xs, hcs, hA, h1, h2⟩ := slice_opens (R := TermR) Tryz.underlying75 Post.Tryz.cellsTerm (by omega) term_opens hf
  simp [Value.cells] at hcs
  obtain ⟨rfl, rfl, rfl⟩ := hcs
  exact ⟨_, _, xs, rfl, hA, Nat.le_trans h1 h2⟩
end Go.Proofs.YtlcecabfmemfeaaGreat.Opn
