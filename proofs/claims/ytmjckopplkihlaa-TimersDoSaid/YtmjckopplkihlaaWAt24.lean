/- What timers' functions do to rows of the call's own. (Written by mk_awake24.py.) -/
import Derived.Test.YtmjckopplkihlaaWAdd2
import Derived.Test.YtmjckopplkihlaaWDueLaw
namespace Go.Proofs.Ytmjckopplkihlaa.Due
set_option linter.unusedVariables false
set_option linter.unusedSimpArgs false
open Go.RowKit Mem BigFrame
instance (d : Pl.Due) : Decidable (wfD d) := inferInstanceAs (Decidable (_ ∧ _ ∧ _))
theorem add_at (v : Value) (l : List Pl.Due) (d : Pl.Due) (w : World) {base : Nat} (h : RowO base w v l) (hn : l.length ≤ 1000) (hw : wfD d) :
    Calls Try.prog 13 #[v, dueV d] w fun e w' => ∃ v', e = .returned (resV v' (Pl.addErr l d)) ∧ Lo w w' ∧ RowO w.heap.size w' v' (Pl.addL l d) := by
  obtain ⟨A, cap, rfl, hA, h1, h2⟩ := h.at_
  exact add_ A cap l d w (Nat.le_refl _) hA hn h1 hw
theorem sooner_at (v : Value) (l : List Pl.Due) (d : Pl.Due) (w : World) {base : Nat} (h : RowO base w v l) (hn : l.length ≤ 1000) (hw : wfD d) :
    Calls Try.prog 16 #[v, dueV d] w fun e w' => ∃ v', e = .returned (resV v' (Pl.soonErr l d)) ∧ Lo w w' ∧ RowO w.heap.size w' v' (Pl.soonL l d) := by
  obtain ⟨A, cap, rfl, hA, h1, h2⟩ := h.at_
  exact sooner_ A cap l d w (Nat.le_refl _) hA hn h1 hw
theorem take_at (v : Value) (l : List Pl.Due) (now : Int) (w : World) {base : Nat} (h : RowO base w v l) (hn : l.length ≤ 1000) :
    Calls Try.prog 20 #[v, .int .u64 now] w fun e w' => ∃ v u, e = .returned (.tuple #[v, u]) ∧ Lo w w' ∧ RowO w.heap.size w' v (Pl.takeL now l) ∧ RowO w.heap.size w' u (Pl.leftL now l) ∧ apart v u := by
  obtain ⟨A, cap, rfl, hA, h1, h2⟩ := h.at_
  refine (take_ A cap l now w (Nat.le_refl _) hA (by omega)).mono ?_
  rintro e w' ⟨v, u, he, hl, hv, hu, ha⟩
  exact ⟨v, u, he, hl, RowO.of_rowF hv, RowO.of_rowF hu, ha⟩
theorem next_at (v : Value) (l : List Pl.Due) (w : World) {base : Nat} (h : RowO base w v l) :
    Calls Try.prog 24 #[v] w fun e w' => e = .returned (nextV l) ∧ Lo w w' := by
  obtain ⟨A, cap, rfl, hA, h1, h2⟩ := h.at_
  exact next_ A cap l w (Nat.le_refl _) hA (Nat.le_trans h1 h2)
theorem may_at (v : Value) (l : List Pl.Due) (w : World) {base : Nat} (h : RowO base w v l) :
    Calls Try.prog 9 #[v] w fun e w' => e = .returned (.bool (Pl.mayL l)) ∧ Lo w w' := by
  obtain ⟨A, cap, rfl, hA, h1, h2⟩ := h.at_
  exact mayAll_ A cap l w (Nat.le_refl _) hA (Nat.le_trans h1 h2) h1
theorem same_at (v u : Value) (l m : List Pl.Due) (w : World) {base base' : Nat} (h : RowO base w v l) (h' : RowO base' w u m) :
    Calls Try.prog 11 #[v, u] w fun e w' => e = .returned (.bool (decide (l = m))) ∧ Lo w w' := by
  obtain ⟨A, cap, rfl, hA, h1, h2⟩ := h.at_
  obtain ⟨A', cap', rfl, hA', h1', h2'⟩ := h'.at_
  exact same_ A A' cap cap' l m w (Nat.le_refl _) hA hA' (Nat.le_trans h1 h2) (Nat.le_trans h1' h2')
theorem find_at (v : Value) (l : List Pl.Due) (kind key : Int) (w : World) {base : Nat} (h : RowO base w v l) :
    Calls Try.prog 22 #[v, .int .i64 kind, .int .u64 key] w fun e w' => e = .returned (findV l kind key) ∧ Lo w w' := by
  obtain ⟨A, cap, rfl, hA, h1, h2⟩ := h.at_
  exact find_ A cap l kind key w (Nat.le_refl _) hA (Nat.le_trans h1 h2)
theorem drop_at (v : Value) (l : List Pl.Due) (kind key : Int) (w : World) {base : Nat} (h : RowO base w v l) (hn : l.length ≤ 1000) :
    Calls Try.prog 18 #[v, .int .i64 kind, .int .u64 key] w fun e w' => ∃ v', e = .returned v' ∧ Lo w w' ∧ RowO w.heap.size w' v' (Pl.dropL l kind key) := by
  obtain ⟨A, cap, rfl, hA, h1, h2⟩ := h.at_
  exact drop_ A cap l kind key w (Nat.le_refl _) hA (by omega)
/-- a row that is not empty: its block, its cells -/
theorem RowO.cells {base : Nat} {w : World} {v : Value} {l : List Pl.Due} (h : RowO base w v l) (h0 : 0 < l.length) : ∃ g cap, v = .slice (some ⟨g, 0, none⟩) l.length cap ∧ base ≤ g ∧ g < w.heap.size ∧ l.length ≤ cap ∧ cap ≤ maxLen ∧
    ∀ k d, l[k]? = some d → w.cell? ⟨g, k * 3, none⟩ = some (.int .u64 d.at_) ∧ w.cell? ⟨g, k * 3 + 1, none⟩ = some (.int .i64 d.kind) ∧ w.cell? ⟨g, k * 3 + 2, none⟩ = some (.int .u64 d.key) := by
  rcases h.1.open_ with ⟨_, rfl⟩ | ⟨g, cap, cur, rfl, hb, hg, hn, hc, hs, ht⟩
  · simp at h0
  · refine ⟨g, cap, rfl, hb, block_lt hg, hn, hc, ?_⟩
    intro k d hk
    have hkl : k < l.length := (List.getElem?_eq_some_iff.1 hk).1
    have hh : ∀ m, m < 3 → cur[k * 3 + m]? = (dueCells d)[m]? := fun m hm => by
      rw [← (cells3D l).get hk hm, ← ht, List.getElem?_take_of_lt (by omega)]
    exact ⟨cell_row hg (hh 0 (by omega)), cell_row hg (hh 1 (by omega)), cell_row hg (hh 2 (by omega))⟩
def AwakeSays : Prop := ∀ w, Calls Try.prog 8 #[] w fun e w' => e = .returned (.bool true) ∧ Lo w w'
end Go.Proofs.Ytmjckopplkihlaa.Due
