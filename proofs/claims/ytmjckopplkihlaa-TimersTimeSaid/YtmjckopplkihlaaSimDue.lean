/- timers' functions, as the logic of states has them. -/
import Derived.Test.YtmjckopplkihlaaSimJ
import Derived.Test.YtmjckopplkihlaaSimTab
import Derived.Test.YtmjckopplkihlaaWAwake24
import Derived.Test.YtmjckopplkihlaaPlDue3
namespace Go.Proofs.Ytmjckopplkihlaa.Due
set_option linter.unusedVariables false
set_option linter.unusedSimpArgs false
open Go.RowKit Mem Sim
def dueT (d : Pl.Due) : List T := [.v (.int .u64 d.at_), .v (.int .i64 d.kind), .v (.int .u64 d.key)]
abbrev duesT (l : List Pl.Due) : T := .sl 3 (l.map dueT)
theorem dueT_eq (d : Pl.Due) : dueT d = (dueCells d).map .v := rfl
theorem due_ex {m : Mm} {d : Pl.Due} {v : Value} (h : TR m (.agg (dueT d)) v) : v = dueV d := by
  refine (Ex.agg (cs := dueT d) (vs := dueCells d) rfl (fun j t v h1 h2 => ?_)).eq h
  rw [dueT_eq, List.getElem?_map, h2] at h1
  simpa using h1.symm
theorem dues_fwd {m : Mm} {w : World} (hs : Sub m w) {l : List Pl.Due} {v : Value} (h : TR m (duesT l) v) (hw : WfL l) : ∃ A cap, v = .slice A l.length cap ∧ Dues w.heap.size w A l ∧ l.length ≤ cap ∧ cap ≤ maxLen :=
  tr_rows_fwd hs (by omega) h fun x hx us hc => ⟨cells_ex hc (dueCells x) rfl, hw x hx⟩
theorem due_one (x : Pl.Due) : ∀ v ∈ dueCells x, v.oneCell' = true := by
  intro v hv; simp [dueCells] at hv; rcases hv with rfl | rfl | rfl <;> rfl
theorem dues_bwd {B : Nat} {w : World} {A : Option Addr} {l : List Pl.Due} {cap : Nat} (hA : Dues B w A l) (h1 : l.length ≤ cap) (h2 : cap ≤ maxLen) : TR (allm w) (duesT l) (.slice A l.length cap) :=
  tr_rows_bwd (allm w) hA h1 h2 (fun x => rfl) (fun x _ cs hr => by obtain ⟨rfl, _⟩ := hr; exact ex_cells _ (due_one x)) (fun b o v _ h => h)
theorem cells_flat (m : Mm) (l : List Pl.Due) : CellsAre m (l.map dueT).flatten (l.flatMap dueCells) := by
  have : (l.map dueT).flatten = (l.flatMap dueCells).map .v := by
    induction l with
    | nil => rfl
    | cons x r ih => rw [List.map_cons, List.flatten_cons, ih, List.flatMap_cons, List.map_append]; rfl
  rw [this]
  refine ex_cells m fun v hv => ?_
  obtain ⟨x, _, hx⟩ := List.mem_flatMap.1 hv
  exact due_one x v hx
theorem dues_new {m : Mm} {w w' : World} {v : Value} {l : List Pl.Due} (h : RowO w.heap.size w' v l) : TR (upm m w w') (duesT l) v := by
  have h1 : w'.ownsRow w.heap.size 25 3 v l.length (l.flatMap dueCells) := h.1
  exact tr_row_new (rows := l.map dueT) (by simpa using h1) (fun r hr => by obtain ⟨x, _, rfl⟩ := List.mem_map.1 hr; rfl) (cells_flat _ l)
theorem tr2 {m : Mm} {a b : T} {x y : Value} (ha : TR m a x) (hb : TR m b y) : TR m (.tup [a, b]) (.tuple #[x, y]) := by
  refine .tup [a, b] #[x, y] rfl fun j t v h1 h2 => ?_
  match j, h1, h2 with
  | 0, h1, h2 => simp at h1 h2; subst h1 h2; exact ha
  | 1, h1, h2 => simp at h1 h2; subst h1 h2; exact hb
theorem p_add (l : List Pl.Due) (d : Pl.Due) (hn : l.length ≤ 1000) (hl : WfL l) (hd : wfD d) : PCalls Try.prog 13 [duesT l, .agg (dueT d)] (.tup [duesT (Pl.addL l d), .v (.int .i64 (Pl.addErr l d))]) where
  ent := ent_of Try.func13 rfl rfl
  run := fun m w vals hs hvl hv => by
    obtain ⟨x0, x1, rfl, h0, h1⟩ := args2 hvl hv
    obtain ⟨A, cap, rfl, hA, hc1, hc2⟩ := dues_fwd hs h0 hl
    rw [due_ex h1]
    refine (add_ A cap l d w (Nat.le_refl _) hA hn hc1 hd).mono fun e w' ⟨v, he, hlo, hr⟩ => ?_
    rw [he]
    exact post_ex hs hlo (tr2 (dues_new hr) (.v _))
theorem p_take (l : List Pl.Due) (now : Int) (hn : l.length ≤ 1000) (hl : WfL l) : PCalls Try.prog 20 [duesT l, .v (.int .u64 now)] (.tup [duesT (Pl.takeL now l), duesT (Pl.leftL now l)]) where
  ent := ent_of Try.func20 rfl rfl
  run := fun m w vals hs hvl hv => by
    obtain ⟨x0, x1, rfl, h0, h1⟩ := args2 hvl hv
    obtain ⟨A, cap, rfl, hA, hc1, hc2⟩ := dues_fwd hs h0 hl
    rw [tr_v h1]
    refine (take_ A cap l now w (Nat.le_refl _) hA (by omega)).mono fun e w' ⟨v, u, he, hlo, hr, hu, _⟩ => ?_
    rw [he]
    exact post_ex hs hlo (tr2 (dues_new (RowO.of_rowF hr)) (dues_new (RowO.of_rowF hu)))
theorem p_may (l : List Pl.Due) (hl : WfL l) : PCalls Try.prog 9 [duesT l] (.v (.bool (Pl.mayL l))) where
  ent := ent_of Try.func9 rfl rfl
  run := fun m w vals hs hvl hv => by
    obtain ⟨x0, rfl, h0⟩ := args1 hvl hv
    obtain ⟨A, cap, rfl, hA, hc1, hc2⟩ := dues_fwd hs h0 hl
    refine (mayAll_ A cap l w (Nat.le_refl _) hA (Nat.le_trans hc1 hc2) hc1).mono fun e w' ⟨he, hlo⟩ => ?_
    rw [he]
    exact post_ex hs hlo (.v _)
theorem p_next (l : List Pl.Due) (hl : WfL l) : PCalls Try.prog 24 [duesT l] (.tup [.v (.int .u64 (Pl.nextL l)), .v (.bool (decide (0 < l.length)))]) where
  ent := ent_of Try.func24 rfl rfl
  run := fun m w vals hs hvl hv => by
    obtain ⟨x0, rfl, h0⟩ := args1 hvl hv
    obtain ⟨A, cap, rfl, hA, hc1, hc2⟩ := dues_fwd hs h0 hl
    refine (next_ A cap l w (Nat.le_refl _) hA (Nat.le_trans hc1 hc2)).mono fun e w' ⟨he, hlo⟩ => ?_
    rw [he]
    exact post_ex hs hlo (tr2 (.v _) (.v _))
theorem p_same (l l' : List Pl.Due) (hl : WfL l) (hl' : WfL l') : PCalls Try.prog 11 [duesT l, duesT l'] (.v (.bool (decide (l = l')))) where
  ent := ent_of Try.func11 rfl rfl
  run := fun m w vals hs hvl hv => by
    obtain ⟨x0, x1, rfl, h0, h1⟩ := args2 hvl hv
    obtain ⟨A, cap, rfl, hA, hc1, hc2⟩ := dues_fwd hs h0 hl
    obtain ⟨A', cap', rfl, hA', hc1', hc2'⟩ := dues_fwd hs h1 hl'
    refine (same_ A A' cap cap' l l' w (Nat.le_refl _) hA hA' (Nat.le_trans hc1 hc2) (Nat.le_trans hc1' hc2')).mono fun e w' ⟨he, hlo⟩ => ?_
    rw [he]
    exact post_ex hs hlo (.v _)
theorem p_awake : PCalls Try.prog 8 [] (.v (.bool true)) where
  ent := ent_of Try.func8 rfl rfl
  run := fun m w vals hs hvl hv => by
    have : vals = #[] := Array.eq_empty_of_size_eq_zero hvl
    subst this
    refine (awake_ w).mono fun e w' ⟨he, hlo⟩ => ?_
    rw [he]
    exact post_ex hs hlo (.v _)
end Go.Proofs.Ytmjckopplkihlaa.Due
