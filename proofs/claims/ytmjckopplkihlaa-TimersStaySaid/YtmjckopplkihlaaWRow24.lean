/- What timers' functions answer of any row of things in memory. -/
import Derived.Test.YtmjckopplkihlaaWAt24
import Derived.Test.YtmjckopplkihlaaAppRow
namespace Go.Proofs.Ytmjckopplkihlaa.Due
set_option linter.unusedVariables false
set_option linter.unusedSimpArgs false
open Go.RowKit Mem BigFrame
/-- a slice's row of things -/
def Row (W : World) (A : Option Addr) (n cap : Nat) (l : List Pl.Due) : Prop := n = l.length ∧ n ≤ cap ∧ cap ≤ maxLen ∧ Dues W.heap.size W A l
theorem Row.lo {W W' : World} {A : Option Addr} {n cap : Nat} {l : List Pl.Due} (h : Row W A n cap l) (hl : Lo W W') : Row W' A n cap l := by
  obtain ⟨h1, h2, h3, hA⟩ := h
  exact ⟨h1, h2, h3, hA.keep DueR.kept (hl.cells (Nat.le_refl _)) hl.size⟩
theorem Row.of_arg {B : Nat} {W : World} {A : Option Addr} {cap : Nat} {l : List Pl.Due} (hA : Dues B W A l) (hB : B ≤ W.heap.size) (hn : l.length ≤ cap) (hc : cap ≤ maxLen) : Row W A l.length cap l :=
  ⟨rfl, hn, hc, hA.keep DueR.kept (fun _ _ => rfl) hB⟩
theorem Row.of_own {base : Nat} {W : World} {v : Value} {l : List Pl.Due} (h : RowO base W v l) : ∃ A n cap, v = .slice A n cap ∧ Row W A n cap l := by
  obtain ⟨A, cap, rfl, hA, h1, h2⟩ := h.at_
  exact ⟨A, _, cap, rfl, rfl, h1, h2, hA⟩
theorem Row.nil {W : World} : Row W none 0 0 [] := by
  obtain ⟨A, n, cap, he, h⟩ := Row.of_own (RowO.nil (base := 0) (w := W))
  injection he with h1 h2 h3
  subst h1 h2 h3
  exact h
theorem r_add (d : Pl.Due) (W : World) {A : Option Addr} {n cap : Nat} {l : List Pl.Due} (h : Row W A n cap l) (hn : n ≤ 1000) (hw : wfD d) :
    Calls Try.prog 13 #[.slice A n cap, dueV d] W fun e w' => ∃ A1 n1 c1, e = .returned (.tuple #[.slice A1 n1 c1, .int .i64 (Pl.addErr l d)]) ∧ Lo W w' ∧ Row w' A1 n1 c1 (Pl.addL l d) := by
  obtain ⟨rfl, h2, h3, hA⟩ := h
  refine (add_ A cap l d W (Nat.le_refl _) hA hn h2 hw).mono ?_
  rintro e w' ⟨v, he, hl, hr⟩
  obtain ⟨A1, n1, c1, rfl, h1⟩ := Row.of_own hr
  exact ⟨A1, n1, c1, he, hl, h1⟩
theorem r_sooner (d : Pl.Due) (W : World) {A : Option Addr} {n cap : Nat} {l : List Pl.Due} (h : Row W A n cap l) (hn : n ≤ 1000) (hw : wfD d) :
    Calls Try.prog 16 #[.slice A n cap, dueV d] W fun e w' => ∃ A1 n1 c1, e = .returned (.tuple #[.slice A1 n1 c1, .int .i64 (Pl.addErr l d)]) ∧ Lo W w' ∧ Row w' A1 n1 c1 (Pl.soonL l d) := by
  obtain ⟨rfl, h2, h3, hA⟩ := h
  refine (sooner_ A cap l d W (Nat.le_refl _) hA hn h2 hw).mono ?_
  rintro e w' ⟨v, he, hl, hr⟩
  obtain ⟨A1, n1, c1, rfl, h1⟩ := Row.of_own hr
  rw [Pl.soon_err] at he
  exact ⟨A1, n1, c1, he, hl, h1⟩
theorem r_drop (kind key : Int) (W : World) {A : Option Addr} {n cap : Nat} {l : List Pl.Due} (h : Row W A n cap l) (hn : n ≤ 1000) :
    Calls Try.prog 18 #[.slice A n cap, .int .i64 kind, .int .u64 key] W fun e w' => ∃ A1 n1 c1, e = .returned (.slice A1 n1 c1) ∧ Lo W w' ∧ Row w' A1 n1 c1 (Pl.dropL l kind key) := by
  obtain ⟨rfl, h2, h3, hA⟩ := h
  refine (drop_ A cap l kind key W (Nat.le_refl _) hA (by omega)).mono ?_
  rintro e w' ⟨v, he, hl, hr⟩
  obtain ⟨A1, n1, c1, rfl, h1⟩ := Row.of_own hr
  exact ⟨A1, n1, c1, he, hl, h1⟩
theorem r_take (now : Int) (W : World) {A : Option Addr} {n cap : Nat} {l : List Pl.Due} (h : Row W A n cap l) (hn : n ≤ 1000) :
    Calls Try.prog 20 #[.slice A n cap, .int .u64 now] W fun e w' => ∃ A1 n1 c1 A2 n2 c2, e = .returned (.tuple #[.slice A1 n1 c1, .slice A2 n2 c2]) ∧ Lo W w' ∧ Row w' A1 n1 c1 (Pl.takeL now l) ∧ Row w' A2 n2 c2 (Pl.leftL now l) := by
  obtain ⟨rfl, h2, h3, hA⟩ := h
  refine (take_ A cap l now W (Nat.le_refl _) hA (by omega)).mono ?_
  rintro e w' ⟨v, u, he, hl, hv, hu, _⟩
  obtain ⟨A1, n1, c1, rfl, h1⟩ := Row.of_own (RowO.of_rowF hv)
  obtain ⟨A2, n2, c2, rfl, h2⟩ := Row.of_own (RowO.of_rowF hu)
  exact ⟨A1, n1, c1, A2, n2, c2, he, hl, h1, h2⟩
theorem r_may (b : Bool) (W : World) {A : Option Addr} {n cap : Nat} {l : List Pl.Due} (h : Row W A n cap l) (hb : Pl.mayL l = b) :
    Calls Try.prog 9 #[.slice A n cap] W fun e w' => e = .returned (.bool b) ∧ Lo W w' := by
  obtain ⟨rfl, h2, h3, hA⟩ := h
  rw [← hb]
  exact mayAll_ A cap l W (Nat.le_refl _) hA (Nat.le_trans h2 h3) h2
theorem r_same (b : Bool) (W : World) {A A' : Option Addr} {n n' cap cap' : Nat} {l m : List Pl.Due} (h : Row W A n cap l) (h' : Row W A' n' cap' m) (hb : decide (l = m) = b) :
    Calls Try.prog 11 #[.slice A n cap, .slice A' n' cap'] W fun e w' => e = .returned (.bool b) ∧ Lo W w' := by
  obtain ⟨rfl, h2, h3, hA⟩ := h
  obtain ⟨rfl, h2', h3', hA'⟩ := h'
  rw [← hb]
  exact same_ A A' cap cap' l m W (Nat.le_refl _) hA hA' (Nat.le_trans h2 h3) (Nat.le_trans h2' h3')
theorem r_find (kind key : Int) (W : World) {A : Option Addr} {n cap : Nat} {l : List Pl.Due} (v : Value) (h : Row W A n cap l) (hv : findV l kind key = v) :
    Calls Try.prog 22 #[.slice A n cap, .int .i64 kind, .int .u64 key] W fun e w' => e = .returned v ∧ Lo W w' := by
  obtain ⟨rfl, h2, h3, hA⟩ := h
  rw [← hv]
  exact find_ A cap l kind key W (Nat.le_refl _) hA (Nat.le_trans h2 h3)
theorem r_next (W : World) {A : Option Addr} {n cap : Nat} {l : List Pl.Due} (h : Row W A n cap l) :
    Calls Try.prog 24 #[.slice A n cap] W fun e w' => e = .returned (nextV l) ∧ Lo W w' := by
  obtain ⟨rfl, h2, h3, hA⟩ := h
  exact next_ A cap l W (Nat.le_refl _) hA (Nat.le_trans h2 h3)
/-- the new block of '[]api.Due{}' -/
theorem own_start {W : World} {n : Nat} (h : W.heap[n]? = some (.cells #[] 25 (0, 0))) : OwnD n W (.slice (some ⟨n, 0, none⟩) 0 0) [] :=
  Own3.of_block (xs := []) (cur := []) (fun _ h => by cases h) (Nat.le_refl _) h (Nat.le_refl _) (Nat.zero_le _) rfl rfl
theorem Row.cellR {W : World} {A : Option Addr} {n cap : Nat} {l : List Pl.Due} (h : Row W A n cap l) : SliceAt (CellR dueCells) 3 W.heap.size W A l := fun k x hx => by
  obtain ⟨_, _, _, hA⟩ := h
  obtain ⟨b, off, cs, h1, h2, h3, h4, h5⟩ := hA k x hx
  exact ⟨b, off, cs, h1, h2, h3, h4, h5.1⟩
theorem Row.wf {W : World} {A : Option Addr} {n cap : Nat} {l : List Pl.Due} (h : Row W A n cap l) : WfL l := WfL.of_dues h.2.2.2
theorem Row.of_ownD {base : Nat} {W : World} {v : Value} {l : List Pl.Due} (h : OwnD base W v l) (hw : WfL l) : ∃ A n cap, v = .slice A n cap ∧ Row W A n cap l := Row.of_own ⟨h, hw⟩
theorem wf_app {l m : List Pl.Due} (h : WfL l) (k : WfL m) : WfL (l ++ m) := fun x hx => by
  rcases List.mem_append.1 hx with hx | hx
  · exact h x hx
  · exact k x hx
theorem infoD0 : ∃ i0, Try.prog.info? 25 = some i0 ∧ i0.zero = some (.agg #[.int .u64 0, .int .i64 0, .int .u64 0]) ∧ i0.size = 3 ∧ i0.bytes = 24 := info_parts infoD
/-- append(own row, row...), guarded or not -/
theorem wp_app {w : World} {ops : Array Oper} {rest : List Oper} {o : Oper} {a : Act} {Q : Exit → Act → World → Prop} (hw : Region.wanted o (yielded ops a.tmps) = true) (s x : Operand)
    (ho : o.op = .call { callee := .builtin .append, args := #[s, x], argTypes := #[22, 22] }) (base : Nat) (v : Value) (l m : List Pl.Due) (hs : a.eval s = v) (hrow : OwnD base w v l)
    (A : Option Addr) (n cap : Nat) (hx : a.eval x = .slice A n cap) (hA : Row w A n cap m) (hl : l.length ≤ 1000) (hn : n ≤ 1000) (hbase : base ≤ w.heap.size)
    (h : ∀ v' w', OwnD base w' v' (l ++ m) → (∀ w0, Lo w0 w → w0.heap.size ≤ base → Lo w0 w') → wpList Try.prog ops Q rest (a.put o.dst v') w') : wpList Try.prog ops Q (o :: rest) a w := by
  obtain ⟨i0, hi, hz0, hz1, hz2⟩ := infoD0
  have hAc := hA.cellR
  obtain ⟨rfl, hA1, hA2, _⟩ := hA
  exact wpList_append_own3g hw s x 22 ho base 25 i0 _ 24 Try.underlying22 hi hz0 hz1 hz2 rfl v l m hs hrow A cap w.heap.size hx hAc (cells3D m) (by unfold maxLen; omega) (by omega) hbase (fun v' w' h1 _ h3 => h v' w' h1 h3)
/-- '[]api.Due{}' in a new block, the row beside it -/
theorem start_app (w : World) : OwnD w.heap.size (w.alloc (.cells #[] 25)) (.slice (some ⟨w.heap.size, 0, none⟩) 0 0) [] := own_start (heap_alloc_new w _)
end Go.Proofs.Ytmjckopplkihlaa.Due
