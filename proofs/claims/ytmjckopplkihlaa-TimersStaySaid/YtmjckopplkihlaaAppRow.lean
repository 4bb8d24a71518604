/- append(row of the call's own, another row...): elements of three cells. -/
import Derived.Test.YtmjckopplkihlaaOwn2
namespace Go.Proofs.Ytmjckopplkihlaa.Mem
set_option linter.unusedVariables false
set_option linter.unusedSimpArgs false
open Go.RowKit
theorem slice_flat {α : Type} {f : α → List Value} {B : Nat} {w : World} {A : Option Addr} {xs : List α} (h : SliceAt (CellR f) 3 B w A xs) (h0 : 0 < xs.length) : ∃ a, A = some a ∧ ∀ (j : Nat) u, (xs.flatMap f)[j]? = some u → w.cell? (a.add j) = some u := by
  obtain ⟨b, off, cells, rfl, _, hl, hc, hr⟩ := h.flat h0 (by omega)
  refine ⟨_, rfl, fun j u hj => ?_⟩
  have he : cells = xs.flatMap f := by
    have : ∀ k x, xs[k]? = some x → ((cells.drop (k * 3)).take 3) = f x := hr
    clear hj hc hr h h0
    induction xs generalizing cells with
    | nil => simpa using hl
    | cons x r ih =>
      have hx := this 0 x rfl
      simp only [Nat.zero_mul, List.drop_zero] at hx
      rw [List.flatMap_cons, ← hx, ← ih (cells := cells.drop 3) (by simp at hl ⊢; omega) (fun k y hy => by
        have := this (k + 1) y hy
        rw [List.drop_drop]
        rw [show 3 + k * 3 = (k + 1) * 3 by omega]; exact this)]
      exact (List.take_append_drop 3 cells).symm
  rw [addr_add]
  rw [← he] at hj
  exact hc j u hj
theorem wp_append_own3 {P : Program} {w : World} {o : Oper} {a : Act} {K : Act → World → Prop} {Q : Exit → Act → World → Prop} {α : Type} {f : α → List Value} (s x : Operand) (t : TypeId)
    (ho : o.op = .call { callee := .builtin .append, args := #[s, x], argTypes := #[t, t] })
    (base : Nat) (e : TypeId) (i : TypeInfo) (z : Value) (bytes : Nat) (ht : P.underlying t = some (.slice e)) (hi : P.info? e = some i) (hz : i.zero = some z)
    (hsize : i.size = 3) (hby : i.bytes = bytes) (hzs : z.cells.size = 3)
    (v : Value) (l m : List α) (hs : a.eval s = v) (hrow : Own3 f e base w v l) (A : Option Addr) (cap B : Nat) (hx : a.eval x = .slice A m.length cap) (hA : SliceAt (CellR f) 3 B w A m) (h3 : Cells3 f m)
    (h63 : l.length + m.length ≤ maxLen) (hbytes : (l.length + m.length) * bytes ≤ 140737488355328) (hbase : base ≤ w.heap.size)
    (h : ∀ v' w', Own3 f e base w' v' (l ++ m) → w.grownBy w' v.ownBlock → (∀ w0, Lo w0 w → w0.heap.size ≤ base → Lo w0 w') → K (a.put o.dst v') w') : o.wp P a w K Q := by
  have key : ∃ v' w', (Builtin.append_ #[t, t] o.type #[v, .slice A m.length cap]).run P w = .ok v' w' ∧ Own3 f e base w' v' (l ++ m) ∧ w.grownBy w' v.ownBlock := by
    rcases Nat.eq_zero_or_pos m.length with h0 | h0
    · have hm : m = [] := List.eq_nil_of_length_eq_zero h0
      subst hm
      rw [List.append_nil]
      rcases hrow.open_ with ⟨rfl, rfl⟩ | ⟨g, c, cur, rfl, hb, hg, hn, hc, hs', ht'⟩
      · exact ⟨_, w, run_append_nothing (P := P) (w := w) t o.type e i ht hi none A 0 0 cap (Nat.le_refl _), hrow, grown_of_lo (Lo.refl w)⟩
      · exact ⟨_, w, run_append_nothing (P := P) (w := w) t o.type e i ht hi (some ⟨g, 0, none⟩) A l.length c cap hn, hrow, grown_of_lo (Lo.refl w)⟩
    · obtain ⟨ad, rfl, hc⟩ := slice_flat hA h0
      obtain ⟨v', w', hr, h2, h3', _⟩ := run_append_own2 (P := P) w base t o.type e i z 3 bytes ht hi hz hsize hby hzs (by omega) v l.length (l.flatMap f) hrow ad m.length cap (m.flatMap f) h3.len hc h3.one h63 hbytes hbase
      refine ⟨v', w', hr, ?_, h3'⟩
      unfold Own3
      rw [List.length_append, List.flatMap_append]; exact h2
  obtain ⟨v', w', hr, h2, h3'⟩ := key
  have hk := h v' w' h2 h3' fun w0 hl0 hb0 => hl0.grown h3' fun k hk => Nat.le_trans hb0 (hrow.lt_ k hk).1
  unfold Oper.wp execOp
  simp only [ho, resolve, invoke, builtin, Sem.run_bind, Sem.run_pure, Result.andThen_ok, List.map_toArray, List.map_cons, List.map_nil, hs, hx, hr]
  exact hk
theorem wpList_append_own3 {P : Program} {w : World} {ops : Array Oper} {rest : List Oper} {o : Oper} {a : Act} {Q : Exit → Act → World → Prop} {α : Type} {f : α → List Value} (hgd : o.guard = none) (s x : Operand) (t : TypeId)
    (ho : o.op = .call { callee := .builtin .append, args := #[s, x], argTypes := #[t, t] })
    (base : Nat) (e : TypeId) (i : TypeInfo) (z : Value) (bytes : Nat) (ht : P.underlying t = some (.slice e)) (hi : P.info? e = some i) (hz : i.zero = some z)
    (hsize : i.size = 3) (hby : i.bytes = bytes) (hzs : z.cells.size = 3)
    (v : Value) (l m : List α) (hs : a.eval s = v) (hrow : Own3 f e base w v l) (A : Option Addr) (cap B : Nat) (hx : a.eval x = .slice A m.length cap) (hA : SliceAt (CellR f) 3 B w A m) (h3 : Cells3 f m)
    (h63 : l.length + m.length ≤ maxLen) (hbytes : (l.length + m.length) * bytes ≤ 140737488355328) (hbase : base ≤ w.heap.size)
    (h : ∀ v' w', Own3 f e base w' v' (l ++ m) → w.grownBy w' v.ownBlock → (∀ w0, Lo w0 w → w0.heap.size ≤ base → Lo w0 w') → wpList P ops Q rest (a.put o.dst v') w') : wpList P ops Q (o :: rest) a w :=
  wpList_plain hgd fun _ hK => wp_append_own3 s x t ho base e i z bytes ht hi hz hsize hby hzs v l m hs hrow A cap B hx hA h3 h63 hbytes hbase (fun v' w' h1 h2 h3 => hK _ _ (h v' w' h1 h2 h3))
theorem wpList_wanted {P : Program} {w : World} {ops : Array Oper} {rest : List Oper} {o : Oper} {a : Act} {Q : Exit → Act → World → Prop} (hw : Region.wanted o (yielded ops a.tmps) = true)
    (h : ∀ K : Act → World → Prop, (∀ a w, wpList P ops Q rest a w → K a w) → o.wp P a w K Q) : wpList P ops Q (o :: rest) a w :=
  wpList_step fun K hK => by simp only [hw, if_true]; exact h K hK
theorem wpList_append_own3g {P : Program} {w : World} {ops : Array Oper} {rest : List Oper} {o : Oper} {a : Act} {Q : Exit → Act → World → Prop} {α : Type} {f : α → List Value} (hgd : Region.wanted o (yielded ops a.tmps) = true) (s x : Operand) (t : TypeId)
    (ho : o.op = .call { callee := .builtin .append, args := #[s, x], argTypes := #[t, t] })
    (base : Nat) (e : TypeId) (i : TypeInfo) (z : Value) (bytes : Nat) (ht : P.underlying t = some (.slice e)) (hi : P.info? e = some i) (hz : i.zero = some z)
    (hsize : i.size = 3) (hby : i.bytes = bytes) (hzs : z.cells.size = 3)
    (v : Value) (l m : List α) (hs : a.eval s = v) (hrow : Own3 f e base w v l) (A : Option Addr) (cap B : Nat) (hx : a.eval x = .slice A m.length cap) (hA : SliceAt (CellR f) 3 B w A m) (h3 : Cells3 f m)
    (h63 : l.length + m.length ≤ maxLen) (hbytes : (l.length + m.length) * bytes ≤ 140737488355328) (hbase : base ≤ w.heap.size)
    (h : ∀ v' w', Own3 f e base w' v' (l ++ m) → w.grownBy w' v.ownBlock → (∀ w0, Lo w0 w → w0.heap.size ≤ base → Lo w0 w') → wpList P ops Q rest (a.put o.dst v') w') : wpList P ops Q (o :: rest) a w :=
  wpList_wanted hgd fun _ hK => wp_append_own3 s x t ho base e i z bytes ht hi hz hsize hby hzs v l m hs hrow A cap B hx hA h3 h63 hbytes hbase (fun v' w' h1 h2 h3 => hK _ _ (h v' w' h1 h2 h3))
end Go.Proofs.Ytmjckopplkihlaa.Mem
