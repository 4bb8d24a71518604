/- What slices.DeleteFunc keeps, round by round: a row of the call's own, written in place. -/
import Derived.Test.YtmjckopplkihlaaOwn
namespace Go.Proofs.Ytmjckopplkihlaa.Mem
set_option linter.unusedVariables false
set_option linter.unusedSimpArgs false
open Go.RowKit

/-- a row of the call's own, each element's cells by f -/
def Own3 {α : Type} (f : α → List Value) (e : TypeId) (base : Nat) (w : World) (v : Value) (xs : List α) : Prop := w.ownsRow base e 3 v xs.length (xs.flatMap f)
/-- three cells each, each one cell -/
def Cells3 {α : Type} (f : α → List Value) (xs : List α) : Prop := ∀ x ∈ xs, ∃ c0 c1 c2, f x = [c0, c1, c2] ∧ c0.oneCell' = true ∧ c1.oneCell' = true ∧ c2.oneCell' = true
theorem Cells3.len {α : Type} {f : α → List Value} : ∀ {xs : List α}, Cells3 f xs → (xs.flatMap f).length = xs.length * 3
  | [], _ => rfl
  | x :: r, h => by
    obtain ⟨c0, c1, c2, hx, _⟩ := h x (by simp)
    rw [List.flatMap_cons, List.length_append, Cells3.len fun y hy => h y (by simp [hy]), hx]
    simp; omega
theorem Cells3.sub {α : Type} {f : α → List Value} {xs ys : List α} (h : Cells3 f xs) (hs : ∀ y ∈ ys, y ∈ xs) : Cells3 f ys := fun y hy => h y (hs y hy)
theorem Cells3.get {α : Type} {f : α → List Value} : ∀ {xs : List α}, Cells3 f xs → ∀ {k : Nat} {x : α}, xs[k]? = some x → ∀ {m : Nat}, m < 3 → (xs.flatMap f)[k * 3 + m]? = (f x)[m]?
  | [], _, k, x, h, _, _ => by simp at h
  | y :: r, hc, 0, x, h, m, hm => by
    simp at h; subst h
    obtain ⟨c0, c1, c2, hx, _⟩ := hc y (by simp)
    rw [List.flatMap_cons, Nat.zero_mul, Nat.zero_add, List.getElem?_append_left (by rw [hx]; simpa using hm)]
  | y :: r, hc, k + 1, x, h, m, hm => by
    simp at h
    obtain ⟨c0, c1, c2, hx, _⟩ := hc y (by simp)
    rw [List.flatMap_cons, List.getElem?_append_right (by rw [hx]; simp; omega), hx]
    have : (k + 1) * 3 + m - [c0, c1, c2].length = k * 3 + m := by simp; omega
    rw [this]
    exact Cells3.get (fun z hz => hc z (by simp [hz])) h hm
theorem Cells3.one {α : Type} {f : α → List Value} {xs : List α} (h : Cells3 f xs) : ∀ u ∈ xs.flatMap f, u.oneCell' = true := by
  intro u hu
  obtain ⟨x, hx, hux⟩ := List.mem_flatMap.1 hu
  obtain ⟨c0, c1, c2, he, h0, h1, h2⟩ := h x hx
  rw [he] at hux
  simp at hux
  rcases hux with rfl | rfl | rfl <;> assumption
theorem Own3.nil {α : Type} {f : α → List Value} {e : TypeId} {base : Nat} {w : World} : Own3 f e base w (.slice none 0 0) ([] : List α) := World.ownsRow_nil _ _ _ _
theorem Own3.lo {α : Type} {f : α → List Value} {e : TypeId} {base : Nat} {w w' : World} {v : Value} {xs : List α} (h : Own3 f e base w v xs) (hl : Lo w w') : Own3 f e base w' v xs := hl.owns h
theorem Own3.kept {α : Type} {f : α → List Value} {e : TypeId} {base : Nat} {w w' : World} {v : Value} {xs : List α} {row : Option Nat} (h : Own3 f e base w v xs) (hg : w.grownBy w' row) (hne : v.ownBlock = none ∨ v.ownBlock ≠ row) : Own3 f e base w' v xs := World.ownsRow.kept h hg hne
theorem Own3.base_ {α : Type} {f : α → List Value} {e : TypeId} {base base' : Nat} {w : World} {v : Value} {xs : List α} (h : Own3 f e base w v xs) (hb : base' ≤ base) : Own3 f e base' w v xs := owns_base h hb
theorem Own3.lt_ {α : Type} {f : α → List Value} {e : TypeId} {base : Nat} {w : World} {v : Value} {xs : List α} (h : Own3 f e base w v xs) : ∀ k, v.ownBlock = some k → base ≤ k ∧ k < w.heap.size := World.ownsRow.lt h
/-- nothing there, or a block -/
theorem Own3.open_ {α : Type} {f : α → List Value} {e : TypeId} {base : Nat} {w : World} {v : Value} {xs : List α} (h : Own3 f e base w v xs) :
    (v = .slice none 0 0 ∧ xs = []) ∨ ∃ g cap cur, v = .slice (some ⟨g, 0, none⟩) xs.length cap ∧ base ≤ g ∧ w.heap[g]? = some (.cells (List.toArray cur) e (0, 0)) ∧ xs.length ≤ cap ∧ cap ≤ maxLen ∧ cur.length = cap * 3 ∧ cur.take (xs.length * 3) = xs.flatMap f := by
  obtain ⟨_, ⟨rfl, h0⟩ | ⟨g, cap, cur, hv, hb, hg, hn, hc, hs, ht⟩⟩ := h
  · exact .inl ⟨rfl, List.eq_nil_of_length_eq_zero h0⟩
  · exact .inr ⟨g, cap, cur.toList, hv, hb, by simpa using hg, hn, hc, by simpa using hs, ht⟩
theorem Own3.of_block {α : Type} {f : α → List Value} {e : TypeId} {base : Nat} {w : World} {xs : List α} {g cap : Nat} {cur : List Value} (h3 : Cells3 f xs) (hb : base ≤ g) (hg : w.heap[g]? = some (.cells cur.toArray e (0, 0))) (hn : xs.length ≤ cap) (hc : cap ≤ maxLen) (hs : cur.length = cap * 3) (ht : cur.take (xs.length * 3) = xs.flatMap f) :
    Own3 f e base w (.slice (some ⟨g, 0, none⟩) xs.length cap) xs :=
  ⟨h3.len, .inr ⟨g, cap, cur.toArray, rfl, hb, hg, hn, hc, by simpa using hs, by simpa using ht⟩⟩
/-- read as a slice, each element by its cells -/
def CellR {α : Type} (f : α → List Value) : Rel α := fun _ _ x cs => cs = f x
theorem CellR.kept {α : Type} {f : α → List Value} : Kept (CellR f) := fun _ _ _ _ _ _ h _ _ => h
theorem Own3.slice {α : Type} {f : α → List Value} {e : TypeId} {base : Nat} {w : World} {v : Value} {xs : List α} (h : Own3 f e base w v xs) (h3 : Cells3 f xs) :
    ∃ A cap, v = .slice A xs.length cap ∧ SliceAt (CellR f) 3 w.heap.size w A xs ∧ xs.length ≤ cap ∧ cap ≤ maxLen := by
  rcases h.open_ with ⟨rfl, rfl⟩ | ⟨g, cap, cur, rfl, hb, hg, hn, hc, hs, ht⟩
  · exact ⟨none, 0, rfl, SliceAt.nil, by simp, by simp [maxLen]⟩
  · refine ⟨some ⟨g, 0, none⟩, cap, rfl, ?_, hn, hc⟩
    intro k x hx
    have hk : k < xs.length := (List.getElem?_eq_some_iff.1 hx).1
    obtain ⟨c0, c1, c2, hf, _⟩ := h3 x (List.mem_of_getElem? hx)
    refine ⟨g, 0, f x, rfl, block_lt hg, by rw [hf]; rfl, ?_, rfl⟩
    intro j v hj
    have hj3 : j < 3 := by
      rcases Nat.lt_or_ge j 3 with h' | h'
      · exact h'
      · rw [hf, List.getElem?_eq_none (by simpa using h')] at hj; cases hj
    rw [Nat.zero_add]
    refine cell_row hg ?_
    have := h3.get hx hj3
    rw [← ht, List.getElem?_take_of_lt (by omega)] at this
    rw [this]; exact hj

section
variable {α : Type} (f : α → List Value) (e : TypeId) (w : World) (g cap : Nat) (xs : List α) (p : α → Bool)
structure DelInv (i j : Nat) (wr : World) : Prop where
  gr : w.grownBy wr (some g)
  cells : ∃ cur : List Value, wr.heap[g]? = some (.cells cur.toArray e (0, 0)) ∧ cur.length = cap * 3 ∧ cur.take (i * 3) = ((xs.take j).filter fun x => !p x).flatMap f ∧
    ∀ k x, j ≤ k → xs[k]? = some x → ∀ m, m < 3 → cur[k * 3 + m]? = (f x)[m]?
  hi : i = ((xs.take j).filter fun x => !p x).length
  ij : i < j
  jn : j ≤ xs.length
variable {f e w g cap xs p}
theorem DelInv.start {cur : List Value} (h3 : Cells3 f xs) (hg : w.heap[g]? = some (.cells cur.toArray e (0, 0))) (hs : cur.length = cap * 3) (ht : cur.take (xs.length * 3) = xs.flatMap f) {k : Nat} (hk : k < xs.length) (hp : p xs[k] = true) (hb : ∀ j (hj : j < k), p (xs[j]'(by omega)) = false) : DelInv f e w g cap xs p k (k + 1) w := by
  have hfk : (xs.take k).filter (fun x => !p x) = xs.take k := by
    rw [List.filter_eq_self]
    intro x hx
    rw [List.mem_take_iff_getElem] at hx
    obtain ⟨i, hi, rfl⟩ := hx
    simp [hb i (by omega)]
  have hfk1 : (xs.take (k + 1)).filter (fun x => !p x) = xs.take k := by
    rw [List.take_succ_eq_append_getElem hk, List.filter_append, hfk]; simp [hp]
  have h3k : Cells3 f (xs.take k) := h3.sub fun y hy => List.mem_of_mem_take hy
  refine ⟨⟨rfl, rfl, rfl, Nat.le_refl _, fun _ _ _ => rfl⟩, ⟨cur, hg, hs, ?_, ?_⟩, by rw [hfk1]; simp; omega, by omega, hk⟩
  · rw [hfk1]
    have h1 : cur.take (k * 3) = (cur.take (xs.length * 3)).take (k * 3) := by rw [List.take_take, Nat.min_eq_left (by omega)]
    rw [h1, ht]
    conv => lhs; arg 2; rw [← List.take_append_drop k xs]
    rw [List.flatMap_append]
    exact List.take_left' (by rw [h3k.len, List.length_take]; omega)
  · intro k' x _ hx m hm
    have hk' : k' < xs.length := (List.getElem?_eq_some_iff.1 hx).1
    have := h3.get hx hm
    rw [← ht, List.getElem?_take_of_lt (by omega)] at this
    exact this
theorem DelInv.lo {i j : Nat} {wr w' : World} (h : DelInv f e w g cap xs p i j wr) (hl : Lo wr w') : DelInv f e w g cap xs p i j w' := by
  obtain ⟨gr, ⟨cur, hg, hs, ht, hc⟩, hi, ij, jn⟩ := h
  exact ⟨grown_lo gr hl, ⟨cur, cells_lo hg hl, hs, ht, hc⟩, hi, ij, jn⟩
theorem DelInv.read {i j : Nat} {wr : World} (h : DelInv f e w g cap xs p i j wr) (hj : j < xs.length) {c0 c1 c2 : Value} (hf : f xs[j] = [c0, c1, c2]) :
    wr.cell? ⟨g, j * 3, none⟩ = some c0 ∧ wr.cell? ⟨g, j * 3 + 1, none⟩ = some c1 ∧ wr.cell? ⟨g, j * 3 + 2, none⟩ = some c2 := by
  obtain ⟨gr, ⟨cur, hg, hs, ht, hc⟩, hi, ij, jn⟩ := h
  have hx : xs[j]? = some xs[j] := List.getElem?_eq_getElem hj
  have h0 := hc j _ (Nat.le_refl _) hx 0 (by omega)
  have h1 := hc j _ (Nat.le_refl _) hx 1 (by omega)
  have h2 := hc j _ (Nat.le_refl _) hx 2 (by omega)
  rw [hf] at h0 h1 h2
  exact ⟨cell_row hg h0, cell_row hg h1, cell_row hg h2⟩
theorem DelInv.there {i j : Nat} {wr : World} (h : DelInv f e w g cap xs p i j wr) (hn : xs.length ≤ cap) {o : Nat} (ho : o < j * 3) : (∃ u, wr.cell? ⟨g, o, none⟩ = some u) ∧ wr.frozen? ⟨g, o, none⟩ = false := by
  obtain ⟨gr, ⟨cur, hg, hs, ht, hc⟩, hi, ij, jn⟩ := h
  have : o < cur.length := by omega
  exact ⟨⟨cur[o], cell_row hg (List.getElem?_eq_getElem this)⟩, frozen_row hg⟩
theorem DelInv.drop {i j : Nat} {wr : World} (h : DelInv f e w g cap xs p i j wr) (hj : j < xs.length) (hp : p xs[j] = true) : DelInv f e w g cap xs p i (j + 1) wr := by
  obtain ⟨gr, ⟨cur, hg, hs, ht, hc⟩, hi, ij, jn⟩ := h
  have hf : (xs.take (j + 1)).filter (fun x => !p x) = (xs.take j).filter fun x => !p x := by
    rw [List.take_succ_eq_append_getElem hj, List.filter_append]; simp [hp]
  exact ⟨gr, ⟨cur, hg, hs, by rw [hf]; exact ht, fun k x hk => hc k x (by omega)⟩, by rw [hf]; exact hi, by omega, hj⟩
theorem DelInv.keep {i j : Nat} {wr : World} (h : DelInv f e w g cap xs p i j wr) (hn : xs.length ≤ cap) (hj : j < xs.length) (hp : p xs[j] = false) {c0 c1 c2 : Value} (hf : f xs[j] = [c0, c1, c2]) :
    DelInv f e w g cap xs p (i + 1) (j + 1) (((wr.setCell ⟨g, i * 3, none⟩ c0).setCell ⟨g, i * 3 + 1, none⟩ c1).setCell ⟨g, i * 3 + 2, none⟩ c2) := by
  obtain ⟨gr, ⟨cur, hg, hs, ht, hc⟩, hi, ij, jn⟩ := h
  have hff : (xs.take (j + 1)).filter (fun x => !p x) = ((xs.take j).filter fun x => !p x) ++ [xs[j]] := by
    rw [List.take_succ_eq_append_getElem hj, List.filter_append]; simp [hp]
  have g1 := setCell_eq_setRow wr g (i * 3) cur.toArray e (0, 0) c0 hg
  have h1 : (wr.setCell ⟨g, i * 3, none⟩ c0).heap[g]? = some (.cells (cur.set (i * 3) c0).toArray e (0, 0)) := by rw [g1]; simpa using setRow_heap wr g _ (cur.toArray.setIfInBounds (i * 3) c0) e (0, 0) hg
  have g2 := setCell_eq_setRow _ g (i * 3 + 1) _ e (0, 0) c1 h1
  have h2 : ((wr.setCell ⟨g, i * 3, none⟩ c0).setCell ⟨g, i * 3 + 1, none⟩ c1).heap[g]? = some (.cells ((cur.set (i * 3) c0).set (i * 3 + 1) c1).toArray e (0, 0)) := by rw [g2]; simpa using setRow_heap _ g _ ((cur.set (i * 3) c0).toArray.setIfInBounds (i * 3 + 1) c1) e (0, 0) h1
  have g3 := setCell_eq_setRow _ g (i * 3 + 2) _ e (0, 0) c2 h2
  have h3 : (((wr.setCell ⟨g, i * 3, none⟩ c0).setCell ⟨g, i * 3 + 1, none⟩ c1).setCell ⟨g, i * 3 + 2, none⟩ c2).heap[g]? = some (.cells (((cur.set (i * 3) c0).set (i * 3 + 1) c1).set (i * 3 + 2) c2).toArray e (0, 0)) := by rw [g3]; simpa using setRow_heap _ g _ (((cur.set (i * 3) c0).set (i * 3 + 1) c1).toArray.setIfInBounds (i * 3 + 2) c2) e (0, 0) h2
  refine ⟨grown_trans (grown_trans (grown_trans gr (grown_setCell _)) (grown_setCell _)) (grown_setCell _), ⟨_, h3, by simpa using hs, ?_, ?_⟩, by rw [hff, List.length_append, ← hi]; rfl, by omega, hj⟩
  · rw [hff, List.flatMap_append, ← ht]
    have hlen : i * 3 + 3 ≤ cur.length := by omega
    refine List.ext_getElem? fun m => ?_
    by_cases hm : m < (i + 1) * 3
    · rw [List.getElem?_take_of_lt hm]
      by_cases hmi : m < i * 3
      · rw [List.getElem?_append_left (by rw [List.length_take]; omega), List.getElem?_take_of_lt hmi]
        rw [List.getElem?_set_ne (by omega), List.getElem?_set_ne (by omega), List.getElem?_set_ne (by omega)]
      · rw [List.getElem?_append_right (by rw [List.length_take]; omega), List.length_take, Nat.min_eq_left (by omega)]
        simp only [List.flatMap_cons, List.flatMap_nil, List.append_nil, hf]
        obtain rfl | rfl | rfl : m = i * 3 ∨ m = i * 3 + 1 ∨ m = i * 3 + 2 := by omega
        · rw [List.getElem?_set_ne (by omega), List.getElem?_set_ne (by omega), List.getElem?_set_self (by omega)]; simp
        · rw [List.getElem?_set_ne (by omega), List.getElem?_set_self (by simp; omega)]; simp
        · rw [List.getElem?_set_self (by simp; omega)]; simp
    · rw [List.getElem?_eq_none (by simp; omega), List.getElem?_eq_none (by simp [hf]; omega)]
  · intro k x hk hx m hm
    rw [List.getElem?_set_ne (by omega), List.getElem?_set_ne (by omega), List.getElem?_set_ne (by omega)]
    exact hc k x (by omega) hx m hm
/-- at the end -/
theorem DelInv.done {i : Nat} {wr : World} (h : DelInv f e w g cap xs p i xs.length wr) : w.grownBy wr (some g) ∧ i = (xs.filter fun x => !p x).length ∧ i < xs.length ∧ ∃ cur : List Value, wr.heap[g]? = some (.cells cur.toArray e (0, 0)) ∧ cur.length = cap * 3 ∧ cur.take (i * 3) = (xs.filter fun x => !p x).flatMap f := by
  obtain ⟨gr, ⟨cur, hg, hs, ht, hc⟩, hi, ij, jn⟩ := h
  rw [List.take_length] at ht hi
  exact ⟨gr, hi, ij, cur, hg, hs, ht⟩
end
end Go.Proofs.Ytmjckopplkihlaa.Mem
