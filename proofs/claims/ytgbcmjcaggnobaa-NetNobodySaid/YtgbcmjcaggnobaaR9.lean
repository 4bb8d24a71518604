/- Merged by bundles.py: Del, Own2, SimDl, SimIn, SimFr. -/
import Derived.Test.YtgbcmjcaggnobaaR8
import Derived.Deep.RegionLaw
/- What slices.DeleteFunc keeps, round by round: a row of the call's own, written in place. -/
namespace Go.Proofs.Ytgbcmjcaggnobaa.Mem
set_option linter.unusedVariables false
set_option linter.unusedSimpArgs false
open Go.RowKit

/-- a row of the call's own, each element's cells by f -/
def Own3 {α : Type} (f : α → List Value) (e : TypeId) (base : Nat) (w : World) (v : Value) (xs : List α) : Prop := w.ownsRow base e 3 v xs.length (xs.flatMap f)
/-- three cells each, each one cell -/
def Cells3 {α : Type} (f : α → List Value) (xs : List α) : Prop := ∀ x ∈ xs, ∃ c0 c1 c2, f x = [c0, c1, c2] ∧ c0.oneCell' = true ∧ c1.oneCell' = true ∧ c2.oneCell' = true
theorem Cells3.len {α : Type} {f : α → List Value} : ∀ {xs : List α}, Cells3 f xs → (xs.flatMap f).length = xs.length * 3
  | [], _ => rfl
  | x :: r, h => by
    obtain ⟨c0, c1, c2, hx, _⟩ := h x (by simp)
    rw [List.flatMap_cons, List.length_append, Cells3.len fun y hy => h y (by simp [hy]), hx]
    simp; omega
theorem Cells3.sub {α : Type} {f : α → List Value} {xs ys : List α} (h : Cells3 f xs) (hs : ∀ y ∈ ys, y ∈ xs) : Cells3 f ys := fun y hy => h y (hs y hy)
theorem Cells3.get {α : Type} {f : α → List Value} : ∀ {xs : List α}, Cells3 f xs → ∀ {k : Nat} {x : α}, xs[k]? = some x → ∀ {m : Nat}, m < 3 → (xs.flatMap f)[k * 3 + m]? = (f x)[m]?
  | [], _, k, x, h, _, _ => by simp at h
  | y :: r, hc, 0, x, h, m, hm => by
    simp at h; subst h
    obtain ⟨c0, c1, c2, hx, _⟩ := hc y (by simp)
    rw [List.flatMap_cons, Nat.zero_mul, Nat.zero_add, List.getElem?_append_left (by rw [hx]; simpa using hm)]
  | y :: r, hc, k + 1, x, h, m, hm => by
    simp at h
    obtain ⟨c0, c1, c2, hx, _⟩ := hc y (by simp)
    rw [List.flatMap_cons, List.getElem?_append_right (by rw [hx]; simp; omega), hx]
    have : (k + 1) * 3 + m - [c0, c1, c2].length = k * 3 + m := by simp; omega
    rw [this]
    exact Cells3.get (fun z hz => hc z (by simp [hz])) h hm
theorem Cells3.one {α : Type} {f : α → List Value} {xs : List α} (h : Cells3 f xs) : ∀ u ∈ xs.flatMap f, u.oneCell' = true := by
  intro u hu
  obtain ⟨x, hx, hux⟩ := List.mem_flatMap.1 hu
  obtain ⟨c0, c1, c2, he, h0, h1, h2⟩ := h x hx
  rw [he] at hux
  simp at hux
  rcases hux with rfl | rfl | rfl <;> assumption
theorem Own3.nil {α : Type} {f : α → List Value} {e : TypeId} {base : Nat} {w : World} : Own3 f e base w (.slice none 0 0) ([] : List α) := World.ownsRow_nil _ _ _ _
theorem Own3.lo {α : Type} {f : α → List Value} {e : TypeId} {base : Nat} {w w' : World} {v : Value} {xs : List α} (h : Own3 f e base w v xs) (hl : Lo w w') : Own3 f e base w' v xs := hl.owns h
theorem Own3.kept {α : Type} {f : α → List Value} {e : TypeId} {base : Nat} {w w' : World} {v : Value} {xs : List α} {row : Option Nat} (h : Own3 f e base w v xs) (hg : w.grownBy w' row) (hne : v.ownBlock = none ∨ v.ownBlock ≠ row) : Own3 f e base w' v xs := World.ownsRow.kept h hg hne
/-- nothing there, or a block -/
theorem Own3.open_ {α : Type} {f : α → List Value} {e : TypeId} {base : Nat} {w : World} {v : Value} {xs : List α} (h : Own3 f e base w v xs) :
    (v = .slice none 0 0 ∧ xs = []) ∨ ∃ g cap cur, v = .slice (some ⟨g, 0, none⟩) xs.length cap ∧ base ≤ g ∧ w.heap[g]? = some (.cells (List.toArray cur) e (0, 0)) ∧ xs.length ≤ cap ∧ cap ≤ maxLen ∧ cur.length = cap * 3 ∧ cur.take (xs.length * 3) = xs.flatMap f := by
  obtain ⟨_, ⟨rfl, h0⟩ | ⟨g, cap, cur, hv, hb, hg, hn, hc, hs, ht⟩⟩ := h
  · exact .inl ⟨rfl, List.eq_nil_of_length_eq_zero h0⟩
  · exact .inr ⟨g, cap, cur.toList, hv, hb, by simpa using hg, hn, hc, by simpa using hs, ht⟩
/-- read as a slice, each element by its cells -/
def CellR {α : Type} (f : α → List Value) : Rel α := fun _ _ x cs => cs = f x
theorem CellR.kept {α : Type} {f : α → List Value} : Kept (CellR f) := fun _ _ _ _ _ _ h _ _ => h
theorem Own3.slice {α : Type} {f : α → List Value} {e : TypeId} {base : Nat} {w : World} {v : Value} {xs : List α} (h : Own3 f e base w v xs) (h3 : Cells3 f xs) :
    ∃ A cap, v = .slice A xs.length cap ∧ SliceAt (CellR f) 3 w.heap.size w A xs ∧ xs.length ≤ cap ∧ cap ≤ maxLen := by
  rcases h.open_ with ⟨rfl, rfl⟩ | ⟨g, cap, cur, rfl, hb, hg, hn, hc, hs, ht⟩
  · exact ⟨none, 0, rfl, SliceAt.nil, by simp, by simp [maxLen]⟩
  · refine ⟨some ⟨g, 0, none⟩, cap, rfl, ?_, hn, hc⟩
    intro k x hx
    have hk : k < xs.length := (List.getElem?_eq_some_iff.1 hx).1
    obtain ⟨c0, c1, c2, hf, _⟩ := h3 x (List.mem_of_getElem? hx)
    refine ⟨g, 0, f x, rfl, block_lt hg, by rw [hf]; rfl, ?_, rfl⟩
    intro j v hj
    have hj3 : j < 3 := by
      rcases Nat.lt_or_ge j 3 with h' | h'
      · exact h'
      · rw [hf, List.getElem?_eq_none (by simpa using h')] at hj; cases hj
    rw [Nat.zero_add]
    refine cell_row hg ?_
    have := h3.get hx hj3
    rw [← ht, List.getElem?_take_of_lt (by omega)] at this
    rw [this]; exact hj

section
variable {α : Type} (f : α → List Value) (e : TypeId) (w : World) (g cap : Nat) (xs : List α) (p : α → Bool)
structure DelInv (i j : Nat) (wr : World) : Prop where
  gr : w.grownBy wr (some g)
  cells : ∃ cur : List Value, wr.heap[g]? = some (.cells cur.toArray e (0, 0)) ∧ cur.length = cap * 3 ∧ cur.take (i * 3) = ((xs.take j).filter fun x => !p x).flatMap f ∧
    ∀ k x, j ≤ k → xs[k]? = some x → ∀ m, m < 3 → cur[k * 3 + m]? = (f x)[m]?
  hi : i = ((xs.take j).filter fun x => !p x).length
  ij : i < j
  jn : j ≤ xs.length
variable {f e w g cap xs p}
theorem DelInv.lo {i j : Nat} {wr w' : World} (h : DelInv f e w g cap xs p i j wr) (hl : Lo wr w') : DelInv f e w g cap xs p i j w' := by
  obtain ⟨gr, ⟨cur, hg, hs, ht, hc⟩, hi, ij, jn⟩ := h
  exact ⟨grown_lo gr hl, ⟨cur, cells_lo hg hl, hs, ht, hc⟩, hi, ij, jn⟩
theorem DelInv.drop {i j : Nat} {wr : World} (h : DelInv f e w g cap xs p i j wr) (hj : j < xs.length) (hp : p xs[j] = true) : DelInv f e w g cap xs p i (j + 1) wr := by
  obtain ⟨gr, ⟨cur, hg, hs, ht, hc⟩, hi, ij, jn⟩ := h
  have hf : (xs.take (j + 1)).filter (fun x => !p x) = (xs.take j).filter fun x => !p x := by
    rw [List.take_succ_eq_append_getElem hj, List.filter_append]; simp [hp]
  exact ⟨gr, ⟨cur, hg, hs, by rw [hf]; exact ht, fun k x hk => hc k x (by omega)⟩, by rw [hf]; exact hi, by omega, hj⟩
theorem DelInv.keep {i j : Nat} {wr : World} (h : DelInv f e w g cap xs p i j wr) (hn : xs.length ≤ cap) (hj : j < xs.length) (hp : p xs[j] = false) {c0 c1 c2 : Value} (hf : f xs[j] = [c0, c1, c2]) :
    DelInv f e w g cap xs p (i + 1) (j + 1) (((wr.setCell ⟨g, i * 3, none⟩ c0).setCell ⟨g, i * 3 + 1, none⟩ c1).setCell ⟨g, i * 3 + 2, none⟩ c2) := by
  obtain ⟨gr, ⟨cur, hg, hs, ht, hc⟩, hi, ij, jn⟩ := h
  have hff : (xs.take (j + 1)).filter (fun x => !p x) = ((xs.take j).filter fun x => !p x) ++ [xs[j]] := by
    rw [List.take_succ_eq_append_getElem hj, List.filter_append]; simp [hp]
  have g1 := setCell_eq_setRow wr g (i * 3) cur.toArray e (0, 0) c0 hg
  have h1 : (wr.setCell ⟨g, i * 3, none⟩ c0).heap[g]? = some (.cells (cur.set (i * 3) c0).toArray e (0, 0)) := by rw [g1]; simpa using setRow_heap wr g _ (cur.toArray.setIfInBounds (i * 3) c0) e (0, 0) hg
  have g2 := setCell_eq_setRow _ g (i * 3 + 1) _ e (0, 0) c1 h1
  have h2 : ((wr.setCell ⟨g, i * 3, none⟩ c0).setCell ⟨g, i * 3 + 1, none⟩ c1).heap[g]? = some (.cells ((cur.set (i * 3) c0).set (i * 3 + 1) c1).toArray e (0, 0)) := by rw [g2]; simpa using setRow_heap _ g _ ((cur.set (i * 3) c0).toArray.setIfInBounds (i * 3 + 1) c1) e (0, 0) h1
  have g3 := setCell_eq_setRow _ g (i * 3 + 2) _ e (0, 0) c2 h2
  have h3 : (((wr.setCell ⟨g, i * 3, none⟩ c0).setCell ⟨g, i * 3 + 1, none⟩ c1).setCell ⟨g, i * 3 + 2, none⟩ c2).heap[g]? = some (.cells (((cur.set (i * 3) c0).set (i * 3 + 1) c1).set (i * 3 + 2) c2).toArray e (0, 0)) := by rw [g3]; simpa using setRow_heap _ g _ (((cur.set (i * 3) c0).set (i * 3 + 1) c1).toArray.setIfInBounds (i * 3 + 2) c2) e (0, 0) h2
  refine ⟨grown_trans (grown_trans (grown_trans gr (grown_setCell _)) (grown_setCell _)) (grown_setCell _), ⟨_, h3, by simpa using hs, ?_, ?_⟩, by rw [hff, List.length_append, ← hi]; rfl, by omega, hj⟩
  · rw [hff, List.flatMap_append, ← ht]
    have hlen : i * 3 + 3 ≤ cur.length := by omega
    refine List.ext_getElem? fun m => ?_
    by_cases hm : m < (i + 1) * 3
    · rw [List.getElem?_take_of_lt hm]
      by_cases hmi : m < i * 3
      · rw [List.getElem?_append_left (by rw [List.length_take]; omega), List.getElem?_take_of_lt hmi]
        rw [List.getElem?_set_ne (by omega), List.getElem?_set_ne (by omega), List.getElem?_set_ne (by omega)]
      · rw [List.getElem?_append_right (by rw [List.length_take]; omega), List.length_take, Nat.min_eq_left (by omega)]
        simp only [List.flatMap_cons, List.flatMap_nil, List.append_nil, hf]
        obtain rfl | rfl | rfl : m = i * 3 ∨ m = i * 3 + 1 ∨ m = i * 3 + 2 := by omega
        · rw [List.getElem?_set_ne (by omega), List.getElem?_set_ne (by omega), List.getElem?_set_self (by omega)]; simp
        · rw [List.getElem?_set_ne (by omega), List.getElem?_set_self (by simp; omega)]; simp
        · rw [List.getElem?_set_self (by simp; omega)]; simp
    · rw [List.getElem?_eq_none (by simp; omega), List.getElem?_eq_none (by simp [hf]; omega)]
  · intro k x hk hx m hm
    rw [List.getElem?_set_ne (by omega), List.getElem?_set_ne (by omega), List.getElem?_set_ne (by omega)]
    exact hc k x (by omega) hx m hm
end
end Go.Proofs.Ytgbcmjcaggnobaa.Mem

/- Rows of the call's own: an append of a make; what an insertion leaves. -/
namespace Go.Proofs.Ytgbcmjcaggnobaa.Mem
set_option linter.unusedVariables false
set_option linter.unusedSimpArgs false
open Go.RowKit

theorem size_splice {β : Type} {L cs : List β} {off : Nat} (h : off + cs.length ≤ L.length) : (splice L off cs).length = L.length := length_splice L off cs h

end Go.Proofs.Ytgbcmjcaggnobaa.Mem

/- slices.Delete of one element, of a row whose elements are one cell each, in its own block. -/
namespace Go.Proofs.Ytgbcmjcaggnobaa.Sim
set_option linter.unusedVariables false
set_option linter.unusedSimpArgs false
open Go.RowKit Mem BigFrame
theorem step_append_roomM {P : Program} {ops : Array Oper} {o : Oper} {a : Act} {w : World} {K : Act → World → Prop} {Q : Exit → Act → World → Prop} {E : Prop} (hgd : o.guard = none) (d s : Operand) (t e : TypeId) (i : TypeInfo)
    (ho : o.op = .call { callee := .builtin .append, args := #[d, s], argTypes := #[t, t] }) (hu : P.underlying t = some (.slice e)) (hi : P.info? e = some i) (hsz : i.size = 1)
    (g sLen sCap : Nat) (ad : Addr) (m c : Nat) (hd : a.eval d = .slice (some ⟨g, 0, none⟩) sLen sCap) (hs : a.eval s = .slice (some ad) m c)
    (cur : List Value) (fz : Nat × Nat) (hg : w.heap[g]? = some (.cells cur.toArray e fz)) (hfz : FzOk fz cur.length) (cs : List Value) (hn : cs.length = m)
    (hsrc : ∀ (j : Nat) v, cs[j]? = some v → w.cell? (ad.add j) = some v) (hroom : sLen + m ≤ sCap) (hfit : sLen + cs.length ≤ cur.length) {nn : Nat} (hnn : sLen + m = nn) (h1 : ∀ v ∈ cs, v.oneCell' = true)
    (h : ∀ w', Hid (w'.heap[g]? = some (.cells (splice cur sLen cs).toArray e fz)) → w.grownBy w' (some g) → K (a.put o.dst (.slice (some ⟨g, 0, none⟩) nn sCap)) w') :
    if Region.wanted o (yielded ops a.tmps) = true then Oper.wp P o a w K Q else E := by
  subst hnn
  have hw : Region.wanted o (yielded ops a.tmps) = true := by simp [Region.wanted, hgd]
  rw [if_pos hw]
  have hrun := run_append_roomM (P := P) w t o.type e i hu hi g sLen sCap cur.toArray fz hg (by simpa using hfz) ad m c cs (by rw [hsz, Nat.mul_one]; exact hn) hsrc h1 hroom (by rw [hsz, Nat.mul_one]; simpa using hfit)
  rw [hsz, Nat.mul_one] at hrun
  unfold Oper.wp execOp
  simp only [ho, resolve, invoke, builtin, Sem.run_bind, Sem.run_pure, Result.andThen_ok, List.map_toArray, List.map_cons, List.map_nil, hd, hs, hrun]
  refine h _ (Lib.hid ?_) (grown_setRow w g _)
  rw [setRow_heap w g _ _ e fz hg]
  simp [splice]
theorem wpList_clear_rowM {P : Program} {w : World} {ops : Array Oper} {rest : List Oper} {o : Oper} {a : Act} {Q : Exit → Act → World → Prop} (hgd : o.guard = none) (s : Operand) (sT : TypeId)
    (ho : o.op = .call { callee := .builtin .clear, args := #[s], argTypes := #[sT] }) (e : TypeId) (i : TypeInfo) (z : Value) (hu : P.underlying sT = some (.slice e)) (hi : P.info? e = some i) (hz : i.zero = some z)
    (g off n c : Nat) (hs : a.eval s = .slice (some ⟨g, off, none⟩) n c) (hn : 0 < n)
    (cur : List Value) (t : TypeId) {fz : Nat × Nat} (hg : w.heap[g]? = some (.cells cur.toArray t fz)) (hfz : FzOk fz cur.length) (hfit : off + n * z.cells.size ≤ cur.length) (h1 : ∀ u ∈ z.cells.toList, u.oneCell' = true) (hz0 : 0 < z.cells.size)
    (h : ∀ (w' : World) (cur' : List Value), Hid (w'.heap[g]? = some (.cells cur'.toArray t fz) ∧ cur'.length = cur.length ∧ cur'.take off = cur.take off) → w.grownBy w' (some g) → wpList P ops Q rest (a.put o.dst (.tuple #[])) w') : wpList P ops Q (o :: rest) a w := by
  refine wpList_plain hgd fun K hK => ?_
  have hone : ∀ u ∈ (Builtin.zeroCells z.cells n).toList, u.oneCell' = true := by
    intro u hu
    simp only [Builtin.zeroCells, Array.toList_map, List.mem_map] at hu
    obtain ⟨k, _, rfl⟩ := hu
    have hk : k % z.cells.size < z.cells.size := Nat.mod_lt _ hz0
    rw [getElem!_pos z.cells (k % z.cells.size) hk]
    exact h1 _ (by simp)
  have hrun := run_clear_rowM (P := P) (w := w) sT e o.type i z hu hi hz g off n c hn cur.toArray t hg (by simpa using hfz) (by simpa using hfit) hone
  unfold Oper.wp execOp
  simp only [ho, resolve, invoke, builtin, Sem.run_bind, Sem.run_pure, Result.andThen_ok, List.map_toArray, List.map_cons, List.map_nil, hs, hrun]
  have hzl : (Builtin.zeroCells z.cells n).toList.length = n * z.cells.size := by rw [Array.length_toList, size_zeroCells]
  refine hK _ _ (h _ (cur.take off ++ (Builtin.zeroCells z.cells n).toList ++ cur.drop (off + (Builtin.zeroCells z.cells n).toList.length)) (Lib.hid ⟨?_, ?_, ?_⟩) (grown_setRow w g _))
  · rw [setRow_heap w g _ _ t _ hg]
  · simp only [List.length_append, List.length_take, List.length_drop, hzl]; omega
  · rw [List.append_assoc]; exact List.take_left' (by rw [List.length_take]; omega)
theorem splice_erase {β : Type} {L : List β} {n i : Nat} (hi : i < n) (hn : n ≤ L.length) : (splice L i ((L.take n).drop (i + 1))).take (n - 1) = (L.take n).eraseIdx i := by
  have hl : (L.take i ++ (L.take n).drop (i + 1)).length = n - 1 := by simp only [List.length_append, List.length_take, List.length_drop]; omega
  have ht : (L.take n).take i = L.take i := by rw [List.take_take, Nat.min_eq_left (by omega)]
  rw [List.eraseIdx_eq_take_drop_succ, ht, ← hl]
  unfold splice
  rw [← List.append_assoc]
  exact List.take_left
theorem infoS : (Try.prog.info? 28).map (fun i => (i.zero, i.size, i.bytes)) = some (some (.slice none 0 0), 1, 24) := by kernel_rfl
set_option maxRecDepth 100000 in
set_option maxHeartbeats 3200000 in
theorem delete_ (g cap n i : Nat) (cur : List Value) (fz : Nat × Nat) (w : World) (hg : w.heap[g]? = some (.cells cur.toArray 28 fz)) (hfz : FzOk fz cur.length) (hin : i < n) (hnc : n ≤ cap) (hcm : cap ≤ maxLen) (hcs : cap ≤ cur.length) (h1 : ∀ u ∈ cur.take n, u.oneCell' = true) :
    Calls Try.prog 45 #[.slice (some ⟨g, 0, none⟩) n cap, .int .i64 i, .int .i64 ((i : Int) + 1)] w fun e w' => e = .returned (.slice (some ⟨g, 0, none⟩) (n - 1) cap) ∧ w.grownBy w' (some g) ∧ ∃ cur' : List Value, w'.heap[g]? = some (.cells cur'.toArray 28 fz) ∧ cur'.length = cur.length ∧ cur'.take (n - 1) = (cur.take n).eraseIdx i := by
  obtain ⟨i0, hi, hz0, hz1, hz2⟩ := info_parts infoS
  have HG := Lib.hid hg
  have HF := Lib.hid hfz
  have hsrc : Hid (∀ w0, Lo w w0 → ∀ (j : Nat) u, ((cur.take n).drop (i + 1))[j]? = some u → w0.cell? ((⟨g, i + 1, none⟩ : Addr).add j) = some u) := Lib.hid fun w0 hl j u hj => by
    rw [addr_add]
    refine lo_keep hl ?_
    rw [List.getElem?_drop] at hj
    have hjn : i + 1 + j < n := by have := (List.getElem?_eq_some_iff.1 hj).1; simp at this; omega
    rw [List.getElem?_take_of_lt hjn] at hj
    have hjl := (List.getElem?_eq_some_iff.1 hj).1
    obtain ⟨hx, hy⟩ := List.getElem?_eq_some_iff.1 hj
    simp [World.cell?, hg, hjl, hy]
  have hlen : ((cur.take n).drop (i + 1)).length = n - (i + 1) := by simp; omega
  have hone : ∀ u ∈ (cur.take n).drop (i + 1), u.oneCell' = true := fun u hu => h1 u (List.mem_of_mem_drop hu)
  have HSP := Lib.hid (splice_erase (L := cur) hin (by omega))
  have hsl : (splice cur i ((cur.take n).drop (i + 1))).length = cur.length := size_splice (by rw [hlen]; omega)
  clear hg hfz h1
  generalize (cur.take n).drop (i + 1) = Xs at *
  generalize (cur.take n).eraseIdx i = Ys at *
  have j0 : (0 : Int) ≤ (i : Int) := by omega
  have j1 : (i : Int) + 1 ≤ (n : Int) := by omega
  have j2 : (n : Int) ≤ (cap : Int) := by omega
  have j3 : ¬ ((i : Int) = (i : Int) + 1) := by omega
  have j4 : (0 : Int) ≤ (i : Int) + 1 := by omega
  have j5 : ((i : Int) + 1).toNat = i + 1 := by omega
  have j6 : (i : Int) ≤ (i : Int) + 1 := by omega
  have j7 : (i : Int) ≤ (cap : Int) := by omega
  have hbg : g < w.heap.size := block_lt HG.out
  go_enter Try.func45, Try.ntmps45
  go_wp2
  obtain ⟨ad, had, hadc⟩ : ∃ ad : Addr, (if cap = i + 1 then some (⟨g, 0, none⟩ : Addr) else some ⟨g, i + 1, none⟩) = some ad ∧ Hid (∀ w0, Lo w w0 → ∀ (j : Nat) u, Xs[j]? = some u → w0.cell? (ad.add j) = some u) := by
    by_cases h : cap = i + 1
    · refine ⟨⟨g, 0, none⟩, if_pos h, Lib.hid fun w0 hl j u hj => ?_⟩
      have := (List.getElem?_eq_some_iff.1 hj).1
      omega
    · exact ⟨⟨g, i + 1, none⟩, if_neg h, hsrc⟩
  go_region_law (refine step_append_roomM rfl (.tmp 22) (.tmp 25) 76 28 i0 rfl Try.underlying76 hi hz1 g i cap ad (n - (i + 1)) (cap - (i + 1)) (by simp [Act.eval, Act.put]) (by simp [Act.eval, Act.put, had]) cur fz HG.out HF.out Xs hlen (hadc.out _ (Lo.refl w).drew) (by omega) (by omega) (show i + (n - (i + 1)) = n - 1 by omega) hone ?_; intro w1 HG1 hgr1)
  have hgr1 : w.grownBy w1 (some g) := grown_trans (grown_of_lo (Lo.refl w).drew) hgr1
  have q0 : ((n - 1 : Nat) : Int) ≤ (n : Int) := by omega
  have q1 : (0 : Int) ≤ ((n - 1 : Nat) : Int) := by omega
  have q2 : ¬ (cap = n - 1) := by omega
  have q3 : n - (n - 1) = 1 := by omega
  have HF1 : Hid (FzOk fz (splice cur i Xs).length) := Lib.hid (by rw [hsl]; exact HF.out)
  have hfit : n - 1 + 1 ≤ (splice cur i Xs).length := by omega
  have hzf : n - 1 + 1 * (Value.slice none 0 0).cells.size ≤ (splice cur i Xs).length := by simpa [Value.cells] using hfit
  have hz1' : ∀ u ∈ (Value.slice none 0 0).cells.toList, u.oneCell' = true := by simp [Value.cells, Value.oneCell']
  have hz0' : 0 < (Value.slice none 0 0).cells.size := by simp [Value.cells]
  have h01 : 0 < 1 := by omega
  go_wp2_with ((refine wpList_clear_rowM rfl (.tmp 31) 76 rfl 28 i0 (.slice none 0 0) Try.underlying76 hi hz0 g (n - 1) 1 (cap - (n - 1)) rfl h01 _ 28 HG1.out HF1.out hzf hz1' hz0' ?_); intro w2 cur2 HG2 hgr2)
  go_ret
  exact ⟨rfl, grown_trans hgr1 hgr2, cur2, HG2.out.1, HG2.out.2.1.trans hsl, by rw [HG2.out.2.2]; exact HSP.out⟩
end Go.Proofs.Ytgbcmjcaggnobaa.Sim

/- slices.Insert of one element ahead of a row, whose elements are one cell each, where there is room. -/
namespace Go.Proofs.Ytgbcmjcaggnobaa.Sim
set_option linter.unusedVariables false
set_option linter.unusedSimpArgs false
open Go.RowKit Mem BigFrame
theorem run_copy_row_szM {P : Program} (w : World) (dT sT ty elem : TypeId) (g o dLen dCap : Nat) (a : Addr) (sLen sCap : Nat) (cur : Array Value) (t : TypeId) (fz : Nat × Nat) (cs : List Value)
    (hu : P.underlying dT = some (.slice elem)) (hs : (P.info? elem).map (·.size) = some 1)
    (hg : w.heap[g]? = some (.cells cur t fz)) (hfz : FzOk fz cur.size) (hn : cs.length = Nat.min sLen dLen)
    (hsrc : ∀ (j : Nat) v, cs[j]? = some v → w.cell? (a.add j) = some v) (hfit : o + cs.length ≤ cur.size) (h1 : ∀ v ∈ cs, v.oneCell' = true) :
    (Builtin.copy_ #[dT, sT] ty #[.slice (some ⟨g, o, none⟩) dLen dCap, .slice (some a) sLen sCap]).run P w =
      .ok (goInt (Nat.min sLen dLen)) (w.setRow g (cur.toList.take o ++ cs ++ cur.toList.drop (o + cs.length)).toArray) := by
  have hl := run_loadCells_list (P := P) w a cs hsrc
  have hst := run_storeCells_atM P g o t fz cs 0 cur w hg hfz (by simpa using hfit) h1
  cases hq : P.info? elem with
  | none => simp [hq] at hs
  | some i =>
    have hi : i.size = 1 := by simpa [hq] using hs
    simp [Builtin.copy_, run_underlying hu, Builtin.lenOf, Builtin.firstCells, sizeOf, typeInfo, hq, hi, ← hn, hl, hst]
section
variable {P : Program} {w : World} {ops : Array Oper} {rest : List Oper} {o : Oper} {a : Act} {Q : Exit → Act → World → Prop} {K : Act → World → Prop} {E : Prop}
theorem wpList_copy_rowM (hgd : o.guard = none) (d s : Operand) (dT sT : TypeId)
    (ho : o.op = .call { callee := .builtin .copy, args := #[d, s], argTypes := #[dT, sT] }) (elem : TypeId) (hu : P.underlying dT = some (.slice elem)) (hsz : (P.info? elem).map (·.size) = some 1)
    (g off dLen dCap : Nat) (ad : Addr) (sLen sCap : Nat) (hd : a.eval d = .slice (some ⟨g, off, none⟩) dLen dCap) (hs : a.eval s = .slice (some ad) sLen sCap)
    (cur : List Value) (t : TypeId) {fz : Nat × Nat} (hg : w.heap[g]? = some (.cells cur.toArray t fz)) (hfz : FzOk fz cur.length) (cs : List Value) (hn : cs.length = Nat.min sLen dLen)
    (hsrc : ∀ (j : Nat) v, cs[j]? = some v → w.cell? (ad.add j) = some v) (hfit : off + cs.length ≤ cur.length) (h1 : ∀ v ∈ cs, v.oneCell' = true)
    (h : ∀ w', Hid (w'.heap[g]? = some (.cells (splice cur off cs).toArray t fz)) → w.grownBy w' (some g) → wpList P ops Q rest (a.put o.dst (goInt (Nat.min sLen dLen))) w') : wpList P ops Q (o :: rest) a w := by
  refine wpList_plain hgd fun K hK => ?_
  have hrun := run_copy_row_szM (P := P) w dT sT o.type elem g off dLen dCap ad sLen sCap cur.toArray t fz cs hu hsz hg (by simpa using hfz) hn hsrc (by simpa using hfit) h1
  unfold Oper.wp execOp
  simp only [ho, resolve, invoke, builtin, Sem.run_bind, Sem.run_pure, Result.andThen_ok, List.map_toArray, List.map_cons, List.map_nil, hd, hs, hrun]
  refine hK _ _ (h _ (Lib.hid ?_) (grown_setRow w g _))
  rw [setRow_heap w g _ _ t _ hg]
  simp [splice]
theorem step_copy_rowM (hgd : o.guard = none) (d s : Operand) (dT sT : TypeId)
    (ho : o.op = .call { callee := .builtin .copy, args := #[d, s], argTypes := #[dT, sT] }) (elem : TypeId) (hu : P.underlying dT = some (.slice elem)) (hsz : (P.info? elem).map (·.size) = some 1)
    (g off dLen dCap : Nat) (ad : Addr) (sLen sCap : Nat) (hd : a.eval d = .slice (some ⟨g, off, none⟩) dLen dCap) (hs : a.eval s = .slice (some ad) sLen sCap)
    (cur : List Value) (t : TypeId) {fz : Nat × Nat} (hg : w.heap[g]? = some (.cells cur.toArray t fz)) (hfz : FzOk fz cur.length) (cs : List Value) (hn : cs.length = Nat.min sLen dLen)
    (hsrc : ∀ (j : Nat) v, cs[j]? = some v → w.cell? (ad.add j) = some v) (hfit : off + cs.length ≤ cur.length) (h1 : ∀ v ∈ cs, v.oneCell' = true)
    (h : ∀ w', Hid (w'.heap[g]? = some (.cells (splice cur off cs).toArray t fz)) → w.grownBy w' (some g) → K (a.put o.dst (goInt (Nat.min sLen dLen))) w') :
    if Region.wanted o (yielded ops a.tmps) = true then Oper.wp P o a w K Q else E := by
  have hw : Region.wanted o (yielded ops a.tmps) = true := by simp [Region.wanted, hgd]
  rw [if_pos hw]
  have hrun := run_copy_row_szM (P := P) w dT sT o.type elem g off dLen dCap ad sLen sCap cur.toArray t fz cs hu hsz hg (by simpa using hfz) hn hsrc (by simpa using hfit) h1
  unfold Oper.wp execOp
  simp only [ho, resolve, invoke, builtin, Sem.run_bind, Sem.run_pure, Result.andThen_ok, List.map_toArray, List.map_cons, List.map_nil, hd, hs, hrun]
  refine h _ (Lib.hid ?_) (grown_setRow w g _)
  rw [setRow_heap w g _ _ t _ hg]
  simp [splice]
theorem wpList_append_roomM (hgd : o.guard = none) (d s : Operand) (t e : TypeId) (i : TypeInfo)
    (ho : o.op = .call { callee := .builtin .append, args := #[d, s], argTypes := #[t, t] }) (hu : P.underlying t = some (.slice e)) (hi : P.info? e = some i) (hsz : i.size = 1)
    (g sLen sCap : Nat) (ad : Addr) (m c : Nat) (hd : a.eval d = .slice (some ⟨g, 0, none⟩) sLen sCap) (hs : a.eval s = .slice (some ad) m c)
    (cur : List Value) (fz : Nat × Nat) (hg : w.heap[g]? = some (.cells cur.toArray e fz)) (hfz : FzOk fz cur.length) (cs : List Value) (hn : cs.length = m)
    (hsrc : ∀ (j : Nat) v, cs[j]? = some v → w.cell? (ad.add j) = some v) (hroom : sLen + m ≤ sCap) (hfit : sLen + cs.length ≤ cur.length) {nn : Nat} (hnn : sLen + m = nn) (h1 : ∀ v ∈ cs, v.oneCell' = true)
    (h : ∀ w', Hid (w'.heap[g]? = some (.cells (splice cur sLen cs).toArray e fz)) → w.grownBy w' (some g) → wpList P ops Q rest (a.put o.dst (.slice (some ⟨g, 0, none⟩) nn sCap)) w') : wpList P ops Q (o :: rest) a w := by
  subst hnn
  refine wpList_plain hgd fun K hK => ?_
  have hrun := run_append_roomM (P := P) w t o.type e i hu hi g sLen sCap cur.toArray fz hg (by simpa using hfz) ad m c cs (by rw [hsz, Nat.mul_one]; exact hn) hsrc h1 hroom (by rw [hsz, Nat.mul_one]; simpa using hfit)
  rw [hsz, Nat.mul_one] at hrun
  unfold Oper.wp execOp
  simp only [ho, resolve, invoke, builtin, Sem.run_bind, Sem.run_pure, Result.andThen_ok, List.map_toArray, List.map_cons, List.map_nil, hd, hs, hrun]
  refine hK _ _ (h _ (Lib.hid ?_) (grown_setRow w g _))
  rw [setRow_heap w g _ _ e fz hg]
  simp [splice]
end
theorem run_overlaps_noM {P : Program} {f : FuncId} {fn : Func} {tS tR e : TypeId} {size : Nat} (hf : P.funcs[f]? = some fn) (hname : (fn.name == "runtime.NumGoroutine") = false) (hb : fn.body.isNone = true) (hn : Extern.findNext fn = none) (he : Extern.find fn = some (Extern.SlicesOverlaps.overlaps #[tS, tS] #[tR]))
    (ht : P.underlying tS = some (.slice e)) (hz : ∀ w, (Go.sizeOf e).run P w = .ok size w) (w : World) (a b : Nat) (hne : a ≠ b) (ca cb : Array Value) (ta tb : TypeId) (fz : Nat × Nat) (ha : w.heap[a]? = some (.cells ca ta (0, 0))) (hB : w.heap[b]? = some (.cells cb tb fz)) (h0 : 0 < cb.size) (oa ob la ka lb kb : Nat) :
    (callFunc f #[.slice (some ⟨a, oa, none⟩) la ka, .slice (some ⟨b, ob, none⟩) lb kb]).run P w = .ok (.value (.bool false)) w := by
  rw [run_callFunc_extern hf hname hb hn he, Lib.run_overlaps_apart w tS tR e ht size hz ⟨a, oa, none⟩ ⟨b, ob, none⟩ la ka lb kb hne ta tb ca.size cb.size (by simp [World.shape?, ha]) (by simp [World.shape?, hB]) (by omega) (by simp [World.frozen?, ha]) (by simp [World.frozen?, ha])]
  rfl
theorem overlapsB_ (w : World) (a b : Nat) (hne : a ≠ b) (ca cb : Array Value) (ta tb : TypeId) (fz : Nat × Nat) (ha : w.heap[a]? = some (.cells ca ta (0, 0))) (hB : w.heap[b]? = some (.cells cb tb fz)) (h0 : 0 < cb.size) (oa ob la ka lb kb : Nat) :
    (callFunc 54 #[.slice (some ⟨a, oa, none⟩) la ka, .slice (some ⟨b, ob, none⟩) lb kb]).run Try.prog w = .ok (.value (.bool false)) w :=
  run_overlaps_noM (tS := 76) (tR := 4) (e := 28) (size := 1) Try.func54 (by kernel_rfl) (by kernel_rfl) (by kernel_rfl) (by kernel_rfl) Try.underlying76 (fun _ => by kernel_rfl) w a b hne ca cb ta tb fz ha hB h0 oa ob la ka lb kb
theorem splice0_take {L : List Value} {n : Nat} {x : Value} (hn : n + 1 ≤ L.length) : (splice (splice L 1 (L.take n)) 0 [x]).take (n + 1) = x :: L.take n := by
  have hl : (L.take n).length = n := by rw [List.length_take]; omega
  have h1 : splice L 1 (L.take n) = L.take 1 ++ (L.take n ++ L.drop (1 + n)) := by unfold splice; rw [hl]
  have h2 : (L.take 1).length = 1 := by rw [List.length_take]; omega
  have h3 : splice (splice L 1 (L.take n)) 0 [x] = x :: (L.take n ++ L.drop (1 + n)) := by
    rw [h1]; unfold splice
    rw [List.take_zero, List.nil_append, show (0 + [x].length) = (L.take 1).length by rw [h2]; rfl, List.drop_left]; rfl
  rw [h3, List.take_succ_cons]
  congr 1
  exact List.take_left' hl
theorem splice00_take {L : List Value} {x : Value} : (splice L 0 [x]).take 1 = [x] := by
  unfold splice; rfl
set_option maxRecDepth 100000 in
set_option maxHeartbeats 3200000 in
/-- ahead of none -/
theorem insert0_none (g cap : Nat) (cur : List Value) (fz : Nat × Nat) (w : World) (x : Value) (hg : w.heap[g]? = some (.cells cur.toArray 28 fz)) (hfz : FzOk fz cur.length) (hroom : 1 ≤ cap) (hcm : cap ≤ maxLen) (hcs : cap ≤ cur.length) (hx : x.oneCell' = true)
    (vb : Nat) (hne : vb ≠ g) (hvb : w.heap[vb]? = some (.cells #[x] 28 (0, 0))) :
    Calls Try.prog 47 #[.slice (some ⟨g, 0, none⟩) 0 cap, .int .i64 0, .slice (some ⟨vb, 0, none⟩) 1 1] w fun e w' => e = .returned (.slice (some ⟨g, 0, none⟩) 1 cap) ∧ w.grownBy w' (some g) ∧ ∃ cur' : List Value, w'.heap[g]? = some (.cells cur'.toArray 28 fz) ∧ cur'.length = cur.length ∧ cur'.take 1 = [x] := by
  obtain ⟨i0, hi, hz0, hz1, hz2⟩ := info_parts infoS
  have HG := Lib.hid hg
  have HF := Lib.hid hfz
  have hsrc : Hid (∀ (j : Nat) u, ([x] : List Value)[j]? = some u → w.cell? ((⟨vb, 0, none⟩ : Addr).add j) = some u) := Lib.hid (cells_of_block (cs := [x]) hvb)
  have hone : ∀ u ∈ [x], u.oneCell' = true := by simpa using hx
  have hln : ([x] : List Value).length = 1 := rfl
  have hsl : (splice cur 0 [x]).length = cur.length := size_splice (by rw [hln]; omega)
  have HSP := Lib.hid (splice00_take (L := cur) (x := x))
  have hfit : 0 + [x].length ≤ cur.length := by rw [hln]; omega
  have hr1 : 0 + 1 ≤ cap := by omega
  clear hg hfz hvb
  generalize [x] = Xs at *
  have j1 : (0 : Int) ≤ (cap : Int) := by omega
  by_cases hc0 : cap = 0
  · omega
  go_enter Try.func47, Try.ntmps47
  go_wp2_with ((refine wpList_append_roomM rfl (.tmp 23) (.tmp 24) 76 28 i0 rfl Try.underlying76 hi hz1 g 0 cap ⟨vb, 0, none⟩ 1 1 rfl rfl cur fz HG.out HF.out Xs hln hsrc.out hr1 hfit (nn := 1) rfl hone ?_); intro w1 HG1 hgr1)
  go_ret
  exact ⟨rfl, hgr1, _, HG1.out, hsl, HSP.out⟩
set_option maxRecDepth 100000 in
set_option maxHeartbeats 3200000 in
/-- ahead of some -/
theorem insert0_some (g cap n : Nat) (hn : 0 < n) (cur : List Value) (fz : Nat × Nat) (w : World) (x : Value) (hg : w.heap[g]? = some (.cells cur.toArray 28 fz)) (hfz : FzOk fz cur.length) (hroom : n + 1 ≤ cap) (hcm : cap ≤ maxLen) (hcs : cap ≤ cur.length) (h1 : ∀ u ∈ cur.take n, u.oneCell' = true) (hx : x.oneCell' = true)
    (vb : Nat) (hne : vb ≠ g) (hvb : w.heap[vb]? = some (.cells #[x] 28 (0, 0))) :
    Calls Try.prog 47 #[.slice (some ⟨g, 0, none⟩) n cap, .int .i64 0, .slice (some ⟨vb, 0, none⟩) 1 1] w fun e w' => e = .returned (.slice (some ⟨g, 0, none⟩) (n + 1) cap) ∧ w.grownBy w' (some g) ∧ ∃ cur' : List Value, w'.heap[g]? = some (.cells cur'.toArray 28 fz) ∧ cur'.length = cur.length ∧ cur'.take (n + 1) = x :: cur.take n := by
  have hov : Hid (∀ (w0 : World), Lo w w0 → ∀ oa ob la ka lb kb, (callFunc 54 #[.slice (some ⟨vb, oa, none⟩) la ka, .slice (some ⟨g, ob, none⟩) lb kb]).run Try.prog w0 = .ok (.value (.bool false)) w0) := Lib.hid fun w0 hl => overlapsB_ w0 vb g hne _ _ _ _ fz (cells_lo hvb hl) (cells_lo hg hl) (by simp; omega)
  have hsrc : Hid (∀ w0, Lo w w0 → ∀ (j : Nat) u, (cur.take n)[j]? = some u → w0.cell? ((⟨g, 0, none⟩ : Addr).add j) = some u) := Lib.hid fun w0 hl j u hj => by
    rw [addr_add, Nat.zero_add]
    refine lo_keep hl ?_
    have hjn : j < n := by have := (List.getElem?_eq_some_iff.1 hj).1; simp at this; omega
    rw [List.getElem?_take_of_lt hjn] at hj
    obtain ⟨hx, hy⟩ := List.getElem?_eq_some_iff.1 hj
    simp [World.cell?, hg, hx, hy]
  have hBl : (cur.take n).length = n := by rw [List.length_take]; omega
  have hone : ∀ u ∈ [x], u.oneCell' = true := by simpa using hx
  have hX : ([x] : List Value).length = 1 := rfl
  have hsl1 : (splice cur 1 (cur.take n)).length = cur.length := size_splice (by rw [hBl]; omega)
  have hsl : (splice (splice cur 1 (cur.take n)) 0 [x]).length = cur.length := by rw [size_splice (by rw [hX, hsl1]; omega), hsl1]
  have HSP := Lib.hid (splice0_take (L := cur) (n := n) (x := x) (by omega))
  have hfit1 : 1 + (cur.take n).length ≤ cur.length := by rw [hBl]; omega
  have hfit2 : 0 + [x].length ≤ (splice cur 1 (cur.take n)).length := by rw [hsl1, hX]; omega
  have hmin1 : (cur.take n).length = Nat.min (n + 1) (n + 1 - 1) := by rw [hBl]; simp only [Nat.min_def]; split <;> omega
  have hmin2 : ([x] : List Value).length = Nat.min 1 (n + 1) := by rw [hX]; simp only [Nat.min_def]; split <;> omega
  have hsz : (Try.prog.info? 28).map (·.size) = some 1 := by kernel_rfl
  have hbg : g < w.heap.size := block_lt hg
  have hbv : vb < w.heap.size := block_lt hvb
  have HG := Lib.hid hg
  have HF := Lib.hid hfz
  have HF1 : Hid (FzOk fz (splice cur 1 (cur.take n)).length) := Lib.hid (by rw [hsl1]; exact hfz)
  have HVB : Hid (w.heap[vb]? = some (.cells ([x] : List Value).toArray 28 (0, 0))) := Lib.hid hvb
  clear hg hfz hvb hBl
  generalize cur.take n = Bs at *
  generalize [x] = Xs at *
  unfold maxLen at hcm
  have j1 : (0 : Int) < (n : Int) := by omega
  have j2 : (n : Int) + 1 ≤ (cap : Int) := by omega
  have j3 : ¬ ((0 : Int) = (n : Int)) := by omega
  have j4 : ¬ (cap = 0) := by omega
  have j5 : ¬ (cap = 1) := by omega
  have j6 : (0 : Int) ≤ (n : Int) + 1 := by omega
  have j7 : (1 : Int) ≤ (n : Int) + 1 := by omega
  go_enter Try.func47, Try.ntmps47
  go_wp2_with (simp only [hov.out w (Lo.refl _)])
  have q1 : IntKind.i64.wrap 1 = 1 := rfl
  have q2 : (0 : Int) ≤ 1 := by omega
  have q3 : (1 : Int).toNat = 1 := rfl
  go_region_law (refine step_copy_rowM rfl (.tmp 73) (.tmp 76) 76 76 rfl 28 Try.underlying76 hsz g 1 (n + 1 - 1) (cap - 1) ⟨g, 0, none⟩ (n + 1) cap (by simp [Act.eval, Act.put]) (by simp [Act.eval, Act.put]) cur 28 HG.out HF.out Bs hmin1 (hsrc.out _ (Lo.refl w).drew) hfit1 h1 ?_; intro w1 HG1 hgr1)
  clear q1 q2 q3
  have hgr1 : w.grownBy w1 (some g) := grown_trans (grown_of_lo (Lo.refl w).drew) hgr1
  have HVB1 : Hid (∀ (j : Nat) u, Xs[j]? = some u → w1.cell? ((⟨vb, 0, none⟩ : Addr).add j) = some u) := Lib.hid (cells_of_block (cells_grown HVB.out hgr1 (by simp; exact hne)))
  go_wp2_with ((refine wpList_copy_rowM rfl (.tmp 80) (.tmp 81) 76 76 rfl 28 Try.underlying76 hsz g 0 (n + 1) cap ⟨vb, 0, none⟩ 1 1 rfl rfl _ 28 HG1.out HF1.out Xs hmin2 HVB1.out hfit2 hone ?_); intro w2 HG2 hgr2)
  go_ret
  exact ⟨rfl, grown_trans hgr1 hgr2, _, HG2.out, hsl, HSP.out⟩
end Go.Proofs.Ytgbcmjcaggnobaa.Sim

/- What Deliver and Front do to a link's row, in its own block. -/
namespace Go.Proofs.Ytgbcmjcaggnobaa.Sim
set_option linter.unusedVariables false
set_option linter.unusedSimpArgs false
open Go.RowKit Mem BigFrame
theorem wrap1 {i : Nat} (h : i + 1 ≤ maxLen) : IntKind.i64.wrap ((i : Int) + 1) = (i : Int) + 1 := by
  unfold maxLen at h
  rw [IntKind.wrap_i64]; omega
set_option maxRecDepth 100000 in
theorem deliver1_ (g cap n i : Nat) (cur : List Value) (fz : Nat × Nat) (w : World) (hg : w.heap[g]? = some (.cells cur.toArray 28 fz)) (hfz : FzOk fz cur.length) (hin : i < n) (hnc : n ≤ cap) (hcm : cap ≤ maxLen) (hcs : cap ≤ cur.length) (h1 : ∀ u ∈ cur.take n, u.oneCell' = true)
    (pb : Nat) (hp : w.cell? ⟨pb, 0, none⟩ = some (.int .i64 i)) :
    Calls Try.prog 44 #[.slice (some ⟨g, 0, none⟩) n cap, .pointer (some ⟨pb, 0, none⟩)] w fun e w' => e = .returned (.slice (some ⟨g, 0, none⟩) (n - 1) cap) ∧ w.grownBy w' (some g) ∧ ∃ cur' : List Value, w'.heap[g]? = some (.cells cur'.toArray 28 fz) ∧ cur'.length = cur.length ∧ cur'.take (n - 1) = (cur.take n).eraseIdx i := by
  have HD := Lib.hid (delete_ g cap n i cur fz w hg hfz hin hnc hcm hcs h1)
  have q := wrap1 (i := i) (by omega)
  clear hg hfz h1
  go_enter Try.func44, Try.ntmps44
  go_wp2_with fail
  refine (HD.out).mono ?_
  rintro e w1 ⟨rfl, h2, h3⟩
  go_wp2
  go_ret
  exact ⟨rfl, h2, h3⟩
set_option maxRecDepth 100000 in
theorem front1_ (g cap n i : Nat) (cur : List Value) (fz : Nat × Nat) (w : World) (xa : Option Addr) (xl xc : Nat) (hg : w.heap[g]? = some (.cells cur.toArray 28 fz)) (hfz : FzOk fz cur.length) (hin : i < n) (hnc : n ≤ cap) (hcm : cap ≤ maxLen) (hcs : cap ≤ cur.length) (h1 : ∀ u ∈ cur.take n, u.oneCell' = true) (hx : cur[i]? = some (.slice xa xl xc))
    (pb : Nat) (hp : w.cell? ⟨pb, 0, none⟩ = some (.int .i64 i)) :
    Calls Try.prog 46 #[.slice (some ⟨g, 0, none⟩) n cap, .pointer (some ⟨pb, 0, none⟩)] w fun e w' => e = .returned (.slice (some ⟨g, 0, none⟩) n cap) ∧ w.grownBy w' (some g) ∧ ∃ cur' : List Value, w'.heap[g]? = some (.cells cur'.toArray 28 fz) ∧ cur'.length = cur.length ∧ cur'.take n = .slice xa xl xc :: (cur.take n).eraseIdx i := by
  obtain ⟨x, hxx⟩ : ∃ x, x = Value.slice xa xl xc := ⟨_, rfl⟩
  rw [← hxx] at hx ⊢
  have HD := Lib.hid (delete_ g cap n i cur fz w hg hfz hin hnc hcm hcs h1)
  have q := wrap1 (i := i) (by omega)
  have hil : i < cur.length := by omega
  have hxc : w.cell? ⟨g, i, none⟩ = some x := by
    obtain ⟨h2, h3⟩ := List.getElem?_eq_some_iff.1 hx
    simp [World.cell?, hg, hil, h3]
  have hx1 : x.oneCell' = true := h1 x (by
    have : (cur.take n)[i]? = some x := by rw [List.getElem?_take_of_lt hin]; exact hx
    exact List.mem_of_getElem? this)
  have hbg := block_lt hg
  have j0 : (0 : Int) ≤ (i : Int) := by omega
  have j1 : (i : Int) < (n : Int) := by omega
  have HI : Hid (∀ (w0 : World) (cur0 : List Value) (vb : Nat), w0.heap[g]? = some (.cells cur0.toArray 28 fz) → cur0.length = cur.length → cur0.take (n - 1) = (cur.take n).eraseIdx i → vb ≠ g → w0.heap[vb]? = some (.cells #[x] 28 (0, 0)) →
      Calls Try.prog 47 #[.slice (some ⟨g, 0, none⟩) (n - 1) cap, .int .i64 0, .slice (some ⟨vb, 0, none⟩) 1 1] w0 fun e w' => e = .returned (.slice (some ⟨g, 0, none⟩) n cap) ∧ w0.grownBy w' (some g) ∧ ∃ cur' : List Value, w'.heap[g]? = some (.cells cur'.toArray 28 fz) ∧ cur'.length = cur.length ∧ cur'.take n = x :: (cur.take n).eraseIdx i) := Lib.hid fun w0 cur0 vb e1 e2 e3 e4 e5 => by
    have hone : ∀ u ∈ cur0.take (n - 1), u.oneCell' = true := by
      rw [e3]; exact fun u hu => h1 u (List.mem_of_mem_eraseIdx hu)
    rcases Nat.eq_or_lt_of_le (show 1 ≤ n by omega) with hn | hn
    · subst hn
      refine (insert0_none g cap cur0 fz w0 x e1 (by rw [e2]; exact hfz) (by omega) hcm (by omega) hx1 vb e4 e5).mono ?_
      rintro e w' ⟨h2, h3, c, h4, h5, h6⟩
      refine ⟨h2, h3, c, h4, h5.trans e2, ?_⟩
      rw [h6]; congr 1
    · refine (insert0_some g cap (n - 1) (by omega) cur0 fz w0 x e1 (by rw [e2]; exact hfz) (by omega) hcm (by omega) hone hx1 vb e4 e5).mono ?_
      rintro e w' ⟨h2, h3, c, h4, h5, h6⟩
      rw [show n - 1 + 1 = n by omega] at h2 h6
      exact ⟨h2, h3, c, h4, h5.trans e2, by rw [h6, e3]⟩
  subst hxx
  clear hg hfz h1 hx
  go_enter Try.func46, Try.ntmps46
  go_wp2_with fail
  refine (HD.out).mono ?_
  rintro e w1 ⟨rfl, h2, c1, h3, h4, h5⟩
  go_wp2_with fail
  have hs1 := h2.size
  refine (HI.out (w1.alloc (.cells #[.slice xa xl xc] 28)) c1 w1.heap.size ?_ h4 h5 ?_ ?_).mono ?_
  · exact cells_lo h3 ((Lo.refl w1).alloc _)
  · omega
  · exact heap_alloc_new w1 _
  rintro e w2 ⟨rfl, h6, c2, h7, h8, h9⟩
  go_wp2
  go_ret
  exact ⟨rfl, grown_trans (grown_trans h2 (grown_of_lo ((Lo.refl w1).alloc _))) h6, c2, h7, h8, h9⟩
end Go.Proofs.Ytgbcmjcaggnobaa.Sim
