/- Words for memory: a slice that reads as a list. -/
import Derived.Test.YtcpbdcamfhoiaaaDoorRows
import Derived.WalkKit
import Derived.WalkSpells
import Derived.WalkLawsBesides
import Derived.Deep.QuietTactic
import Derived.BigQuiet
import Derived.Deep.RegionHeld3
import Derived.Deep.DeepMust
import Derived.Lib.Hide
import Derived.Laws.EntriesVeiled
import Derived.Laws.ResultCell
import Derived.Deep.LoopGhost
import Derived.Deep.DeepFit
import Derived.Deep.DeepCutAuto
namespace Go.Proofs.YtcpbdcamfhoiaaaDoor.Mem
set_option linter.unusedVariables false
set_option linter.unusedSimpArgs false
open Go.RowKit

/-- R B w x cs: in w, below block B, the cells cs read as x. -/
abbrev Rel (α : Type) := Nat → World → α → List Value → Prop

/-- A slice of xs at address A (elements of sz cells each, each reading by R, all below block B). -/
def SliceAt {α : Type} (R : Rel α) (sz : Nat) (B : Nat) (w : World) (A : Option Addr) (xs : List α) : Prop :=
  ∀ k x, xs[k]? = some x → ∃ b off cs, A = some ⟨b, off, none⟩ ∧ b < B ∧ cs.length = sz ∧ (∀ j v, cs[j]? = some v → w.cell? ⟨b, off + (k * sz + j), none⟩ = some v) ∧ R B w x cs

/-- R is kept where nothing below B has turned. -/
def Kept {α : Type} (R : Rel α) : Prop := ∀ (B B' : Nat) (w w' : World) (x : α) (cs : List Value), R B w x cs → (∀ p : Addr, p.block < B → w'.cell? p = w.cell? p) → B ≤ B' → R B' w' x cs

theorem SliceAt.keep {α : Type} {R : Rel α} (hR : Kept R) {sz B B' : Nat} {w w' : World} {A : Option Addr} {xs : List α} (h : SliceAt R sz B w A xs) (hk : ∀ p : Addr, p.block < B → w'.cell? p = w.cell? p) (hB : B ≤ B') : SliceAt R sz B' w' A xs := by
  intro k x hx
  obtain ⟨b, off, cs, hA, hb, hl, hc, hr⟩ := h k x hx
  exact ⟨b, off, cs, hA, by omega, hl, fun j v hj => (hk _ hb).trans (hc j v hj), hR _ _ _ _ _ _ hr hk hB⟩

theorem below_cells {B B' : Nat} {w w' : World} (h : Below B' w w') (hB : B ≤ B') : ∀ p : Addr, p.block < B → w'.cell? p = w.cell? p := fun _ hp => h.cell (Nat.lt_of_lt_of_le hp hB)

theorem SliceAt.below {α : Type} {R : Rel α} (hR : Kept R) {sz B B' : Nat} {w w' : World} {A : Option Addr} {xs : List α} (h : SliceAt R sz B w A xs) (hb : Below B' w w') (hB : B ≤ B') : SliceAt R sz B w' A xs :=
  h.keep hR (below_cells hb hB) (Nat.le_refl _)

theorem SliceAt.nil {α : Type} {R : Rel α} {sz B : Nat} {w : World} {A : Option Addr} : SliceAt R sz B w A ([] : List α) := by
  intro k x hx; simp at hx

/-- nothing that was there has turned -/
def Lo (w w' : World) : Prop := Below w.heap.size w w'
theorem Lo.refl (w : World) : Lo w w := Below.refl _ _
theorem Lo.size {w w' : World} (h : Lo w w') : w.heap.size ≤ w'.heap.size := Below.size h
theorem Lo.trans {a b c : World} (h : Lo a b) (k : Lo b c) : Lo a c := Below.trans h (Below.mono k h.size)
theorem Lo.drew {a b : World} (h : Lo a b) : Lo a b.drew := Below.drew h
theorem Lo.alloc {a b : World} (h : Lo a b) (o : Obj) : Lo a (b.alloc o) := Below.alloc h h.size o
theorem Lo.setCell {a b : World} (h : Lo a b) {p : Addr} (hp : a.heap.size ≤ p.block) (u : Value) : Lo a (b.setCell p u) := Below.setCell h hp u
theorem Lo.cell {w w' : World} (h : Lo w w') (p : Addr) (hp : p.block < w.heap.size) : w'.cell? p = w.cell? p := Below.cell h hp
theorem Lo.facts {W w1 : World} (hb : Lo W w1) : (∀ b o, b < W.heap.size → w1.cell? ⟨b, o, none⟩ = W.cell? ⟨b, o, none⟩) ∧ (∀ b o, b < W.heap.size → w1.frozen? ⟨b, o, none⟩ = W.frozen? ⟨b, o, none⟩) ∧ (∀ b, b < W.heap.size → b < w1.heap.size) :=
  ⟨fun b o h => Below.cell (p := ⟨b, o, none⟩) hb h, fun b o h => Below.frozen (p := ⟨b, o, none⟩) hb h, fun _ h => Nat.lt_of_lt_of_le h hb.size⟩
theorem Lo.below {w w' : World} (h : Lo w w') : Below w.heap.size w w' := h
theorem Lo.cells {B : Nat} {w w' : World} (h : Lo w w') (hB : B ≤ w.heap.size) : ∀ p : Addr, p.block < B → w'.cell? p = w.cell? p := fun _ hp => Below.cell h (Nat.lt_of_lt_of_le hp hB)
theorem SliceAt.lo {α : Type} {R : Rel α} (hR : Kept R) {sz B : Nat} {w w' : World} {A : Option Addr} {xs : List α} (h : SliceAt R sz B w A xs) (hb : Lo w w') (hB : B ≤ w.heap.size) : SliceAt R sz B w' A xs :=
  h.keep hR (hb.cells hB) (Nat.le_refl _)

/-- a world in which nothing of w0 has turned -/
structure Ext (w0 : World) where
  w : World
  lo : Lo w0 w
@[go_sem] theorem Ext.cell {w0 : World} (x : Ext w0) (b o : Nat) (h : b < w0.heap.size) : x.w.cell? ⟨b, o, none⟩ = w0.cell? ⟨b, o, none⟩ := x.lo.cell ⟨b, o, none⟩ h
@[go_sem] theorem Ext.const {w0 : World} {p : Prop} : (∀ _ : Ext w0, p) = p := propext ⟨fun h => h ⟨w0, Lo.refl _⟩, fun h _ => h⟩
theorem wp_region_ext {P : Program} {id : Nat} {Q : Exit → Act → World → Prop} {a : Act} {w : World} {l : List Oper} (hm : P.follows .mixedOrders = true) (hB : Region.lexB .any l.toArray = true)
    (h : wpQuiet P l.toArray (fun w' => ∃ x : Ext w, w' = x.w) (fun a' => ∀ w', Lo w w' → Q .normal a' w') l a) : (Code.region id l.toArray true).wp P Q a w :=
  wp_region_quiet (C := fun w' => ∃ x : Ext w, w' = x.w) hm hB ⟨⟨w.drew, (Lo.refl _).drew⟩, rfl⟩ (by
    have : (fun a' => ∀ w', Lo w w' → Q .normal a' w') = (fun a' => ∀ w', (∃ x : Ext w, w' = x.w) → Q .normal a' w') := by
      funext a'
      exact propext ⟨fun h w' ⟨x, e⟩ => h w' (e ▸ x.lo), fun h w' hl => h w' ⟨⟨w', hl⟩, rfl⟩⟩
    rw [this] at h
    simpa using h)
theorem quiet_ext {P : Program} {f : FuncId} {args : Array Value} {w0 : World} {x : Ext w0} {v : Value}
    (h : Calls P f args x.w fun e w' => e = .returned v ∧ Lo x.w w') : Calls P f args x.w fun e w'' => e = .returned v ∧ ∃ y : Ext w0, w'' = y.w :=
  h.mono fun _ w' ⟨he, hl⟩ => ⟨he, ⟨w', x.lo.trans hl⟩, rfl⟩
theorem quiet_ext_same {P : Program} {f : FuncId} {args : Array Value} {w0 : World} {x : Ext w0} {v : Value}
    (h : Calls P f args x.w fun e w' => e = .returned v ∧ x.w = w') : Calls P f args x.w fun e w'' => e = .returned v ∧ ∃ y : Ext w0, w'' = y.w :=
  h.mono fun _ w' ⟨he, hl⟩ => ⟨he, x, hl.symm⟩

/-- a text of these bytes -/
def bs (l : List UInt8) : ByteArray := ⟨l.toArray⟩
theorem bs_toList (l : List UInt8) : (bs l).toList = l := ByteArray.toList_mk l
theorem toList_bs (s : ByteArray) : bs s.toList = s := by
  rw [ByteArray.toList_eq]; rfl
theorem bs_inj {a b : ByteArray} (h : a.toList = b.toList) : a = b := by rw [← toList_bs a, h, toList_bs]
theorem bs_eq {a : ByteArray} {l : List UInt8} (h : a.toList = l) : a = bs l := by rw [← h, toList_bs]
theorem toList_append (a b : ByteArray) : (a ++ b).toList = a.toList ++ b.toList := by
  simp only [ByteArray.toList_eq]; simp [ByteArray.data_append]
theorem bs_size (l : List UInt8) : (bs l).size = l.length := by unfold bs; simp [ByteArray.size]

theorem ret_bool {a b : Bool} (h : a = b) : Ending.returned (.bool a) = .returned (.bool b) := by rw [h]
theorem ret_int {k : IntKind} {a b : Int} (h : a = b) : Ending.returned (.int k a) = .returned (.int k b) := by rw [h]
theorem ret_str {a b : ByteArray} (h : a = b) : Ending.returned (.string a) = .returned (.string b) := by rw [h]
theorem toList_get (s : ByteArray) (n : Nat) (h : n < s.size) : s.toList[n]? = some s[n] := by
  rw [ByteArray.toList_eq]
  have h' : n < s.data.toList.length := by simpa using h
  rw [List.getElem?_eq_getElem h']; rfl
theorem toList_len (s : ByteArray) : s.toList.length = s.size := by rw [ByteArray.toList_eq]; simp
theorem take_full (s : ByteArray) {n : Nat} (h : ¬ n < s.size) : s.toList.take n = s.toList := List.take_of_length_le (by rw [toList_len]; omega)
theorem all_snoc {s : ByteArray} {p : UInt8 → Bool} {n : Nat} (h : (s.toList.take n).all p = true) (hn : n < s.size) (hp : p s[n] = true) : (s.toList.take (n + 1)).all p = true := by
  have hl : n < s.toList.length := by rw [toList_len]; exact hn
  have hg := toList_get s n hn
  rw [List.getElem?_eq_getElem hl] at hg
  have hg' : s.toList[n] = s[n] := by injection hg
  rw [List.take_succ_eq_append_getElem hl, List.all_append, h]
  simp [hg', hp]
theorem all_bad {s : ByteArray} {p : UInt8 → Bool} {n : Nat} (hn : n < s.size) (hp : p s[n] = false) : s.toList.all p = false := by
  rw [List.all_eq_false]
  have hg := toList_get s n hn
  exact ⟨s[n], List.mem_of_getElem? hg, by simp [hp]⟩


theorem lo_keep {a b : World} {p : Addr} {v : Value} (h : Lo a b) (hv : a.cell? p = some v) : b.cell? p = some v := (h.cell p (World.block_lt_of_cell? a p hv)).trans hv
theorem flatMap_get {α : Type} {f : α → List Value} {sz : Nat} (hf : ∀ x, (f x).length = sz) : ∀ {xs : List α} {k : Nat} {x : α} {j : Nat}, xs[k]? = some x → j < sz → (xs.flatMap f)[k * sz + j]? = (f x)[j]?
  | [], k, x, j, h, _ => by simp at h
  | y :: ys, 0, x, j, h, hj => by
    simp at h; subst h
    simp only [List.flatMap_cons, Nat.zero_mul, Nat.zero_add]
    rw [List.getElem?_append_left (by rw [hf]; exact hj)]
  | y :: ys, k + 1, x, j, h, hj => by
    simp at h
    simp only [List.flatMap_cons]
    rw [List.getElem?_append_right (by rw [hf, Nat.succ_mul]; omega), hf]
    have : (k + 1) * sz + j - sz = k * sz + j := by rw [Nat.succ_mul]; omega
    rw [this]
    exact flatMap_get hf h hj
theorem heap_new_at {w : World} {o : Obj} {n : Nat} (h : n = w.heap.size) : (w.alloc o).heap[n]? = some o := by subst h; exact heap_alloc_new w o
theorem block_lt {w : World} {b : Nat} {o : Obj} (h : w.heap[b]? = some o) : b < w.heap.size := by
  rcases Nat.lt_or_ge b w.heap.size with h' | h'
  · exact h'
  · rw [Array.getElem?_eq_none h'] at h; cases h
/-- a block whose first cells are a row's -/
theorem SliceAt.of_block {α : Type} {R : Rel α} {f : α → List Value} {sz b : Nat} {w : World} {xs : List α} {cs : Array Value} {t : TypeId} {fr : Nat × Nat} (hf : ∀ x, (f x).length = sz)
    (h : w.heap[b]? = some (.cells cs t fr)) (hcs : ∀ (i : Nat) v, (xs.flatMap f)[i]? = some v → cs[i]? = some v) (hR : ∀ x ∈ xs, R w.heap.size w x (f x)) : SliceAt R sz w.heap.size w (some ⟨b, 0, none⟩) xs := by
  intro k x hx
  refine ⟨b, 0, f x, rfl, block_lt h, hf x, ?_, hR x (List.mem_of_getElem? hx)⟩
  intro j v hj
  have hjs : j < sz := by rw [← hf x]; exact (List.getElem?_eq_some_iff.1 hj).1
  have := hcs (k * sz + j) v (by rw [flatMap_get hf hx hjs]; exact hj)
  simp [World.cell?, h, this]

end Go.Proofs.YtcpbdcamfhoiaaaDoor.Mem
