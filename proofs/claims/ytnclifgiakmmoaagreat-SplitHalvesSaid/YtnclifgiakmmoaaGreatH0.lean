/- Merged by bundles.py: Mem, Mem2, Region, Region2. -/
import Derived.Test.YtnclifgiakmmoaaGreatRows
import Derived.WalkKit
import Derived.WalkSpells
import Derived.WalkLawsBesides
import Derived.Deep.QuietTactic
import Derived.BigQuiet
import Derived.Deep.RegionHeld3
import Derived.Deep.DeepMust
import Derived.Lib.Hide
import Derived.Laws.EntriesVeiled
import Derived.Laws.ResultCell
import Derived.Deep.LoopGhost
import Derived.Deep.DeepFit
import Derived.Deep.DeepCutAuto
import Derived.Orders
import Derived.Deep.RegionLawGrows
/- Words for memory: a slice that reads as a list. -/
namespace Go.Proofs.YtnclifgiakmmoaaGreat.Mem
set_option linter.unusedVariables false
set_option linter.unusedSimpArgs false
open Go.RowKit

/-- R B w x cs: in w, below block B, the cells cs read as x. -/
abbrev Rel (α : Type) := Nat → World → α → List Value → Prop

/-- A slice of xs at address A (elements of sz cells each, each reading by R, all below block B). -/
def SliceAt {α : Type} (R : Rel α) (sz : Nat) (B : Nat) (w : World) (A : Option Addr) (xs : List α) : Prop :=
  ∀ k x, xs[k]? = some x → ∃ b off cs, A = some ⟨b, off, none⟩ ∧ b < B ∧ cs.length = sz ∧ (∀ j v, cs[j]? = some v → w.cell? ⟨b, off + (k * sz + j), none⟩ = some v) ∧ R B w x cs

/-- R is kept where nothing below B has turned. -/
def Kept {α : Type} (R : Rel α) : Prop := ∀ (B B' : Nat) (w w' : World) (x : α) (cs : List Value), R B w x cs → (∀ p : Addr, p.block < B → w'.cell? p = w.cell? p) → B ≤ B' → R B' w' x cs

theorem SliceAt.keep {α : Type} {R : Rel α} (hR : Kept R) {sz B B' : Nat} {w w' : World} {A : Option Addr} {xs : List α} (h : SliceAt R sz B w A xs) (hk : ∀ p : Addr, p.block < B → w'.cell? p = w.cell? p) (hB : B ≤ B') : SliceAt R sz B' w' A xs := by
  intro k x hx
  obtain ⟨b, off, cs, hA, hb, hl, hc, hr⟩ := h k x hx
  exact ⟨b, off, cs, hA, by omega, hl, fun j v hj => (hk _ hb).trans (hc j v hj), hR _ _ _ _ _ _ hr hk hB⟩

theorem SliceAt.nil {α : Type} {R : Rel α} {sz B : Nat} {w : World} {A : Option Addr} : SliceAt R sz B w A ([] : List α) := by
  intro k x hx; simp at hx

/-- nothing that was there has turned -/
def Lo (w w' : World) : Prop := Below w.heap.size w w'
theorem Lo.refl (w : World) : Lo w w := Below.refl _ _
theorem Lo.size {w w' : World} (h : Lo w w') : w.heap.size ≤ w'.heap.size := Below.size h
theorem Lo.trans {a b c : World} (h : Lo a b) (k : Lo b c) : Lo a c := Below.trans h (Below.mono k h.size)
theorem Lo.drew {a b : World} (h : Lo a b) : Lo a b.drew := Below.drew h
theorem Lo.alloc {a b : World} (h : Lo a b) (o : Obj) : Lo a (b.alloc o) := Below.alloc h h.size o
theorem Lo.setCell {a b : World} (h : Lo a b) {p : Addr} (hp : a.heap.size ≤ p.block) (u : Value) : Lo a (b.setCell p u) := Below.setCell h hp u
theorem Lo.cell {w w' : World} (h : Lo w w') (p : Addr) (hp : p.block < w.heap.size) : w'.cell? p = w.cell? p := Below.cell h hp
theorem Lo.facts {W w1 : World} (hb : Lo W w1) : (∀ b o, b < W.heap.size → w1.cell? ⟨b, o, none⟩ = W.cell? ⟨b, o, none⟩) ∧ (∀ b o, b < W.heap.size → w1.frozen? ⟨b, o, none⟩ = W.frozen? ⟨b, o, none⟩) ∧ (∀ b, b < W.heap.size → b < w1.heap.size) :=
  ⟨fun b o h => Below.cell (p := ⟨b, o, none⟩) hb h, fun b o h => Below.frozen (p := ⟨b, o, none⟩) hb h, fun _ h => Nat.lt_of_lt_of_le h hb.size⟩
theorem Lo.cells {B : Nat} {w w' : World} (h : Lo w w') (hB : B ≤ w.heap.size) : ∀ p : Addr, p.block < B → w'.cell? p = w.cell? p := fun _ hp => Below.cell h (Nat.lt_of_lt_of_le hp hB)
theorem SliceAt.lo {α : Type} {R : Rel α} (hR : Kept R) {sz B : Nat} {w w' : World} {A : Option Addr} {xs : List α} (h : SliceAt R sz B w A xs) (hb : Lo w w') (hB : B ≤ w.heap.size) : SliceAt R sz B w' A xs :=
  h.keep hR (hb.cells hB) (Nat.le_refl _)

/-- a world in which nothing of w0 has turned -/
structure Ext (w0 : World) where
  w : World
  lo : Lo w0 w
@[go_sem] theorem Ext.cell {w0 : World} (x : Ext w0) (b o : Nat) (h : b < w0.heap.size) : x.w.cell? ⟨b, o, none⟩ = w0.cell? ⟨b, o, none⟩ := x.lo.cell ⟨b, o, none⟩ h
@[go_sem] theorem Ext.const {w0 : World} {p : Prop} : (∀ _ : Ext w0, p) = p := propext ⟨fun h => h ⟨w0, Lo.refl _⟩, fun h _ => h⟩
theorem wp_region_ext {P : Program} {id : Nat} {Q : Exit → Act → World → Prop} {a : Act} {w : World} {l : List Oper} (hm : P.follows .mixedOrders = true) (hB : Region.lexB .any l.toArray = true)
    (h : wpQuiet P l.toArray (fun w' => ∃ x : Ext w, w' = x.w) (fun a' => ∀ w', Lo w w' → Q .normal a' w') l a) : (Code.region id l.toArray true).wp P Q a w :=
  wp_region_quiet (C := fun w' => ∃ x : Ext w, w' = x.w) hm hB ⟨⟨w.drew, (Lo.refl _).drew⟩, rfl⟩ (by
    have : (fun a' => ∀ w', Lo w w' → Q .normal a' w') = (fun a' => ∀ w', (∃ x : Ext w, w' = x.w) → Q .normal a' w') := by
      funext a'
      exact propext ⟨fun h w' ⟨x, e⟩ => h w' (e ▸ x.lo), fun h w' hl => h w' ⟨⟨w', hl⟩, rfl⟩⟩
    rw [this] at h
    simpa using h)
theorem quiet_ext {P : Program} {f : FuncId} {args : Array Value} {w0 : World} {x : Ext w0} {v : Value}
    (h : Calls P f args x.w fun e w' => e = .returned v ∧ Lo x.w w') : Calls P f args x.w fun e w'' => e = .returned v ∧ ∃ y : Ext w0, w'' = y.w :=
  h.mono fun _ w' ⟨he, hl⟩ => ⟨he, ⟨w', x.lo.trans hl⟩, rfl⟩
theorem quiet_ext_same {P : Program} {f : FuncId} {args : Array Value} {w0 : World} {x : Ext w0} {v : Value}
    (h : Calls P f args x.w fun e w' => e = .returned v ∧ x.w = w') : Calls P f args x.w fun e w'' => e = .returned v ∧ ∃ y : Ext w0, w'' = y.w :=
  h.mono fun _ w' ⟨he, hl⟩ => ⟨he, x, hl.symm⟩

/-- a text of these bytes -/
def bs (l : List UInt8) : ByteArray := ⟨l.toArray⟩
theorem toList_bs (s : ByteArray) : bs s.toList = s := by
  rw [ByteArray.toList_eq]; rfl
theorem bs_inj {a b : ByteArray} (h : a.toList = b.toList) : a = b := by rw [← toList_bs a, h, toList_bs]
theorem ret_bool {a b : Bool} (h : a = b) : Ending.returned (.bool a) = .returned (.bool b) := by rw [h]
theorem ret_int {k : IntKind} {a b : Int} (h : a = b) : Ending.returned (.int k a) = .returned (.int k b) := by rw [h]
theorem toList_get (s : ByteArray) (n : Nat) (h : n < s.size) : s.toList[n]? = some s[n] := by
  rw [ByteArray.toList_eq]
  have h' : n < s.data.toList.length := by simpa using h
  rw [List.getElem?_eq_getElem h']; rfl
theorem toList_len (s : ByteArray) : s.toList.length = s.size := by rw [ByteArray.toList_eq]; simp
theorem take_full (s : ByteArray) {n : Nat} (h : ¬ n < s.size) : s.toList.take n = s.toList := List.take_of_length_le (by rw [toList_len]; omega)
theorem all_snoc {s : ByteArray} {p : UInt8 → Bool} {n : Nat} (h : (s.toList.take n).all p = true) (hn : n < s.size) (hp : p s[n] = true) : (s.toList.take (n + 1)).all p = true := by
  have hl : n < s.toList.length := by rw [toList_len]; exact hn
  have hg := toList_get s n hn
  rw [List.getElem?_eq_getElem hl] at hg
  have hg' : s.toList[n] = s[n] := by injection hg
  rw [List.take_succ_eq_append_getElem hl, List.all_append, h]
  simp [hg', hp]
theorem all_bad {s : ByteArray} {p : UInt8 → Bool} {n : Nat} (hn : n < s.size) (hp : p s[n] = false) : s.toList.all p = false := by
  rw [List.all_eq_false]
  have hg := toList_get s n hn
  exact ⟨s[n], List.mem_of_getElem? hg, by simp [hp]⟩


theorem lo_keep {a b : World} {p : Addr} {v : Value} (h : Lo a b) (hv : a.cell? p = some v) : b.cell? p = some v := (h.cell p (World.block_lt_of_cell? a p hv)).trans hv
theorem heap_new_at {w : World} {o : Obj} {n : Nat} (h : n = w.heap.size) : (w.alloc o).heap[n]? = some o := by subst h; exact heap_alloc_new w o
theorem block_lt {w : World} {b : Nat} {o : Obj} (h : w.heap[b]? = some o) : b < w.heap.size := by
  rcases Nat.lt_or_ge b w.heap.size with h' | h'
  · exact h'
  · rw [Array.getElem?_eq_none h'] at h; cases h
end Go.Proofs.YtnclifgiakmmoaaGreat.Mem

/- Words for memory, more: a row's cells; rows of the call's own. -/
namespace Go.Proofs.YtnclifgiakmmoaaGreat.Mem
set_option linter.unusedVariables false
set_option linter.unusedSimpArgs false
open Go.RowKit

/-- A row's cells, one behind the other. -/
theorem SliceAt.flat {α : Type} {R : Rel α} {sz B : Nat} {w : World} {A : Option Addr} {xs : List α} (h : SliceAt R sz B w A xs) (h0 : 0 < xs.length) (hsz : 0 < sz) :
    ∃ (b off : Nat) (cells : List Value), A = some ⟨b, off, none⟩ ∧ b < B ∧ cells.length = xs.length * sz ∧ (∀ (j : Nat) v, cells[j]? = some v → w.cell? ⟨b, off + j, none⟩ = some v) ∧
      ∀ k x, xs[k]? = some x → R B w x ((cells.drop (k * sz)).take sz) := by
  obtain ⟨b, off, cs0, rfl, hb, -, -, -⟩ := h 0 xs[0] (List.getElem?_eq_getElem h0)
  have hat : ∀ k x, xs[k]? = some x → ∃ cs, cs.length = sz ∧ (∀ j v, cs[j]? = some v → w.cell? ⟨b, off + (k * sz + j), none⟩ = some v) ∧ R B w x cs := by
    intro k x hx
    obtain ⟨b', off', cs, hA, _, hl, hc, hr⟩ := h k x hx
    injection hA with hA; injection hA with h1 h2; subst h1 h2
    exact ⟨cs, hl, hc, hr⟩
  have hlen : ((List.range (xs.length * sz)).map fun j => (w.cell? ⟨b, off + j, none⟩).getD undef).length = xs.length * sz := by simp
  refine ⟨b, off, (List.range (xs.length * sz)).map fun j => (w.cell? ⟨b, off + j, none⟩).getD undef, rfl, hb, hlen, ?_, ?_⟩
  · intro j v hj
    rw [List.getElem?_map] at hj
    have hjl : j < xs.length * sz := by
      rcases Nat.lt_or_ge j (xs.length * sz) with h' | h'
      · exact h'
      · rw [List.getElem?_eq_none (by simpa using h')] at hj; cases hj
    rw [List.getElem?_range hjl] at hj
    simp only [Option.map_some, Option.some.injEq] at hj
    have hk : j / sz < xs.length := Nat.div_lt_of_lt_mul (by rw [Nat.mul_comm]; exact hjl)
    obtain ⟨cs, hl, hc, _⟩ := hat (j / sz) xs[j / sz] (List.getElem?_eq_getElem hk)
    have hm : j % sz < cs.length := by rw [hl]; exact Nat.mod_lt _ hsz
    have := hc (j % sz) cs[j % sz] (List.getElem?_eq_getElem hm)
    rw [show j / sz * sz + j % sz = j from by rw [Nat.mul_comm]; exact Nat.div_add_mod j sz] at this
    rw [this] at hj ⊢
    simp at hj; rw [hj]
  · intro k x hx
    obtain ⟨cs, hl, hc, hr⟩ := hat k x hx
    have hk : k < xs.length := (List.getElem?_eq_some_iff.1 hx).1
    have hkk : (k + 1) * sz ≤ xs.length * sz := Nat.mul_le_mul_right sz hk
    rw [Nat.succ_mul] at hkk
    have e : ((((List.range (xs.length * sz)).map fun j => (w.cell? ⟨b, off + j, none⟩).getD undef).drop (k * sz)).take sz) = cs := by
      refine List.ext_getElem? fun j => ?_
      by_cases hj : j < sz
      · rw [List.getElem?_take_of_lt hj, List.getElem?_drop, List.getElem?_map, List.getElem?_range (by omega)]
        have hjc : cs[j]? = some (cs[j]'(by omega)) := List.getElem?_eq_getElem (by omega)
        rw [Option.map_some, hc j _ hjc, hjc]; rfl
      · rw [List.getElem?_eq_none (by simp; omega), List.getElem?_eq_none (by omega)]
    rw [e]; exact hr
theorem addr_add (b off j : Nat) : (⟨b, off, none⟩ : Addr).add j = ⟨b, off + j, none⟩ := by
  unfold Addr.add; split <;> simp_all
theorem Lo.grown {a b c : World} {row : Option Nat} (h : Lo a b) (hg : b.grownBy c row) (hr : ∀ k, row = some k → a.heap.size ≤ k) : Lo a c := Below.grown h hg h.size hr
theorem Lo.of_grown {a b : World} (hg : a.grownBy b none) : Lo a b := (Lo.refl a).grown hg (by simp)

end Go.Proofs.YtnclifgiakmmoaaGreat.Mem

/- A region that draws its order and makes memory: each operation is shown once, in whatever state its predecessors allow; a tail whose order is forced goes last. -/
namespace Go.Proofs.YtnclifgiakmmoaaGreat.Mem
set_option linter.unusedVariables false
set_option linter.unusedSimpArgs false
open Go.RowKit

/-- the operation that writes a slot -/
def writer (ops : Array Oper) (s : Nat) : Option Nat := (List.range ops.size).find? fun i => decide (((ops[i]?).bind (·.dst)) = some s)
/-- the frame in which some operations have yielded -/
def frame (ops : Array Oper) (a0 : Act) (vals : Nat → Option Value) : Act :=
  { a0 with tmps := a0.tmps.mapIdx fun s old => match writer ops s with | some i => (vals i).getD old | none => old }
def setV (vals : Nat → Option Value) (i : Nat) (v : Value) : Nat → Option Value := fun j => if j = i then some v else vals j
theorem setV_same (vals : Nat → Option Value) (i : Nat) (v : Value) : setV vals i v i = some v := by simp [setV]
theorem setV_other (vals : Nat → Option Value) {i j : Nat} (h : j ≠ i) (v : Value) : setV vals i v j = vals j := by simp [setV, h]

theorem writer_spec {ops : Array Oper} {s i : Nat} (h : writer ops s = some i) : ((ops[i]?).bind (·.dst)) = some s := by
  unfold writer at h
  have := List.find?_some h
  simpa using this
theorem frame_put {ops : Array Oper} {a0 : Act} {vals : Nat → Option Value} {i d : Nat} (hw : writer ops d = some i) (v : Value) :
    (frame ops a0 vals).put (some d) v = frame ops a0 (setV vals i v) := by
  unfold frame Act.put
  simp only
  congr 1
  refine Array.ext (by simp) fun s h1 h2 => ?_
  simp only [Array.size_setIfInBounds, Array.size_mapIdx] at h1
  rw [Array.getElem_setIfInBounds (by simpa using h1)]
  simp only [Array.getElem_mapIdx]
  by_cases hs : d = s
  · subst hs
    simp [hw, setV]
  · rw [if_neg hs]
    cases hws : writer ops s with
    | none => rfl
    | some j =>
      have hj : j ≠ i := by
        rintro rfl
        have h1 := writer_spec hws
        have h2 := writer_spec hw
        rw [h1] at h2; injection h2 with h2; exact hs h2.symm
      simp [setV, hj]
theorem frame_put_none {ops : Array Oper} {a0 : Act} {vals : Nat → Option Value} {i : Nat} (hw : ∀ s, writer ops s ≠ some i) (v u : Value) :
    (frame ops a0 vals).put none u = frame ops a0 (setV vals i v) := by
  unfold frame Act.put
  simp only
  congr 1
  refine Array.ext (by simp) fun s h1 h2 => ?_
  simp only [Array.getElem_mapIdx]
  cases hws : writer ops s with
  | none => rfl
  | some j =>
    have hj : j ≠ i := by rintro rfl; exact hw s hws
    simp [setV, hj]

def isOn (listed : Array Bool) (i : Nat) : Bool := listed.getD i false

theorem wpAny_inv {P : Program} {md : Region.Mode} {ops : Array Oper} {Q : Exit → Act → World → Prop} (Inv : Array Bool → Act → World → Prop)
    (hstep : ∀ listed a w i, Inv listed a w → listed.size = ops.size → i ∈ Region.ready md ops listed → wpOp P ops Q i (fun a' w' => Inv (listed.setIfInBounds i true) a' w') a w)
    (hend : ∀ listed a w, Inv listed a w → Region.ready md ops listed = [] → Q .normal a w) :
    ∀ (fuel : Nat) (listed : Array Bool) (a : Act) (w : World), Inv listed a w → listed.size = ops.size → listed.toList.countP (fun b => !b) ≤ fuel → wpAny P md ops Q fuel listed a w
  | 0, listed, a, w, hI, hs, hc => by
    have hr : Region.ready md ops listed = [] := by
      unfold Region.ready
      rw [List.filter_eq_nil_iff]
      intro i hi
      rw [List.mem_range] at hi
      have hall : ∀ b ∈ listed.toList, ¬ (!b) = true := by
        have : listed.toList.countP (fun b => !b) = 0 := by omega
        rwa [List.countP_eq_zero] at this
      have hb := hall (listed[i]'(by omega)) (by simp)
      have : listed.getD i true = true := by
        rw [Array.getD_eq_getD_getElem?, Array.getElem?_eq_getElem (by omega)]
        simpa using hb
      simp [this]
    exact ⟨hr, hend _ _ _ hI hr⟩
  | fuel + 1, listed, a, w, hI, hs, hc => by
    refine ⟨fun hr => hend _ _ _ hI hr, fun i hi => ?_⟩
    have hi' := hi
    unfold Region.ready at hi'
    rw [List.mem_filter, List.mem_range] at hi'
    obtain ⟨hlt, hcond⟩ := hi'
    simp only [Bool.and_eq_true, Bool.not_eq_true'] at hcond
    have hf : listed[i]'(by omega) = false := by
      have := hcond.1
      rw [Array.getD_eq_getD_getElem?, Array.getElem?_eq_getElem (by omega)] at this
      simpa using this
    have hcount : (listed.setIfInBounds i true).toList.countP (fun b => !b) ≤ fuel := by
      have hil : i < listed.toList.length := by simp; omega
      have hsplit : listed.toList = listed.toList.take i ++ false :: listed.toList.drop (i + 1) := by
        have h1 := (List.take_append_drop i listed.toList).symm
        rw [List.drop_eq_getElem_cons hil] at h1
        have h2 : listed.toList[i] = false := by simpa using hf
        rw [h2] at h1
        exact h1
      have hset : (listed.setIfInBounds i true).toList = listed.toList.take i ++ true :: listed.toList.drop (i + 1) := by
        rw [Array.toList_setIfInBounds, List.set_eq_take_append_cons_drop, if_pos hil]
      rw [hset]
      rw [hsplit] at hc
      simp only [List.countP_append, List.countP_cons] at hc ⊢
      simp at hc ⊢
      omega
    exact wpOp_mono (fun a' w' h => wpAny_inv Inv hstep hend fuel _ a' w' h (by simp [hs]) hcount) (hstep listed a w i hI hs hi)

def deps (ops : Array Oper) (i : Nat) : List Nat := ((ops[i]?).map fun o => (o.after.toList.filter (Region.binds .any)).map (·.on)).getD []
/-- what must have gone before, step by step -/
def clos (ops : Array Oper) : Nat → Nat → List Nat
  | 0, _ => []
  | n + 1, i => (deps ops i).flatMap fun j => j :: clos ops n j
/-- from N on the order is forced -/
def forcedB (ops : Array Oper) (N : Nat) : Bool := (List.range ops.size).all fun k => ((deps ops k).all fun j => decide (j < k)) && (decide (k < N) || (List.range k).all fun j => (clos ops (ops.size + 1) k).contains j)
def Closed (ops : Array Oper) (listed : Array Bool) : Prop := ∀ i j, isOn listed i = true → j ∈ deps ops i → isOn listed j = true
theorem Closed.clos {ops : Array Oper} {listed : Array Bool} (h : Closed ops listed) : ∀ (n i j : Nat), (∀ k ∈ deps ops i, isOn listed k = true) → j ∈ Mem.clos ops n i → isOn listed j = true
  | 0, i, j, _, hj => by simp [Mem.clos] at hj
  | n + 1, i, j, hd, hj => by
    simp only [Mem.clos, List.mem_flatMap, List.mem_cons] at hj
    obtain ⟨k, hk, rfl | hj⟩ := hj
    · exact hd _ hk
    · exact Closed.clos h n k j (fun m hm => h k m (hd k hk) hm) hj
theorem ready_spec {ops : Array Oper} {listed : Array Bool} {i : Nat} (h : i ∈ Region.ready .any ops listed) : i < ops.size ∧ isOn listed i = false ∧ ∀ j ∈ deps ops i, isOn listed j = true := by
  unfold Region.ready at h
  rw [List.mem_filter, List.mem_range] at h
  obtain ⟨hlt, hc⟩ := h
  simp only [Bool.and_eq_true, Bool.not_eq_true'] at hc
  obtain ⟨h1, h2⟩ := hc
  refine ⟨hlt, ?_, ?_⟩
  · unfold isOn
    rw [Array.getD_eq_getD_getElem?] at h1 ⊢
    cases he : listed[i]? with
    | none => rfl
    | some b => rw [he] at h1; simpa using h1
  · intro j hj
    unfold deps at hj
    rw [Array.getElem?_eq_getElem hlt] at hj h2
    simp only [Option.map_some, Option.getD_some, List.mem_map, List.mem_filter] at hj h2
    obtain ⟨e, ⟨he, hb⟩, rfl⟩ := hj
    rw [Array.all_eq_true_iff_forall_mem] at h2
    have := h2 e (by simpa using he)
    simpa [hb, isOn] using this
theorem isOn_set {listed : Array Bool} {i j : Nat} (hi : i < listed.size) : isOn (listed.setIfInBounds i true) j = (decide (j = i) || isOn listed j) := by
  unfold isOn
  rw [Array.getD_eq_getD_getElem?, Array.getD_eq_getD_getElem?, Array.getElem?_setIfInBounds]
  by_cases h : i = j
  · subst h; simp [hi]
  · rw [if_neg h]
    have : ¬ j = i := fun e => h e.symm
    simp [this]

/-- EACH OPERATION ONCE: 'Φ i v w' tells what operation i yields; before N every one only makes memory; from N on the order is forced. -/
theorem wp_region_spec {P : Program} {id : Nat} {ops : Array Oper} {Q : Exit → Act → World → Prop} {a0 : Act} {w : World} (N : Nat) (Φ : Nat → Value → World → Prop)
    (hm : P.follows .mixedOrders = true) (hN : N ≤ ops.size) (hforced : forcedB ops N = true) (ha : frame ops a0 (fun _ => none) = a0)
    (hstable : ∀ i v w1 w2, Φ i v w1 → Lo w1 w2 → Φ i v w2)
    (hspec : ∀ i, i < N → ∀ vals w', Lo w w' → (∀ k, N ≤ k → vals k = none) → (∀ j ∈ deps ops i, ∃ v, vals j = some v ∧ Φ j v w') →
      wpOp P ops Q i (fun a' w'' => ∃ v, a' = frame ops a0 (setV vals i v) ∧ Lo w' w'' ∧ Φ i v w'') (frame ops a0 vals) w')
    (hfin : ∀ vals w', Lo w w' → (∀ i, i < N → ∃ v, vals i = some v ∧ Φ i v w') → (∀ i, N ≤ i → vals i = none) → wpOps P ops Q (List.range' N (ops.size - N)) (frame ops a0 vals) w') :
    (Code.region id ops true).wp P Q a0 w := by
  refine wp_region_any hm (wpAny_inv (fun listed a w' =>
      Closed ops listed ∧ listed.size = ops.size ∧
      ((∃ vals, a = frame ops a0 vals ∧ Lo w w' ∧ (∀ i, isOn listed i = (vals i).isSome) ∧ (∀ i v, i < N → vals i = some v → Φ i v w') ∧ (∀ i, N ≤ i → vals i = none)) ∨
       (∃ m, N ≤ m ∧ m ≤ ops.size ∧ (∀ i, isOn listed i = decide (i < m)) ∧ wpOps P ops Q (List.range' m (ops.size - m)) a w'))) ?_ ?_ _ _ _ _ ⟨?_, by simp, .inl ⟨fun _ => none, ha.symm, (Lo.refl w).drew, ?_, ?_, fun _ _ => rfl⟩⟩ (by simp) ?_)
  · rintro listed a w' i ⟨hcl, hsz, hI⟩ _ hr
    obtain ⟨hlt, hoff, hdeps⟩ := ready_spec hr
    have hcl' : Closed ops (listed.setIfInBounds i true) := by
      intro x y hx hy
      rw [isOn_set (by omega)] at hx ⊢
      by_cases hxi : x = i
      · subst hxi; rw [hdeps y hy]; simp
      · simp [hxi] at hx
        rw [hcl x y hx hy]; simp
    have htail : ∀ k, N ≤ k → k < ops.size → (∀ j ∈ deps ops k, isOn listed j = true) → ∀ j, j < k → isOn listed j = true := by
      intro k hk hks hd j hj
      unfold forcedB at hforced
      rw [List.all_eq_true] at hforced
      have h1 := hforced k (by simpa using hks)
      simp only [Bool.and_eq_true, Bool.or_eq_true, decide_eq_true_eq] at h1
      rcases h1.2 with h1 | h1
      · omega
      · rw [List.all_eq_true] at h1
        have h2 := h1 j (by simpa using hj)
        exact hcl.clos _ k j hd (by simpa using h2)
    rcases hI with ⟨vals, rfl, hlo, hon, hphi, hnone⟩ | ⟨m, hNm, hmn, hon, hwp⟩
    · by_cases hiN : i < N
      · have hd : ∀ j ∈ deps ops i, ∃ v, vals j = some v ∧ Φ j v w' := by
          intro j hj
          have h1 := hdeps j hj
          rw [hon j] at h1
          obtain ⟨v, hv⟩ := Option.isSome_iff_exists.1 h1
          have hjN : j < N := by
            rcases Nat.lt_or_ge j N with h | h
            · exact h
            · rw [hnone j h] at hv; cases hv
          exact ⟨v, hv, hphi j v hjN hv⟩
        refine wpOp_mono ?_ (hspec i hiN vals w' hlo hnone hd)
        rintro a' w'' ⟨v, rfl, hl, hp⟩
        refine ⟨hcl', by simpa using hsz, .inl ⟨setV vals i v, rfl, hlo.trans hl, ?_, ?_, ?_⟩⟩
        · intro x
          rw [isOn_set (by omega)]
          by_cases hx : x = i
          · subst hx; simp [setV]
          · simp [setV, hx, hon x]
        · intro x u hx hu
          by_cases hxi : x = i
          · subst hxi; simp [setV] at hu; subst hu; exact hp
          · simp [setV, hxi] at hu; exact hstable _ _ _ _ (hphi x u hx hu) hl
        · intro x hx
          have : x ≠ i := by omega
          simp [setV, this, hnone x hx]
      · have hall := htail i (by omega) hlt hdeps
        have hiN' : i = N := by
          rcases Nat.lt_or_ge N i with h | h
          · have := hall N h
            rw [hon N, hnone N (Nat.le_refl _)] at this; cases this
          · omega
        subst hiN'
        have hv : ∀ x, x < i → ∃ v, vals x = some v ∧ Φ x v w' := by
          intro x hx
          have h1 := hall x hx
          rw [hon x] at h1
          obtain ⟨v, hv⟩ := Option.isSome_iff_exists.1 h1
          exact ⟨v, hv, hphi x v hx hv⟩
        have hwp := hfin vals w' hlo hv hnone
        have hsplit : List.range' i (ops.size - i) = i :: List.range' (i + 1) (ops.size - (i + 1)) := by
          rw [show ops.size - i = (ops.size - (i + 1)) + 1 from by omega, List.range'_succ]
        rw [hsplit, wpOps_cons] at hwp
        refine wpOp_mono ?_ hwp
        intro a' w'' h
        refine ⟨hcl', by simpa using hsz, .inr ⟨i + 1, by omega, by omega, ?_, h⟩⟩
        intro x
        rw [isOn_set (by omega), hon x]
        by_cases hx : x = i
        · subst hx; simp
        · rcases Nat.lt_or_ge x i with h | h
          · obtain ⟨v, hv, _⟩ := hv x h
            simp [hv]; omega
          · rw [hnone x h]; simp [hx]; omega
    · have hm' : m = i := by
        have h1 := hon i
        rw [hoff] at h1
        have hmi : m ≤ i := by simpa using h1.symm
        rcases Nat.lt_or_ge m i with h | h
        · have := htail i (by omega) hlt hdeps m h
          rw [hon m] at this; simp at this
        · omega
      subst hm'
      have hsplit : List.range' m (ops.size - m) = m :: List.range' (m + 1) (ops.size - (m + 1)) := by
        rw [show ops.size - m = (ops.size - (m + 1)) + 1 from by omega, List.range'_succ]
      rw [hsplit, wpOps_cons] at hwp
      refine wpOp_mono ?_ hwp
      intro a' w'' h
      refine ⟨hcl', by simpa using hsz, .inr ⟨m + 1, by omega, by omega, ?_, h⟩⟩
      intro x
      rw [isOn_set (by omega), hon x, Bool.eq_iff_iff]
      simp; omega
  · rintro listed a w' ⟨hcl, hsz, hI⟩ hr
    have hall : ∀ k, ∀ i, i < k → i < ops.size → isOn listed i = true := by
      intro k
      induction k with
      | zero => intro i hi; omega
      | succ k ih =>
        intro i hi hs
        rcases Nat.lt_or_ge i k with h | h
        · exact ih i h hs
        · have hik : i = k := by omega
          subst hik
          rcases Bool.eq_false_or_eq_true (isOn listed i) with h1 | h1
          · exact h1
          · exfalso
            have hlt : ∀ j ∈ deps ops i, j < i := by
              unfold forcedB at hforced
              rw [List.all_eq_true] at hforced
              have h2 := hforced i (by simpa using hs)
              simp only [Bool.and_eq_true] at h2
              have h3 := h2.1
              rw [List.all_eq_true] at h3
              intro j hj; simpa using h3 j hj
            have hmem : i ∈ Region.ready .any ops listed := by
              unfold Region.ready
              rw [List.mem_filter, List.mem_range]
              refine ⟨hs, ?_⟩
              simp only [Bool.and_eq_true, Bool.not_eq_true']
              constructor
              · unfold isOn at h1
                rw [Array.getD_eq_getD_getElem?, Array.getElem?_eq_getElem (by omega)] at h1 ⊢
                simpa using h1
              · rw [Array.getElem?_eq_getElem hs]
                simp only [Option.map_some, Option.getD_some]
                rw [Array.all_eq_true_iff_forall_mem]
                intro e he
                rcases Bool.eq_false_or_eq_true (Region.binds .any e) with hb | hb
                · have hj : e.on ∈ deps ops i := by
                    unfold deps
                    rw [Array.getElem?_eq_getElem hs]
                    simp only [Option.map_some, Option.getD_some, List.mem_map, List.mem_filter]
                    exact ⟨e, ⟨by simpa using he, hb⟩, rfl⟩
                  have := ih e.on (hlt _ hj) (by have := hlt _ hj; omega)
                  unfold isOn at this
                  simp [this]
                · simp [hb]
            rw [hr] at hmem; cases hmem
    rcases hI with ⟨vals, rfl, hlo, hon, hphi, hnone⟩ | ⟨m, hNm, hmn, hon, hwp⟩
    · have hNs : N = ops.size := by
        rcases Nat.lt_or_ge N ops.size with h | h
        · have := hall (N + 1) N (by omega) h
          rw [hon N, hnone N (Nat.le_refl _)] at this; cases this
        · omega
      have hv : ∀ x, x < N → ∃ v, vals x = some v ∧ Φ x v w' := by
        intro x hx
        have h1 := hall (x + 1) x (by omega) (by omega)
        rw [hon x] at h1
        obtain ⟨v, hv⟩ := Option.isSome_iff_exists.1 h1
        exact ⟨v, hv, hphi x v hx hv⟩
      have := hfin vals w' hlo hv hnone
      rw [hNs] at this
      simpa [wpOps] using this
    · have hms : m = ops.size := by
        rcases Nat.lt_or_ge m ops.size with h | h
        · have := hall (m + 1) m (by omega) h
          rw [hon m] at this; simp at this
        · omega
      subst hms
      simpa [wpOps] using hwp
  · intro i j h
    unfold isOn at h
    rw [Array.getD_eq_getD_getElem?] at h
    simp only [Array.getElem?_replicate] at h
    split at h <;> cases h
  · intro i
    unfold isOn
    rw [Array.getD_eq_getD_getElem?]
    simp only [Array.getElem?_replicate]
    split <;> rfl
  · intro i v _ h; cases h
  · simp [List.countP_replicate]

theorem frame_none (ops : Array Oper) (a0 : Act) : frame ops a0 (fun _ => none) = a0 := by
  unfold frame
  have : (a0.tmps.mapIdx fun s old => match writer ops s with | some i => ((fun _ => none : Nat → Option Value) i).getD old | none => old) = a0.tmps := by
    refine Array.ext (by simp) fun s h1 h2 => ?_
    simp only [Array.getElem_mapIdx]
    cases writer ops s <;> rfl
  rw [this]
theorem frame_eval {ops : Array Oper} {a0 : Act} {vals : Nat → Option Value} {i t : Nat} {v : Value} (hw : writer ops t = some i) (hv : vals i = some v) (ht : t < a0.tmps.size) : (frame ops a0 vals).eval (.tmp t) = v := by
  show (frame ops a0 vals).tmps.getD t undef = v
  unfold frame
  simp only
  rw [Array.getD_eq_getD_getElem?, Array.getElem?_eq_getElem (by simpa using ht)]
  simp [hw, hv]
theorem frame_old {ops : Array Oper} {a0 : Act} {vals : Nat → Option Value} {t : Nat} (hw : writer ops t = none) : (frame ops a0 vals).eval (.tmp t) = a0.eval (.tmp t) := by
  show (frame ops a0 vals).tmps.getD t undef = a0.tmps.getD t undef
  unfold frame
  simp only
  rw [Array.getD_eq_getD_getElem?, Array.getD_eq_getD_getElem?, Array.getElem?_mapIdx]
  cases h : a0.tmps[t]? <;> simp [hw]
theorem frame_old' {ops : Array Oper} {a0 : Act} {vals : Nat → Option Value} {t N : Nat} (hw : ((writer ops t).all fun j => decide (N ≤ j)) = true) (hn : ∀ k, N ≤ k → vals k = none) : (frame ops a0 vals).eval (.tmp t) = a0.eval (.tmp t) := by
  cases h : writer ops t with
  | none => exact frame_old h
  | some j =>
    rw [h] at hw
    have hj : N ≤ j := by simpa using hw
    show (frame ops a0 vals).tmps.getD t undef = a0.tmps.getD t undef
    unfold frame
    simp only
    rw [Array.getD_eq_getD_getElem?, Array.getD_eq_getD_getElem?, Array.getElem?_mapIdx]
    cases h' : a0.tmps[t]? <;> simp [h, hn j hj]
def dstOf (ops : Array Oper) (i : Nat) : Option Tmp := (ops[i]?).bind (·.dst)
theorem foldl_frame {ops : Array Oper} {a0 : Act} {v : Nat → Value} (hu : ∀ i d, i < ops.size → dstOf ops i = some d → writer ops d = some i) : ∀ k, k ≤ ops.size →
    (List.range k).foldl (fun a i => a.put (dstOf ops i) (v i)) a0 = frame ops a0 (fun i => if i < k then some (v i) else none)
  | 0, _ => by simp [frame_none]
  | k + 1, hk => by
    rw [List.range_succ, List.foldl_append, foldl_frame hu k (by omega)]
    simp only [List.foldl_cons, List.foldl_nil]
    have e : setV (fun i => if i < k then some (v i) else none) k (v k) = fun i => if i < k + 1 then some (v i) else none := by
      funext j
      unfold setV
      by_cases h : j = k
      · subst h; simp
      · rw [if_neg h]
        show (if j < k then some (v j) else none) = _
        by_cases h2 : j < k
        · rw [if_pos h2, if_pos (by omega)]
        · rw [if_neg h2, if_neg (by omega)]
    cases hd : dstOf ops k with
    | some d => rw [frame_put (hu k d (by omega) hd), e]
    | none =>
      rw [frame_put_none (v := v k) (fun s hs => ?_) (v k), e]
      have := writer_spec hs
      unfold dstOf at hd
      rw [hd] at this; cases this

theorem wp_of_run {P : Program} {o : Oper} {a : Act} {w w' : World} {K : Act → World → Prop} {Q : Exit → Act → World → Prop} {v : Value} (hrun : (execOp a.eval o).run P w = .ok (.value v) w') (h : K (a.put o.dst v) w') : o.wp P a w K Q := by
  unfold Oper.wp; rw [hrun]; exact h
/-- an append that must grow, as one operation -/
theorem wp_append_new {P : Program} {o : Oper} {a : Act} {w : World} {K : Act → World → Prop} {Q : Exit → Act → World → Prop}
    (hg : o.guard = none) (s x : Operand) (t : TypeId) (hop : o.op = Op.call { callee := Callee.builtin Builtin.append, args := #[s, x], argTypes := #[t, t] })
    (e : TypeId) (i : TypeInfo) (z : Value) (size bytes : Nat) (h1 : P.underlying t = some (.slice e)) (h2 : P.info? e = some i) (h3 : i.zero = some z) (h4 : i.size = size) (h5 : i.bytes = bytes) (h6 : z.cells.size = size) (h7 : 0 < size)
    (ao : Option Addr) (n cap : Nat) (olds : List Value) (hs : a.eval s = .slice ao n cap) (hnone : ao = none → n = 0 ∧ cap = 0) (hlo : olds.length = n * size) (holds : ∀ b, ao = some b → ∀ (j : Nat) u, olds[j]? = some u → w.cell? (b.add j) = some u)
    (ad : Addr) (m c : Nat) (news : List Value) (hx : a.eval x = .slice (some ad) m c) (hn : news.length = m * size) (hc : ∀ (j : Nat) u, news[j]? = some u → w.cell? (ad.add j) = some u) (h1c : ∀ u ∈ news, u.oneCell' = true)
    (hfull : cap < n + m) (b1 : n + m ≤ maxLen) (b2 : (n + m) * bytes ≤ 140737488355328)
    (hK : ∀ v' w', w'.ownsRow w.heap.size e size v' (n + m) (olds ++ news) → w.grownBy w' none → K (a.put o.dst v') w') : o.wp P a w K Q := by
  have := step_append_grows (P := P) (ops := #[]) (o := o) (a := a) (w := w) (K := K) (Q := Q) (E := False) hg s x t hop e i z size bytes h1 h2 h3 h4 h5 h6 h7 ao n cap olds hs hnone hlo holds ad m c news hx hn hc h1c hfull b1 b2 hK
  rwa [if_pos (by simp [Region.wanted, hg])] at this
/-- an append of nothing, where there is room for nothing -/
theorem run_append_nothing {P : Program} {w : World} (t ty e : TypeId) (i : TypeInfo) (ht : P.underlying t = some (.slice e)) (hi : P.info? e = some i) (ao ax : Option Addr) (n cap c : Nat) (h : n ≤ cap) :
    (Builtin.append_ #[t, t] ty #[.slice ao n cap, .slice ax 0 c]).run P w = .ok (.slice ao n cap) w := by
  cases ao <;> cases ax <;> simp [Builtin.append_, run_underlying ht, sizeOf, typeInfo, hi, Builtin.lenOf, Builtin.firstCells, h, storeCells, loadCells, loadCellsFrom]
theorem wp_append_nothing {P : Program} {o : Oper} {a : Act} {w : World} {K : Act → World → Prop} {Q : Exit → Act → World → Prop}
    (s x : Operand) (t : TypeId) (hop : o.op = Op.call { callee := Callee.builtin Builtin.append, args := #[s, x], argTypes := #[t, t] })
    (e : TypeId) (i : TypeInfo) (ht : P.underlying t = some (.slice e)) (hi : P.info? e = some i) (ao ax : Option Addr) (n cap c : Nat) (hs : a.eval s = .slice ao n cap) (hx : a.eval x = .slice ax 0 c) (h : n ≤ cap)
    (hK : K (a.put o.dst (.slice ao n cap)) w) : o.wp P a w K Q := by
  have hrun := run_append_nothing (P := P) (w := w) t o.type e i ht hi ao ax n cap c h
  unfold Oper.wp
  simp [execOp, hop, resolve, invoke, builtin, hs, hx, hrun, Result.andThen]
  exact hK
theorem Lo.grownBy {a b : World} (h : Lo a b) (row : Option Nat) : a.grownBy b row := ⟨h.os, h.tape, h.output, h.size, fun i hi _ => Below.block h i hi⟩
theorem Lo.owns {a b : World} {base : Nat} {e : TypeId} {size : Nat} {v : Value} {n : Nat} {xs : List Value} (h : Lo a b) (ho : a.ownsRow base e size v n xs) : b.ownsRow base e size v n xs := by
  refine ho.kept (h.grownBy none) ?_
  cases hv : v.ownBlock with
  | none => exact .inl rfl
  | some g => exact .inr (by simp)
theorem Lo.block {a b : World} (h : Lo a b) {n : Nat} {o : Obj} (hn : a.heap[n]? = some o) : b.heap[n]? = some o := (Below.block h n (block_lt hn)).trans hn
end Go.Proofs.YtnclifgiakmmoaaGreat.Mem

/- A region that draws its order and makes memory, guarded operations among them: each operation is shown once. -/
namespace Go.Proofs.YtnclifgiakmmoaaGreat.Mem
set_option linter.unusedVariables false
set_option linter.unusedSimpArgs false
open Go.RowKit

def regionB2 (ops : Array Oper) (M : Nat) : Bool :=
  forcedB ops ops.size && (List.range ops.size).all fun i =>
    (match dstOf ops i with | some d => decide (writer ops d = some i) && decide (d < M) | none => true)
theorem wanted_at {ops : Array Oper} {o : Oper} {a : Act} {j d : Nat} {want b : Bool} (hg : o.guard = some (j, want)) (hd : dstOf ops j = some d) (hv : a.eval (.tmp d) = .bool b) : Region.wanted o (yielded ops a.tmps) = (b == want) := by
  have hv' : a.tmps.getD d undef = .bool b := hv
  unfold Region.wanted
  rw [hg]
  simp only
  have : yielded ops a.tmps j = some b := by
    unfold yielded
    unfold dstOf at hd
    rw [hd]
    simp only [Option.bind_some]
    rw [Array.getD_eq_getD_getElem?] at hv'
    cases h : a.tmps[d]? with
    | none => rw [h] at hv'; cases hv'
    | some x => rw [h] at hv'; simp only [Option.getD_some] at hv'; rw [hv']
  rw [this]
  cases b <;> cases want <;> rfl
theorem wanted_free {o : Oper} {f : Nat → Option Bool} (hg : o.guard = none) : Region.wanted o f = true := by unfold Region.wanted; rw [hg]

/-- a call, as one operation: what it hands back, and that nothing that was there has turned -/
theorem wp_call_of {P : Program} {o : Oper} {a : Act} {w : World} {K : Act → World → Prop} {Q : Exit → Act → World → Prop} {f : FuncId} {args : Array Value} {R : Ending → World → Prop}
    (hrun : (execOp a.eval o).run P w = .ok (.enter f args) w) (hc : Calls P f args w R) (h : ∀ e w', R e w' → ∃ v, e = .returned v ∧ K (a.put o.dst v) w') : o.wp P a w K Q := by
  unfold Oper.wp
  rw [hrun, Oper.upon_enter]
  refine hc.mono fun e w' hr => ?_
  obtain ⟨v, rfl, hk⟩ := h e w' hr
  exact hk

theorem wp_region_all {P : Program} {id : Nat} {l : List Oper} {Q : Exit → Act → World → Prop} {a0 : Act} {w : World} (M : Nat) (Φ : Nat → Value → World → Prop)
    (hm : P.follows .mixedOrders = true) (hM : a0.tmps.size = M) (hB : regionB2 l.toArray M = true)
    (hstable : ∀ i v w1 w2, Φ i v w1 → Lo w1 w2 → Φ i v w2)
    (hspec : ∀ i o, i < l.length → l.toArray[i]? = some o → ∀ (a : Act) (w' : World), Lo w w' → (∀ j, (deps l.toArray i).contains j = true → ∀ d, dstOf l.toArray j = some d → Φ j (a.eval (.tmp d)) w') →
      (∀ t, (writer l.toArray t).isNone = true → a.eval (.tmp t) = a0.eval (.tmp t)) →
      (Region.wanted o (yielded l.toArray a.tmps) = true → o.wp P a w' (fun a' w'' => ∃ v, a' = a.put o.dst v ∧ Lo w' w'' ∧ Φ i v w'') Q) ∧ (Region.wanted o (yielded l.toArray a.tmps) = false → Φ i undef w'))
    (hfin : ∀ (v : Nat → Value) (w' : World), Lo w w' → (∀ i, i < l.length → Φ i (v i) w') → Q .normal ((List.range l.length).foldl (fun a i => a.put (dstOf l.toArray i) (v i)) a0) w') :
    (Code.region id l.toArray true).wp P Q a0 w := by
  unfold regionB2 at hB
  simp only [Bool.and_eq_true] at hB
  obtain ⟨hforced, hall⟩ := hB
  rw [List.all_eq_true] at hall
  have hu : ∀ i d, i < l.toArray.size → dstOf l.toArray i = some d → writer l.toArray d = some i ∧ d < M := by
    intro i d hi hd
    have h1 := hall i (by simpa using hi)
    rw [hd] at h1
    simpa only [Bool.and_eq_true, decide_eq_true_eq] using h1
  refine wp_region_spec l.toArray.size Φ hm (Nat.le_refl _) hforced (frame_none _ _) hstable ?_ ?_
  · intro i hi vals w' hlo hnone hd
    obtain ⟨o, ho⟩ : ∃ o, l.toArray[i]? = some o := ⟨_, Array.getElem?_eq_getElem hi⟩
    have hput : ∀ v, (frame l.toArray a0 vals).put o.dst v = frame l.toArray a0 (setV vals i v) := by
      intro v
      cases hdst : o.dst with
      | some d =>
        have : dstOf l.toArray i = some d := by unfold dstOf; rw [ho]; exact hdst
        exact frame_put (hu i d hi this).1 v
      | none =>
        refine frame_put_none (fun s hs => ?_) v v
        have := writer_spec hs
        rw [ho] at this
        simp only [Option.bind_some, hdst] at this
        cases this
    have hs := hspec i o (by simpa using hi) ho (frame l.toArray a0 vals) w' hlo (by
      intro j hj d hjd
      obtain ⟨v, hv, hp⟩ := hd j (by simpa using hj)
      have hjs : j < l.toArray.size := by
        unfold dstOf at hjd
        rcases Nat.lt_or_ge j l.toArray.size with h | h
        · exact h
        · rw [Array.getElem?_eq_none h] at hjd; cases hjd
      obtain ⟨h1, h2⟩ := hu j d hjs hjd
      rw [frame_eval h1 hv (by rw [hM]; exact h2)]
      exact hp) (by
      intro t ht
      cases h : writer l.toArray t with
      | none => exact frame_old h
      | some j => rw [h] at ht; cases ht)
    unfold wpOp
    rw [ho]
    simp only
    cases hw : Region.wanted o (yielded l.toArray (frame l.toArray a0 vals).tmps)
    · simp only [Bool.false_eq_true, if_false]
      exact ⟨undef, hput _, Lo.refl _, hs.2 hw⟩
    · simp only [if_true]
      refine .inl (Oper.wp_mono ?_ (hs.1 hw))
      rintro a' w'' ⟨v, rfl, hl, hp⟩
      exact ⟨v, hput v, hl, hp⟩
  · intro vals w' hlo hv hn
    have hf := hfin (fun i => (vals i).getD undef) w' hlo (fun i hi => by obtain ⟨v, h1, h2⟩ := hv i (by simpa using hi); simp [h1, h2])
    have hz : l.length = l.toArray.size := by simp
    rw [hz, foldl_frame (fun i d hi hd => (hu i d hi hd).1) l.toArray.size (Nat.le_refl _)] at hf
    have e : (fun i => if i < l.toArray.size then some ((vals i).getD undef) else none) = vals := by
      funext i
      by_cases h : i < l.toArray.size
      · obtain ⟨v, h1, _⟩ := hv i h
        rw [if_pos h, h1]; rfl
      · rw [if_neg h, hn i (by omega)]
    rw [e] at hf
    rw [Nat.sub_self]
    exact hf
end Go.Proofs.YtnclifgiakmmoaaGreat.Mem
