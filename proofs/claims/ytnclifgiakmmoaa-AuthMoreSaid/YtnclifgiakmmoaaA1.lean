/- Merged by bundles.py: SimA, SimB. -/
import Derived.Test.YtnclifgiakmmoaaA0
/- A logic of states: what slots hold, as trees of data; rules for a function's control. -/
namespace Go.Proofs.Ytnclifgiakmmoaa.Sim
set_option linter.unusedVariables false
set_option linter.unusedSimpArgs false
open Go.RowKit Mem

/-- data: a value just so; a slice's rows of cells; a struct's cells; results; a place that holds cells; a function with what it captured -/
inductive T where
  | v (x : Value)
  | sl (sz : Nat) (rows : List (List T))
  | agg (cs : List T)
  | tup (cs : List T)
  | tp (cs : List T)
  | clo (f : FuncId) (caps : List T)
deriving Inhabited

/-- memory that stays -/
abbrev Mm := Nat → Nat → Option Value
def Sub (m : Mm) (w : World) : Prop := ∀ b o v, m b o = some v → w.cell? ⟨b, o, none⟩ = some v
def Ext (m m' : Mm) (n : Nat) : Prop := (∀ b o v, m b o = some v → m' b o = some v) ∧ ∀ b o, b < n → m' b o = m b o

inductive TR (m : Mm) : T → Value → Prop
  | v (x : Value) : TR m (.v x) x
  | sl (sz : Nat) (rows : List (List T)) (A : Option Addr) (b off cap : Nat) (u : Nat → Nat → Value)
      (hc : rows.length ≤ cap) (hm : cap ≤ maxLen) (hA : rows ≠ [] → A = some ⟨b, off, none⟩) (hr : ∀ r ∈ rows, r.length = sz)
      (hu : ∀ (k j : Nat) (r : List T) (t : T), rows[k]? = some r → r[j]? = some t → m b (off + (k * sz + j)) = some (u k j) ∧ (u k j).oneCell' = true)
      (ht : ∀ (k j : Nat) (r : List T) (t : T), rows[k]? = some r → r[j]? = some t → TR m t (u k j)) : TR m (.sl sz rows) (.slice A rows.length cap)
  | agg (cs : List T) (vs : Array Value) (h : vs.size = cs.length) (h1 : ∀ v ∈ vs.toList, v.oneCell' = true) (ht : ∀ (j : Nat) t v, cs[j]? = some t → vs[j]? = some v → TR m t v) : TR m (.agg cs) (.agg vs)
  | tup (cs : List T) (vs : Array Value) (h : vs.size = cs.length) (ht : ∀ (j : Nat) t v, cs[j]? = some t → vs[j]? = some v → TR m t v) : TR m (.tup cs) (.tuple vs)
  | tp (cs : List T) (b off : Nat) (u : Nat → Value) (hu : ∀ (j : Nat) t, cs[j]? = some t → m b (off + j) = some (u j) ∧ (u j).oneCell' = true) (ht : ∀ (j : Nat) t, cs[j]? = some t → TR m t (u j)) : TR m (.tp cs) (.pointer (some ⟨b, off, none⟩))
  | clo (f : FuncId) (caps : List T) (vs : Array Value) (h : vs.size = caps.length) (ht : ∀ (j : Nat) t v, caps[j]? = some t → vs[j]? = some v → TR m t v) : TR m (.clo f caps) (.func (.func f) #[] vs)

theorem TR.mono {m m' : Mm} (hm : ∀ b o v, m b o = some v → m' b o = some v) {t : T} {v : Value} (h : TR m t v) : TR m' t v := by
  induction h with
  | v x => exact .v x
  | sl sz rows A b off cap u hc hm' hA hr hu _ ih => exact .sl sz rows A b off cap u hc hm' hA hr (fun k j r t h1 h2 => ⟨hm _ _ _ (hu k j r t h1 h2).1, (hu k j r t h1 h2).2⟩) ih
  | agg cs vs h h1 _ ih => exact .agg cs vs h h1 ih
  | tup cs vs h _ ih => exact .tup cs vs h ih
  | tp cs b off u hu _ ih => exact .tp cs b off u (fun j t h => ⟨hm _ _ _ (hu j t h).1, (hu j t h).2⟩) ih
  | clo f caps vs h _ ih => exact .clo f caps vs h ih

theorem Ext.refl (m : Mm) (n : Nat) : Ext m m n := ⟨fun _ _ _ h => h, fun _ _ _ => rfl⟩
theorem Ext.trans {m m' m'' : Mm} {n n' : Nat} (h : Ext m m' n) (k : Ext m' m'' n') (hn : n ≤ n') : Ext m m'' n :=
  ⟨fun b o v hv => k.1 b o v (h.1 b o v hv), fun b o hb => (k.2 b o (by omega)).trans (h.2 b o hb)⟩
theorem Sub.lt {m : Mm} {w : World} (h : Sub m w) {b o : Nat} {v : Value} (hv : m b o = some v) : b < w.heap.size := World.block_lt_of_cell? w _ (h b o v hv)
theorem Sub.lo {m : Mm} {w w' : World} (h : Sub m w) (hl : Lo w w') : Sub m w' := fun b o v hv => lo_keep hl (h b o v hv)

/-- cells as they are said -/
def CellsAre (m : Mm) (ts : List T) (vs : List Value) : Prop := vs.length = ts.length ∧ ∀ (j : Nat) t v, ts[j]? = some t → vs[j]? = some v → TR m t v ∧ v.oneCell' = true
theorem CellsAre.mono {m m' : Mm} (hm : ∀ b o v, m b o = some v → m' b o = some v) {ts : List T} {vs : List Value} (h : CellsAre m ts vs) : CellsAre m' ts vs := ⟨h.1, fun j t v h1 h2 => ⟨(h.2 j t v h1 h2).1.mono hm, (h.2 j t v h1 h2).2⟩⟩

/-- what a slot holds: data; a box's place; a row of the call's own, at its length -/
inductive A where
  | t (x : T)
  | bp (i off : Nat)
  | own (i n : Nat)
  | emp
  | oe (i n sz k off : Nat)
  | any
  | sfx (i n sz k : Nat)
  | ag (cs : List A)
  | tu (cs : List A)
  | cl (f : FuncId) (cs : List A)
  | sb (i n : Nat)
instance : Inhabited A := ⟨.any⟩
structure Own where
  e : TypeId
  sz : Nat
  rows : List (List T)
structure St where
  tm : List (Nat × A)
  bx : List (Nat × List A)
  ow : List (Nat × Own)

def get {β : Type} : List (Nat × β) → Nat → Option β
  | [], _ => none
  | (i, x) :: r, s => bif Nat.beq i s then some x else get r s

/-- how boxes and rows lie: their blocks, their values -/
structure Gh where
  gb : Nat → Nat
  go : Nat → Value
  ln : Nat → Nat
  lb : Nat → Bool
  lw : Nat → Bool
/-- rows of numbers from 1000 on are the call's alone: nothing that stays has their memory; they may be written -/
def hid (i : Nat) : Bool := Nat.ble 1000 i
def vis (i : Nat) (vs : List Value) : List Value := bif hid i then [] else vs
theorem vis_get {i : Nat} {vs : List Value} {k : Nat} {u : Value} (h : (vis i vs)[k]? = some u) : vs[k]? = some u := by
  unfold vis at h
  cases e : hid i with
  | true => rw [e] at h; simp at h
  | false => rw [e] at h; exact h
theorem vis_pre {i : Nat} {vs us : List Value} (hp : ∀ (k : Nat) u, vs[k]? = some u → us[k]? = some u) (k : Nat) (u : Value) (h : (vis i vs)[k]? = some u) : (vis i us)[k]? = some u := by
  unfold vis at *
  cases e : hid i with
  | true => rw [e] at h; simp at h
  | false => rw [e] at h; exact hp k u h
theorem vis_see {i : Nat} (h : hid i = false) (vs : List Value) : vis i vs = vs := by unfold vis; rw [h]; rfl
theorem vis_hid {i : Nat} (h : hid i = true) (vs : List Value) : vis i vs = [] := by unfold vis; rw [h]; rfl
/-- a leaf -/
def AR0 (m : Mm) (g : Gh) : A → Value → Prop
  | .t x, v => TR m x v
  | .bp i off, v => g.lb i = true ∧ v = .pointer (some ⟨g.gb i, off, none⟩)
  | .own i n, v => g.lw i = true ∧ n ≤ g.ln i ∧ (∃ A c, v = .slice A n c) ∧ (n = g.ln i → v = g.go i)
  | .emp, v => ∃ A, v = .slice A 0 0
  | .oe i n sz k off, v => g.lw i = true ∧ n ≤ g.ln i ∧ (∃ a, v = .pointer a) ∧ (n = g.ln i → ∃ b, (g.go i).ownBlock = some b ∧ v = .pointer (some ⟨b, k * sz + off, none⟩))
  | .any, _ => True
  | .sfx i n sz k, v => g.lw i = true ∧ n ≤ g.ln i ∧ (∃ A c, v = .slice A (n - k) c) ∧ (n = g.ln i → ∃ b cap, g.go i = .slice (some ⟨b, 0, none⟩) n cap ∧ v = .slice (if cap = k then some ⟨b, 0, none⟩ else some ⟨b, k * sz, none⟩) (n - k) (cap - k))
  | .sb i n, v => g.lb i = true ∧ ∃ cap, v = .slice (some ⟨g.gb i, 0, none⟩) n cap ∧ n ≤ cap ∧ cap ≤ maxLen
  | .ag _, _ => False
  | .tu _, _ => False
  | .cl _ _, _ => False
/-- leaves, or a struct or a function of leaves -/
def AR1 (m : Mm) (g : Gh) : A → Value → Prop
  | .ag cs, v => ∃ vs : Array Value, v = .agg vs ∧ vs.size = cs.length ∧ ∀ (j : Nat) x u, cs[j]? = some x → vs[j]? = some u → AR0 m g x u ∧ u.oneCell' = true
  | .cl f cs, v => ∃ vs : Array Value, v = .func (.func f) #[] vs ∧ vs.size = cs.length ∧ ∀ (j : Nat) x u, cs[j]? = some x → vs[j]? = some u → AR0 m g x u
  | .t x, v => TR m x v
  | .bp i off, v => AR0 m g (.bp i off) v
  | .own i n, v => AR0 m g (.own i n) v
  | .emp, v => AR0 m g .emp v
  | .oe i n sz k off, v => AR0 m g (.oe i n sz k off) v
  | .any, _ => True
  | .sfx i n sz k, v => AR0 m g (.sfx i n sz k) v
  | .sb i n, v => AR0 m g (.sb i n) v
  | .tu _, _ => False
def AR (m : Mm) (g : Gh) : A → Value → Prop
  | .tu cs, v => ∃ vs : Array Value, v = .tuple vs ∧ vs.size = cs.length ∧ ∀ (j : Nat) x u, cs[j]? = some x → vs[j]? = some u → AR1 m g x u
  | .t x, v => TR m x v
  | .bp i off, v => AR0 m g (.bp i off) v
  | .own i n, v => AR0 m g (.own i n) v
  | .emp, v => AR0 m g .emp v
  | .oe i n sz k off, v => AR0 m g (.oe i n sz k off) v
  | .any, _ => True
  | .sfx i n sz k, v => AR0 m g (.sfx i n sz k) v
  | .sb i n, v => AR0 m g (.sb i n) v
  | .ag cs, v => AR1 m g (.ag cs) v
  | .cl f cs, v => AR1 m g (.cl f cs) v
theorem AR0.one {m : Mm} {g : Gh} {x : A} {v : Value} (h : AR0 m g x v) : AR1 m g x v := by
  cases x <;> first | exact h | exact absurd h id
theorem AR1.two {m : Mm} {g : Gh} {x : A} {v : Value} (h : AR1 m g x v) : AR m g x v := by
  cases x <;> first | exact h | exact absurd h id
theorem AR0.two {m : Mm} {g : Gh} {x : A} {v : Value} (h : AR0 m g x v) : AR m g x v := h.one.two
/-- of a value's leaves -/
def A.all1 (p : A → Bool) : A → Bool
  | .ag cs => cs.all p
  | .cl _ cs => cs.all p
  | x => p x
def A.allP (p : A → Bool) : A → Bool
  | .tu cs => cs.all fun x => x.all1 p
  | x => x.all1 p
def A.map1 (f : A → A) : A → A
  | .ag cs => .ag (cs.map f)
  | .cl h cs => .cl h (cs.map f)
  | x => f x
def A.mapA (f : A → A) : A → A
  | .tu cs => .tu (cs.map fun x => x.map1 f)
  | x => x.map1 f
theorem AR1.mp {m m' : Mm} {g g' : Gh} (f : A → A) (p : A → Bool) (h : ∀ x v, p x = true → AR0 m g x v → AR0 m' g' (f x) v) {x : A} {v : Value} (hp : x.all1 p = true) (hx : AR1 m g x v) : AR1 m' g' (x.map1 f) v := by
  cases x with
  | ag cs =>
    obtain ⟨vs, e, h1, h2⟩ := hx
    refine ⟨vs, e, by simpa using h1, fun j x u hj hu => ?_⟩
    rw [List.getElem?_map] at hj
    cases hc : cs[j]? with
    | none => rw [hc] at hj; cases hj
    | some y =>
      rw [hc] at hj; simp at hj; subst hj
      exact ⟨h y u ((List.all_eq_true.1 hp) y (List.mem_of_getElem? hc)) (h2 j y u hc hu).1, (h2 j y u hc hu).2⟩
  | cl f' cs =>
    obtain ⟨vs, e, h1, h2⟩ := hx
    refine ⟨vs, e, by simpa using h1, fun j x u hj hu => ?_⟩
    rw [List.getElem?_map] at hj
    cases hc : cs[j]? with
    | none => rw [hc] at hj; cases hj
    | some y =>
      rw [hc] at hj; simp at hj; subst hj
      exact h y u ((List.all_eq_true.1 hp) y (List.mem_of_getElem? hc)) (h2 j y u hc hu)
  | tu cs => exact absurd hx id
  | _ => exact (h _ v hp hx).one
theorem AR.mp {m m' : Mm} {g g' : Gh} (f : A → A) (p : A → Bool) (h : ∀ x v, p x = true → AR0 m g x v → AR0 m' g' (f x) v) {x : A} {v : Value} (hp : x.allP p = true) (hx : AR m g x v) : AR m' g' (x.mapA f) v := by
  cases x with
  | tu cs =>
    obtain ⟨vs, e, h1, h2⟩ := hx
    refine ⟨vs, e, by simpa using h1, fun j x u hj hu => ?_⟩
    rw [List.getElem?_map] at hj
    cases hc : cs[j]? with
    | none => rw [hc] at hj; cases hj
    | some y =>
      rw [hc] at hj; simp at hj; subst hj
      exact (h2 j y u hc hu).mp f p h ((List.all_eq_true.1 hp) y (List.mem_of_getElem? hc))
  | ag cs => exact AR1.two (AR1.mp (x := .ag cs) f p h hp hx)
  | cl f' cs => exact AR1.two (AR1.mp (x := .cl f' cs) f p h hp hx)
  | _ => exact (h _ v hp hx).two
theorem map1_id (x : A) : x.map1 (fun y => y) = x := by cases x <;> simp [A.map1]
theorem mapA_id (x : A) : x.mapA (fun y => y) = x := by
  cases x with
  | tu cs =>
    show A.tu (cs.map fun x => x.map1 fun y => y) = .tu cs
    rw [show cs.map (fun x => x.map1 fun y => y) = cs.map id from List.map_congr_left fun x _ => map1_id x, List.map_id]
  | ag cs => exact map1_id (.ag cs)
  | cl f cs => exact map1_id (.cl f cs)
  | _ => rfl
theorem AR.lift {m m' : Mm} {g g' : Gh} (h : ∀ x v, AR0 m g x v → AR0 m' g' x v) {x : A} {v : Value} (hx : AR m g x v) : AR m' g' x v := by
  have := hx.mp (m' := m') (g' := g') (fun y => y) (fun _ => true) (fun x v _ => h x v) (by
    cases x <;> simp [A.allP, A.all1]
    intro y _; cases y <;> simp [A.all1])
  rwa [mapA_id] at this
theorem AR.liftP {m m' : Mm} {g g' : Gh} (p : A → Bool) (h : ∀ x v, p x = true → AR0 m g x v → AR0 m' g' x v) {x : A} {v : Value} (hp : x.allP p = true) (hx : AR m g x v) : AR m' g' x v := by
  have := hx.mp (m' := m') (g' := g') (fun y => y) p h hp
  rwa [mapA_id] at this
theorem AR0.mono {m m' : Mm} (hm : ∀ b o v, m b o = some v → m' b o = some v) {g : Gh} {x : A} {v : Value} (h : AR0 m g x v) : AR0 m' g x v := by
  cases x with
  | t x => exact TR.mono hm h
  | _ => exact h
theorem AR.mono {m m' : Mm} (hm : ∀ b o v, m b o = some v → m' b o = some v) {g : Gh} {x : A} {v : Value} (h : AR m g x v) : AR m' g x v := h.lift fun _ _ h => h.mono hm
/-- what a call begins with: the world, the memory that stays; blocks that are lent to it, which it may write -/
structure Ctx where
  w0 : World
  m0 : Mm
  gv : Nat → Bool
  pin : Nat → Value
  pinb : Nat → Nat
/-- nothing that was there has turned, but lent blocks -/
structure LoX (gv : Nat → Bool) (a b : World) : Prop where
  os : b.os = a.os
  tape : b.tape = a.tape
  output : b.output = a.output
  size : a.heap.size ≤ b.heap.size
  block : ∀ i, i < a.heap.size → gv i = false → b.heap[i]? = a.heap[i]?
theorem LoX.grown {gv : Nat → Bool} {a b c : World} {row : Option Nat} (h : LoX gv a b) (hg : b.grownBy c row) (hr : ∀ k, row = some k → a.heap.size ≤ k ∨ gv k = true) : LoX gv a c :=
  ⟨hg.os.trans h.os, hg.tape.trans h.tape, hg.output.trans h.output, Nat.le_trans h.size hg.size, fun i hi hgv => (hg.block i (Nat.lt_of_lt_of_le hi h.size) (fun e => by
    rcases hr i e.symm with h1 | h1
    · omega
    · rw [hgv] at h1; cases h1)).trans (h.block i hi hgv)⟩
theorem LoX.trans {gv : Nat → Bool} {a b c : World} (h : LoX gv a b) (k : Lo b c) : LoX gv a c := h.grown (Lo.grownBy k none) (fun _ h => by cases h)
theorem LoX.of_lo {gv : Nat → Bool} {a b : World} (h : Lo a b) : LoX gv a b := LoX.trans ⟨rfl, rfl, rfl, Nat.le_refl _, fun _ _ _ => rfl⟩ h
theorem LoX.lo {gv : Nat → Bool} {a b : World} (h : LoX gv a b) (hg : ∀ i, gv i = false) : Lo a b := Lo.of_grown ⟨h.os, h.tape, h.output, h.size, fun i hi _ => h.block i hi (hg i)⟩
/-- what stays grows: of old memory only lent blocks' -/
structure ExtX (gv : Nat → Bool) (m m' : Mm) (n : Nat) : Prop where
  keep : ∀ b o v, m b o = some v → m' b o = some v
  old : ∀ b o, b < n → gv b = false → m' b o = m b o
theorem ExtX.trans {gv : Nat → Bool} {m m' m'' : Mm} {n n' : Nat} (h : ExtX gv m m' n) (k : Ext m' m'' n') (hn : n ≤ n') : ExtX gv m m'' n :=
  ⟨fun b o v hv => k.1 b o v (h.keep b o v hv), fun b o hb hg => (k.2 b o (by omega)).trans (h.old b o hb hg)⟩
theorem ExtX.refl (gv : Nat → Bool) (m : Mm) (n : Nat) : ExtX gv m m n := ⟨fun _ _ _ h => h, fun _ _ _ _ => rfl⟩
theorem ExtX.ext {gv : Nat → Bool} {m m' : Mm} {n : Nat} (h : ExtX gv m m' n) (hg : ∀ b, gv b = false) : Ext m m' n := ⟨h.keep, fun b o hb => h.old b o hb (hg b)⟩
/-- a block that may be written -/
def Ctx.mine (C : Ctx) (b : Nat) : Prop := C.w0.heap.size ≤ b ∨ C.gv b = true

/-- no cell below n is frozen -/
def FzOk (fz : Nat × Nat) (n : Nat) : Prop := fz.2 = 0 ∨ n ≤ fz.1
/-- a row of the call's own in a block of its own: perhaps one that was made of a string (the cell behind its last one is marked) -/
def RowM (w : World) (base : Nat) (e : TypeId) (size : Nat) (v : Value) (n : Nat) (xs : List Value) : Prop :=
  xs.length = n * size ∧
  ((v = .slice none 0 0 ∧ n = 0) ∨
   ∃ g cap cur, v = .slice (some ⟨g, 0, none⟩) n cap ∧ base ≤ g ∧ (∃ fz, w.heap[g]? = some (.cells cur e fz) ∧ FzOk fz cur.size) ∧ n ≤ cap ∧ cap ≤ maxLen ∧ cap * size ≤ cur.size ∧ cur.toList.take (n * size) = xs)
theorem RowM.of {w : World} {base : Nat} {e : TypeId} {size : Nat} {v : Value} {n : Nat} {xs : List Value} (h : w.ownsRow base e size v n xs) : RowM w base e size v n xs := by
  obtain ⟨h1, h2 | ⟨g, cap, cur, h3, h4, h5, h6, h7, h8, h9⟩⟩ := h
  · exact ⟨h1, .inl h2⟩
  · exact ⟨h1, .inr ⟨g, cap, cur, h3, h4, ⟨(0, 0), h5, .inl rfl⟩, h6, h7, Nat.le_of_eq h8.symm, h9⟩⟩
section
variable {w : World} {base : Nat} {e : TypeId} {size : Nat} {v : Value} {n : Nat} {xs : List Value}
theorem RowM.lt (h : RowM w base e size v n xs) : ∀ k, v.ownBlock = some k → base ≤ k ∧ k < w.heap.size := by
  intro k hk
  rcases h.2 with ⟨rfl, _⟩ | ⟨g, cap, cur, rfl, hb, ⟨fz, hg, _⟩, _⟩
  · simp [Value.ownBlock] at hk
  · simp [Value.ownBlock] at hk
    subst hk
    exact ⟨hb, (Array.getElem?_eq_some_iff.1 hg).1⟩
theorem RowM.kept {w' : World} {row : Option Nat} (h : RowM w base e size v n xs) (hg : w.grownBy w' row) (hne : v.ownBlock = none ∨ v.ownBlock ≠ row) : RowM w' base e size v n xs := by
  refine ⟨h.1, ?_⟩
  rcases h.2 with hn | ⟨g, cap, cur, rfl, hb, ⟨fz, hgg, hf⟩, rest⟩
  · exact .inl hn
  · refine .inr ⟨g, cap, cur, rfl, hb, ⟨fz, ?_, hf⟩, rest⟩
    rw [hg.block g (Array.getElem?_eq_some_iff.1 hgg).1 (by simpa [Value.ownBlock] using hne)]
    exact hgg
theorem RowM.cells (h : RowM w base e size v n xs) {g : Nat} (hg : v.ownBlock = some g) : ∀ (j : Nat) u, xs[j]? = some u → w.cell? ((⟨g, 0, none⟩ : Addr).add j) = some u := by
  intro j u hu
  rcases h.2 with ⟨rfl, _⟩ | ⟨g', cap, cur, rfl, _, ⟨fz, hgg, _⟩, _, _, _, htake⟩
  · simp [Value.ownBlock] at hg
  · simp [Value.ownBlock] at hg
    subst hg
    have hadd : (⟨g', 0, none⟩ : Addr).add j = ⟨g', j, none⟩ := by unfold Addr.add; split <;> simp_all
    rw [hadd, cell_of_row w g' j cur e fz hgg]
    rw [← htake, List.getElem?_take] at hu
    split at hu
    · simpa using hu
    · cases hu
theorem RowM.lo {w' : World} (h : RowM w base e size v n xs) (hl : Lo w w') : RowM w' base e size v n xs := by
  refine h.kept (hl.grownBy none) ?_
  cases hv : v.ownBlock with
  | none => exact .inl rfl
  | some g => exact .inr (by simp)
theorem RowM.low {b' : Nat} (h : RowM w base e size v n xs) (hb : b' ≤ base) : RowM w b' e size v n xs := by
  obtain ⟨hl, h0 | ⟨g, cap, cur, hv, hg, r⟩⟩ := h
  · exact ⟨hl, .inl h0⟩
  · exact ⟨hl, .inr ⟨g, cap, cur, hv, Nat.le_trans hb hg, r⟩⟩
end
/-- a box is cells, or an iterator over a text (numbers from 1000 on), or a channel (from 1100 on, lent ones from 3000 on) -/
structure Tag where
  ty : TypeId
  cap : Nat
  sent : Nat
  recv : Nat
def itB (i : Nat) : Bool := Nat.ble 1000 i && Nat.blt i 1100
def chB (i : Nat) : Bool := (Nat.ble 1100 i && Nat.blt i 1900) || Nat.ble 3000 i
/-- a row seen as a box: the block may have more cells -/
def wnB (i : Nat) : Bool := Nat.ble 1900 i && Nat.blt i 2000
def cellB (i : Nat) : Bool := !(itB i) && !(chB i) && !(wnB i)
def itOf : List Value → Tag → Obj
  | [.string s, .int .i64 p], _ => .stringIter s p.toNat
  | vs, t => .cells vs.toArray t.ty (0, 0)
def fzOf (i n : Nat) (t : Tag) : Nat × Nat := bif wnB i then (bif Nat.beq t.cap 0 then (t.sent, 0) else (n + t.sent, t.recv)) else (0, 0)
def obOf (i : Nat) (vs : Array Value) (t : Tag) : Obj := bif itB i then itOf vs.toList t else bif chB i then .chan t.cap vs false t.sent t.recv false else .cells vs t.ty (fzOf i vs.size t)
theorem ob_cells {i : Nat} (h : cellB i = true) (vs : Array Value) (t : Tag) : obOf i vs t = .cells vs t.ty (0, 0) := by
  unfold cellB at h
  unfold obOf
  unfold fzOf
  cases h1 : itB i <;> cases h2 : chB i <;> cases h3 : wnB i <;> rw [h1, h2, h3] at h <;> first | rfl | (simp at h)
theorem ob_win {i : Nat} (h : wnB i = true) (vs : Array Value) (t : Tag) : obOf i vs t = .cells vs t.ty (fzOf i vs.size t) := by
  have h1 : 1900 ≤ i ∧ i < 2000 := by unfold wnB at h; simpa [Nat.blt_eq] using h
  have h2 : itB i = false := by rw [Bool.eq_false_iff]; intro h; unfold itB at h; simp [Nat.blt_eq] at h; omega
  have h3 : chB i = false := by rw [Bool.eq_false_iff]; intro h; unfold chB at h; simp [Nat.blt_eq] at h; omega
  unfold obOf; rw [h2, h3]; rfl
/-- how many cells a box has -/
def BxSz (i n k : Nat) : Prop := k ≤ n ∧ (wnB i = false → n = k)
theorem BxSz.of {i n k : Nat} (h : n = k) : BxSz i n k := ⟨by omega, fun _ => h⟩
theorem BxSz.cell {i n k : Nat} (h : BxSz i n k) (hq : cellB i = true) : n = k := h.2 (by unfold cellB at hq; simp at hq; exact hq.2)
theorem BxSz.kd {i j n k : Nat} (h : BxSz i n k) (hw : wnB j = wnB i) : BxSz j n k := ⟨h.1, fun hj => h.2 (by rw [← hw]; exact hj)⟩
theorem ob_kd {i j : Nat} (h1 : itB j = itB i) (h2 : chB j = chB i) (h3 : wnB j = wnB i) (vs : Array Value) (t : Tag) : obOf j vs t = obOf i vs t := by
  unfold obOf fzOf; rw [h1, h2, h3]
/-- the memory that stays has the program's tables -/
def GT (m : Mm) : Prop := ∀ b o v, tabC b o = some v → m b o = some v
/-- boxes and rows as they are said -/
structure EnvG (C : Ctx) (bx : List (Nat × List A)) (ow : List (Nat × Own)) (w : World) (m : Mm) (g : Gh) : Prop where
  lo : LoX C.gv C.w0 w
  gm : ∀ b o, C.gv b = true → C.m0 b o = none
  sub : Sub m w
  ext : ExtX C.gv C.m0 m C.w0.heap.size
  gt : GT m
  lb : ∀ i, g.lb i = (get bx i).isSome
  lw : ∀ i, g.lw i = (get ow i).isSome
  ln : ∀ i o, get ow i = some o → g.ln i = o.rows.length
  boxes : ∀ i cs, get bx i = some cs → ∃ (vs : Array Value) (ty : Tag), w.heap[g.gb i]? = some (obOf i vs ty) ∧ BxSz i vs.size cs.length ∧ (∀ (j : Nat) x v, cs[j]? = some x → vs[j]? = some v → AR m g x v ∧ v.oneCell' = true) ∧ C.mine (g.gb i) ∧ ∀ o, m (g.gb i) o = none
  inj : ∀ i j ci cj, get bx i = some ci → get bx j = some cj → g.gb i = g.gb j → i = j
  owns : ∀ i o, get ow i = some o → ∃ vs : List Value, RowM w 0 o.e o.sz (g.go i) o.rows.length vs ∧ (∀ r ∈ o.rows, r.length = o.sz) ∧
    CellsAre m o.rows.flatten vs ∧ ∀ b, (g.go i).ownBlock = some b → (∀ k, m b k = (vis i vs)[k]?) ∧ (∀ j cs, get bx j = some cs → g.gb j ≠ b) ∧ C.mine b
  apart : ∀ i j oi oj, get ow i = some oi → get ow j = some oj → i ≠ j → ∀ b, (g.go i).ownBlock = some b → (g.go j).ownBlock ≠ some b
  pin : ∀ i o, get ow i = some o → Nat.ble 2000 i = true → g.go i = C.pin i
  pinb : ∀ i cs, get bx i = some cs → Nat.ble 2000 i = true → g.gb i = C.pinb i

structure RelG (C : Ctx) (N : Nat) (st : St) (a : Act) (w : World) (m : Mm) (g : Gh) : Prop where
  env : EnvG C st.bx st.ow w m g
  size : a.tmps.size = N
  defers : a.defers = []
  tmps : ∀ s x, get st.tm s = some x → AR m g x (a.eval (.tmp s))
def Rel (C : Ctx) (N : Nat) (st : St) (a : Act) (w : World) : Prop := ∃ m g, RelG C N st a w m g

theorem EnvG.step {C : Ctx} {bx : List (Nat × List A)} {ow : List (Nat × Own)} {w w' : World} {m m' : Mm} {g : Gh} (h : EnvG C bx ow w m g) (hl : Lo w w') (he : Ext m m' w.heap.size) (hs : Sub m' w') : EnvG C bx ow w' m' g where
  lo := h.lo.trans hl
  gm := h.gm
  sub := hs
  ext := h.ext.trans he h.lo.size
  gt := fun b o v ht => he.1 b o v (h.gt b o v ht)
  lb := h.lb
  lw := h.lw
  ln := h.ln
  boxes := fun i cs hi => by
    obtain ⟨vs, ty, h1, h2, h3, h4, h5⟩ := h.boxes i cs hi
    exact ⟨vs, ty, cells_lo' h1 hl, h2, fun j x v hx hv => ⟨(h3 j x v hx hv).1.mono he.1, (h3 j x v hx hv).2⟩, h4, fun o => by rw [he.2 _ _ (block_lt h1)]; exact h5 o⟩
  inj := h.inj
  owns := fun i o hi => by
    obtain ⟨vs, h1, h2, h3, h4⟩ := h.owns i o hi
    refine ⟨vs, h1.lo hl, h2, h3.mono he.1, fun b hb => ?_⟩
    obtain ⟨h5, h6⟩ := h4 b hb
    refine ⟨fun k => ?_, h6⟩
    rw [he.2 _ _ (h1.lt b hb).2]; exact h5 k
  apart := h.apart
  pin := h.pin
  pinb := h.pinb
where
  cells_lo' {w w' : World} {g : Nat} {ob : Obj} (h : w.heap[g]? = some ob) (hl : Lo w w') : w'.heap[g]? = some ob := (Below.block hl g (block_lt h)).trans h

theorem eval_put_same {a : Act} {d N : Nat} (v : Value) (hN : a.tmps.size = N) (hd : d < N) : (a.put (some d) v).eval (.tmp d) = v := by
  show (a.tmps.setIfInBounds d v).getD d undef = v
  rw [Array.getD_eq_getD_getElem?, Array.getElem?_setIfInBounds, if_pos rfl, if_pos (by omega)]; rfl
theorem eval_put_other {a : Act} {d s : Nat} (v : Value) (h : d ≠ s) : (a.put (some d) v).eval (.tmp s) = a.eval (.tmp s) := by
  show (a.tmps.setIfInBounds d v).getD s undef = a.tmps.getD s undef
  rw [Array.getD_eq_getD_getElem?, Array.getD_eq_getD_getElem?, Array.getElem?_setIfInBounds]; simp [h]
theorem size_put {a : Act} (d : Option Tmp) (v : Value) : (a.put d v).tmps.size = a.tmps.size := by
  cases d <;> simp [Act.put]
theorem get_cons {β : Type} {i s : Nat} {x : β} {r : List (Nat × β)} : get ((i, x) :: r) s = if i = s then some x else get r s := by
  show (bif Nat.beq i s then some x else get r s) = _
  cases h : Nat.beq i s with
  | true => rw [if_pos (Nat.eq_of_beq_eq_true h)]; rfl
  | false => rw [if_neg (Nat.ne_of_beq_eq_false h)]; rfl

/-- the new value of a slot -/
theorem RelG.put {C : Ctx} {N : Nat} {tm : List (Nat × A)} {bx bx' : List (Nat × List A)} {ow ow' : List (Nat × Own)} {a : Act} {w w' : World} {m m' : Mm} {g g' : Gh} (h : RelG C N ⟨tm, bx, ow⟩ a w m g) (he : EnvG C bx' ow' w' m' g') (hk : ∀ x v, AR m g x v → AR m' g' x v) {d : Nat} {x : A} {v : Value} (hd : d < N) (hv : AR m' g' x v) :
    RelG C N ⟨(d, x) :: tm, bx', ow'⟩ (a.put (some d) v) w' m' g' where
  env := he
  size := by rw [size_put]; exact h.size
  defers := h.defers
  tmps := fun s y hs => by
    rw [get_cons] at hs
    by_cases hds : d = s
    · rw [if_pos hds] at hs
      injection hs with hs; subst hs hds
      rw [eval_put_same v h.size hd]; exact hv
    · rw [if_neg hds] at hs
      rw [eval_put_other v hds]
      exact hk _ _ (h.tmps s y hs)
theorem RelG.put_none {C : Ctx} {N : Nat} {tm : List (Nat × A)} {bx bx' : List (Nat × List A)} {ow ow' : List (Nat × Own)} {a : Act} {w w' : World} {m m' : Mm} {g g' : Gh} (h : RelG C N ⟨tm, bx, ow⟩ a w m g) (he : EnvG C bx' ow' w' m' g') (hk : ∀ x v, AR m g x v → AR m' g' x v) {v : Value} :
    RelG C N ⟨tm, bx', ow'⟩ (a.put none v) w' m' g' :=
  ⟨he, h.size, h.defers, fun s y hs => hk _ _ (h.tmps s y hs)⟩

def Good (C : Ctx) (N : Nat) (Q : Exit → St → Prop) : Exit → Act → World → Prop := fun e a w => ∃ st, Rel C N st a w ∧ Q e st
structure SWp (P : Program) (N : Nat) (c : Code) (Q : Exit → St → Prop) (st : St) : Prop where
  go : ∀ C a w, Rel C N st a w → c.wp P (Good C N Q) a w
structure SOps (P : Program) (N : Nat) (ops : Array Oper) (Q : Exit → St → Prop) (l : List Oper) (st : St) : Prop where
  go : ∀ C a w, Rel C N st a w → wpList P ops (Good C N Q) l a w
def thenF (P : Program) (N : Nat) (c : Code) (Q : Exit → St → Prop) : Exit → St → Prop
  | .normal, st => SWp P N c Q st
  | e, st => Q e st
structure Then (P : Program) (N : Nat) (c : Code) (Q : Exit → St → Prop) (e : Exit) (st : St) : Prop where
  go : thenF P N c Q e st
def blockF (id : Nat) (Q : Exit → St → Prop) : Exit → St → Prop
  | .exit id', st => if id' = id then Q .normal st else Q (.exit id') st
  | e, st => Q e st
structure InBlock (id : Nat) (Q : Exit → St → Prop) (e : Exit) (st : St) : Prop where
  go : blockF id Q e st

section
variable {P : Program} {N : Nat} {Q : Exit → St → Prop} {st : St}
theorem swp_skip (h : Q .normal st) : SWp P N .skip Q st := .mk fun C a w hr => wp_skip ⟨st, hr, h⟩
theorem swp_exit {id : Nat} (h : Q (.exit id) st) : SWp P N (.exit id) Q st := .mk fun C a w hr => wp_exit ⟨st, hr, h⟩
theorem swp_ret (h : Q .ret st) : SWp P N .ret Q st := .mk fun C a w hr => wp_ret ⟨st, hr, h⟩
theorem swp_seq {x y : Code} (h : SWp P N x (Then P N y Q) st) : SWp P N (.seq x y) Q st := .mk fun C a w hr =>
  wp_seq (Code.wp_mono (fun e a' w' ⟨st', hr', hq⟩ => by
    cases e with
    | normal => exact (show SWp P N y Q st' from hq.go).go C a' w' hr'
    | _ => exact ⟨st', hr', hq.go⟩) (h.go C a w hr))
theorem swp_block {id : Nat} {c : Code} (h : SWp P N c (InBlock id Q) st) : SWp P N (.block id c) Q st := .mk fun C a w hr =>
  wp_block (Code.wp_mono (fun e a' w' ⟨st', hr', hq⟩ => by
    cases e with
    | exit id' =>
      show if id' = id then _ else _
      by_cases hid : id' = id
      · have hq' : (if id' = id then Q .normal st' else Q (.exit id') st') := hq.go
        rw [if_pos hid] at hq' ⊢
        exact ⟨st', hr', hq'⟩
      · have hq' : (if id' = id then Q .normal st' else Q (.exit id') st') := hq.go
        rw [if_neg hid] at hq' ⊢
        exact ⟨st', hr', hq'⟩
    | _ => exact ⟨st', hr', hq.go⟩) (h.go C a w hr))
/-- what is forgotten -/
structure Weak (N : Nat) (st st' : St) : Prop where
  go : ∀ C a w, Rel C N st a w → Rel C N st' a w
theorem Weak.refl {st : St} : Weak N st st := .mk fun _ _ _ h => h
theorem Weak.trans {a b c : St} (h : Weak N a b) (k : Weak N b c) : Weak N a c := .mk fun C x w hr => k.go C x w (h.go C x w hr)
theorem swp_weak {c : Code} {st' : St} (hw : Weak N st st') (h : SWp P N c Q st') : SWp P N c Q st := .mk fun C a w hr => h.go C a w (hw.go C a w hr)
theorem sops_weak {ops : Array Oper} {l : List Oper} {st' : St} (hw : Weak N st st') (h : SOps P N ops Q l st') : SOps P N ops Q l st := .mk fun C a w hr => h.go C a w (hw.go C a w hr)
def forF (N : Nat) (S : Nat → St) (I : Nat → Prop) (n k : Nat) (Q : Exit → St → Prop) : Exit → St → Prop
  | .normal, s' => k < n ∧ I (k + 1) ∧ Weak N s' (S (k + 1))
  | e, s' => Q e s'
structure ForQ (N : Nat) (S : Nat → St) (I : Nat → Prop) (n k : Nat) (Q : Exit → St → Prop) (e : Exit) (s' : St) : Prop where
  go : forF N S I n k Q e s'
/-- a loop whose rounds are numbered -/
theorem swp_for {c : Code} (S : Nat → St) (I : Nat → Prop) (n : Nat) (h0 : Weak N st (S 0)) (hI : I 0) (hround : ∀ k, k ≤ n → I k → SWp P N c (ForQ N S I n k Q) (S k)) : SWp P N (.loop c) Q st := by
  refine .mk fun C a w hr => ?_
  have key : ∀ d k a w, n - k = d → k ≤ n → I k → Rel C N (S k) a w → ∀ (b : Frame) (kk : List Item) (cs : List Frame), ∃ e a' w', Good C N Q e a' w' ∧ Arrives P (lone (b.at a (.code c :: .inLoop c :: kk)) cs w) b kk cs e a' w' := by
    intro d
    induction d with
    | zero =>
      intro k a w hn hk hi hr b kk cs
      obtain ⟨e, a1, w1, ⟨s1, hr1, hq⟩, harr⟩ := (hround k hk hi).go C a w hr b (.inLoop c :: kk) cs
      cases e with
      | normal => obtain ⟨h1, h3, h2⟩ := hq.go; omega
      | exit id => exact ⟨_, a1, w1, ⟨s1, hr1, hq.go⟩, .pass (x := .inLoop c) rfl (fun _ _ => .inl (by simp)) harr⟩
      | goto l => exact ⟨_, a1, w1, ⟨s1, hr1, hq.go⟩, .pass (x := .inLoop c) rfl (fun _ _ => .inl (by simp)) harr⟩
      | ret => exact ⟨_, a1, w1, ⟨s1, hr1, hq.go⟩, .pass (x := .inLoop c) rfl (fun _ _ => .inl (by simp)) harr⟩
      | panic ch => exact ⟨_, a1, w1, ⟨s1, hr1, hq.go⟩, .pass (x := .inLoop c) rfl (fun _ _ => .inl (by simp)) harr⟩
      | outgrown => exact ⟨_, a1, w1, ⟨s1, hr1, hq.go⟩, .pass (x := .inLoop c) rfl (fun _ _ => .inl (by simp)) harr⟩
    | succ d ih =>
      intro k a w hn hk hi hr b kk cs
      obtain ⟨e, a1, w1, ⟨s1, hr1, hq⟩, harr⟩ := (hround k hk hi).go C a w hr b (.inLoop c :: kk) cs
      cases e with
      | normal =>
        obtain ⟨h1, h3, h2⟩ := hq.go
        obtain ⟨e2, a2, w2, hq2, harr2⟩ := ih (k + 1) a1 w1 (by omega) (by omega) h3 (h2.go C a1 w1 hr1) b kk cs
        exact ⟨e2, a2, w2, hq2, .of_steps (Steps.trans harr (.one step_inLoop)) harr2⟩
      | exit id => exact ⟨_, a1, w1, ⟨s1, hr1, hq.go⟩, .pass (x := .inLoop c) rfl (fun _ _ => .inl (by simp)) harr⟩
      | goto l => exact ⟨_, a1, w1, ⟨s1, hr1, hq.go⟩, .pass (x := .inLoop c) rfl (fun _ _ => .inl (by simp)) harr⟩
      | ret => exact ⟨_, a1, w1, ⟨s1, hr1, hq.go⟩, .pass (x := .inLoop c) rfl (fun _ _ => .inl (by simp)) harr⟩
      | panic ch => exact ⟨_, a1, w1, ⟨s1, hr1, hq.go⟩, .pass (x := .inLoop c) rfl (fun _ _ => .inl (by simp)) harr⟩
      | outgrown => exact ⟨_, a1, w1, ⟨s1, hr1, hq.go⟩, .pass (x := .inLoop c) rfl (fun _ _ => .inl (by simp)) harr⟩
  intro b k cs
  obtain ⟨e, a', w', hq, harr⟩ := key _ 0 a w rfl (Nat.zero_le _) hI (h0.go C a w hr) b k cs
  exact ⟨e, a', w', hq, .of_steps (.one step_loop) harr⟩
end
end Go.Proofs.Ytnclifgiakmmoaa.Sim

/- A logic of states: operations that add and turn nothing, in order and in any order. -/
namespace Go.Proofs.Ytnclifgiakmmoaa.Sim
set_option linter.unusedVariables false
set_option linter.unusedSimpArgs false
open Go.RowKit Mem

def evA (tm : List (Nat × A)) : Operand → Option A
  | .tmp s => get tm s
  | .const v => some (.t (.v v))
  | .func f => some (.t (.v (.func (.func f) #[] #[])))
  | .global _ => none
theorem RelG.ev {C : Ctx} {N : Nat} {st : St} {a : Act} {w : World} {m : Mm} {g : Gh} (h : RelG C N st a w m g) {x : Operand} {y : A} (hx : evA st.tm x = some y) : AR m g y (a.eval x) := by
  cases x with
  | tmp s => exact h.tmps s y hx
  | const v => injection hx with hx; subst hx; exact .v v
  | func f => injection hx with hx; subst hx; exact .v _
  | global i => cases hx

/-- the operation hands back r, adds, and turns nothing -/
structure PureOp (P : Program) (bx : List (Nat × List A)) (ow : List (Nat × Own)) (o : Oper) (ρ : Operand → Option A) (r : A) : Prop where
  go : ∀ (C : Ctx) (m : Mm) (g : Gh) (w : World) (a : Act) (Q : Exit → Act → World → Prop), EnvG C bx ow w m g → (∀ x ∈ o.op.operands.toList, ∀ y, ρ x = some y → AR m g y (a.eval x)) →
    o.wp P a w (fun a' w' => ∃ v m', a' = a.put o.dst v ∧ Lo w w' ∧ Ext m m' w.heap.size ∧ Sub m' w' ∧ AR m' g r v) Q

inductive GuardIs (ops : Array Oper) (tm : List (Nat × A)) (o : Oper) (on : Bool) : Prop
  | free (h : o.guard = none) (h1 : on = true) : GuardIs ops tm o on
  | on (j : Nat) (want : Bool) (e : Nat) (b : Bool) (h : o.guard = some (j, want)) (hj : dstOf ops j = some e) (hs : get tm e = some (.t (.v (.bool b)))) (h1 : (b == want) = on) : GuardIs ops tm o on
  | und (j : Nat) (want : Bool) (e : Nat) (h : o.guard = some (j, want)) (hj : dstOf ops j = some e) (hs : get tm e = some (.t (.v undef))) (h1 : on = false) : GuardIs ops tm o on
theorem GuardIs.nou {ops : Array Oper} {tm : List (Nat × A)} {o : Oper} {j e : Nat} {want : Bool} (h : o.guard = some (j, want)) (hj : dstOf ops j = some e) (hs : get tm e = some (.t (.v undef))) : GuardIs ops tm o false := .und j want e h hj hs rfl
theorem tr_undef {m : Mm} {v : Value} (h : TR m (.v undef) v) : v = undef := by cases h; rfl
theorem wanted_und {ops : Array Oper} {o : Oper} {a : Act} {j d : Nat} {want : Bool} (hg : o.guard = some (j, want)) (hd : dstOf ops j = some d) (hv : a.eval (.tmp d) = undef) : Region.wanted o (yielded ops a.tmps) = false := by
  have hv' : a.tmps.getD d undef = undef := hv
  unfold Region.wanted
  rw [hg]
  simp only
  have : yielded ops a.tmps j = none := by
    unfold yielded
    unfold dstOf at hd
    rw [hd]
    simp only [Option.bind_some]
    rw [Array.getD_eq_getD_getElem?] at hv'
    cases h : a.tmps[d]? with
    | none => rfl
    | some x => rw [h] at hv'; simp only [Option.getD_some] at hv'; rw [hv']; rfl
  rw [this]
  cases want <;> rfl
theorem GuardIs.yes {ops : Array Oper} {tm : List (Nat × A)} {o : Oper} {j e : Nat} {want b : Bool} (h : o.guard = some (j, want)) (hj : dstOf ops j = some e) (hs : get tm e = some (.t (.v (.bool b)))) (h1 : b = want) : GuardIs ops tm o true := .on j want e b h hj hs (by simp [h1])
theorem GuardIs.no {ops : Array Oper} {tm : List (Nat × A)} {o : Oper} {j e : Nat} {want b : Bool} (h : o.guard = some (j, want)) (hj : dstOf ops j = some e) (hs : get tm e = some (.t (.v (.bool b)))) (h1 : b = !want) : GuardIs ops tm o false := .on j want e b h hj hs (by subst h1; cases want <;> rfl)
theorem GuardIs.no1 {ops : Array Oper} {tm : List (Nat × A)} {o : Oper} {j e : Nat} {b : Bool} (h : o.guard = some (j, true)) (hj : dstOf ops j = some e) (hs : get tm e = some (.t (.v (.bool b)))) (h1 : b = false) : GuardIs ops tm o false := .no h hj hs h1
theorem GuardIs.no0 {ops : Array Oper} {tm : List (Nat × A)} {o : Oper} {j e : Nat} {b : Bool} (h : o.guard = some (j, false)) (hj : dstOf ops j = some e) (hs : get tm e = some (.t (.v (.bool b)))) (h1 : b = true) : GuardIs ops tm o false := .no h hj hs h1
theorem tr_bool {m : Mm} {b : Bool} {v : Value} (h : TR m (.v (.bool b)) v) : v = .bool b := by cases h; rfl
theorem GuardIs.wanted {ops : Array Oper} {tm : List (Nat × A)} {o : Oper} {on : Bool} (h : GuardIs ops tm o on) {a : Act} {m : Mm} {g : Gh} (ha : ∀ j want e, o.guard = some (j, want) → dstOf ops j = some e → ∀ y, get tm e = some y → AR m g y (a.eval (.tmp e))) : Region.wanted o (yielded ops a.tmps) = on := by
  cases h with
  | free h h1 => rw [wanted_free h, h1]
  | on j want e b h hj hs h1 => rw [wanted_at h hj (tr_bool (ha j want e h hj _ hs)), h1]
  | und j want e h hj hs h1 => rw [wanted_und h hj (tr_undef (ha j want e h hj _ hs)), h1]

section
variable {ops : Array Oper} {tm : List (Nat × A)} {o : Oper} {j e : Nat} {want b : Bool}
theorem gy (h : o.guard = some (j, want) := by exact rfl) (hj : dstOf ops j = some e := by exact rfl) (hs : get tm e = some (.t (.v (.bool b))) := by exact rfl) (h1 : b = want := by first | assumption | with_reducible rfl | decide | (simp only [decide_eq_true_eq, decide_eq_false_iff_not]; omega)) : GuardIs ops tm o true := .yes h hj hs h1
theorem gn1 (h : o.guard = some (j, true) := by exact rfl) (hj : dstOf ops j = some e := by exact rfl) (hs : get tm e = some (.t (.v (.bool b))) := by exact rfl) (h1 : b = false := by first | assumption | with_reducible rfl | decide | (simp only [decide_eq_true_eq, decide_eq_false_iff_not]; omega)) : GuardIs ops tm o false := .no1 h hj hs h1
theorem gn0 (h : o.guard = some (j, false) := by exact rfl) (hj : dstOf ops j = some e := by exact rfl) (hs : get tm e = some (.t (.v (.bool b))) := by exact rfl) (h1 : b = true := by first | assumption | with_reducible rfl | decide | (simp only [decide_eq_true_eq, decide_eq_false_iff_not]; omega)) : GuardIs ops tm o false := .no0 h hj hs h1
end
section
variable {P : Program} {N : Nat} {Q : Exit → St → Prop} {ops : Array Oper} {rest : List Oper} {o : Oper} {tm : List (Nat × A)} {bx : List (Nat × List A)} {ow : List (Nat × Own)}
theorem sops_nil {st : St} (h : Q .normal st) : SOps P N ops Q [] st := .mk fun C a w hr => ⟨st, hr, h⟩
theorem swp_region {id : Nat} {l : List Oper} {st : St} (h : SOps P N l.toArray Q l st) : SWp P N (.region id l.toArray false) Q st := .mk fun C a w hr => wp_region_lit (h.go C a w hr)
theorem swp_cond_t {c : Operand} {x y : Code} {b : Bool} (hc : evA tm c = some (.t (.v (.bool b)))) (hb : b = true) (h : SWp P N x Q ⟨tm, bx, ow⟩) : SWp P N (.cond c x y) Q ⟨tm, bx, ow⟩ := .mk fun C a w ⟨m, g, hr⟩ => by
  subst hb; exact wp_cond_true (tr_bool (hr.ev hc)) (h.go C a w ⟨m, g, hr⟩)
theorem swp_cond_f {c : Operand} {x y : Code} {b : Bool} (hc : evA tm c = some (.t (.v (.bool b)))) (hb : b = false) (h : SWp P N y Q ⟨tm, bx, ow⟩) : SWp P N (.cond c x y) Q ⟨tm, bx, ow⟩ := .mk fun C a w ⟨m, g, hr⟩ => by
  subst hb; exact wp_cond_false (tr_bool (hr.ev hc)) (h.go C a w ⟨m, g, hr⟩)
theorem ct {c : Operand} {x y : Code} {b : Bool} (h : SWp P N x Q ⟨tm, bx, ow⟩) (hc : evA tm c = some (.t (.v (.bool b))) := by exact rfl) (hb : b = true := by first | assumption | with_reducible rfl | decide | (simp only [decide_eq_true_eq, Bool.not_eq_true', decide_eq_false_iff_not]; omega)) : SWp P N (.cond c x y) Q ⟨tm, bx, ow⟩ := swp_cond_t hc hb h
theorem cf {c : Operand} {x y : Code} {b : Bool} (h : SWp P N y Q ⟨tm, bx, ow⟩) (hc : evA tm c = some (.t (.v (.bool b))) := by exact rfl) (hb : b = false := by first | assumption | with_reducible rfl | decide | (simp only [decide_eq_false_iff_not, Bool.not_eq_false', decide_eq_true_eq]; omega)) : SWp P N (.cond c x y) Q ⟨tm, bx, ow⟩ := swp_cond_f hc hb h
theorem swp_cond {c : Operand} {x y : Code} {b : Bool} (hc : evA tm c = some (.t (.v (.bool b)))) (h1 : b = true → SWp P N x Q ⟨tm, bx, ow⟩) (h0 : b = false → SWp P N y Q ⟨tm, bx, ow⟩) : SWp P N (.cond c x y) Q ⟨tm, bx, ow⟩ := by
  cases b
  · exact swp_cond_f hc rfl (h0 rfl)
  · exact swp_cond_t hc rfl (h1 rfl)
theorem sops_pure {d : Nat} {r : A} (hg : GuardIs ops tm o true) (hd : o.dst = some d) (hN : Nat.blt d N = true) (hp : PureOp P bx ow o (evA tm) r) (h : SOps P N ops Q rest ⟨(d, r) :: tm, bx, ow⟩) : SOps P N ops Q (o :: rest) ⟨tm, bx, ow⟩ := by
  refine .mk fun C a w ⟨m, g, hr⟩ => ?_
  refine wpList_step fun K hK => ?_
  rw [if_pos (hg.wanted (m := m) (g := g) fun j want e _ _ y hy => hr.tmps e y hy)]
  refine Oper.wp_mono ?_ (hp.go C m g w a _ hr.env fun x _ y hy => hr.ev hy)
  rintro a' w' ⟨v, m', rfl, hl, he, hs, hv⟩
  refine hK _ _ (h.go C _ _ ⟨m', g, ?_⟩)
  rw [hd]
  exact hr.put (hr.env.step hl he hs) (fun x v h => h.mono he.1) (Nat.lt_of_succ_le (Nat.le_of_ble_eq_true hN)) hv
theorem sops_skip {d : Nat} (hg : GuardIs ops tm o false) (hd : o.dst = some d) (hN : Nat.blt d N = true) (h : SOps P N ops Q rest ⟨(d, .t (.v undef)) :: tm, bx, ow⟩) : SOps P N ops Q (o :: rest) ⟨tm, bx, ow⟩ := by
  refine .mk fun C a w ⟨m, g, hr⟩ => ?_
  refine wpList_step fun K hK => ?_
  rw [if_neg (by rw [hg.wanted (m := m) (g := g) fun j want e _ _ y hy => hr.tmps e y hy]; simp)]
  refine hK _ _ (h.go C _ _ ⟨m, g, ?_⟩)
  rw [hd]
  exact hr.put hr.env (fun x v h => h) (Nat.lt_of_succ_le (Nat.le_of_ble_eq_true hN)) (.v _)
theorem sops_split {j e : Nat} {want b : Bool} (hg : o.guard = some (j, want)) (hj : dstOf ops j = some e) (hs : get tm e = some (.t (.v (.bool b)))) (h1 : b = true → SOps P N ops Q (o :: rest) ⟨tm, bx, ow⟩) (h0 : b = false → SOps P N ops Q (o :: rest) ⟨tm, bx, ow⟩) : SOps P N ops Q (o :: rest) ⟨tm, bx, ow⟩ := by
  cases b
  · exact h0 rfl
  · exact h1 rfl
end

/-- operations, each once, in the text's order: what they leave in the slots -/
inductive PRun (P : Program) (bx : List (Nat × List A)) (ow : List (Nat × Own)) (ops : Array Oper) : List Oper → List (Nat × A) → List (Nat × A) → Prop
  | nil (tm : List (Nat × A)) : PRun P bx ow ops [] tm tm
  | on {o : Oper} {rest : List Oper} {tm tm' : List (Nat × A)} {d : Nat} {r : A} (hg : GuardIs ops tm o true) (hd : o.dst = some d) (hp : PureOp P bx ow o (evA tm) r) (h : PRun P bx ow ops rest ((d, r) :: tm) tm') : PRun P bx ow ops (o :: rest) tm tm'
  | off {o : Oper} {rest : List Oper} {tm tm' : List (Nat × A)} {d : Nat} (hg : GuardIs ops tm o false) (hd : o.dst = some d) (h : PRun P bx ow ops rest ((d, .t (.v undef)) :: tm) tm') : PRun P bx ow ops (o :: rest) tm tm'
structure SDraw (P : Program) (N : Nat) (bx : List (Nat × List A)) (ow : List (Nat × Own)) (ops : Array Oper) (Q : Exit → St → Prop) (tail l : List Oper) (tm : List (Nat × A)) : Prop where
  go : ∃ tm', PRun P bx ow ops l tm tm' ∧ SOps P N ops Q tail ⟨tm', bx, ow⟩
section
variable {P : Program} {N : Nat} {Q : Exit → St → Prop} {ops : Array Oper} {rest tail : List Oper} {o : Oper} {tm : List (Nat × A)} {bx : List (Nat × List A)} {ow : List (Nat × Own)}
theorem sdraw_nil (h : SOps P N ops Q tail ⟨tm, bx, ow⟩) : SDraw P N bx ow ops Q tail [] tm := ⟨⟨tm, .nil tm, h⟩⟩
theorem sdraw_pure {d : Nat} {r : A} (hg : GuardIs ops tm o true) (hd : o.dst = some d) (hp : PureOp P bx ow o (evA tm) r) (h : SDraw P N bx ow ops Q tail rest ((d, r) :: tm)) : SDraw P N bx ow ops Q tail (o :: rest) tm := by
  obtain ⟨tm', h1, h2⟩ := h; exact ⟨⟨tm', .on hg hd hp h1, h2⟩⟩
end

def slotsOf (o : Oper) : List Nat := o.op.operands.toList.filterMap fun x => match x with | .tmp s => some s | _ => none
def depsB (ops : Array Oper) (n : Nat) : Bool := (List.range n).all fun i => match ops[i]? with
  | none => false
  | some o => ((slotsOf o).all fun s => match writer ops s with | none => true | some j => (decide (j < i) && (deps ops i).contains j) || decide (n ≤ j)) &&
    (match o.guard with | none => true | some (j, _) => decide (j < i) && (deps ops i).contains j)

theorem prun_at {P : Program} {bx : List (Nat × List A)} {ow : List (Nat × Own)} {ops : Array Oper} {l : List Oper} {tm tm' : List (Nat × A)} (h : PRun P bx ow ops l tm tm') : ∃ (val : Nat → A) (tms : Nat → List (Nat × A)), tms 0 = tm ∧ tms l.length = tm' ∧
    ∀ (i : Nat) o, l[i]? = some o → ∃ d, o.dst = some d ∧ tms (i + 1) = (d, val i) :: tms i ∧ ((GuardIs ops (tms i) o true ∧ PureOp P bx ow o (evA (tms i)) (val i)) ∨ (GuardIs ops (tms i) o false ∧ val i = .t (.v undef))) := by
  induction h with
  | nil tm => exact ⟨fun _ => default, fun _ => tm, rfl, rfl, fun i o h => by simp at h⟩
  | @on o rest tm tm' d r hg hd hp _ ih =>
    obtain ⟨val, tms, h0, h1, h2⟩ := ih
    refine ⟨fun i => match i with | 0 => r | i + 1 => val i, fun i => match i with | 0 => tm | i + 1 => tms i, rfl, h1, ?_⟩
    intro i o' ho
    cases i with
    | zero => simp at ho; subst ho; exact ⟨d, hd, h0, .inl ⟨hg, hp⟩⟩
    | succ i => simp at ho; exact h2 i o' ho
  | @off o rest tm tm' d hg hd _ ih =>
    obtain ⟨val, tms, h0, h1, h2⟩ := ih
    refine ⟨fun i => match i with | 0 => .t (.v undef) | i + 1 => val i, fun i => match i with | 0 => tm | i + 1 => tms i, rfl, h1, ?_⟩
    intro i o' ho
    cases i with
    | zero => simp at ho; subst ho; exact ⟨d, hd, h0, .inr ⟨hg, rfl⟩⟩
    | succ i => simp at ho; exact h2 i o' ho
theorem tms_get {ops : Array Oper} {val : Nat → A} {tms : Nat → List (Nat × A)} {n : Nat} (h : ∀ i, i < n → ∃ d, dstOf ops i = some d ∧ tms (i + 1) = (d, val i) :: tms i) : ∀ i, i ≤ n → ∀ s x, get (tms i) s = some x → (∃ j, j < i ∧ dstOf ops j = some s ∧ x = val j) ∨ (get (tms 0) s = some x ∧ ∀ j, j < i → dstOf ops j ≠ some s)
  | 0, _, s, x, hx => .inr ⟨hx, fun j hj => by omega⟩
  | i + 1, hi, s, x, hx => by
    obtain ⟨d, hd, ht⟩ := h i (by omega)
    rw [ht, get_cons] at hx
    by_cases hds : d = s
    · rw [if_pos hds] at hx
      injection hx with hx
      subst hds
      exact .inl ⟨i, by omega, hd, hx.symm⟩
    · rw [if_neg hds] at hx
      rcases tms_get h i (by omega) s x hx with ⟨j, h1, h2, h3⟩ | ⟨h1, h2⟩
      · exact .inl ⟨j, by omega, h2, h3⟩
      · refine .inr ⟨h1, fun j hj => ?_⟩
        rcases Nat.lt_or_ge j i with h3 | h3
        · exact h2 j h3
        · obtain rfl : j = i := by omega
          rw [hd]; simp [hds]

/-- what stays, of old memory as it was, and of new memory all -/
def upm (m : Mm) (w w' : World) : Mm := fun b o => if b < w.heap.size then m b o else w'.cell? ⟨b, o, none⟩
theorem upm_ext {m m' : Mm} {w w' : World} (he : Ext m m' w.heap.size) (hs : Sub m' w') : ∀ b o v, m' b o = some v → upm m w w' b o = some v := by
  intro b o v hv
  unfold upm
  split
  · rename_i hb; rw [← he.2 b o hb]; exact hv
  · exact hs b o v hv
theorem upm_sub {m : Mm} {w w' : World} (h : Sub m w) (hl : Lo w w') : Sub (upm m w w') w' := by
  intro b o v hv
  unfold upm at hv
  split at hv
  · exact lo_keep hl (h b o v hv)
  · exact hv
theorem ext_upm {m : Mm} {w w' : World} (h : Sub m w) : Ext m (upm m w w') w.heap.size := by
  refine ⟨fun b o v hv => ?_, fun b o hb => ?_⟩
  · unfold upm; rw [if_pos (h.lt hv)]; exact hv
  · unfold upm; rw [if_pos hb]

theorem mem_slots {o : Oper} {s : Nat} (h : Operand.tmp s ∈ o.op.operands.toList) : s ∈ slotsOf o := by
  unfold slotsOf
  rw [List.mem_filterMap]
  exact ⟨_, h, rfl⟩
theorem writer_of {ops : Array Oper} {n M i d : Nat} (hB : regionB3 ops n M = true) (hi : i < ops.size) (hd : dstOf ops i = some d) : writer ops d = some i ∧ d < M := by
  unfold regionB3 at hB
  simp only [Bool.and_eq_true, decide_eq_true_eq] at hB
  have h1 := (List.all_eq_true.1 hB.2) i (by simpa using hi)
  rw [hd] at h1
  simpa only [Bool.and_eq_true, decide_eq_true_eq] using h1
/-- a region that draws its order: each operation ahead of n once, in the text's order -/
theorem swp_draw {P : Program} {N : Nat} {Q : Exit → St → Prop} {id : Nat} {l : List Oper} {tm : List (Nat × A)} {bx : List (Nat × List A)} {ow : List (Nat × Own)} (n : Nat) (hm : P.follows .mixedOrders = true) (hB : regionB3 l.toArray n N = true) (hD : depsB l.toArray n = true)
    (h : SDraw P N bx ow l.toArray Q (l.drop n) (l.take n) tm) : SWp P N (.region id l.toArray true) Q ⟨tm, bx, ow⟩ := by
  obtain ⟨tm', hrun, htail⟩ := h
  obtain ⟨val, tms, ht0, htn, hstep⟩ := prun_at hrun
  have hn : n ≤ l.toArray.size := by
    unfold regionB3 at hB
    simp only [Bool.and_eq_true, decide_eq_true_eq] at hB
    exact hB.1.1
  have hn' : n ≤ l.length := by simpa using hn
  have hlen : (l.take n).length = n := by simp; omega
  rw [hlen] at htn
  have hops : ∀ i, i < n → ∃ o, l.toArray[i]? = some o ∧ (l.take n)[i]? = some o := by
    intro i hi
    refine ⟨l[i]'(by omega), ?_, ?_⟩
    · simp [List.getElem?_eq_getElem (show i < l.length by omega)]
    · rw [List.getElem?_take_of_lt hi]; exact List.getElem?_eq_getElem (show i < l.length by omega)
  have hdst : ∀ i, i < n → ∃ d, dstOf l.toArray i = some d ∧ tms (i + 1) = (d, val i) :: tms i := by
    intro i hi
    obtain ⟨o, h1, h2⟩ := hops i hi
    obtain ⟨d, h3, h4, _⟩ := hstep i o h2
    exact ⟨d, by unfold dstOf; rw [h1]; exact h3, h4⟩
  refine .mk fun C a w ⟨m, g, hr⟩ => ?_
  have hput : ∀ (v : Nat → Value) (w' : World) (m' : Mm), Lo w w' → Ext m m' w.heap.size → Sub m' w' → ∀ k, k ≤ n → (∀ i, i < k → AR m' g (val i) (v i)) → RelG C N ⟨tms k, bx, ow⟩ ((List.range k).foldl (fun a i => a.put (dstOf l.toArray i) (v i)) a) w' m' g := by
    intro v w' m' hl he hs k
    induction k with
    | zero => intro _ _; rw [ht0]; exact ⟨hr.env.step hl he hs, hr.size, hr.defers, fun s x hx => (hr.tmps s x hx).mono he.1⟩
    | succ k ih =>
      intro hk hv
      have h1 := ih (by omega) fun i hi => hv i (by omega)
      obtain ⟨d, hd, ht⟩ := hdst k (by omega)
      rw [List.range_succ, List.foldl_append, ht]
      simp only [List.foldl_cons, List.foldl_nil, hd]
      exact h1.put h1.env (fun x v h => h) (writer_of hB (by omega) hd).2 (hv k (by omega))
  refine wp_region_mix (P := P) n N (fun i v w' => ∃ m', Ext m m' w.heap.size ∧ Sub m' w' ∧ AR m' g (val i) v) hm hr.size hB ?_ ?_ ?_
  · rintro i v w1 w2 ⟨m', h1, h2, h3⟩ hl
    exact ⟨m', h1, h2.lo hl, h3⟩
  · intro i o hi ho a' w' hl hdep hkeep
    obtain ⟨o', h1, h2⟩ := hops i hi
    rw [h1] at ho; injection ho with ho; subst ho
    have hD' := (List.all_eq_true.1 hD) i (by simpa using hi)
    rw [h1] at hD'
    simp only [Bool.and_eq_true] at hD'
    have henv := hr.env.step hl (ext_upm (w' := w') hr.env.sub) (upm_sub hr.env.sub hl)
    have hslot : ∀ s, (match writer l.toArray s with | none => true | some j => (decide (j < i) && (deps l.toArray i).contains j) || decide (n ≤ j)) = true → ∀ y, get (tms i) s = some y → AR (upm m w w') g y (a'.eval (.tmp s)) := by
      intro s hs y hy
      rcases tms_get hdst i (by omega) s y hy with ⟨j, hj1, hj2, rfl⟩ | ⟨hg0, hnone⟩
      · have hw := (writer_of hB (show j < l.toArray.size by omega) hj2).1
        rw [hw] at hs
        simp only [Bool.or_eq_true, Bool.and_eq_true, decide_eq_true_eq] at hs
        rcases hs with ⟨_, hdj⟩ | hs
        · obtain ⟨m', he, hsb, hv⟩ := hdep j hdj s hj2
          exact hv.mono (upm_ext he hsb)
        · omega
      · rw [ht0] at hg0
        have hkeep' : a'.eval (.tmp s) = a.eval (.tmp s) := by
          refine hkeep s ?_
          cases hw : writer l.toArray s with
          | none => rfl
          | some j =>
            rw [hw] at hs
            simp only [Bool.or_eq_true, Bool.and_eq_true, decide_eq_true_eq] at hs
            rcases hs with ⟨hji, _⟩ | hs
            · exact absurd (writer_spec hw) (hnone j hji)
            · simpa using hs
        rw [hkeep']
        exact (hr.tmps s y hg0).mono (ext_upm (w' := w') hr.env.sub).1
    have hgd : ∀ j want e, o'.guard = some (j, want) → dstOf l.toArray j = some e → ∀ y, get (tms i) e = some y → AR (upm m w w') g y (a'.eval (.tmp e)) := by
      intro j want e hg he y hy
      have h3 := hD'.2
      rw [hg] at h3
      simp only [Bool.and_eq_true, decide_eq_true_eq] at h3
      refine hslot e ?_ y hy
      rw [(writer_of hB (show j < l.toArray.size by omega) he).1]
      simp only [Bool.or_eq_true, Bool.and_eq_true, decide_eq_true_eq]
      exact .inl h3
    obtain ⟨d, hd, htm, hcase⟩ := hstep i o' h2
    rcases hcase with ⟨hg, hp⟩ | ⟨hg, hv⟩
    · have hw := hg.wanted hgd
      refine ⟨fun _ => ?_, fun hf => by rw [hw] at hf; cases hf⟩
      refine Oper.wp_mono ?_ (hp.go C (upm m w w') g w' a' _ henv ?_)
      · rintro a2 w2 ⟨v, m2, rfl, hl2, he2, hs2, hv2⟩
        exact ⟨v, rfl, hl2, m2, (ext_upm hr.env.sub).trans he2 hl.size, hs2, hv2⟩
      · intro x hx y hy
        cases x with
        | tmp s => exact hslot s ((List.all_eq_true.1 hD'.1) s (mem_slots hx)) y hy
        | const v => injection hy with hy; subst hy; exact .v v
        | func f => injection hy with hy; subst hy; exact .v _
        | global i => cases hy
    · have hw := hg.wanted hgd
      refine ⟨fun hf => (by rw [hw] at hf; cases hf), fun _ => ⟨upm m w w', ext_upm hr.env.sub, upm_sub hr.env.sub hl, ?_⟩⟩
      rw [hv]; exact .v _
  · intro v w' hl hv
    have hall : ∀ i, i < n → AR (upm m w w') g (val i) (v i) := fun i hi => by
      obtain ⟨m', he, hs, h1⟩ := hv i hi
      exact h1.mono (upm_ext he hs)
    have := hput v w' _ hl (ext_upm hr.env.sub) (upm_sub hr.env.sub hl) n (Nat.le_refl _) hall
    rw [htn] at this
    exact htail.go C _ _ ⟨_, g, this⟩
end Go.Proofs.Ytnclifgiakmmoaa.Sim
