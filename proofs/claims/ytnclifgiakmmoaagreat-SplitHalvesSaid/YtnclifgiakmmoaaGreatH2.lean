/- Merged by bundles.py: SimA. -/
import Derived.Test.YtnclifgiakmmoaaGreatH1
import Derived.Scope
/- A logic of states: what slots hold, as trees of data; rules for a function's control. -/
namespace Go.Proofs.YtnclifgiakmmoaaGreat.Sim
set_option linter.unusedVariables false
set_option linter.unusedSimpArgs false
open Go.RowKit Mem

/-- data: a value just so; a slice's rows of cells; a struct's cells; results; a place that holds cells; a function with what it captured -/
inductive T where
  | v (x : Value)
  | sl (sz : Nat) (rows : List (List T))
  | agg (cs : List T)
  | tup (cs : List T)
  | tp (cs : List T)
  | clo (f : FuncId) (caps : List T)
  | fr (n : Nat) (t : T)
deriving Inhabited

/-- memory that stays -/
abbrev Mm := Nat → Nat → Option Value
def Sub (m : Mm) (w : World) : Prop := ∀ b o v, m b o = some v → w.cell? ⟨b, o, none⟩ = some v
def Ext (m m' : Mm) (n : Nat) : Prop := (∀ b o v, m b o = some v → m' b o = some v) ∧ ∀ b o, b < n → m' b o = m b o

inductive TR (m : Mm) : T → Value → Prop
  | v (x : Value) : TR m (.v x) x
  | sl (sz : Nat) (rows : List (List T)) (A : Option Addr) (b off cap : Nat) (u : Nat → Nat → Value)
      (hc : rows.length ≤ cap) (hm : cap ≤ maxLen) (hA : rows ≠ [] → A = some ⟨b, off, none⟩) (hr : ∀ r ∈ rows, r.length = sz)
      (hu : ∀ (k j : Nat) (r : List T) (t : T), rows[k]? = some r → r[j]? = some t → m b (off + (k * sz + j)) = some (u k j) ∧ (u k j).oneCell' = true)
      (ht : ∀ (k j : Nat) (r : List T) (t : T), rows[k]? = some r → r[j]? = some t → TR m t (u k j)) : TR m (.sl sz rows) (.slice A rows.length cap)
  | agg (cs : List T) (vs : Array Value) (h : vs.size = cs.length) (h1 : ∀ v ∈ vs.toList, v.oneCell' = true) (ht : ∀ (j : Nat) t v, cs[j]? = some t → vs[j]? = some v → TR m t v) : TR m (.agg cs) (.agg vs)
  | tup (cs : List T) (vs : Array Value) (h : vs.size = cs.length) (ht : ∀ (j : Nat) t v, cs[j]? = some t → vs[j]? = some v → TR m t v) : TR m (.tup cs) (.tuple vs)
  | tp (cs : List T) (b off : Nat) (u : Nat → Value) (hu : ∀ (j : Nat) t, cs[j]? = some t → m b (off + j) = some (u j) ∧ (u j).oneCell' = true) (ht : ∀ (j : Nat) t, cs[j]? = some t → TR m t (u j)) : TR m (.tp cs) (.pointer (some ⟨b, off, none⟩))
  | clo (f : FuncId) (caps : List T) (vs : Array Value) (h : vs.size = caps.length) (ht : ∀ (j : Nat) t v, caps[j]? = some t → vs[j]? = some v → TR m t v) : TR m (.clo f caps) (.func (.func f) #[] vs)
  | fr (n : Nat) (t : T) (v : Value) (h : TR m t v) (hb : ∀ b off l c, v = .slice (some ⟨b, off, none⟩) l c → l ≠ 0 → n ≤ b) : TR m (.fr n t) v

theorem TR.mono {m m' : Mm} (hm : ∀ b o v, m b o = some v → m' b o = some v) {t : T} {v : Value} (h : TR m t v) : TR m' t v := by
  induction h with
  | v x => exact .v x
  | sl sz rows A b off cap u hc hm' hA hr hu _ ih => exact .sl sz rows A b off cap u hc hm' hA hr (fun k j r t h1 h2 => ⟨hm _ _ _ (hu k j r t h1 h2).1, (hu k j r t h1 h2).2⟩) ih
  | agg cs vs h h1 _ ih => exact .agg cs vs h h1 ih
  | tup cs vs h _ ih => exact .tup cs vs h ih
  | tp cs b off u hu _ ih => exact .tp cs b off u (fun j t h => ⟨hm _ _ _ (hu j t h).1, (hu j t h).2⟩) ih
  | clo f caps vs h _ ih => exact .clo f caps vs h ih
  | fr n t v _ hb ih => exact .fr n t v ih hb
/-- no cell that the logic knows is frozen -/
def nfB (w : World) (b o : Nat) : Bool := match w.heap[b]? with
  | some (.cells cur _ fz) => Nat.beq fz.2 0 || Nat.ble cur.size fz.1
  | _ => o == o
theorem nfB_eq {w w' : World} {b o : Nat} (h : w'.heap[b]? = w.heap[b]?) : nfB w' b o = nfB w b o := by unfold nfB; rw [h]
theorem nfB_cells {w : World} {b o : Nat} {cur : Array Value} {e : TypeId} {fz : Nat × Nat} (h : w.heap[b]? = some (.cells cur e fz)) (hf : fz.2 = 0 ∨ cur.size ≤ fz.1) : nfB w b o = true := by
  unfold nfB; rw [h]
  rcases hf with h | h
  · simp [h]
  · simp [h]
theorem nfB_spec {w : World} {b o : Nat} {cur : Array Value} {e : TypeId} {fz : Nat × Nat} (h : nfB w b o = true) (hc : w.heap[b]? = some (.cells cur e fz)) : fz.2 = 0 ∨ cur.size ≤ fz.1 := by
  unfold nfB at h; rw [hc] at h
  simpa using h
/-- what is new is not frozen -/
def NFx (m m' : Mm) (w' : World) : Prop := ∀ b o u, m' b o = some u → m b o = some u ∨ nfB w' b o = true
theorem NFx.refl (m : Mm) (w' : World) : NFx m m w' := fun _ _ _ h => .inl h

theorem Ext.refl (m : Mm) (n : Nat) : Ext m m n := ⟨fun _ _ _ h => h, fun _ _ _ => rfl⟩
theorem Ext.trans {m m' m'' : Mm} {n n' : Nat} (h : Ext m m' n) (k : Ext m' m'' n') (hn : n ≤ n') : Ext m m'' n :=
  ⟨fun b o v hv => k.1 b o v (h.1 b o v hv), fun b o hb => (k.2 b o (by omega)).trans (h.2 b o hb)⟩
theorem Sub.lt {m : Mm} {w : World} (h : Sub m w) {b o : Nat} {v : Value} (hv : m b o = some v) : b < w.heap.size := World.block_lt_of_cell? w _ (h b o v hv)
theorem Sub.lo {m : Mm} {w w' : World} (h : Sub m w) (hl : Lo w w') : Sub m w' := fun b o v hv => lo_keep hl (h b o v hv)
theorem nfB_lo {w w' : World} {b o : Nat} (hl : Lo w w') (hb : b < w.heap.size) : nfB w' b o = nfB w b o := nfB_eq (Below.block hl b hb)
theorem NFx.trans {m m1 m2 : Mm} {w1 w2 : World} (h1 : NFx m m1 w1) (h2 : NFx m1 m2 w2) (hs : Sub m1 w1) (hl : Lo w1 w2) : NFx m m2 w2 := fun b o u hu => by
  rcases h2 b o u hu with h | h
  · rcases h1 b o u h with k | k
    · exact .inl k
    · exact .inr (by rw [nfB_lo hl (hs.lt h)]; exact k)
  · exact .inr h
theorem NFx.of {m m' : Mm} {w' : World} {n : Nat} (he : Ext m m' n) (h : ∀ b o u, n ≤ b → m' b o = some u → nfB w' b o = true) : NFx m m' w' := fun b o u hu => by
  by_cases hb : b < n
  · rw [he.2 b o hb] at hu; exact .inl hu
  · exact .inr (h b o u (by omega) hu)
theorem NFx.lo {m m' : Mm} {w1 w2 : World} (h : NFx m m' w1) (hs : Sub m' w1) (hl : Lo w1 w2) : NFx m m' w2 := h.trans (NFx.refl _ _) hs hl

/-- cells as they are said -/
def CellsAre (m : Mm) (ts : List T) (vs : List Value) : Prop := vs.length = ts.length ∧ ∀ (j : Nat) t v, ts[j]? = some t → vs[j]? = some v → TR m t v ∧ v.oneCell' = true
theorem CellsAre.mono {m m' : Mm} (hm : ∀ b o v, m b o = some v → m' b o = some v) {ts : List T} {vs : List Value} (h : CellsAre m ts vs) : CellsAre m' ts vs := ⟨h.1, fun j t v h1 h2 => ⟨(h.2 j t v h1 h2).1.mono hm, (h.2 j t v h1 h2).2⟩⟩

/-- the shape of data that may be written over: numbers of a kind, slices, places -/
inductive J where
  | any
  | int (k : IntKind)
  | sl (sz : Nat) (rows : List (List J))
  | tp (cs : List J)
inductive JR (m : Mm) : J → Value → Prop
  | any (v : Value) : JR m .any v
  | int (k : IntKind) (x : Int) : JR m (.int k) (.int k x)
  | sl (sz : Nat) (rows : List (List J)) (A : Option Addr) (b off cap : Nat) (u : Nat → Nat → Value)
      (hc : rows.length ≤ cap) (hm : cap ≤ maxLen) (hA : rows ≠ [] → A = some ⟨b, off, none⟩) (hr : ∀ r ∈ rows, r.length = sz)
      (hu : ∀ (k j : Nat) (r : List J) (t : J), rows[k]? = some r → r[j]? = some t → m b (off + (k * sz + j)) = some (u k j) ∧ (u k j).oneCell' = true)
      (ht : ∀ (k j : Nat) (r : List J) (t : J), rows[k]? = some r → r[j]? = some t → JR m t (u k j)) : JR m (.sl sz rows) (.slice A rows.length cap)
  | tp (cs : List J) (b off : Nat) (u : Nat → Value) (hu : ∀ (j : Nat) t, cs[j]? = some t → m b (off + j) = some (u j) ∧ (u j).oneCell' = true) (ht : ∀ (j : Nat) t, cs[j]? = some t → JR m t (u j)) : JR m (.tp cs) (.pointer (some ⟨b, off, none⟩))
/-- what is said of private memory: data just so; or its shape, of blocks from n on -/
inductive PX where
  | t (x : T)
  | j (n : Nat) (x : J)
/-- memory of blocks from n on -/
def abv (n : Nat) (m : Mm) : Mm := fun b o => if n ≤ b then m b o else none
def PXR (m : Mm) : PX → Value → Prop
  | .t x, v => TR m x v
  | .j n x, v => JR (abv n m) x v
/-- what is pointed to in a resource: by a number; a slice at a path; a cell of the slice at a path -/
inductive Key where
  | n (k : Nat)
  | s (p : List (Nat × Nat))
  | a (p : List (Nat × Nat)) (k c : Nat)
/-- a resource: what is said of blocks that no box and no row has: by the world, the memory that stays, its blocks, pointers into it -/
structure Rsc where
  R : World → Mm → (Nat → Bool) → (Key → Value) → Prop
  loc : ∀ {w w' : World} {m m' : Mm} {S : Nat → Bool} {rp : Key → Value}, (∀ k, S k = true → w'.heap[k]? = w.heap[k]?) → (∀ b o v, m b o = some v → m' b o = some v) → R w m S rp → R w' m' S rp
  lt : ∀ {w : World} {m : Mm} {S : Nat → Bool} {rp : Key → Value} {k : Nat}, R w m S rp → S k = true → k < w.heap.size
/-- what a slot holds: data; a box's place; a row of the call's own, at its length -/
inductive A where
  | t (x : T)
  | bp (i off : Nat)
  | own (i n : Nat)
  | emp
  | oe (i n sz k off : Nat)
  | any
  | sfx (i n sz k : Nat)
  | ag (cs : List A)
  | tu (cs : List A)
  | cl (f : FuncId) (cs : List A)
  | sb (i n sz : Nat) (e : TypeId)
  | rs (R : Rsc)
  | rp (i : Nat) (k : Key)
  | ev (i n : Nat) (u : Value)
  | lo (n : Nat)
  | pr (i : Nat) (x : PX)
instance : Inhabited A := ⟨.any⟩
structure Own where
  e : TypeId
  sz : Nat
  rows : List (List T)
structure St where
  tm : List (Nat × A)
  bx : List (Nat × List A)
  ow : List (Nat × Own)

def get {β : Type} : List (Nat × β) → Nat → Option β
  | [], _ => none
  | (i, x) :: r, s => bif Nat.beq i s then some x else get r s

/-- how boxes and rows lie: their blocks, their values -/
structure Gh where
  gb : Nat → Nat
  go : Nat → Value
  ln : Nat → Nat
  lb : Nat → Bool
  lw : Nat → Bool
  cz : Nat → Nat × TypeId := fun _ => (0, 0)
  sf : Nat → Nat → Bool := fun _ _ => false
  rp : Nat → Key → Value := fun _ _ => undef
/-- rows of numbers from 1000 on are the call's alone: nothing that stays has their memory; they may be written -/
def hid (i : Nat) : Bool := Nat.ble 1000 i
def vis (i : Nat) (vs : List Value) : List Value := bif hid i then [] else vs
theorem vis_get {i : Nat} {vs : List Value} {k : Nat} {u : Value} (h : (vis i vs)[k]? = some u) : vs[k]? = some u := by
  unfold vis at h
  cases e : hid i with
  | true => rw [e] at h; simp at h
  | false => rw [e] at h; exact h
theorem vis_pre {i : Nat} {vs us : List Value} (hp : ∀ (k : Nat) u, vs[k]? = some u → us[k]? = some u) (k : Nat) (u : Value) (h : (vis i vs)[k]? = some u) : (vis i us)[k]? = some u := by
  unfold vis at *
  cases e : hid i with
  | true => rw [e] at h; simp at h
  | false => rw [e] at h; exact hp k u h
theorem vis_see {i : Nat} (h : hid i = false) (vs : List Value) : vis i vs = vs := by unfold vis; rw [h]; rfl
theorem vis_hid {i : Nat} (h : hid i = true) (vs : List Value) : vis i vs = [] := by unfold vis; rw [h]; rfl
/-- a row seen as a box: the block may have more cells -/
def wnB (i : Nat) : Bool := Nat.ble 1900 i && Nat.blt i 2000
/-- a resource's number -/
def chB (i : Nat) : Bool := (Nat.ble 1100 i && Nat.blt i 1900) || Nat.ble 3000 i
/-- the memory that a resource's values tell -/
def jmOf (rp : Key → Value) : Mm := fun b o => match rp (.s [(b, o)]) with
  | .tuple vs => vs[0]?
  | _ => none
/-- a leaf -/
def AR0 (m : Mm) (g : Gh) : A → Value → Prop
  | .t x, v => TR m x v
  | .bp i off, v => g.lb i = true ∧ v = .pointer (some ⟨g.gb i, off, none⟩)
  | .own i n, v => g.lw i = true ∧ n ≤ g.ln i ∧ (∃ A c, v = .slice A n c) ∧ (n = g.ln i → v = g.go i)
  | .emp, v => ∃ A, v = .slice A 0 0
  | .oe i n sz k off, v => g.lw i = true ∧ n ≤ g.ln i ∧ (∃ a, v = .pointer a) ∧ (n = g.ln i → ∃ b, (g.go i).ownBlock = some b ∧ v = .pointer (some ⟨b, k * sz + off, none⟩))
  | .any, _ => True
  | .sfx i n sz k, v => g.lw i = true ∧ n ≤ g.ln i ∧ (∃ A c, v = .slice A (n - k) c) ∧ (n = g.ln i → ∃ b cap, g.go i = .slice (some ⟨b, 0, none⟩) n cap ∧ v = .slice (if cap = k then some ⟨b, 0, none⟩ else some ⟨b, k * sz, none⟩) (n - k) (cap - k))
  | .sb i n sz e, v => g.lb i = true ∧ ∃ cap, v = .slice (some ⟨g.gb i, 0, none⟩) n cap ∧ n ≤ cap ∧ cap ≤ maxLen ∧ (wnB i = true → cap * sz ≤ (g.cz i).1 ∧ (g.cz i).2 = e)
  | .rs _, _ => True
  | .rp i k, v => chB i = true ∧ g.lb i = true ∧ v = g.rp i k ∧ v.oneCell' = true
  | .ev i n u, _ => g.lw i = true ∧ n ≤ g.ln i ∧ True ∧ (n = g.ln i → g.go i = u)
  | .lo _, _ => True
  | .pr i x, v => chB i = true ∧ g.lb i = true ∧ PXR (jmOf (g.rp i)) x v
  | .ag _, _ => False
  | .tu _, _ => False
  | .cl _ _, _ => False
/-- leaves, or a struct or a function of leaves -/
def AR1 (m : Mm) (g : Gh) : A → Value → Prop
  | .ag cs, v => ∃ vs : Array Value, v = .agg vs ∧ vs.size = cs.length ∧ ∀ (j : Nat) x u, cs[j]? = some x → vs[j]? = some u → AR0 m g x u ∧ u.oneCell' = true
  | .cl f cs, v => ∃ vs : Array Value, v = .func (.func f) #[] vs ∧ vs.size = cs.length ∧ ∀ (j : Nat) x u, cs[j]? = some x → vs[j]? = some u → AR0 m g x u
  | .t x, v => TR m x v
  | .bp i off, v => AR0 m g (.bp i off) v
  | .own i n, v => AR0 m g (.own i n) v
  | .emp, v => AR0 m g .emp v
  | .oe i n sz k off, v => AR0 m g (.oe i n sz k off) v
  | .any, _ => True
  | .sfx i n sz k, v => AR0 m g (.sfx i n sz k) v
  | .sb i n sz e, v => AR0 m g (.sb i n sz e) v
  | .rs R, v => AR0 m g (.rs R) v
  | .rp i k, v => AR0 m g (.rp i k) v
  | .ev i n u, v => AR0 m g (.ev i n u) v
  | .lo _, _ => True
  | .pr i t, v => AR0 m g (.pr i t) v
  | .tu _, _ => False
def AR (m : Mm) (g : Gh) : A → Value → Prop
  | .tu cs, v => ∃ vs : Array Value, v = .tuple vs ∧ vs.size = cs.length ∧ ∀ (j : Nat) x u, cs[j]? = some x → vs[j]? = some u → AR1 m g x u
  | .t x, v => TR m x v
  | .bp i off, v => AR0 m g (.bp i off) v
  | .own i n, v => AR0 m g (.own i n) v
  | .emp, v => AR0 m g .emp v
  | .oe i n sz k off, v => AR0 m g (.oe i n sz k off) v
  | .any, _ => True
  | .sfx i n sz k, v => AR0 m g (.sfx i n sz k) v
  | .sb i n sz e, v => AR0 m g (.sb i n sz e) v
  | .rs R, v => AR0 m g (.rs R) v
  | .rp i k, v => AR0 m g (.rp i k) v
  | .ev i n u, v => AR0 m g (.ev i n u) v
  | .lo _, _ => True
  | .pr i t, v => AR0 m g (.pr i t) v
  | .ag cs, v => AR1 m g (.ag cs) v
  | .cl f cs, v => AR1 m g (.cl f cs) v
theorem AR0.one {m : Mm} {g : Gh} {x : A} {v : Value} (h : AR0 m g x v) : AR1 m g x v := by
  cases x <;> first | exact h | exact absurd h id
theorem AR1.two {m : Mm} {g : Gh} {x : A} {v : Value} (h : AR1 m g x v) : AR m g x v := by
  cases x <;> first | exact h | exact absurd h id
theorem AR0.two {m : Mm} {g : Gh} {x : A} {v : Value} (h : AR0 m g x v) : AR m g x v := h.one.two
/-- of a value's leaves -/
def A.all1 (p : A → Bool) : A → Bool
  | .ag cs => cs.all p
  | .cl _ cs => cs.all p
  | x => p x
def A.allP (p : A → Bool) : A → Bool
  | .tu cs => cs.all fun x => x.all1 p
  | x => x.all1 p
def A.map1 (f : A → A) : A → A
  | .ag cs => .ag (cs.map f)
  | .cl h cs => .cl h (cs.map f)
  | x => f x
def A.mapA (f : A → A) : A → A
  | .tu cs => .tu (cs.map fun x => x.map1 f)
  | x => x.map1 f
theorem AR1.mp {m m' : Mm} {g g' : Gh} (f : A → A) (p : A → Bool) (h : ∀ x v, p x = true → AR0 m g x v → AR0 m' g' (f x) v) {x : A} {v : Value} (hp : x.all1 p = true) (hx : AR1 m g x v) : AR1 m' g' (x.map1 f) v := by
  cases x with
  | ag cs =>
    obtain ⟨vs, e, h1, h2⟩ := hx
    refine ⟨vs, e, by simpa using h1, fun j x u hj hu => ?_⟩
    rw [List.getElem?_map] at hj
    cases hc : cs[j]? with
    | none => rw [hc] at hj; cases hj
    | some y =>
      rw [hc] at hj; simp at hj; subst hj
      exact ⟨h y u ((List.all_eq_true.1 hp) y (List.mem_of_getElem? hc)) (h2 j y u hc hu).1, (h2 j y u hc hu).2⟩
  | cl f' cs =>
    obtain ⟨vs, e, h1, h2⟩ := hx
    refine ⟨vs, e, by simpa using h1, fun j x u hj hu => ?_⟩
    rw [List.getElem?_map] at hj
    cases hc : cs[j]? with
    | none => rw [hc] at hj; cases hj
    | some y =>
      rw [hc] at hj; simp at hj; subst hj
      exact h y u ((List.all_eq_true.1 hp) y (List.mem_of_getElem? hc)) (h2 j y u hc hu)
  | tu cs => exact absurd hx id
  | _ => exact (h _ v hp hx).one
theorem AR.mp {m m' : Mm} {g g' : Gh} (f : A → A) (p : A → Bool) (h : ∀ x v, p x = true → AR0 m g x v → AR0 m' g' (f x) v) {x : A} {v : Value} (hp : x.allP p = true) (hx : AR m g x v) : AR m' g' (x.mapA f) v := by
  cases x with
  | tu cs =>
    obtain ⟨vs, e, h1, h2⟩ := hx
    refine ⟨vs, e, by simpa using h1, fun j x u hj hu => ?_⟩
    rw [List.getElem?_map] at hj
    cases hc : cs[j]? with
    | none => rw [hc] at hj; cases hj
    | some y =>
      rw [hc] at hj; simp at hj; subst hj
      exact (h2 j y u hc hu).mp f p h ((List.all_eq_true.1 hp) y (List.mem_of_getElem? hc))
  | ag cs => exact AR1.two (AR1.mp (x := .ag cs) f p h hp hx)
  | cl f' cs => exact AR1.two (AR1.mp (x := .cl f' cs) f p h hp hx)
  | _ => exact (h _ v hp hx).two
theorem map1_id (x : A) : x.map1 (fun y => y) = x := by cases x <;> simp [A.map1]
theorem mapA_id (x : A) : x.mapA (fun y => y) = x := by
  cases x with
  | tu cs =>
    show A.tu (cs.map fun x => x.map1 fun y => y) = .tu cs
    rw [show cs.map (fun x => x.map1 fun y => y) = cs.map id from List.map_congr_left fun x _ => map1_id x, List.map_id]
  | ag cs => exact map1_id (.ag cs)
  | cl f cs => exact map1_id (.cl f cs)
  | _ => rfl
theorem AR.lift {m m' : Mm} {g g' : Gh} (h : ∀ x v, AR0 m g x v → AR0 m' g' x v) {x : A} {v : Value} (hx : AR m g x v) : AR m' g' x v := by
  have := hx.mp (m' := m') (g' := g') (fun y => y) (fun _ => true) (fun x v _ => h x v) (by
    cases x <;> simp [A.allP, A.all1]
    intro y _; cases y <;> simp [A.all1])
  rwa [mapA_id] at this
theorem AR.liftP {m m' : Mm} {g g' : Gh} (p : A → Bool) (h : ∀ x v, p x = true → AR0 m g x v → AR0 m' g' x v) {x : A} {v : Value} (hp : x.allP p = true) (hx : AR m g x v) : AR m' g' x v := by
  have := hx.mp (m' := m') (g' := g') (fun y => y) p h hp
  rwa [mapA_id] at this
theorem AR0.mono {m m' : Mm} (hm : ∀ b o v, m b o = some v → m' b o = some v) {g : Gh} {x : A} {v : Value} (h : AR0 m g x v) : AR0 m' g x v := by
  cases x with
  | t x => exact TR.mono hm h
  | _ => exact h
theorem AR.mono {m m' : Mm} (hm : ∀ b o v, m b o = some v → m' b o = some v) {g : Gh} {x : A} {v : Value} (h : AR m g x v) : AR m' g x v := h.lift fun _ _ h => h.mono hm
/-- what a call begins with: the world, the memory that stays; blocks that are lent to it, which it may write -/
structure Ctx where
  w0 : World
  m0 : Mm
  gv : Nat → Bool
  pin : Nat → Value
  pinb : Nat → Nat
  pinr : Nat → Key → Value
/-- nothing that was there has turned, but lent blocks -/
structure LoX (gv : Nat → Bool) (a b : World) : Prop where
  os : b.os = a.os
  tape : b.tape = a.tape
  output : b.output = a.output
  size : a.heap.size ≤ b.heap.size
  block : ∀ i, i < a.heap.size → gv i = false → b.heap[i]? = a.heap[i]?
theorem LoX.grown {gv : Nat → Bool} {a b c : World} {row : Option Nat} (h : LoX gv a b) (hg : b.grownBy c row) (hr : ∀ k, row = some k → a.heap.size ≤ k ∨ gv k = true) : LoX gv a c :=
  ⟨hg.os.trans h.os, hg.tape.trans h.tape, hg.output.trans h.output, Nat.le_trans h.size hg.size, fun i hi hgv => (hg.block i (Nat.lt_of_lt_of_le hi h.size) (fun e => by
    rcases hr i e.symm with h1 | h1
    · omega
    · rw [hgv] at h1; cases h1)).trans (h.block i hi hgv)⟩
theorem LoX.trans {gv : Nat → Bool} {a b c : World} (h : LoX gv a b) (k : Lo b c) : LoX gv a c := h.grown (Lo.grownBy k none) (fun _ h => by cases h)
theorem LoX.of_lo {gv : Nat → Bool} {a b : World} (h : Lo a b) : LoX gv a b := LoX.trans ⟨rfl, rfl, rfl, Nat.le_refl _, fun _ _ _ => rfl⟩ h
theorem LoX.lo {gv : Nat → Bool} {a b : World} (h : LoX gv a b) (hg : ∀ i, gv i = false) : Lo a b := Lo.of_grown ⟨h.os, h.tape, h.output, h.size, fun i hi _ => h.block i hi (hg i)⟩
/-- what stays grows: of old memory only lent blocks' -/
structure ExtX (gv : Nat → Bool) (m m' : Mm) (n : Nat) : Prop where
  keep : ∀ b o v, m b o = some v → m' b o = some v
  old : ∀ b o, b < n → gv b = false → m' b o = m b o
theorem ExtX.trans {gv : Nat → Bool} {m m' m'' : Mm} {n n' : Nat} (h : ExtX gv m m' n) (k : Ext m' m'' n') (hn : n ≤ n') : ExtX gv m m'' n :=
  ⟨fun b o v hv => k.1 b o v (h.keep b o v hv), fun b o hb hg => (k.2 b o (by omega)).trans (h.old b o hb hg)⟩
theorem ExtX.refl (gv : Nat → Bool) (m : Mm) (n : Nat) : ExtX gv m m n := ⟨fun _ _ _ h => h, fun _ _ _ _ => rfl⟩
theorem ExtX.ext {gv : Nat → Bool} {m m' : Mm} {n : Nat} (h : ExtX gv m m' n) (hg : ∀ b, gv b = false) : Ext m m' n := ⟨h.keep, fun b o hb => h.old b o hb (hg b)⟩
/-- a block that may be written -/
def Ctx.mine (C : Ctx) (b : Nat) : Prop := C.w0.heap.size ≤ b ∨ C.gv b = true

/-- no cell below n is frozen -/
def FzOk (fz : Nat × Nat) (n : Nat) : Prop := fz.2 = 0 ∨ n ≤ fz.1
/-- a row of the call's own in a block of its own: perhaps one that was made of a string (the cell behind its last one is marked) -/
def RowM (w : World) (base : Nat) (e : TypeId) (size : Nat) (v : Value) (n : Nat) (xs : List Value) : Prop :=
  xs.length = n * size ∧
  ((v = .slice none 0 0 ∧ n = 0) ∨
   ∃ g cap cur, v = .slice (some ⟨g, 0, none⟩) n cap ∧ base ≤ g ∧ (∃ fz, w.heap[g]? = some (.cells cur e fz) ∧ FzOk fz cur.size) ∧ n ≤ cap ∧ cap ≤ maxLen ∧ cap * size ≤ cur.size ∧ cur.toList.take (n * size) = xs)
theorem RowM.of {w : World} {base : Nat} {e : TypeId} {size : Nat} {v : Value} {n : Nat} {xs : List Value} (h : w.ownsRow base e size v n xs) : RowM w base e size v n xs := by
  obtain ⟨h1, h2 | ⟨g, cap, cur, h3, h4, h5, h6, h7, h8, h9⟩⟩ := h
  · exact ⟨h1, .inl h2⟩
  · exact ⟨h1, .inr ⟨g, cap, cur, h3, h4, ⟨(0, 0), h5, .inl rfl⟩, h6, h7, Nat.le_of_eq h8.symm, h9⟩⟩
section
variable {w : World} {base : Nat} {e : TypeId} {size : Nat} {v : Value} {n : Nat} {xs : List Value}
theorem RowM.lt (h : RowM w base e size v n xs) : ∀ k, v.ownBlock = some k → base ≤ k ∧ k < w.heap.size := by
  intro k hk
  rcases h.2 with ⟨rfl, _⟩ | ⟨g, cap, cur, rfl, hb, ⟨fz, hg, _⟩, _⟩
  · simp [Value.ownBlock] at hk
  · simp [Value.ownBlock] at hk
    subst hk
    exact ⟨hb, (Array.getElem?_eq_some_iff.1 hg).1⟩
theorem RowM.kept {w' : World} {row : Option Nat} (h : RowM w base e size v n xs) (hg : w.grownBy w' row) (hne : v.ownBlock = none ∨ v.ownBlock ≠ row) : RowM w' base e size v n xs := by
  refine ⟨h.1, ?_⟩
  rcases h.2 with hn | ⟨g, cap, cur, rfl, hb, ⟨fz, hgg, hf⟩, rest⟩
  · exact .inl hn
  · refine .inr ⟨g, cap, cur, rfl, hb, ⟨fz, ?_, hf⟩, rest⟩
    rw [hg.block g (Array.getElem?_eq_some_iff.1 hgg).1 (by simpa [Value.ownBlock] using hne)]
    exact hgg
theorem RowM.cells (h : RowM w base e size v n xs) {g : Nat} (hg : v.ownBlock = some g) : ∀ (j : Nat) u, xs[j]? = some u → w.cell? ((⟨g, 0, none⟩ : Addr).add j) = some u := by
  intro j u hu
  rcases h.2 with ⟨rfl, _⟩ | ⟨g', cap, cur, rfl, _, ⟨fz, hgg, _⟩, _, _, _, htake⟩
  · simp [Value.ownBlock] at hg
  · simp [Value.ownBlock] at hg
    subst hg
    have hadd : (⟨g', 0, none⟩ : Addr).add j = ⟨g', j, none⟩ := by unfold Addr.add; split <;> simp_all
    rw [hadd, cell_of_row w g' j cur e fz hgg]
    rw [← htake, List.getElem?_take] at hu
    split at hu
    · simpa using hu
    · cases hu
theorem RowM.nf (h : RowM w base e size v n xs) {b : Nat} (hb : v.ownBlock = some b) {k : Nat} {u : Value} (hk : xs[k]? = some u) : nfB w b k = true := by
  rcases h.2 with ⟨rfl, _⟩ | ⟨g, cap, cur, rfl, _, ⟨fz, hgg, hf⟩, h1, _, h2, _⟩
  · simp [Value.ownBlock] at hb
  · simp [Value.ownBlock] at hb
    subst hb
    exact nfB_cells hgg hf
theorem RowM.lo {w' : World} (h : RowM w base e size v n xs) (hl : Lo w w') : RowM w' base e size v n xs := by
  refine h.kept (hl.grownBy none) ?_
  cases hv : v.ownBlock with
  | none => exact .inl rfl
  | some g => exact .inr (by simp)
theorem RowM.low {b' : Nat} (h : RowM w base e size v n xs) (hb : b' ≤ base) : RowM w b' e size v n xs := by
  obtain ⟨hl, h0 | ⟨g, cap, cur, hv, hg, r⟩⟩ := h
  · exact ⟨hl, .inl h0⟩
  · exact ⟨hl, .inr ⟨g, cap, cur, hv, Nat.le_trans hb hg, r⟩⟩
end
/-- a box is cells, or an iterator over a text (numbers from 1000 on), or a resource's main block (from 1100 on, lent ones from 3000 on) -/
structure Tag where
  ty : TypeId
  cap : Nat
  sent : Nat
  recv : Nat
def itB (i : Nat) : Bool := Nat.ble 1000 i && Nat.blt i 1100
def cellB (i : Nat) : Bool := !(itB i) && !(chB i) && !(wnB i)
def itOf : List Value → Tag → Obj
  | [.string s, .int .i64 p], _ => .stringIter s p.toNat
  | vs, t => .cells vs.toArray t.ty (0, 0)
def fzOf (i n : Nat) (t : Tag) : Nat × Nat := bif wnB i then (bif Nat.beq t.cap 0 then (t.sent, 0) else (n + t.sent, t.recv)) else (0, 0)
/-- a resource's main block: cells, or a channel -/
def rsOf (vs : Array Value) (t : Tag) : Obj := bif Nat.beq t.cap 0 then .cells vs t.ty (t.sent, t.recv) else .chan (t.cap - 1) vs false t.sent t.recv false
def obOf (i : Nat) (vs : Array Value) (t : Tag) : Obj := bif itB i then itOf vs.toList t else bif chB i then rsOf vs t else .cells vs t.ty (fzOf i vs.size t)
theorem ob_cells {i : Nat} (h : cellB i = true) (vs : Array Value) (t : Tag) : obOf i vs t = .cells vs t.ty (0, 0) := by
  unfold cellB at h
  unfold obOf
  unfold fzOf
  cases h1 : itB i <;> cases h2 : chB i <;> cases h3 : wnB i <;> rw [h1, h2, h3] at h <;> first | rfl | (simp at h)
/-- how many cells a box has -/
def BxSz (c : Nat → Nat × TypeId) (i n : Nat) (t : TypeId) (k : Nat) : Prop := (chB i = false → k ≤ n) ∧ (wnB i = false → chB i = false → n = k) ∧ (wnB i = true → (c i).1 ≤ n ∧ (c i).2 = t)
theorem BxSz.of {c : Nat → Nat × TypeId} {i n k : Nat} {t : TypeId} (h : n = k) (hw : wnB i = false) : BxSz c i n t k := ⟨fun _ => by omega, fun _ _ => h, fun h1 => by rw [h1] at hw; cases hw⟩
theorem BxSz.ce {c c' : Nat → Nat × TypeId} {i n k : Nat} {t : TypeId} (h : BxSz c i n t k) (he : c' i = c i) : BxSz c' i n t k := ⟨h.1, h.2.1, fun h1 => by rw [he]; exact h.2.2 h1⟩
theorem BxSz.cell {c : Nat → Nat × TypeId} {i n k : Nat} {t : TypeId} (h : BxSz c i n t k) (hq : cellB i = true) : n = k := h.2.1 (by unfold cellB at hq; simp at hq; exact hq.2) (by unfold cellB at hq; simp at hq; exact hq.1.2)
theorem BxSz.kd {c c' : Nat → Nat × TypeId} {i j n k : Nat} {t : TypeId} (h : BxSz c i n t k) (hw : wnB j = wnB i) (hch : chB j = chB i) (he : c' j = c i) : BxSz c' j n t k := ⟨fun hj => h.1 (by rw [← hch]; exact hj), fun hj hj2 => h.2.1 (by rw [← hw]; exact hj) (by rw [← hch]; exact hj2), fun hj => by rw [he]; exact h.2.2 (by rw [← hw]; exact hj)⟩
theorem cell_win {i : Nat} (hq : cellB i = true) : wnB i = false := by unfold cellB at hq; simp at hq; exact hq.2
theorem cell_ch {i : Nat} (hq : cellB i = true) : chB i = false := by unfold cellB at hq; simp at hq; exact hq.1.2
theorem ob_kd {i j : Nat} (h1 : itB j = itB i) (h2 : chB j = chB i) (h3 : wnB j = wnB i) (vs : Array Value) (t : Tag) : obOf j vs t = obOf i vs t := by
  unfold obOf fzOf; rw [h1, h2, h3]
/-- the memory that stays has the program's tables -/
def GT (m : Mm) : Prop := ∀ b o v, tabC b o = some v → m b o = some v
/-- the resources are as they are said; their blocks are nobody else's -/
def RsOk (C : Ctx) (bx : List (Nat × List A)) (ow : List (Nat × Own)) (w : World) (m : Mm) (g : Gh) : Prop :=
  (∀ i R, chB i = true → get bx i = some [.rs R] → R.R w m (g.sf i) (g.rp i) ∧ ∀ k, g.sf i k = true → C.mine k ∧ (∀ o, m k o = none) ∧ (∀ j cs, get bx j = some cs → chB j = false → g.gb j ≠ k) ∧ ∀ j o, get ow j = some o → (g.go j).ownBlock ≠ some k) ∧
  (∀ i j R R', chB i = true → chB j = true → get bx i = some [.rs R] → get bx j = some [.rs R'] → i ≠ j → ∀ k, g.sf i k = true → g.sf j k = false) ∧
  ∀ i cs, chB i = true → get bx i = some cs → Nat.ble 2000 i = true → g.rp i = C.pinr i
/-- boxes and rows as they are said -/
structure EnvG (C : Ctx) (bx : List (Nat × List A)) (ow : List (Nat × Own)) (w : World) (m : Mm) (g : Gh) : Prop where
  lo : LoX C.gv C.w0 w
  gm : ∀ b o, C.gv b = true → C.m0 b o = none
  sub : Sub m w
  ext : ExtX C.gv C.m0 m C.w0.heap.size
  gt : GT m
  lb : ∀ i, g.lb i = (get bx i).isSome
  lw : ∀ i, g.lw i = (get ow i).isSome
  ln : ∀ i o, get ow i = some o → g.ln i = o.rows.length
  boxes : ∀ i cs, get bx i = some cs → chB i = false → ∃ (vs : Array Value) (ty : Tag), w.heap[g.gb i]? = some (obOf i vs ty) ∧ BxSz g.cz i vs.size ty.ty cs.length ∧ (∀ (j : Nat) x v, cs[j]? = some x → vs[j]? = some v → AR m g x v ∧ v.oneCell' = true) ∧ C.mine (g.gb i) ∧ ∀ o, m (g.gb i) o = none
  inj : ∀ i j ci cj, get bx i = some ci → get bx j = some cj → chB i = false → chB j = false → g.gb i = g.gb j → i = j
  owns : ∀ i o, get ow i = some o → ∃ vs : List Value, RowM w 0 o.e o.sz (g.go i) o.rows.length vs ∧ (∀ r ∈ o.rows, r.length = o.sz) ∧
    CellsAre m o.rows.flatten vs ∧ ∀ b, (g.go i).ownBlock = some b → (∀ k, m b k = (vis i vs)[k]?) ∧ (∀ j cs, get bx j = some cs → chB j = false → g.gb j ≠ b) ∧ C.mine b
  apart : ∀ i j oi oj, get ow i = some oi → get ow j = some oj → i ≠ j → ∀ b, (g.go i).ownBlock = some b → (g.go j).ownBlock ≠ some b
  pin : ∀ i o, get ow i = some o → Nat.ble 2000 i = true → g.go i = C.pin i
  pinb : ∀ i cs, get bx i = some cs → Nat.ble 2000 i = true → g.gb i = C.pinb i
  rs : RsOk C bx ow w m g
  nb : ∀ i n, chB i = true → get bx i = some [.lo n] → ∀ b, C.mine b → n ≤ b
  nf : ∀ b o u, C.mine b → m b o = some u → nfB w b o = true

structure RelG (C : Ctx) (N : Nat) (st : St) (a : Act) (w : World) (m : Mm) (g : Gh) : Prop where
  env : EnvG C st.bx st.ow w m g
  size : a.tmps.size = N
  defers : a.defers = []
  tmps : ∀ s x, get st.tm s = some x → AR m g x (a.eval (.tmp s))
def Rel (C : Ctx) (N : Nat) (st : St) (a : Act) (w : World) : Prop := ∃ m g, RelG C N st a w m g

/-- what turns beside the resources: T, the blocks that may turn -/
theorem EnvG.rsF {C : Ctx} {bx bx' : List (Nat × List A)} {ow ow' : List (Nat × Own)} {w w' : World} {m m' : Mm} {g g' : Gh} (h : EnvG C bx ow w m g) (T : Nat → Prop)
    (hb : ∀ i R, chB i = true → get bx' i = some [.rs R] → get bx i = some [.rs R] ∧ g'.sf i = g.sf i ∧ g'.rp i = g.rp i)
    (hr : ∀ i cs, chB i = true → get bx' i = some cs → Nat.ble 2000 i = true → g'.rp i = g.rp i ∧ ∃ cs', get bx i = some cs')
    (hT : ∀ k, T k → (∃ j cs, get bx j = some cs ∧ chB j = false ∧ g.gb j = k) ∨ ∃ j o, get ow j = some o ∧ (g.go j).ownBlock = some k)
    (hw : ∀ k, k < w.heap.size → ¬ T k → w'.heap[k]? = w.heap[k]?) (hm : ∀ b o v, m b o = some v → m' b o = some v) (hn : ∀ b, b < w.heap.size → ¬ T b → (∀ o, m b o = none) → ∀ o, m' b o = none)
    (hx : ∀ j cs, get bx' j = some cs → chB j = false → (∃ j' cs', get bx j' = some cs' ∧ chB j' = false ∧ g'.gb j = g.gb j') ∨ w.heap.size ≤ g'.gb j ∨ ∃ j' o', get ow j' = some o' ∧ (g.go j').ownBlock = some (g'.gb j))
    (ho : ∀ j o, get ow' j = some o → ∀ b, (g'.go j).ownBlock = some b → (∃ j' o', get ow j' = some o' ∧ (g.go j').ownBlock = some b) ∨ w.heap.size ≤ b ∨ ∃ j' cs', get bx j' = some cs' ∧ chB j' = false ∧ g.gb j' = b) : RsOk C bx' ow' w' m' g' := by
  obtain ⟨h1, h2, h9⟩ := h.rs
  refine ⟨fun i R hci hi => ?_, fun i j R R' hci hcj hi hj hij k hk => ?_, fun i cs hci hi hp => ?_⟩
  · obtain ⟨e1, e3, e4⟩ := hb i R hci hi
    obtain ⟨hR, hS⟩ := h1 i R hci e1
    rw [e3, e4]
    have hnT : ∀ k, g.sf i k = true → k < w.heap.size ∧ ¬ T k := by
      intro k hk
      obtain ⟨_, _, hS3, hS4⟩ := hS k hk
      refine ⟨R.lt hR hk, fun ht => ?_⟩
      rcases hT k ht with ⟨j, cs, hj, hj1, hj2⟩ | ⟨j, o, hj, hj2⟩
      · exact hS3 j cs hj hj1 hj2
      · exact hS4 j o hj hj2
    refine ⟨R.loc (fun k hk => hw k (hnT k hk).1 (hnT k hk).2) hm hR, fun k hk => ?_⟩
    obtain ⟨hS1, hS2, hS3, hS4⟩ := hS k hk
    obtain ⟨hlt, hnt⟩ := hnT k hk
    refine ⟨hS1, hn k hlt hnt hS2, fun j cs hj hcj he => ?_, fun j o hj he => ?_⟩
    · rcases hx j cs hj hcj with ⟨j', cs', h3, h3', h4⟩ | h3 | ⟨j', o', h3, h4⟩
      · exact hS3 j' cs' h3 h3' (h4.symm.trans he)
      · omega
      · exact hS4 j' o' h3 (he ▸ h4)
    · rcases ho j o hj k he with ⟨j', o', h3, h4⟩ | h3 | ⟨j', cs', h3, h3', h4⟩
      · exact hS4 j' o' h3 h4
      · omega
      · exact hS3 j' cs' h3 h3' h4
  · obtain ⟨e1, e3, e4⟩ := hb i R hci hi
    obtain ⟨f1, f3, f4⟩ := hb j R' hcj hj
    rw [e3] at hk; rw [f3]
    exact h2 i j R R' hci hcj e1 f1 hij k hk
  · obtain ⟨e1, cs', e2⟩ := hr i cs hci hi hp
    rw [e1]; exact h9 i cs' hci e2 hp
theorem mapA_rs {f : A → A} (hf : ∀ x R, f x = .rs R → x = .rs R) {x : A} {R : Rsc} (h : x.mapA f = .rs R) : x = .rs R := by
  cases x with
  | tu cs => cases h
  | ag cs => cases h
  | cl g cs => cases h
  | _ => exact hf _ R h
theorem rs_map {f : A → A} (hf : ∀ x R, f x = .rs R → x = .rs R) {o : Option (List A)} {R : Rsc} (h : o.map (List.map (A.mapA f)) = some [.rs R]) : o = some [.rs R] := by
  cases o with
  | none => cases h
  | some cs =>
    cases cs with
    | nil => cases h
    | cons x cs =>
      cases cs with
      | nil =>
        simp only [Option.map_some, List.map_cons, List.map_nil, Option.some.injEq, List.cons.injEq, and_true] at h
        rw [mapA_rs hf h]
      | cons y cs => simp at h
theorem EnvG.step {C : Ctx} {bx : List (Nat × List A)} {ow : List (Nat × Own)} {w w' : World} {m m' : Mm} {g : Gh} (h : EnvG C bx ow w m g) (hl : Lo w w') (he : Ext m m' w.heap.size) (hs : Sub m' w') (hn : NFx m m' w') : EnvG C bx ow w' m' g where
  lo := h.lo.trans hl
  gm := h.gm
  sub := hs
  ext := h.ext.trans he h.lo.size
  gt := fun b o v ht => he.1 b o v (h.gt b o v ht)
  lb := h.lb
  lw := h.lw
  ln := h.ln
  boxes := fun i cs hi hch => by
    obtain ⟨vs, ty, h1, h2, h3, h4, h5⟩ := h.boxes i cs hi hch
    exact ⟨vs, ty, cells_lo' h1 hl, h2, fun j x v hx hv => ⟨(h3 j x v hx hv).1.mono he.1, (h3 j x v hx hv).2⟩, h4, fun o => by rw [he.2 _ _ (block_lt h1)]; exact h5 o⟩
  inj := h.inj
  owns := fun i o hi => by
    obtain ⟨vs, h1, h2, h3, h4⟩ := h.owns i o hi
    refine ⟨vs, h1.lo hl, h2, h3.mono he.1, fun b hb => ?_⟩
    obtain ⟨h5, h6⟩ := h4 b hb
    refine ⟨fun k => ?_, h6⟩
    rw [he.2 _ _ (h1.lt b hb).2]; exact h5 k
  apart := h.apart
  pin := h.pin
  pinb := h.pinb
  rs := h.rsF (fun _ => False) (fun i R _ hi => ⟨hi, rfl, rfl⟩) (fun i cs _ hi _ => ⟨rfl, cs, hi⟩) (fun _ h => h.elim) (fun k hk _ => Below.block hl k hk) he.1 (fun b hb _ hn o => by rw [he.2 _ _ hb]; exact hn o) (fun j cs hj hcj => .inl ⟨j, cs, hj, hcj, rfl⟩) (fun j o hj b hb => .inl ⟨j, o, hj, hb⟩)
  nb := h.nb
  nf := fun b o u hb hu => by
    rcases hn b o u hu with h1 | h1
    · rw [nfB_eq (Below.block hl b (h.sub.lt h1))]; exact h.nf b o u hb h1
    · exact h1
where
  cells_lo' {w w' : World} {g : Nat} {ob : Obj} (h : w.heap[g]? = some ob) (hl : Lo w w') : w'.heap[g]? = some ob := (Below.block hl g (block_lt h)).trans h

theorem eval_put_same {a : Act} {d N : Nat} (v : Value) (hN : a.tmps.size = N) (hd : d < N) : (a.put (some d) v).eval (.tmp d) = v := by
  show (a.tmps.setIfInBounds d v).getD d undef = v
  rw [Array.getD_eq_getD_getElem?, Array.getElem?_setIfInBounds, if_pos rfl, if_pos (by omega)]; rfl
theorem eval_put_other {a : Act} {d s : Nat} (v : Value) (h : d ≠ s) : (a.put (some d) v).eval (.tmp s) = a.eval (.tmp s) := by
  show (a.tmps.setIfInBounds d v).getD s undef = a.tmps.getD s undef
  rw [Array.getD_eq_getD_getElem?, Array.getD_eq_getD_getElem?, Array.getElem?_setIfInBounds]; simp [h]
theorem size_put {a : Act} (d : Option Tmp) (v : Value) : (a.put d v).tmps.size = a.tmps.size := by
  cases d <;> simp [Act.put]
theorem get_cons {β : Type} {i s : Nat} {x : β} {r : List (Nat × β)} : get ((i, x) :: r) s = if i = s then some x else get r s := by
  show (bif Nat.beq i s then some x else get r s) = _
  cases h : Nat.beq i s with
  | true => rw [if_pos (Nat.eq_of_beq_eq_true h)]; rfl
  | false => rw [if_neg (Nat.ne_of_beq_eq_false h)]; rfl

def NbOk (C : Ctx) (bx : List (Nat × List A)) : Prop := ∀ i n, chB i = true → get bx i = some [.lo n] → ∀ b, C.mine b → n ≤ b
theorem nb_cons {C : Ctx} {bx : List (Nat × List A)} {i : Nat} {cs : List A} (h : NbOk C bx) (hc : chB i = false ∨ ∀ n, cs ≠ [.lo n]) : NbOk C ((i, cs) :: bx) := fun j n hj hg => by
  rw [get_cons] at hg
  by_cases hji : i = j
  · rw [if_pos hji] at hg
    rcases hc with hc | hc
    · rw [hji, hj] at hc; cases hc
    · injection hg with hg; exact absurd hg (hc n)
  · rw [if_neg hji] at hg; exact h j n hj hg

/-- the new value of a slot -/
theorem RelG.put {C : Ctx} {N : Nat} {tm : List (Nat × A)} {bx bx' : List (Nat × List A)} {ow ow' : List (Nat × Own)} {a : Act} {w w' : World} {m m' : Mm} {g g' : Gh} (h : RelG C N ⟨tm, bx, ow⟩ a w m g) (he : EnvG C bx' ow' w' m' g') (hk : ∀ x v, AR m g x v → AR m' g' x v) {d : Nat} {x : A} {v : Value} (hd : d < N) (hv : AR m' g' x v) :
    RelG C N ⟨(d, x) :: tm, bx', ow'⟩ (a.put (some d) v) w' m' g' where
  env := he
  size := by rw [size_put]; exact h.size
  defers := h.defers
  tmps := fun s y hs => by
    rw [get_cons] at hs
    by_cases hds : d = s
    · rw [if_pos hds] at hs
      injection hs with hs; subst hs hds
      rw [eval_put_same v h.size hd]; exact hv
    · rw [if_neg hds] at hs
      rw [eval_put_other v hds]
      exact hk _ _ (h.tmps s y hs)
theorem RelG.put_none {C : Ctx} {N : Nat} {tm : List (Nat × A)} {bx bx' : List (Nat × List A)} {ow ow' : List (Nat × Own)} {a : Act} {w w' : World} {m m' : Mm} {g g' : Gh} (h : RelG C N ⟨tm, bx, ow⟩ a w m g) (he : EnvG C bx' ow' w' m' g') (hk : ∀ x v, AR m g x v → AR m' g' x v) {v : Value} :
    RelG C N ⟨tm, bx', ow'⟩ (a.put none v) w' m' g' :=
  ⟨he, h.size, h.defers, fun s y hs => hk _ _ (h.tmps s y hs)⟩

def Good (C : Ctx) (N : Nat) (Q : Exit → St → Prop) : Exit → Act → World → Prop := fun e a w => ∃ st, Rel C N st a w ∧ Q e st
/-- as Code.wp, in a frame that is not a package's beginning: there a communication may stand -/
def wk (P : Program) (c : Code) (Q : Exit → Act → World → Prop) (a : Act) (w : World) : Prop :=
  ∀ (b : Frame) (k : List Item) (cs : List Frame), b.kind ≠ .early → ∃ e a' w', Q e a' w' ∧ Arrives P (lone (b.at a (.code c :: k)) cs w) b k cs e a' w'
section
variable {P : Program} {Q : Exit → Act → World → Prop} {a : Act} {w : World}
theorem wk_of {c : Code} (h : c.wp P Q a w) : wk P c Q a w := fun b k cs _ => h b k cs
theorem wk_mono {c : Code} {Q' : Exit → Act → World → Prop} (hq : ∀ e a w, Q e a w → Q' e a w) (h : wk P c Q a w) : wk P c Q' a w := fun b k cs hb =>
  let ⟨e, a', w', q, r⟩ := h b k cs hb; ⟨e, a', w', hq _ _ _ q, r⟩
theorem wk_seq {x y : Code} (h : wk P x (Exit.then (wk P y Q) Q) a w) : wk P (.seq x y) Q a w := fun b k cs hb => by
  obtain ⟨e, a1, w1, hq, harr⟩ := h b (.code y :: k) cs hb
  by_cases hn : e = .normal
  · subst hn
    obtain ⟨e2, a2, w2, hq2, harr2⟩ := hq b k cs hb
    exact ⟨e2, a2, w2, hq2, .of_steps (.head step_seq harr) harr2⟩
  · have hq' : Q e a1 w1 := by cases e <;> first | exact hq | exact absurd rfl hn
    exact ⟨e, a1, w1, hq', .of_steps (.one step_seq) (.pass (x := .code y) rfl (fun _ _ => .inl hn) harr)⟩
theorem wk_block {id : Nat} {c : Code} (h : wk P c (Exit.inBlock id Q) a w) : wk P (.block id c) Q a w := fun b k cs hb => by
  obtain ⟨e, a1, w1, hq, harr⟩ := h b (.inBlock id :: k) cs hb
  match e, hq, harr with
  | .normal, hq, harr => exact ⟨.normal, a1, w1, hq, .head step_block (Steps.trans harr (.one step_inBlock))⟩
  | .exit id', hq, harr =>
    by_cases hid : id' = id
    · have hq' : Q .normal a1 w1 := by simpa only [Exit.inBlock, hid, if_true] using hq
      exact ⟨.normal, a1, w1, hq', .head step_block (harr k (by simp [exitTo, hid]))⟩
    · have hq' : Q (.exit id') a1 w1 := by simpa only [Exit.inBlock, hid, if_false] using hq
      have hne : (id == id') = false := by simpa using fun h : id = id' => hid h.symm
      exact ⟨.exit id', a1, w1, hq', fun k' hk => .head step_block (harr k' (by simp [exitTo, hne, hk]))⟩
  | .goto l, hq, harr => exact ⟨.goto l, a1, w1, hq, fun k' hk => .head step_block (harr k' (by simp [gotoIn, hk]))⟩
  | .ret, hq, harr => exact ⟨.ret, a1, w1, hq, .of_steps (.one step_block) harr⟩
  | .panic ch, hq, harr => exact ⟨.panic ch, a1, w1, hq, .of_steps (.one step_block) harr⟩
  | .outgrown, hq, harr => exact ⟨.outgrown, a1, w1, hq, .of_steps (b := b) (k := k) (cs := cs) (e := .outgrown) (.one step_block) harr⟩
theorem wk_cond {c : Operand} {x y : Code} {t : Bool} (hc : a.eval c = .bool t) (h : wk P (if t then x else y) Q a w) : wk P (.cond c x y) Q a w := fun b k cs hb =>
  let ⟨e, a', w', q, r⟩ := h b k cs hb; ⟨e, a', w', q, .of_steps (.one (step_cond hc)) r⟩
/-- from a frame's beginning -/
theorem calls_of_wk {f : FuncId} {fn : Func} {c : Code} {args : Array Value} {R : Ending → World → Prop} (hf : P.funcs[f]? = some fn) (hb : fn.body = some c)
    (h : wk P c (bodyPost P fn R) { tmps := args ++ Array.replicate (fn.ntmps - args.size) undef, defers := [] } w) : Calls P f args w R := by
  intro cs
  have he : Frame.enter P f args .normal = ({ (default : Frame) with fn := f, kind := .normal } : Frame).at { tmps := args ++ Array.replicate (fn.ntmps - args.size) undef, defers := [] } [.code c] := by
    simp [Frame.enter, Frame.at, hf, hb]
  obtain ⟨e, a', w', hq, harr⟩ := h ({ (default : Frame) with fn := f, kind := .normal } : Frame) [] cs (by simp)
  rw [← he] at harr
  match e, hq, harr with
  | .normal, ⟨hd, v, hr, hR⟩, harr => exact ⟨.returned v, w', _, hR, Steps.trans harr (.one step_end), rfl, rfl, hd, rfl, fn, hf, hr⟩
  | .ret, ⟨hd, v, hr, hR⟩, ⟨todo, hs⟩ => exact ⟨.returned v, w', _, hR, hs, rfl, rfl, hd, rfl, fn, hf, hr⟩
  | .panic ch, ⟨hd, hR⟩, ⟨todo, hs⟩ => exact ⟨.panicked ch, w', _, hR, hs, rfl, rfl, hd, fn, hf⟩
  | .exit id, hq, _ => exact hq.elim
  | .goto l, hq, _ => exact hq.elim
  | .outgrown, hq, harr => exact ⟨.outgrown, w', { (default : Frame) with fn := f, kind := .normal }, hq, harr.resolve_left (by simp), rfl, trivial⟩
end
structure SWp (P : Program) (N : Nat) (c : Code) (Q : Exit → St → Prop) (st : St) : Prop where
  go : ∀ C a w, Rel C N st a w → wk P c (Good C N Q) a w
structure SOps (P : Program) (N : Nat) (ops : Array Oper) (Q : Exit → St → Prop) (l : List Oper) (st : St) : Prop where
  go : ∀ C a w, Rel C N st a w → wpList P ops (Good C N Q) l a w
def thenF (P : Program) (N : Nat) (c : Code) (Q : Exit → St → Prop) : Exit → St → Prop
  | .normal, st => SWp P N c Q st
  | e, st => Q e st
structure Then (P : Program) (N : Nat) (c : Code) (Q : Exit → St → Prop) (e : Exit) (st : St) : Prop where
  go : thenF P N c Q e st
def blockF (id : Nat) (Q : Exit → St → Prop) : Exit → St → Prop
  | .exit id', st => if id' = id then Q .normal st else Q (.exit id') st
  | e, st => Q e st
structure InBlock (id : Nat) (Q : Exit → St → Prop) (e : Exit) (st : St) : Prop where
  go : blockF id Q e st

section
variable {P : Program} {N : Nat} {Q : Exit → St → Prop} {st : St}
theorem swp_skip (h : Q .normal st) : SWp P N .skip Q st := .mk fun C a w hr => wk_of (wp_skip ⟨st, hr, h⟩)
theorem swp_exit {id : Nat} (h : Q (.exit id) st) : SWp P N (.exit id) Q st := .mk fun C a w hr => wk_of (wp_exit ⟨st, hr, h⟩)
theorem swp_ret (h : Q .ret st) : SWp P N .ret Q st := .mk fun C a w hr => wk_of (wp_ret ⟨st, hr, h⟩)
theorem swp_seq {x y : Code} (h : SWp P N x (Then P N y Q) st) : SWp P N (.seq x y) Q st := .mk fun C a w hr =>
  wk_seq (wk_mono (fun e a' w' ⟨st', hr', hq⟩ => by
    cases e with
    | normal => exact (show SWp P N y Q st' from hq.go).go C a' w' hr'
    | _ => exact ⟨st', hr', hq.go⟩) (h.go C a w hr))
theorem swp_block {id : Nat} {c : Code} (h : SWp P N c (InBlock id Q) st) : SWp P N (.block id c) Q st := .mk fun C a w hr =>
  wk_block (wk_mono (fun e a' w' ⟨st', hr', hq⟩ => by
    cases e with
    | exit id' =>
      show if id' = id then _ else _
      by_cases hid : id' = id
      · have hq' : (if id' = id then Q .normal st' else Q (.exit id') st') := hq.go
        rw [if_pos hid] at hq' ⊢
        exact ⟨st', hr', hq'⟩
      · have hq' : (if id' = id then Q .normal st' else Q (.exit id') st') := hq.go
        rw [if_neg hid] at hq' ⊢
        exact ⟨st', hr', hq'⟩
    | _ => exact ⟨st', hr', hq.go⟩) (h.go C a w hr))
/-- what is forgotten -/
structure Weak (N : Nat) (st st' : St) : Prop where
  go : ∀ C a w, Rel C N st a w → Rel C N st' a w
theorem Weak.refl {st : St} : Weak N st st := .mk fun _ _ _ h => h
theorem Weak.trans {a b c : St} (h : Weak N a b) (k : Weak N b c) : Weak N a c := .mk fun C x w hr => k.go C x w (h.go C x w hr)
theorem swp_weak {c : Code} {st' : St} (hw : Weak N st st') (h : SWp P N c Q st') : SWp P N c Q st := .mk fun C a w hr => h.go C a w (hw.go C a w hr)
theorem sops_weak {ops : Array Oper} {l : List Oper} {st' : St} (hw : Weak N st st') (h : SOps P N ops Q l st') : SOps P N ops Q l st := .mk fun C a w hr => h.go C a w (hw.go C a w hr)
def forF (N : Nat) (S : Nat → St) (I : Nat → Prop) (n k : Nat) (Q : Exit → St → Prop) : Exit → St → Prop
  | .normal, s' => k < n ∧ I (k + 1) ∧ Weak N s' (S (k + 1))
  | e, s' => Q e s'
structure ForQ (N : Nat) (S : Nat → St) (I : Nat → Prop) (n k : Nat) (Q : Exit → St → Prop) (e : Exit) (s' : St) : Prop where
  go : forF N S I n k Q e s'
/-- a loop whose rounds are numbered -/
theorem swp_for {c : Code} (S : Nat → St) (I : Nat → Prop) (n : Nat) (h0 : Weak N st (S 0)) (hI : I 0) (hround : ∀ k, k ≤ n → I k → SWp P N c (ForQ N S I n k Q) (S k)) : SWp P N (.loop c) Q st := by
  refine .mk fun C a w hr => ?_
  have key : ∀ d k a w, n - k = d → k ≤ n → I k → Rel C N (S k) a w → ∀ (b : Frame) (kk : List Item) (cs : List Frame), b.kind ≠ .early → ∃ e a' w', Good C N Q e a' w' ∧ Arrives P (lone (b.at a (.code c :: .inLoop c :: kk)) cs w) b kk cs e a' w' := by
    intro d
    induction d with
    | zero =>
      intro k a w hn hk hi hr b kk cs hb
      obtain ⟨e, a1, w1, ⟨s1, hr1, hq⟩, harr⟩ := (hround k hk hi).go C a w hr b (.inLoop c :: kk) cs hb
      cases e with
      | normal => obtain ⟨h1, h3, h2⟩ := hq.go; omega
      | exit id => exact ⟨_, a1, w1, ⟨s1, hr1, hq.go⟩, .pass (x := .inLoop c) rfl (fun _ _ => .inl (by simp)) harr⟩
      | goto l => exact ⟨_, a1, w1, ⟨s1, hr1, hq.go⟩, .pass (x := .inLoop c) rfl (fun _ _ => .inl (by simp)) harr⟩
      | ret => exact ⟨_, a1, w1, ⟨s1, hr1, hq.go⟩, .pass (x := .inLoop c) rfl (fun _ _ => .inl (by simp)) harr⟩
      | panic ch => exact ⟨_, a1, w1, ⟨s1, hr1, hq.go⟩, .pass (x := .inLoop c) rfl (fun _ _ => .inl (by simp)) harr⟩
      | outgrown => exact ⟨_, a1, w1, ⟨s1, hr1, hq.go⟩, .pass (x := .inLoop c) rfl (fun _ _ => .inl (by simp)) harr⟩
    | succ d ih =>
      intro k a w hn hk hi hr b kk cs hb
      obtain ⟨e, a1, w1, ⟨s1, hr1, hq⟩, harr⟩ := (hround k hk hi).go C a w hr b (.inLoop c :: kk) cs hb
      cases e with
      | normal =>
        obtain ⟨h1, h3, h2⟩ := hq.go
        obtain ⟨e2, a2, w2, hq2, harr2⟩ := ih (k + 1) a1 w1 (by omega) (by omega) h3 (h2.go C a1 w1 hr1) b kk cs hb
        exact ⟨e2, a2, w2, hq2, .of_steps (Steps.trans harr (.one step_inLoop)) harr2⟩
      | exit id => exact ⟨_, a1, w1, ⟨s1, hr1, hq.go⟩, .pass (x := .inLoop c) rfl (fun _ _ => .inl (by simp)) harr⟩
      | goto l => exact ⟨_, a1, w1, ⟨s1, hr1, hq.go⟩, .pass (x := .inLoop c) rfl (fun _ _ => .inl (by simp)) harr⟩
      | ret => exact ⟨_, a1, w1, ⟨s1, hr1, hq.go⟩, .pass (x := .inLoop c) rfl (fun _ _ => .inl (by simp)) harr⟩
      | panic ch => exact ⟨_, a1, w1, ⟨s1, hr1, hq.go⟩, .pass (x := .inLoop c) rfl (fun _ _ => .inl (by simp)) harr⟩
      | outgrown => exact ⟨_, a1, w1, ⟨s1, hr1, hq.go⟩, .pass (x := .inLoop c) rfl (fun _ _ => .inl (by simp)) harr⟩
  intro b k cs hb
  obtain ⟨e, a', w', hq, harr⟩ := key _ 0 a w rfl (Nat.zero_le _) hI (h0.go C a w hr) b k cs hb
  exact ⟨e, a', w', hq, .of_steps (.one step_loop) harr⟩
end
end Go.Proofs.YtnclifgiakmmoaaGreat.Sim
