/- A logic of states: what slots hold, as trees of data; rules for a function's control. -/
import Derived.Test.YtmjckopplkihlaaRegion3
import Derived.Test.YtmjckopplkihlaaFoot2
namespace Go.Proofs.Ytmjckopplkihlaa.Sim
set_option linter.unusedVariables false
set_option linter.unusedSimpArgs false
open Go.RowKit Mem

/-- data: a value just so; a slice's rows of cells; a struct's cells; results; a place that holds cells; a function with what it captured -/
inductive T where
  | v (x : Value)
  | sl (sz : Nat) (rows : List (List T))
  | agg (cs : List T)
  | tup (cs : List T)
  | tp (cs : List T)
  | clo (f : FuncId) (caps : List T)
deriving Inhabited

/-- memory that stays -/
abbrev Mm := Nat → Nat → Option Value
def Sub (m : Mm) (w : World) : Prop := ∀ b o v, m b o = some v → w.cell? ⟨b, o, none⟩ = some v
def Ext (m m' : Mm) (n : Nat) : Prop := (∀ b o v, m b o = some v → m' b o = some v) ∧ ∀ b o, b < n → m' b o = m b o

inductive TR (m : Mm) : T → Value → Prop
  | v (x : Value) : TR m (.v x) x
  | sl (sz : Nat) (rows : List (List T)) (A : Option Addr) (b off cap : Nat) (u : Nat → Nat → Value)
      (hc : rows.length ≤ cap) (hm : cap ≤ maxLen) (hA : rows ≠ [] → A = some ⟨b, off, none⟩) (hr : ∀ r ∈ rows, r.length = sz)
      (hu : ∀ (k j : Nat) (r : List T) (t : T), rows[k]? = some r → r[j]? = some t → m b (off + (k * sz + j)) = some (u k j) ∧ (u k j).oneCell' = true)
      (ht : ∀ (k j : Nat) (r : List T) (t : T), rows[k]? = some r → r[j]? = some t → TR m t (u k j)) : TR m (.sl sz rows) (.slice A rows.length cap)
  | agg (cs : List T) (vs : Array Value) (h : vs.size = cs.length) (h1 : ∀ v ∈ vs.toList, v.oneCell' = true) (ht : ∀ (j : Nat) t v, cs[j]? = some t → vs[j]? = some v → TR m t v) : TR m (.agg cs) (.agg vs)
  | tup (cs : List T) (vs : Array Value) (h : vs.size = cs.length) (ht : ∀ (j : Nat) t v, cs[j]? = some t → vs[j]? = some v → TR m t v) : TR m (.tup cs) (.tuple vs)
  | tp (cs : List T) (b off : Nat) (u : Nat → Value) (hu : ∀ (j : Nat) t, cs[j]? = some t → m b (off + j) = some (u j) ∧ (u j).oneCell' = true) (ht : ∀ (j : Nat) t, cs[j]? = some t → TR m t (u j)) : TR m (.tp cs) (.pointer (some ⟨b, off, none⟩))
  | clo (f : FuncId) (caps : List T) (vs : Array Value) (h : vs.size = caps.length) (ht : ∀ (j : Nat) t v, caps[j]? = some t → vs[j]? = some v → TR m t v) : TR m (.clo f caps) (.func (.func f) #[] vs)

theorem TR.mono {m m' : Mm} (hm : ∀ b o v, m b o = some v → m' b o = some v) {t : T} {v : Value} (h : TR m t v) : TR m' t v := by
  induction h with
  | v x => exact .v x
  | sl sz rows A b off cap u hc hm' hA hr hu _ ih => exact .sl sz rows A b off cap u hc hm' hA hr (fun k j r t h1 h2 => ⟨hm _ _ _ (hu k j r t h1 h2).1, (hu k j r t h1 h2).2⟩) ih
  | agg cs vs h h1 _ ih => exact .agg cs vs h h1 ih
  | tup cs vs h _ ih => exact .tup cs vs h ih
  | tp cs b off u hu _ ih => exact .tp cs b off u (fun j t h => ⟨hm _ _ _ (hu j t h).1, (hu j t h).2⟩) ih
  | clo f caps vs h _ ih => exact .clo f caps vs h ih

theorem Ext.refl (m : Mm) (n : Nat) : Ext m m n := ⟨fun _ _ _ h => h, fun _ _ _ => rfl⟩
theorem Ext.trans {m m' m'' : Mm} {n n' : Nat} (h : Ext m m' n) (k : Ext m' m'' n') (hn : n ≤ n') : Ext m m'' n :=
  ⟨fun b o v hv => k.1 b o v (h.1 b o v hv), fun b o hb => (k.2 b o (by omega)).trans (h.2 b o hb)⟩
theorem Sub.lt {m : Mm} {w : World} (h : Sub m w) {b o : Nat} {v : Value} (hv : m b o = some v) : b < w.heap.size := World.block_lt_of_cell? w _ (h b o v hv)
theorem Sub.lo {m : Mm} {w w' : World} (h : Sub m w) (hl : Lo w w') : Sub m w' := fun b o v hv => lo_keep hl (h b o v hv)

/-- cells as they are said -/
def CellsAre (m : Mm) (ts : List T) (vs : List Value) : Prop := vs.length = ts.length ∧ ∀ (j : Nat) t v, ts[j]? = some t → vs[j]? = some v → TR m t v ∧ v.oneCell' = true
theorem CellsAre.mono {m m' : Mm} (hm : ∀ b o v, m b o = some v → m' b o = some v) {ts : List T} {vs : List Value} (h : CellsAre m ts vs) : CellsAre m' ts vs := ⟨h.1, fun j t v h1 h2 => ⟨(h.2 j t v h1 h2).1.mono hm, (h.2 j t v h1 h2).2⟩⟩

/-- what a slot holds: data; a box's place; a row of the call's own, at its length -/
inductive A where
  | t (x : T)
  | bp (i off : Nat)
  | own (i n : Nat)
  | emp
deriving Inhabited
structure Own where
  e : TypeId
  sz : Nat
  rows : List (List T)
structure St where
  tm : List (Nat × A)
  bx : List (Nat × List A)
  ow : List (Nat × Own)

def get {β : Type} : List (Nat × β) → Nat → Option β
  | [], _ => none
  | (i, x) :: r, s => bif Nat.beq i s then some x else get r s

/-- how boxes and rows lie: their blocks, their values -/
structure Gh where
  gb : Nat → Nat
  go : Nat → Value
  ln : Nat → Nat
  lb : Nat → Bool
  lw : Nat → Bool
def AR (m : Mm) (g : Gh) : A → Value → Prop
  | .t x, v => TR m x v
  | .bp i off, v => g.lb i = true ∧ v = .pointer (some ⟨g.gb i, off, none⟩)
  | .own i n, v => g.lw i = true ∧ n ≤ g.ln i ∧ (∃ A c, v = .slice A n c) ∧ (n = g.ln i → v = g.go i)
  | .emp, v => ∃ A, v = .slice A 0 0
theorem AR.mono {m m' : Mm} (hm : ∀ b o v, m b o = some v → m' b o = some v) {g : Gh} {x : A} {v : Value} (h : AR m g x v) : AR m' g x v := by
  cases x with
  | t x => exact TR.mono hm h
  | bp i off => exact h
  | own i n => exact h
  | emp => exact h
/-- what a call begins with: the world, the memory that stays -/
structure Ctx where
  w0 : World
  m0 : Mm

/-- boxes and rows as they are said -/
structure EnvG (C : Ctx) (bx : List (Nat × List A)) (ow : List (Nat × Own)) (w : World) (m : Mm) (g : Gh) : Prop where
  lo : Lo C.w0 w
  sub : Sub m w
  ext : Ext C.m0 m C.w0.heap.size
  lb : ∀ i, g.lb i = (get bx i).isSome
  lw : ∀ i, g.lw i = (get ow i).isSome
  ln : ∀ i o, get ow i = some o → g.ln i = o.rows.length
  boxes : ∀ i cs, get bx i = some cs → ∃ (vs : Array Value) (ty : TypeId), w.heap[g.gb i]? = some (.cells vs ty (0, 0)) ∧ vs.size = cs.length ∧ (∀ (j : Nat) x v, cs[j]? = some x → vs[j]? = some v → AR m g x v ∧ v.oneCell' = true) ∧ C.w0.heap.size ≤ g.gb i ∧ ∀ o, m (g.gb i) o = none
  inj : ∀ i j ci cj, get bx i = some ci → get bx j = some cj → g.gb i = g.gb j → i = j
  owns : ∀ i o, get ow i = some o → ∃ vs : List Value, w.ownsRow C.w0.heap.size o.e o.sz (g.go i) o.rows.length vs ∧ (∀ r ∈ o.rows, r.length = o.sz) ∧
    CellsAre m o.rows.flatten vs ∧ ∀ b, (g.go i).ownBlock = some b → (∀ k, m b k = vs[k]?) ∧ ∀ j cs, get bx j = some cs → g.gb j ≠ b
  apart : ∀ i j oi oj, get ow i = some oi → get ow j = some oj → i ≠ j → ∀ b, (g.go i).ownBlock = some b → (g.go j).ownBlock ≠ some b

structure RelG (C : Ctx) (N : Nat) (st : St) (a : Act) (w : World) (m : Mm) (g : Gh) : Prop where
  env : EnvG C st.bx st.ow w m g
  size : a.tmps.size = N
  defers : a.defers = []
  tmps : ∀ s x, get st.tm s = some x → AR m g x (a.eval (.tmp s))
def Rel (C : Ctx) (N : Nat) (st : St) (a : Act) (w : World) : Prop := ∃ m g, RelG C N st a w m g

theorem EnvG.step {C : Ctx} {bx : List (Nat × List A)} {ow : List (Nat × Own)} {w w' : World} {m m' : Mm} {g : Gh} (h : EnvG C bx ow w m g) (hl : Lo w w') (he : Ext m m' w.heap.size) (hs : Sub m' w') : EnvG C bx ow w' m' g where
  lo := h.lo.trans hl
  sub := hs
  ext := h.ext.trans he h.lo.size
  lb := h.lb
  lw := h.lw
  ln := h.ln
  boxes := fun i cs hi => by
    obtain ⟨vs, ty, h1, h2, h3, h4, h5⟩ := h.boxes i cs hi
    exact ⟨vs, ty, cells_lo' h1 hl, h2, fun j x v hx hv => ⟨(h3 j x v hx hv).1.mono he.1, (h3 j x v hx hv).2⟩, h4, fun o => by rw [he.2 _ _ (block_lt h1)]; exact h5 o⟩
  inj := h.inj
  owns := fun i o hi => by
    obtain ⟨vs, h1, h2, h3, h4⟩ := h.owns i o hi
    refine ⟨vs, hl.owns h1, h2, h3.mono he.1, fun b hb => ?_⟩
    obtain ⟨h5, h6⟩ := h4 b hb
    refine ⟨fun k => ?_, h6⟩
    rw [he.2 _ _ (h1.lt b hb).2]; exact h5 k
  apart := h.apart
where
  cells_lo' {w w' : World} {g : Nat} {cs : Array Value} {t : TypeId} {fr : Nat × Nat} (h : w.heap[g]? = some (.cells cs t fr)) (hl : Lo w w') : w'.heap[g]? = some (.cells cs t fr) := (Below.block hl g (block_lt h)).trans h

theorem eval_put_same {a : Act} {d N : Nat} (v : Value) (hN : a.tmps.size = N) (hd : d < N) : (a.put (some d) v).eval (.tmp d) = v := by
  show (a.tmps.setIfInBounds d v).getD d undef = v
  rw [Array.getD_eq_getD_getElem?, Array.getElem?_setIfInBounds, if_pos rfl, if_pos (by omega)]; rfl
theorem eval_put_other {a : Act} {d s : Nat} (v : Value) (h : d ≠ s) : (a.put (some d) v).eval (.tmp s) = a.eval (.tmp s) := by
  show (a.tmps.setIfInBounds d v).getD s undef = a.tmps.getD s undef
  rw [Array.getD_eq_getD_getElem?, Array.getD_eq_getD_getElem?, Array.getElem?_setIfInBounds]; simp [h]
theorem size_put {a : Act} (d : Option Tmp) (v : Value) : (a.put d v).tmps.size = a.tmps.size := by
  cases d <;> simp [Act.put]
theorem get_cons {β : Type} {i s : Nat} {x : β} {r : List (Nat × β)} : get ((i, x) :: r) s = if i = s then some x else get r s := by
  show (bif Nat.beq i s then some x else get r s) = _
  cases h : Nat.beq i s with
  | true => rw [if_pos (Nat.eq_of_beq_eq_true h)]; rfl
  | false => rw [if_neg (Nat.ne_of_beq_eq_false h)]; rfl

/-- the new value of a slot -/
theorem RelG.put {C : Ctx} {N : Nat} {tm : List (Nat × A)} {bx bx' : List (Nat × List A)} {ow ow' : List (Nat × Own)} {a : Act} {w w' : World} {m m' : Mm} {g g' : Gh} (h : RelG C N ⟨tm, bx, ow⟩ a w m g) (he : EnvG C bx' ow' w' m' g') (hk : ∀ x v, AR m g x v → AR m' g' x v) {d : Nat} {x : A} {v : Value} (hd : d < N) (hv : AR m' g' x v) :
    RelG C N ⟨(d, x) :: tm, bx', ow'⟩ (a.put (some d) v) w' m' g' where
  env := he
  size := by rw [size_put]; exact h.size
  defers := h.defers
  tmps := fun s y hs => by
    rw [get_cons] at hs
    by_cases hds : d = s
    · rw [if_pos hds] at hs
      injection hs with hs; subst hs hds
      rw [eval_put_same v h.size hd]; exact hv
    · rw [if_neg hds] at hs
      rw [eval_put_other v hds]
      exact hk _ _ (h.tmps s y hs)
theorem RelG.put_none {C : Ctx} {N : Nat} {tm : List (Nat × A)} {bx bx' : List (Nat × List A)} {ow ow' : List (Nat × Own)} {a : Act} {w w' : World} {m m' : Mm} {g g' : Gh} (h : RelG C N ⟨tm, bx, ow⟩ a w m g) (he : EnvG C bx' ow' w' m' g') (hk : ∀ x v, AR m g x v → AR m' g' x v) {v : Value} :
    RelG C N ⟨tm, bx', ow'⟩ (a.put none v) w' m' g' :=
  ⟨he, h.size, h.defers, fun s y hs => hk _ _ (h.tmps s y hs)⟩

def Good (C : Ctx) (N : Nat) (Q : Exit → St → Prop) : Exit → Act → World → Prop := fun e a w => ∃ st, Rel C N st a w ∧ Q e st
structure SWp (P : Program) (N : Nat) (c : Code) (Q : Exit → St → Prop) (st : St) : Prop where
  go : ∀ C a w, Rel C N st a w → c.wp P (Good C N Q) a w
structure SOps (P : Program) (N : Nat) (ops : Array Oper) (Q : Exit → St → Prop) (l : List Oper) (st : St) : Prop where
  go : ∀ C a w, Rel C N st a w → wpList P ops (Good C N Q) l a w
def thenF (P : Program) (N : Nat) (c : Code) (Q : Exit → St → Prop) : Exit → St → Prop
  | .normal, st => SWp P N c Q st
  | e, st => Q e st
structure Then (P : Program) (N : Nat) (c : Code) (Q : Exit → St → Prop) (e : Exit) (st : St) : Prop where
  go : thenF P N c Q e st
def blockF (id : Nat) (Q : Exit → St → Prop) : Exit → St → Prop
  | .exit id', st => if id' = id then Q .normal st else Q (.exit id') st
  | e, st => Q e st
structure InBlock (id : Nat) (Q : Exit → St → Prop) (e : Exit) (st : St) : Prop where
  go : blockF id Q e st

section
variable {P : Program} {N : Nat} {Q : Exit → St → Prop} {st : St}
theorem swp_skip (h : Q .normal st) : SWp P N .skip Q st := .mk fun C a w hr => wp_skip ⟨st, hr, h⟩
theorem swp_label {l : Nat} (h : Q .normal st) : SWp P N (.label l) Q st := .mk fun C a w hr => wp_label ⟨st, hr, h⟩
theorem swp_exit {id : Nat} (h : Q (.exit id) st) : SWp P N (.exit id) Q st := .mk fun C a w hr => wp_exit ⟨st, hr, h⟩
theorem swp_ret (h : Q .ret st) : SWp P N .ret Q st := .mk fun C a w hr => wp_ret ⟨st, hr, h⟩
theorem swp_seq {x y : Code} (h : SWp P N x (Then P N y Q) st) : SWp P N (.seq x y) Q st := .mk fun C a w hr =>
  wp_seq (Code.wp_mono (fun e a' w' ⟨st', hr', hq⟩ => by
    cases e with
    | normal => exact (show SWp P N y Q st' from hq.go).go C a' w' hr'
    | _ => exact ⟨st', hr', hq.go⟩) (h.go C a w hr))
theorem swp_block {id : Nat} {c : Code} (h : SWp P N c (InBlock id Q) st) : SWp P N (.block id c) Q st := .mk fun C a w hr =>
  wp_block (Code.wp_mono (fun e a' w' ⟨st', hr', hq⟩ => by
    cases e with
    | exit id' =>
      show if id' = id then _ else _
      by_cases hid : id' = id
      · have hq' : (if id' = id then Q .normal st' else Q (.exit id') st') := hq.go
        rw [if_pos hid] at hq' ⊢
        exact ⟨st', hr', hq'⟩
      · have hq' : (if id' = id then Q .normal st' else Q (.exit id') st') := hq.go
        rw [if_neg hid] at hq' ⊢
        exact ⟨st', hr', hq'⟩
    | _ => exact ⟨st', hr', hq.go⟩) (h.go C a w hr))
theorem swp_mono {c : Code} {Q' : Exit → St → Prop} (h : SWp P N c Q st) (hq : ∀ e s, Q e s → Q' e s) : SWp P N c Q' st := .mk fun C a w hr =>
  Code.wp_mono (fun e a' w' ⟨st', hr', hq'⟩ => ⟨st', hr', hq _ _ hq'⟩) (h.go C a w hr)
/-- what is forgotten -/
structure Weak (N : Nat) (st st' : St) : Prop where
  go : ∀ C a w, Rel C N st a w → Rel C N st' a w
theorem Weak.refl {st : St} : Weak N st st := .mk fun _ _ _ h => h
theorem Weak.trans {a b c : St} (h : Weak N a b) (k : Weak N b c) : Weak N a c := .mk fun C x w hr => k.go C x w (h.go C x w hr)
theorem swp_weak {c : Code} {st' : St} (hw : Weak N st st') (h : SWp P N c Q st') : SWp P N c Q st := .mk fun C a w hr => h.go C a w (hw.go C a w hr)
theorem sops_weak {ops : Array Oper} {l : List Oper} {st' : St} (hw : Weak N st st') (h : SOps P N ops Q l st') : SOps P N ops Q l st := .mk fun C a w hr => h.go C a w (hw.go C a w hr)
def Upto (N : Nat) (Q : Exit → St → Prop) : Exit → St → Prop := fun e st => ∃ st', Weak N st st' ∧ Q e st'
theorem good_upto {C : Ctx} {e : Exit} {a : Act} {w : World} (h : Good C N (Upto N Q) e a w) : Good C N Q e a w := by
  obtain ⟨s, hr, s', hw, hq⟩ := h
  exact ⟨s', hw.go _ _ _ hr, hq⟩
/-- the ways of a piece meet again in one state -/
theorem swp_join {c : Code} {st' : St} (h : SWp P N c (fun e s => match e with | .normal => Weak N s st' | e => Q e s) st) (k : Q .normal st') : SWp P N c Q st := .mk fun C a w hr =>
  Code.wp_mono (fun e a' w' ⟨s, hr', hq⟩ => by
    cases e with
    | normal => exact ⟨st', hq.go _ _ _ hr', k⟩
    | _ => exact ⟨s, hr', hq⟩) (h.go C a w hr)
theorem swp_loop {c : Code} (I : St → Prop) (μ : St → Nat) (h0 : I st) (hround : ∀ s, I s → SWp P N c (fun e s' => match e with | .normal => ∃ s'', Weak N s' s'' ∧ I s'' ∧ μ s'' < μ s | e => Q e s') s) : SWp P N (.loop c) Q st := by
  refine .mk fun C a w hr => ?_
  have key : ∀ n s a w, μ s = n → I s → Rel C N s a w → ∀ (b : Frame) (k : List Item) (cs : List Frame), ∃ e a' w', Good C N Q e a' w' ∧ Arrives P (lone (b.at a (.code c :: .inLoop c :: k)) cs w) b k cs e a' w' := by
    intro n
    induction n using Nat.strongRecOn with
    | _ n ih =>
      intro s a w hn hI hr b k cs
      obtain ⟨e, a1, w1, ⟨s1, hr1, hq⟩, harr⟩ := (hround s hI).go C a w hr b (.inLoop c :: k) cs
      cases e with
      | normal =>
        obtain ⟨s2, hw, hI2, hlt⟩ := hq
        obtain ⟨e2, a2, w2, hq2, harr2⟩ := ih (μ s2) (hn ▸ hlt) s2 a1 w1 rfl hI2 (hw.go C a1 w1 hr1) b k cs
        exact ⟨e2, a2, w2, hq2, .of_steps (Steps.trans harr (.one step_inLoop)) harr2⟩
      | exit id => exact ⟨_, a1, w1, ⟨s1, hr1, hq⟩, .pass (x := .inLoop c) rfl (fun _ _ => .inl (by simp)) harr⟩
      | goto l => exact ⟨_, a1, w1, ⟨s1, hr1, hq⟩, .pass (x := .inLoop c) rfl (fun _ _ => .inl (by simp)) harr⟩
      | ret => exact ⟨_, a1, w1, ⟨s1, hr1, hq⟩, .pass (x := .inLoop c) rfl (fun _ _ => .inl (by simp)) harr⟩
      | panic ch => exact ⟨_, a1, w1, ⟨s1, hr1, hq⟩, .pass (x := .inLoop c) rfl (fun _ _ => .inl (by simp)) harr⟩
      | outgrown => exact ⟨_, a1, w1, ⟨s1, hr1, hq⟩, .pass (x := .inLoop c) rfl (fun _ _ => .inl (by simp)) harr⟩
  intro b k cs
  obtain ⟨e, a', w', hq, harr⟩ := key _ st a w rfl h0 hr b k cs
  exact ⟨e, a', w', hq, .of_steps (.one step_loop) harr⟩
def forF (N : Nat) (S : Nat → St) (I : Nat → Prop) (n k : Nat) (Q : Exit → St → Prop) : Exit → St → Prop
  | .normal, s' => k < n ∧ I (k + 1) ∧ Weak N s' (S (k + 1))
  | e, s' => Q e s'
structure ForQ (N : Nat) (S : Nat → St) (I : Nat → Prop) (n k : Nat) (Q : Exit → St → Prop) (e : Exit) (s' : St) : Prop where
  go : forF N S I n k Q e s'
/-- a loop whose rounds are numbered -/
theorem swp_for {c : Code} (S : Nat → St) (I : Nat → Prop) (n : Nat) (h0 : Weak N st (S 0)) (hI : I 0) (hround : ∀ k, k ≤ n → I k → SWp P N c (ForQ N S I n k Q) (S k)) : SWp P N (.loop c) Q st := by
  refine .mk fun C a w hr => ?_
  have key : ∀ d k a w, n - k = d → k ≤ n → I k → Rel C N (S k) a w → ∀ (b : Frame) (kk : List Item) (cs : List Frame), ∃ e a' w', Good C N Q e a' w' ∧ Arrives P (lone (b.at a (.code c :: .inLoop c :: kk)) cs w) b kk cs e a' w' := by
    intro d
    induction d with
    | zero =>
      intro k a w hn hk hi hr b kk cs
      obtain ⟨e, a1, w1, ⟨s1, hr1, hq⟩, harr⟩ := (hround k hk hi).go C a w hr b (.inLoop c :: kk) cs
      cases e with
      | normal => obtain ⟨h1, h3, h2⟩ := hq.go; omega
      | exit id => exact ⟨_, a1, w1, ⟨s1, hr1, hq.go⟩, .pass (x := .inLoop c) rfl (fun _ _ => .inl (by simp)) harr⟩
      | goto l => exact ⟨_, a1, w1, ⟨s1, hr1, hq.go⟩, .pass (x := .inLoop c) rfl (fun _ _ => .inl (by simp)) harr⟩
      | ret => exact ⟨_, a1, w1, ⟨s1, hr1, hq.go⟩, .pass (x := .inLoop c) rfl (fun _ _ => .inl (by simp)) harr⟩
      | panic ch => exact ⟨_, a1, w1, ⟨s1, hr1, hq.go⟩, .pass (x := .inLoop c) rfl (fun _ _ => .inl (by simp)) harr⟩
      | outgrown => exact ⟨_, a1, w1, ⟨s1, hr1, hq.go⟩, .pass (x := .inLoop c) rfl (fun _ _ => .inl (by simp)) harr⟩
    | succ d ih =>
      intro k a w hn hk hi hr b kk cs
      obtain ⟨e, a1, w1, ⟨s1, hr1, hq⟩, harr⟩ := (hround k hk hi).go C a w hr b (.inLoop c :: kk) cs
      cases e with
      | normal =>
        obtain ⟨h1, h3, h2⟩ := hq.go
        obtain ⟨e2, a2, w2, hq2, harr2⟩ := ih (k + 1) a1 w1 (by omega) (by omega) h3 (h2.go C a1 w1 hr1) b kk cs
        exact ⟨e2, a2, w2, hq2, .of_steps (Steps.trans harr (.one step_inLoop)) harr2⟩
      | exit id => exact ⟨_, a1, w1, ⟨s1, hr1, hq.go⟩, .pass (x := .inLoop c) rfl (fun _ _ => .inl (by simp)) harr⟩
      | goto l => exact ⟨_, a1, w1, ⟨s1, hr1, hq.go⟩, .pass (x := .inLoop c) rfl (fun _ _ => .inl (by simp)) harr⟩
      | ret => exact ⟨_, a1, w1, ⟨s1, hr1, hq.go⟩, .pass (x := .inLoop c) rfl (fun _ _ => .inl (by simp)) harr⟩
      | panic ch => exact ⟨_, a1, w1, ⟨s1, hr1, hq.go⟩, .pass (x := .inLoop c) rfl (fun _ _ => .inl (by simp)) harr⟩
      | outgrown => exact ⟨_, a1, w1, ⟨s1, hr1, hq.go⟩, .pass (x := .inLoop c) rfl (fun _ _ => .inl (by simp)) harr⟩
  intro b k cs
  obtain ⟨e, a', w', hq, harr⟩ := key _ 0 a w rfl (Nat.zero_le _) hI (h0.go C a w hr) b k cs
  exact ⟨e, a', w', hq, .of_steps (.one step_loop) harr⟩
end
end Go.Proofs.Ytmjckopplkihlaa.Sim
