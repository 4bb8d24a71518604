/- Merged by bundles.py: Foot, Region3, SimTb, SimA. -/
import Derived.Test.YtloippgblkoemaaGreatDoorB0
import Derived.Lib.DecodeN
/- What a value hangs on: the blocks by which it reads; rows of the call's own, element by element. -/
namespace Go.Proofs.YtloippgblkoemaaGreatDoor.Mem
set_option linter.unusedVariables false
set_option linter.unusedSimpArgs false
open Go.RowKit

def Foot {α : Type} (S : Nat → Prop) (R : Rel α) (w : World) (x : α) (cs : List Value) : Prop :=
  ∀ (w' : World) (B : Nat), (∀ p : Addr, S p.block → w'.cell? p = w.cell? p) → (∀ b, S b → b < B) → R B w' x cs
theorem Foot.at {α : Type} {S : Nat → Prop} {R : Rel α} {w : World} {x : α} {cs : List Value} {B : Nat} (h : Foot S R w x cs) (hS : ∀ b, S b → b < B) : R B w x cs := h w B (fun _ _ => rfl) hS
theorem Foot.mono {α : Type} {S S' : Nat → Prop} {R : Rel α} {w : World} {x : α} {cs : List Value} (h : Foot S R w x cs) (hS : ∀ b, S b → S' b) : Foot S' R w x cs := fun w' B h1 h2 => h w' B (fun p hp => h1 p (hS _ hp)) (fun b hb => h2 b (hS _ hb))
theorem Foot.keep {α : Type} {S : Nat → Prop} {R : Rel α} {w w1 : World} {x : α} {cs : List Value} (h : Foot S R w x cs) (hw : ∀ p : Addr, S p.block → w1.cell? p = w.cell? p) : Foot S R w1 x cs := fun w' B h1 h2 => h w' B (fun p hp => (h1 p hp).trans (hw p hp)) h2
theorem Foot.of {α : Type} {R : Rel α} (hR : Kept R) {w : World} {x : α} {cs : List Value} {B : Nat} (h : R B w x cs) : Foot (fun b => b < B) R w x cs := fun w' B' h1 h2 => hR B B' w w' x cs h (fun p hp => h1 p hp) (by
  rcases Nat.lt_or_ge B' B with hh | hh
  · exact absurd (h2 B' hh) (Nat.lt_irrefl _)
  · exact hh)
def Flat {α : Type} (R : Rel α) : Prop := ∀ B w B' w' x cs, R B w x cs → R B' w' x cs
theorem Foot.flat {α : Type} {R : Rel α} (hR : Flat R) {S : Nat → Prop} {w : World} {x : α} {cs : List Value} {B : Nat} (h : R B w x cs) : Foot S R w x cs := fun w' B' _ _ => hR B w B' w' x cs h

abbrev cut (sz k : Nat) (cells : List Value) : List Value := (cells.drop (k * sz)).take sz
def RowF {α : Type} (T : Nat → Prop) (R : Rel α) (e : TypeId) (sz base : Nat) (w : World) (v : Value) (xs : List α) : Prop :=
  ∃ cells, w.ownsRow base e sz v xs.length cells ∧ ∀ k x, xs[k]? = some x → Foot (fun b => b < w.heap.size ∧ T b ∧ some b ≠ v.ownBlock) R w x (cut sz k cells)
theorem RowF.nil {α : Type} {T : Nat → Prop} {R : Rel α} {e : TypeId} {sz base : Nat} {w : World} : RowF T R e sz base w (.slice none 0 0) ([] : List α) := ⟨[], World.ownsRow_nil _ _ _ _, by intro k x h; simp at h⟩
theorem RowF.lo {α : Type} {T : Nat → Prop} {R : Rel α} {e : TypeId} {sz base : Nat} {w w' : World} {v : Value} {xs : List α} (h : RowF T R e sz base w v xs) (hl : Lo w w') : RowF T R e sz base w' v xs := by
  obtain ⟨cells, ho, hf⟩ := h
  exact ⟨cells, hl.owns ho, fun k x hx => ((hf k x hx).keep fun p hp => hl.cell p hp.1).mono fun b hb => ⟨Nat.lt_of_lt_of_le hb.1 hl.size, hb.2⟩⟩
theorem RowF.kept {α : Type} {T : Nat → Prop} {R : Rel α} {e : TypeId} {sz base : Nat} {w w' : World} {v : Value} {xs : List α} {row : Option Nat} (h : RowF T R e sz base w v xs) (hg : w.grownBy w' row) (hne : v.ownBlock = none ∨ v.ownBlock ≠ row) (hT : ∀ g, row = some g → ¬ T g) : RowF T R e sz base w' v xs := by
  obtain ⟨cells, ho, hf⟩ := h
  refine ⟨cells, ho.kept hg hne, fun k x hx => ((hf k x hx).keep fun p hp => ?_).mono fun b hb => ⟨Nat.lt_of_lt_of_le hb.1 hg.size, hb.2⟩⟩
  exact World.cell?_of_block (hg.block _ hp.1 fun e => hT _ e.symm hp.2.1)
theorem RowF.slice {α : Type} {T : Nat → Prop} {R : Rel α} {e : TypeId} {sz base : Nat} {w : World} {v : Value} {xs : List α} (h : RowF T R e sz base w v xs) :
    ∃ A cap, v = .slice A xs.length cap ∧ xs.length ≤ cap ∧ cap ≤ maxLen ∧ Foot (fun b => b < w.heap.size ∧ (T b ∨ some b = v.ownBlock)) (fun B w (ys : List α) (cs : List Value) => cs = [v] ∧ SliceAt R sz B w A ys) w xs [v] := by
  obtain ⟨cells, ⟨hl, ho⟩, hf⟩ := h
  rcases ho with ⟨rfl, hn⟩ | ⟨g, cap, cur, rfl, hg, hh, hnc, hcm, hcs, htk⟩
  · refine ⟨none, 0, by rw [hn], by omega, by simp [maxLen], ?_⟩
    have : xs = [] := List.eq_nil_of_length_eq_zero hn
    subst this
    intro w' B _ _
    exact ⟨rfl, SliceAt.nil⟩
  · refine ⟨some ⟨g, 0, none⟩, cap, rfl, hnc, hcm, ?_⟩
    intro w' B h1 h2
    have hgl : g < w.heap.size := block_lt hh
    have hSg : g < w.heap.size ∧ (T g ∨ some g = (Value.slice (some ⟨g, 0, none⟩) xs.length cap).ownBlock) := ⟨hgl, .inr rfl⟩
    refine ⟨rfl, ?_⟩
    intro k x hx
    have hk : k < xs.length := (List.getElem?_eq_some_iff.1 hx).1
    have hkk : (k + 1) * sz ≤ xs.length * sz := Nat.mul_le_mul_right sz hk
    rw [Nat.succ_mul] at hkk
    refine ⟨g, 0, cut sz k cells, rfl, h2 g hSg, by simp [cut]; omega, ?_, ?_⟩
    · intro j u hj
      have hjs : j < sz := by
        rcases Nat.lt_or_ge j sz with h' | h'
        · exact h'
        · rw [List.getElem?_eq_none (by simp [cut]; omega)] at hj; cases hj
      rw [List.getElem?_take_of_lt hjs, List.getElem?_drop, ← htk, List.getElem?_take_of_lt (by omega)] at hj
      have hc : w.cell? ⟨g, 0 + (k * sz + j), none⟩ = some u := by
        simp only [World.cell?, hh, Nat.zero_add]
        simpa using hj
      exact (h1 ⟨g, _, none⟩ hSg).trans hc
    · exact hf k x hx w' B (fun p hp => h1 p ⟨hp.1, .inl hp.2.1⟩) (fun b hb => h2 b ⟨hb.1, .inl hb.2.1⟩)
theorem RowF.at {α : Type} {T : Nat → Prop} {R : Rel α} {e : TypeId} {sz base : Nat} {w : World} {v : Value} {xs : List α} (h : RowF T R e sz base w v xs) :
    ∃ A cap, v = .slice A xs.length cap ∧ SliceAt R sz w.heap.size w A xs ∧ xs.length ≤ cap ∧ cap ≤ maxLen := by
  obtain ⟨A, cap, hv, h1, h2, hf⟩ := h.slice
  exact ⟨A, cap, hv, (hf.at (fun b hb => hb.1)).2, h1, h2⟩

end Go.Proofs.YtloippgblkoemaaGreatDoor.Mem

/- A region that draws its order and makes memory, guarded operations among them: each operation ahead of N is shown once; from N on the order is forced. -/
namespace Go.Proofs.YtloippgblkoemaaGreatDoor.Mem
set_option linter.unusedVariables false
set_option linter.unusedSimpArgs false
open Go.RowKit

def regionB3 (ops : Array Oper) (N M : Nat) : Bool :=
  decide (N ≤ ops.size) && forcedB ops N && (List.range ops.size).all fun i =>
    (match dstOf ops i with | some d => decide (writer ops d = some i) && decide (d < M) | none => true)
theorem wp_region_mix {P : Program} {id : Nat} {l : List Oper} {Q : Exit → Act → World → Prop} {a0 : Act} {w : World} (N M : Nat) (Φ : Nat → Value → World → Prop)
    (hm : P.follows .mixedOrders = true) (hM : a0.tmps.size = M) (hB : regionB3 l.toArray N M = true)
    (hstable : ∀ i v w1 w2, Φ i v w1 → Lo w1 w2 → Φ i v w2)
    (hspec : ∀ i o, i < N → l.toArray[i]? = some o → ∀ (a : Act) (w' : World), Lo w w' → (∀ j, (deps l.toArray i).contains j = true → ∀ d, dstOf l.toArray j = some d → Φ j (a.eval (.tmp d)) w') →
      (∀ t, ((writer l.toArray t).all fun j => decide (N ≤ j)) = true → a.eval (.tmp t) = a0.eval (.tmp t)) →
      (Region.wanted o (yielded l.toArray a.tmps) = true → o.wp P a w' (fun a' w'' => ∃ v, a' = a.put o.dst v ∧ Lo w' w'' ∧ Φ i v w'') Q) ∧ (Region.wanted o (yielded l.toArray a.tmps) = false → Φ i undef w'))
    (hfin : ∀ (v : Nat → Value) (w' : World), Lo w w' → (∀ i, i < N → Φ i (v i) w') → wpList P l.toArray Q (l.drop N) ((List.range N).foldl (fun a i => a.put (dstOf l.toArray i) (v i)) a0) w') :
    (Code.region id l.toArray true).wp P Q a0 w := by
  unfold regionB3 at hB
  simp only [Bool.and_eq_true, decide_eq_true_eq] at hB
  obtain ⟨⟨hN, hforced⟩, hall⟩ := hB
  rw [List.all_eq_true] at hall
  have hu : ∀ i d, i < l.toArray.size → dstOf l.toArray i = some d → writer l.toArray d = some i ∧ d < M := by
    intro i d hi hd
    have h1 := hall i (by simpa using hi)
    rw [hd] at h1
    simpa only [Bool.and_eq_true, decide_eq_true_eq] using h1
  refine wp_region_spec N Φ hm hN hforced (frame_none _ _) hstable ?_ ?_
  · intro i hi vals w' hlo hnone hd
    have hlt : i < l.toArray.size := by omega
    obtain ⟨o, ho⟩ : ∃ o, l.toArray[i]? = some o := ⟨_, Array.getElem?_eq_getElem hlt⟩
    have hput : ∀ v, (frame l.toArray a0 vals).put o.dst v = frame l.toArray a0 (setV vals i v) := by
      intro v
      cases hdst : o.dst with
      | some d =>
        have : dstOf l.toArray i = some d := by unfold dstOf; rw [ho]; exact hdst
        exact frame_put (hu i d hlt this).1 v
      | none =>
        refine frame_put_none (fun s hs => ?_) v v
        have := writer_spec hs
        rw [ho] at this
        simp only [Option.bind_some, hdst] at this
        cases this
    have hs := hspec i o hi ho (frame l.toArray a0 vals) w' hlo (by
      intro j hj d hjd
      obtain ⟨v, hv, hp⟩ := hd j (by simpa using hj)
      have hjs : j < l.toArray.size := by
        unfold dstOf at hjd
        rcases Nat.lt_or_ge j l.toArray.size with h | h
        · exact h
        · rw [Array.getElem?_eq_none h] at hjd; cases hjd
      obtain ⟨h1, h2⟩ := hu j d hjs hjd
      rw [frame_eval h1 hv (by rw [hM]; exact h2)]
      exact hp) (fun t ht => frame_old' ht hnone)
    unfold wpOp
    rw [ho]
    simp only
    cases hw : Region.wanted o (yielded l.toArray (frame l.toArray a0 vals).tmps)
    · simp only [Bool.false_eq_true, if_false]
      exact ⟨undef, hput _, Lo.refl _, hs.2 hw⟩
    · simp only [if_true]
      refine .inl (Oper.wp_mono ?_ (hs.1 hw))
      rintro a' w'' ⟨v, rfl, hl, hp⟩
      exact ⟨v, hput v, hl, hp⟩
  · intro vals w' hlo hv hn
    have hf := hfin (fun i => (vals i).getD undef) w' hlo (fun i hi => by obtain ⟨v, h1, h2⟩ := hv i hi; simp [h1, h2])
    rw [foldl_frame (fun i d hi hd => (hu i d hi hd).1) N hN] at hf
    have e : (fun i => if i < N then some ((vals i).getD undef) else none) = vals := by
      funext i
      by_cases h : i < N
      · obtain ⟨v, h1, _⟩ := hv i h
        rw [if_pos h, h1]; rfl
      · rw [if_neg h, hn i (by omega)]
    rw [e] at hf
    have hl := wpOps_eq_wpList (P := P) (ops := l.toArray) (Q := Q) (l.drop N) N (by intro j; rw [List.getElem?_drop]; simp)
    have hlen : (l.drop N).length = l.toArray.size - N := by simp
    rw [hlen] at hl
    rw [hl]
    exact hf
end Go.Proofs.YtloippgblkoemaaGreatDoor.Mem

/- The program's tables, that stay: utf8's, where strings.Map is reached. -/
namespace Go.Proofs.YtloippgblkoemaaGreatDoor.Sim
set_option linter.unusedVariables false
set_option linter.unusedSimpArgs false
def tabC : Nat → Nat → Option Value := fun b o => if b = 1 then (if o < 256 then some (.int .u8 (Lib.firstT o)) else none) else if b = 2 then (if o < 32 then some (.int .u8 (if o % 2 = 0 then Lib.accLo (o / 2) else Lib.accHi (o / 2))) else none) else none
end Go.Proofs.YtloippgblkoemaaGreatDoor.Sim

/- A logic of states: what slots hold, as trees of data; rules for a function's control. -/
namespace Go.Proofs.YtloippgblkoemaaGreatDoor.Sim
set_option linter.unusedVariables false
set_option linter.unusedSimpArgs false
open Go.RowKit Mem

inductive T where
  | v (x : Value)
  | sl (sz : Nat) (rows : List (List T))
  | agg (cs : List T)
  | tup (cs : List T)
  | tp (cs : List T)
  | clo (f : FuncId) (caps : List T)
deriving Inhabited

abbrev Mm := Nat → Nat → Option Value
def Sub (m : Mm) (w : World) : Prop := ∀ b o v, m b o = some v → w.cell? ⟨b, o, none⟩ = some v
def Ext (m m' : Mm) (n : Nat) : Prop := (∀ b o v, m b o = some v → m' b o = some v) ∧ ∀ b o, b < n → m' b o = m b o

inductive TR (m : Mm) : T → Value → Prop
  | v (x : Value) : TR m (.v x) x
  | sl (sz : Nat) (rows : List (List T)) (A : Option Addr) (b off cap : Nat) (u : Nat → Nat → Value)
      (hc : rows.length ≤ cap) (hm : cap ≤ maxLen) (hA : rows ≠ [] → A = some ⟨b, off, none⟩) (hr : ∀ r ∈ rows, r.length = sz)
      (hu : ∀ (k j : Nat) (r : List T) (t : T), rows[k]? = some r → r[j]? = some t → m b (off + (k * sz + j)) = some (u k j) ∧ (u k j).oneCell' = true)
      (ht : ∀ (k j : Nat) (r : List T) (t : T), rows[k]? = some r → r[j]? = some t → TR m t (u k j)) : TR m (.sl sz rows) (.slice A rows.length cap)
  | agg (cs : List T) (vs : Array Value) (h : vs.size = cs.length) (h1 : ∀ v ∈ vs.toList, v.oneCell' = true) (ht : ∀ (j : Nat) t v, cs[j]? = some t → vs[j]? = some v → TR m t v) : TR m (.agg cs) (.agg vs)
  | tup (cs : List T) (vs : Array Value) (h : vs.size = cs.length) (ht : ∀ (j : Nat) t v, cs[j]? = some t → vs[j]? = some v → TR m t v) : TR m (.tup cs) (.tuple vs)
  | tp (cs : List T) (b off : Nat) (u : Nat → Value) (hu : ∀ (j : Nat) t, cs[j]? = some t → m b (off + j) = some (u j) ∧ (u j).oneCell' = true) (ht : ∀ (j : Nat) t, cs[j]? = some t → TR m t (u j)) : TR m (.tp cs) (.pointer (some ⟨b, off, none⟩))
  | clo (f : FuncId) (caps : List T) (vs : Array Value) (h : vs.size = caps.length) (ht : ∀ (j : Nat) t v, caps[j]? = some t → vs[j]? = some v → TR m t v) : TR m (.clo f caps) (.func (.func f) #[] vs)

theorem TR.mono {m m' : Mm} (hm : ∀ b o v, m b o = some v → m' b o = some v) {t : T} {v : Value} (h : TR m t v) : TR m' t v := by
  induction h with
  | v x => exact .v x
  | sl sz rows A b off cap u hc hm' hA hr hu _ ih => exact .sl sz rows A b off cap u hc hm' hA hr (fun k j r t h1 h2 => ⟨hm _ _ _ (hu k j r t h1 h2).1, (hu k j r t h1 h2).2⟩) ih
  | agg cs vs h h1 _ ih => exact .agg cs vs h h1 ih
  | tup cs vs h _ ih => exact .tup cs vs h ih
  | tp cs b off u hu _ ih => exact .tp cs b off u (fun j t h => ⟨hm _ _ _ (hu j t h).1, (hu j t h).2⟩) ih
  | clo f caps vs h _ ih => exact .clo f caps vs h ih

theorem Ext.refl (m : Mm) (n : Nat) : Ext m m n := ⟨fun _ _ _ h => h, fun _ _ _ => rfl⟩
theorem Ext.trans {m m' m'' : Mm} {n n' : Nat} (h : Ext m m' n) (k : Ext m' m'' n') (hn : n ≤ n') : Ext m m'' n :=
  ⟨fun b o v hv => k.1 b o v (h.1 b o v hv), fun b o hb => (k.2 b o (by omega)).trans (h.2 b o hb)⟩
theorem Sub.lt {m : Mm} {w : World} (h : Sub m w) {b o : Nat} {v : Value} (hv : m b o = some v) : b < w.heap.size := World.block_lt_of_cell? w _ (h b o v hv)
theorem Sub.lo {m : Mm} {w w' : World} (h : Sub m w) (hl : Lo w w') : Sub m w' := fun b o v hv => lo_keep hl (h b o v hv)

def CellsAre (m : Mm) (ts : List T) (vs : List Value) : Prop := vs.length = ts.length ∧ ∀ (j : Nat) t v, ts[j]? = some t → vs[j]? = some v → TR m t v ∧ v.oneCell' = true
theorem CellsAre.mono {m m' : Mm} (hm : ∀ b o v, m b o = some v → m' b o = some v) {ts : List T} {vs : List Value} (h : CellsAre m ts vs) : CellsAre m' ts vs := ⟨h.1, fun j t v h1 h2 => ⟨(h.2 j t v h1 h2).1.mono hm, (h.2 j t v h1 h2).2⟩⟩

inductive A where
  | t (x : T)
  | bp (i off : Nat)
  | own (i n : Nat)
  | emp
  | oe (i n sz k off : Nat)
  | any
  | sfx (i n sz k : Nat)
  | ag (cs : List A)
  | tu (cs : List A)
  | cl (f : FuncId) (cs : List A)
  | sb (i n sz : Nat) (e : TypeId)
instance : Inhabited A := ⟨.any⟩
structure Own where
  e : TypeId
  sz : Nat
  rows : List (List T)
structure St where
  tm : List (Nat × A)
  bx : List (Nat × List A)
  ow : List (Nat × Own)

def get {β : Type} : List (Nat × β) → Nat → Option β
  | [], _ => none
  | (i, x) :: r, s => bif Nat.beq i s then some x else get r s

structure Gh where
  gb : Nat → Nat
  go : Nat → Value
  ln : Nat → Nat
  lb : Nat → Bool
  lw : Nat → Bool
  cz : Nat → Nat × TypeId := fun _ => (0, 0)
def hid (i : Nat) : Bool := Nat.ble 1000 i
def vis (i : Nat) (vs : List Value) : List Value := bif hid i then [] else vs
theorem vis_get {i : Nat} {vs : List Value} {k : Nat} {u : Value} (h : (vis i vs)[k]? = some u) : vs[k]? = some u := by
  unfold vis at h
  cases e : hid i with
  | true => rw [e] at h; simp at h
  | false => rw [e] at h; exact h
theorem vis_pre {i : Nat} {vs us : List Value} (hp : ∀ (k : Nat) u, vs[k]? = some u → us[k]? = some u) (k : Nat) (u : Value) (h : (vis i vs)[k]? = some u) : (vis i us)[k]? = some u := by
  unfold vis at *
  cases e : hid i with
  | true => rw [e] at h; simp at h
  | false => rw [e] at h; exact hp k u h
theorem vis_see {i : Nat} (h : hid i = false) (vs : List Value) : vis i vs = vs := by unfold vis; rw [h]; rfl
theorem vis_hid {i : Nat} (h : hid i = true) (vs : List Value) : vis i vs = [] := by unfold vis; rw [h]; rfl
def wnB (i : Nat) : Bool := Nat.ble 1900 i && Nat.blt i 2000
def AR0 (m : Mm) (g : Gh) : A → Value → Prop
  | .t x, v => TR m x v
  | .bp i off, v => g.lb i = true ∧ v = .pointer (some ⟨g.gb i, off, none⟩)
  | .own i n, v => g.lw i = true ∧ n ≤ g.ln i ∧ (∃ A c, v = .slice A n c) ∧ (n = g.ln i → v = g.go i)
  | .emp, v => ∃ A, v = .slice A 0 0
  | .oe i n sz k off, v => g.lw i = true ∧ n ≤ g.ln i ∧ (∃ a, v = .pointer a) ∧ (n = g.ln i → ∃ b, (g.go i).ownBlock = some b ∧ v = .pointer (some ⟨b, k * sz + off, none⟩))
  | .any, _ => True
  | .sfx i n sz k, v => g.lw i = true ∧ n ≤ g.ln i ∧ (∃ A c, v = .slice A (n - k) c) ∧ (n = g.ln i → ∃ b cap, g.go i = .slice (some ⟨b, 0, none⟩) n cap ∧ v = .slice (if cap = k then some ⟨b, 0, none⟩ else some ⟨b, k * sz, none⟩) (n - k) (cap - k))
  | .sb i n sz e, v => g.lb i = true ∧ ∃ cap, v = .slice (some ⟨g.gb i, 0, none⟩) n cap ∧ n ≤ cap ∧ cap ≤ maxLen ∧ (wnB i = true → cap * sz ≤ (g.cz i).1 ∧ (g.cz i).2 = e)
  | .ag _, _ => False
  | .tu _, _ => False
  | .cl _ _, _ => False
def AR1 (m : Mm) (g : Gh) : A → Value → Prop
  | .ag cs, v => ∃ vs : Array Value, v = .agg vs ∧ vs.size = cs.length ∧ ∀ (j : Nat) x u, cs[j]? = some x → vs[j]? = some u → AR0 m g x u ∧ u.oneCell' = true
  | .cl f cs, v => ∃ vs : Array Value, v = .func (.func f) #[] vs ∧ vs.size = cs.length ∧ ∀ (j : Nat) x u, cs[j]? = some x → vs[j]? = some u → AR0 m g x u
  | .t x, v => TR m x v
  | .bp i off, v => AR0 m g (.bp i off) v
  | .own i n, v => AR0 m g (.own i n) v
  | .emp, v => AR0 m g .emp v
  | .oe i n sz k off, v => AR0 m g (.oe i n sz k off) v
  | .any, _ => True
  | .sfx i n sz k, v => AR0 m g (.sfx i n sz k) v
  | .sb i n sz e, v => AR0 m g (.sb i n sz e) v
  | .tu _, _ => False
def AR (m : Mm) (g : Gh) : A → Value → Prop
  | .tu cs, v => ∃ vs : Array Value, v = .tuple vs ∧ vs.size = cs.length ∧ ∀ (j : Nat) x u, cs[j]? = some x → vs[j]? = some u → AR1 m g x u
  | .t x, v => TR m x v
  | .bp i off, v => AR0 m g (.bp i off) v
  | .own i n, v => AR0 m g (.own i n) v
  | .emp, v => AR0 m g .emp v
  | .oe i n sz k off, v => AR0 m g (.oe i n sz k off) v
  | .any, _ => True
  | .sfx i n sz k, v => AR0 m g (.sfx i n sz k) v
  | .sb i n sz e, v => AR0 m g (.sb i n sz e) v
  | .ag cs, v => AR1 m g (.ag cs) v
  | .cl f cs, v => AR1 m g (.cl f cs) v
theorem AR0.one {m : Mm} {g : Gh} {x : A} {v : Value} (h : AR0 m g x v) : AR1 m g x v := by
  cases x <;> first | exact h | exact absurd h id
theorem AR1.two {m : Mm} {g : Gh} {x : A} {v : Value} (h : AR1 m g x v) : AR m g x v := by
  cases x <;> first | exact h | exact absurd h id
theorem AR0.two {m : Mm} {g : Gh} {x : A} {v : Value} (h : AR0 m g x v) : AR m g x v := h.one.two
def A.all1 (p : A → Bool) : A → Bool
  | .ag cs => cs.all p
  | .cl _ cs => cs.all p
  | x => p x
def A.allP (p : A → Bool) : A → Bool
  | .tu cs => cs.all fun x => x.all1 p
  | x => x.all1 p
def A.map1 (f : A → A) : A → A
  | .ag cs => .ag (cs.map f)
  | .cl h cs => .cl h (cs.map f)
  | x => f x
def A.mapA (f : A → A) : A → A
  | .tu cs => .tu (cs.map fun x => x.map1 f)
  | x => x.map1 f
theorem AR1.mp {m m' : Mm} {g g' : Gh} (f : A → A) (p : A → Bool) (h : ∀ x v, p x = true → AR0 m g x v → AR0 m' g' (f x) v) {x : A} {v : Value} (hp : x.all1 p = true) (hx : AR1 m g x v) : AR1 m' g' (x.map1 f) v := by
  cases x with
  | ag cs =>
    obtain ⟨vs, e, h1, h2⟩ := hx
    refine ⟨vs, e, by simpa using h1, fun j x u hj hu => ?_⟩
    rw [List.getElem?_map] at hj
    cases hc : cs[j]? with
    | none => rw [hc] at hj; cases hj
    | some y =>
      rw [hc] at hj; simp at hj; subst hj
      exact ⟨h y u ((List.all_eq_true.1 hp) y (List.mem_of_getElem? hc)) (h2 j y u hc hu).1, (h2 j y u hc hu).2⟩
  | cl f' cs =>
    obtain ⟨vs, e, h1, h2⟩ := hx
    refine ⟨vs, e, by simpa using h1, fun j x u hj hu => ?_⟩
    rw [List.getElem?_map] at hj
    cases hc : cs[j]? with
    | none => rw [hc] at hj; cases hj
    | some y =>
      rw [hc] at hj; simp at hj; subst hj
      exact h y u ((List.all_eq_true.1 hp) y (List.mem_of_getElem? hc)) (h2 j y u hc hu)
  | tu cs => exact absurd hx id
  | _ => exact (h _ v hp hx).one
theorem AR.mp {m m' : Mm} {g g' : Gh} (f : A → A) (p : A → Bool) (h : ∀ x v, p x = true → AR0 m g x v → AR0 m' g' (f x) v) {x : A} {v : Value} (hp : x.allP p = true) (hx : AR m g x v) : AR m' g' (x.mapA f) v := by
  cases x with
  | tu cs =>
    obtain ⟨vs, e, h1, h2⟩ := hx
    refine ⟨vs, e, by simpa using h1, fun j x u hj hu => ?_⟩
    rw [List.getElem?_map] at hj
    cases hc : cs[j]? with
    | none => rw [hc] at hj; cases hj
    | some y =>
      rw [hc] at hj; simp at hj; subst hj
      exact (h2 j y u hc hu).mp f p h ((List.all_eq_true.1 hp) y (List.mem_of_getElem? hc))
  | ag cs => exact AR1.two (AR1.mp (x := .ag cs) f p h hp hx)
  | cl f' cs => exact AR1.two (AR1.mp (x := .cl f' cs) f p h hp hx)
  | _ => exact (h _ v hp hx).two
theorem map1_id (x : A) : x.map1 (fun y => y) = x := by cases x <;> simp [A.map1]
theorem mapA_id (x : A) : x.mapA (fun y => y) = x := by
  cases x with
  | tu cs =>
    show A.tu (cs.map fun x => x.map1 fun y => y) = .tu cs
    rw [show cs.map (fun x => x.map1 fun y => y) = cs.map id from List.map_congr_left fun x _ => map1_id x, List.map_id]
  | ag cs => exact map1_id (.ag cs)
  | cl f cs => exact map1_id (.cl f cs)
  | _ => rfl
theorem AR.lift {m m' : Mm} {g g' : Gh} (h : ∀ x v, AR0 m g x v → AR0 m' g' x v) {x : A} {v : Value} (hx : AR m g x v) : AR m' g' x v := by
  have := hx.mp (m' := m') (g' := g') (fun y => y) (fun _ => true) (fun x v _ => h x v) (by
    cases x <;> simp [A.allP, A.all1]
    intro y _; cases y <;> simp [A.all1])
  rwa [mapA_id] at this
theorem AR.liftP {m m' : Mm} {g g' : Gh} (p : A → Bool) (h : ∀ x v, p x = true → AR0 m g x v → AR0 m' g' x v) {x : A} {v : Value} (hp : x.allP p = true) (hx : AR m g x v) : AR m' g' x v := by
  have := hx.mp (m' := m') (g' := g') (fun y => y) p h hp
  rwa [mapA_id] at this
theorem AR0.mono {m m' : Mm} (hm : ∀ b o v, m b o = some v → m' b o = some v) {g : Gh} {x : A} {v : Value} (h : AR0 m g x v) : AR0 m' g x v := by
  cases x with
  | t x => exact TR.mono hm h
  | _ => exact h
theorem AR.mono {m m' : Mm} (hm : ∀ b o v, m b o = some v → m' b o = some v) {g : Gh} {x : A} {v : Value} (h : AR m g x v) : AR m' g x v := h.lift fun _ _ h => h.mono hm
structure Ctx where
  w0 : World
  m0 : Mm
  gv : Nat → Bool
  pin : Nat → Value
  pinb : Nat → Nat
structure LoX (gv : Nat → Bool) (a b : World) : Prop where
  os : b.os = a.os
  tape : b.tape = a.tape
  output : b.output = a.output
  size : a.heap.size ≤ b.heap.size
  block : ∀ i, i < a.heap.size → gv i = false → b.heap[i]? = a.heap[i]?
theorem LoX.grown {gv : Nat → Bool} {a b c : World} {row : Option Nat} (h : LoX gv a b) (hg : b.grownBy c row) (hr : ∀ k, row = some k → a.heap.size ≤ k ∨ gv k = true) : LoX gv a c :=
  ⟨hg.os.trans h.os, hg.tape.trans h.tape, hg.output.trans h.output, Nat.le_trans h.size hg.size, fun i hi hgv => (hg.block i (Nat.lt_of_lt_of_le hi h.size) (fun e => by
    rcases hr i e.symm with h1 | h1
    · omega
    · rw [hgv] at h1; cases h1)).trans (h.block i hi hgv)⟩
theorem LoX.trans {gv : Nat → Bool} {a b c : World} (h : LoX gv a b) (k : Lo b c) : LoX gv a c := h.grown (Lo.grownBy k none) (fun _ h => by cases h)
theorem LoX.of_lo {gv : Nat → Bool} {a b : World} (h : Lo a b) : LoX gv a b := LoX.trans ⟨rfl, rfl, rfl, Nat.le_refl _, fun _ _ _ => rfl⟩ h
theorem LoX.lo {gv : Nat → Bool} {a b : World} (h : LoX gv a b) (hg : ∀ i, gv i = false) : Lo a b := Lo.of_grown ⟨h.os, h.tape, h.output, h.size, fun i hi _ => h.block i hi (hg i)⟩
structure ExtX (gv : Nat → Bool) (m m' : Mm) (n : Nat) : Prop where
  keep : ∀ b o v, m b o = some v → m' b o = some v
  old : ∀ b o, b < n → gv b = false → m' b o = m b o
theorem ExtX.trans {gv : Nat → Bool} {m m' m'' : Mm} {n n' : Nat} (h : ExtX gv m m' n) (k : Ext m' m'' n') (hn : n ≤ n') : ExtX gv m m'' n :=
  ⟨fun b o v hv => k.1 b o v (h.keep b o v hv), fun b o hb hg => (k.2 b o (by omega)).trans (h.old b o hb hg)⟩
theorem ExtX.refl (gv : Nat → Bool) (m : Mm) (n : Nat) : ExtX gv m m n := ⟨fun _ _ _ h => h, fun _ _ _ _ => rfl⟩
theorem ExtX.ext {gv : Nat → Bool} {m m' : Mm} {n : Nat} (h : ExtX gv m m' n) (hg : ∀ b, gv b = false) : Ext m m' n := ⟨h.keep, fun b o hb => h.old b o hb (hg b)⟩
def Ctx.mine (C : Ctx) (b : Nat) : Prop := C.w0.heap.size ≤ b ∨ C.gv b = true

def FzOk (fz : Nat × Nat) (n : Nat) : Prop := fz.2 = 0 ∨ n ≤ fz.1
def RowM (w : World) (base : Nat) (e : TypeId) (size : Nat) (v : Value) (n : Nat) (xs : List Value) : Prop :=
  xs.length = n * size ∧
  ((v = .slice none 0 0 ∧ n = 0) ∨
   ∃ g cap cur, v = .slice (some ⟨g, 0, none⟩) n cap ∧ base ≤ g ∧ (∃ fz, w.heap[g]? = some (.cells cur e fz) ∧ FzOk fz cur.size) ∧ n ≤ cap ∧ cap ≤ maxLen ∧ cap * size ≤ cur.size ∧ cur.toList.take (n * size) = xs)
theorem RowM.of {w : World} {base : Nat} {e : TypeId} {size : Nat} {v : Value} {n : Nat} {xs : List Value} (h : w.ownsRow base e size v n xs) : RowM w base e size v n xs := by
  obtain ⟨h1, h2 | ⟨g, cap, cur, h3, h4, h5, h6, h7, h8, h9⟩⟩ := h
  · exact ⟨h1, .inl h2⟩
  · exact ⟨h1, .inr ⟨g, cap, cur, h3, h4, ⟨(0, 0), h5, .inl rfl⟩, h6, h7, Nat.le_of_eq h8.symm, h9⟩⟩
section
variable {w : World} {base : Nat} {e : TypeId} {size : Nat} {v : Value} {n : Nat} {xs : List Value}
theorem RowM.lt (h : RowM w base e size v n xs) : ∀ k, v.ownBlock = some k → base ≤ k ∧ k < w.heap.size := by
  intro k hk
  rcases h.2 with ⟨rfl, _⟩ | ⟨g, cap, cur, rfl, hb, ⟨fz, hg, _⟩, _⟩
  · simp [Value.ownBlock] at hk
  · simp [Value.ownBlock] at hk
    subst hk
    exact ⟨hb, (Array.getElem?_eq_some_iff.1 hg).1⟩
theorem RowM.kept {w' : World} {row : Option Nat} (h : RowM w base e size v n xs) (hg : w.grownBy w' row) (hne : v.ownBlock = none ∨ v.ownBlock ≠ row) : RowM w' base e size v n xs := by
  refine ⟨h.1, ?_⟩
  rcases h.2 with hn | ⟨g, cap, cur, rfl, hb, ⟨fz, hgg, hf⟩, rest⟩
  · exact .inl hn
  · refine .inr ⟨g, cap, cur, rfl, hb, ⟨fz, ?_, hf⟩, rest⟩
    rw [hg.block g (Array.getElem?_eq_some_iff.1 hgg).1 (by simpa [Value.ownBlock] using hne)]
    exact hgg
theorem RowM.cells (h : RowM w base e size v n xs) {g : Nat} (hg : v.ownBlock = some g) : ∀ (j : Nat) u, xs[j]? = some u → w.cell? ((⟨g, 0, none⟩ : Addr).add j) = some u := by
  intro j u hu
  rcases h.2 with ⟨rfl, _⟩ | ⟨g', cap, cur, rfl, _, ⟨fz, hgg, _⟩, _, _, _, htake⟩
  · simp [Value.ownBlock] at hg
  · simp [Value.ownBlock] at hg
    subst hg
    have hadd : (⟨g', 0, none⟩ : Addr).add j = ⟨g', j, none⟩ := by unfold Addr.add; split <;> simp_all
    rw [hadd, cell_of_row w g' j cur e fz hgg]
    rw [← htake, List.getElem?_take] at hu
    split at hu
    · simpa using hu
    · cases hu
theorem RowM.lo {w' : World} (h : RowM w base e size v n xs) (hl : Lo w w') : RowM w' base e size v n xs := by
  refine h.kept (hl.grownBy none) ?_
  cases hv : v.ownBlock with
  | none => exact .inl rfl
  | some g => exact .inr (by simp)
theorem RowM.low {b' : Nat} (h : RowM w base e size v n xs) (hb : b' ≤ base) : RowM w b' e size v n xs := by
  obtain ⟨hl, h0 | ⟨g, cap, cur, hv, hg, r⟩⟩ := h
  · exact ⟨hl, .inl h0⟩
  · exact ⟨hl, .inr ⟨g, cap, cur, hv, Nat.le_trans hb hg, r⟩⟩
end
structure Tag where
  ty : TypeId
  cap : Nat
  sent : Nat
  recv : Nat
def itB (i : Nat) : Bool := Nat.ble 1000 i && Nat.blt i 1100
def chB (i : Nat) : Bool := (Nat.ble 1100 i && Nat.blt i 1900) || Nat.ble 3000 i
def cellB (i : Nat) : Bool := !(itB i) && !(chB i) && !(wnB i)
def itOf : List Value → Tag → Obj
  | [.string s, .int .i64 p], _ => .stringIter s p.toNat
  | vs, t => .cells vs.toArray t.ty (0, 0)
def fzOf (i n : Nat) (t : Tag) : Nat × Nat := bif wnB i then (bif Nat.beq t.cap 0 then (t.sent, 0) else (n + t.sent, t.recv)) else (0, 0)
def obOf (i : Nat) (vs : Array Value) (t : Tag) : Obj := bif itB i then itOf vs.toList t else bif chB i then .chan t.cap vs false t.sent t.recv false else .cells vs t.ty (fzOf i vs.size t)
theorem ob_cells {i : Nat} (h : cellB i = true) (vs : Array Value) (t : Tag) : obOf i vs t = .cells vs t.ty (0, 0) := by
  unfold cellB at h
  unfold obOf
  unfold fzOf
  cases h1 : itB i <;> cases h2 : chB i <;> cases h3 : wnB i <;> rw [h1, h2, h3] at h <;> first | rfl | (simp at h)
def BxSz (c : Nat → Nat × TypeId) (i n : Nat) (t : TypeId) (k : Nat) : Prop := k ≤ n ∧ (wnB i = false → n = k) ∧ (wnB i = true → (c i).1 ≤ n ∧ (c i).2 = t)
theorem BxSz.of {c : Nat → Nat × TypeId} {i n k : Nat} {t : TypeId} (h : n = k) (hw : wnB i = false) : BxSz c i n t k := ⟨by omega, fun _ => h, fun h1 => by rw [h1] at hw; cases hw⟩
theorem BxSz.ce {c c' : Nat → Nat × TypeId} {i n k : Nat} {t : TypeId} (h : BxSz c i n t k) (he : c' i = c i) : BxSz c' i n t k := ⟨h.1, h.2.1, fun h1 => by rw [he]; exact h.2.2 h1⟩
theorem BxSz.cell {c : Nat → Nat × TypeId} {i n k : Nat} {t : TypeId} (h : BxSz c i n t k) (hq : cellB i = true) : n = k := h.2.1 (by unfold cellB at hq; simp at hq; exact hq.2)
theorem BxSz.it {c : Nat → Nat × TypeId} {i n k : Nat} {t : TypeId} (h : BxSz c i n t k) (hq : itB i = true) : n = k := h.2.1 (by rw [Bool.eq_false_iff]; intro h; unfold itB at hq; unfold wnB at h; simp [Nat.blt_eq] at hq h; omega)
theorem BxSz.kd {c c' : Nat → Nat × TypeId} {i j n k : Nat} {t : TypeId} (h : BxSz c i n t k) (hw : wnB j = wnB i) (he : c' j = c i) : BxSz c' j n t k := ⟨h.1, fun hj => h.2.1 (by rw [← hw]; exact hj), fun hj => by rw [he]; exact h.2.2 (by rw [← hw]; exact hj)⟩
theorem cell_win {i : Nat} (hq : cellB i = true) : wnB i = false := by unfold cellB at hq; simp at hq; exact hq.2
theorem it_win {i : Nat} (hq : itB i = true) : wnB i = false := by rw [Bool.eq_false_iff]; intro h; unfold itB at hq; unfold wnB at h; simp [Nat.blt_eq] at hq h; omega
theorem ob_iter {i : Nat} (h : itB i = true) (s : ByteArray) (p : Nat) (t : Tag) : obOf i #[.string s, .int .i64 p] t = .stringIter s p := by
  unfold obOf; rw [h]; rfl
theorem ob_kd {i j : Nat} (h1 : itB j = itB i) (h2 : chB j = chB i) (h3 : wnB j = wnB i) (vs : Array Value) (t : Tag) : obOf j vs t = obOf i vs t := by
  unfold obOf fzOf; rw [h1, h2, h3]
def GT (m : Mm) : Prop := ∀ b o v, tabC b o = some v → m b o = some v
structure EnvG (C : Ctx) (bx : List (Nat × List A)) (ow : List (Nat × Own)) (w : World) (m : Mm) (g : Gh) : Prop where
  lo : LoX C.gv C.w0 w
  gm : ∀ b o, C.gv b = true → C.m0 b o = none
  sub : Sub m w
  ext : ExtX C.gv C.m0 m C.w0.heap.size
  gt : GT m
  lb : ∀ i, g.lb i = (get bx i).isSome
  lw : ∀ i, g.lw i = (get ow i).isSome
  ln : ∀ i o, get ow i = some o → g.ln i = o.rows.length
  boxes : ∀ i cs, get bx i = some cs → ∃ (vs : Array Value) (ty : Tag), w.heap[g.gb i]? = some (obOf i vs ty) ∧ BxSz g.cz i vs.size ty.ty cs.length ∧ (∀ (j : Nat) x v, cs[j]? = some x → vs[j]? = some v → AR m g x v ∧ v.oneCell' = true) ∧ C.mine (g.gb i) ∧ ∀ o, m (g.gb i) o = none
  inj : ∀ i j ci cj, get bx i = some ci → get bx j = some cj → g.gb i = g.gb j → i = j
  owns : ∀ i o, get ow i = some o → ∃ vs : List Value, RowM w 0 o.e o.sz (g.go i) o.rows.length vs ∧ (∀ r ∈ o.rows, r.length = o.sz) ∧
    CellsAre m o.rows.flatten vs ∧ ∀ b, (g.go i).ownBlock = some b → (∀ k, m b k = (vis i vs)[k]?) ∧ (∀ j cs, get bx j = some cs → g.gb j ≠ b) ∧ C.mine b
  apart : ∀ i j oi oj, get ow i = some oi → get ow j = some oj → i ≠ j → ∀ b, (g.go i).ownBlock = some b → (g.go j).ownBlock ≠ some b
  pin : ∀ i o, get ow i = some o → Nat.ble 2000 i = true → g.go i = C.pin i
  pinb : ∀ i cs, get bx i = some cs → Nat.ble 2000 i = true → g.gb i = C.pinb i

structure RelG (C : Ctx) (N : Nat) (st : St) (a : Act) (w : World) (m : Mm) (g : Gh) : Prop where
  env : EnvG C st.bx st.ow w m g
  size : a.tmps.size = N
  defers : a.defers = []
  tmps : ∀ s x, get st.tm s = some x → AR m g x (a.eval (.tmp s))
def Rel (C : Ctx) (N : Nat) (st : St) (a : Act) (w : World) : Prop := ∃ m g, RelG C N st a w m g

theorem EnvG.step {C : Ctx} {bx : List (Nat × List A)} {ow : List (Nat × Own)} {w w' : World} {m m' : Mm} {g : Gh} (h : EnvG C bx ow w m g) (hl : Lo w w') (he : Ext m m' w.heap.size) (hs : Sub m' w') : EnvG C bx ow w' m' g where
  lo := h.lo.trans hl
  gm := h.gm
  sub := hs
  ext := h.ext.trans he h.lo.size
  gt := fun b o v ht => he.1 b o v (h.gt b o v ht)
  lb := h.lb
  lw := h.lw
  ln := h.ln
  boxes := fun i cs hi => by
    obtain ⟨vs, ty, h1, h2, h3, h4, h5⟩ := h.boxes i cs hi
    exact ⟨vs, ty, cells_lo' h1 hl, h2, fun j x v hx hv => ⟨(h3 j x v hx hv).1.mono he.1, (h3 j x v hx hv).2⟩, h4, fun o => by rw [he.2 _ _ (block_lt h1)]; exact h5 o⟩
  inj := h.inj
  owns := fun i o hi => by
    obtain ⟨vs, h1, h2, h3, h4⟩ := h.owns i o hi
    refine ⟨vs, h1.lo hl, h2, h3.mono he.1, fun b hb => ?_⟩
    obtain ⟨h5, h6⟩ := h4 b hb
    refine ⟨fun k => ?_, h6⟩
    rw [he.2 _ _ (h1.lt b hb).2]; exact h5 k
  apart := h.apart
  pin := h.pin
  pinb := h.pinb
where
  cells_lo' {w w' : World} {g : Nat} {ob : Obj} (h : w.heap[g]? = some ob) (hl : Lo w w') : w'.heap[g]? = some ob := (Below.block hl g (block_lt h)).trans h

theorem eval_put_same {a : Act} {d N : Nat} (v : Value) (hN : a.tmps.size = N) (hd : d < N) : (a.put (some d) v).eval (.tmp d) = v := by
  show (a.tmps.setIfInBounds d v).getD d undef = v
  rw [Array.getD_eq_getD_getElem?, Array.getElem?_setIfInBounds, if_pos rfl, if_pos (by omega)]; rfl
theorem eval_put_other {a : Act} {d s : Nat} (v : Value) (h : d ≠ s) : (a.put (some d) v).eval (.tmp s) = a.eval (.tmp s) := by
  show (a.tmps.setIfInBounds d v).getD s undef = a.tmps.getD s undef
  rw [Array.getD_eq_getD_getElem?, Array.getD_eq_getD_getElem?, Array.getElem?_setIfInBounds]; simp [h]
theorem size_put {a : Act} (d : Option Tmp) (v : Value) : (a.put d v).tmps.size = a.tmps.size := by
  cases d <;> simp [Act.put]
theorem get_cons {β : Type} {i s : Nat} {x : β} {r : List (Nat × β)} : get ((i, x) :: r) s = if i = s then some x else get r s := by
  show (bif Nat.beq i s then some x else get r s) = _
  cases h : Nat.beq i s with
  | true => rw [if_pos (Nat.eq_of_beq_eq_true h)]; rfl
  | false => rw [if_neg (Nat.ne_of_beq_eq_false h)]; rfl

theorem RelG.put {C : Ctx} {N : Nat} {tm : List (Nat × A)} {bx bx' : List (Nat × List A)} {ow ow' : List (Nat × Own)} {a : Act} {w w' : World} {m m' : Mm} {g g' : Gh} (h : RelG C N ⟨tm, bx, ow⟩ a w m g) (he : EnvG C bx' ow' w' m' g') (hk : ∀ x v, AR m g x v → AR m' g' x v) {d : Nat} {x : A} {v : Value} (hd : d < N) (hv : AR m' g' x v) :
    RelG C N ⟨(d, x) :: tm, bx', ow'⟩ (a.put (some d) v) w' m' g' where
  env := he
  size := by rw [size_put]; exact h.size
  defers := h.defers
  tmps := fun s y hs => by
    rw [get_cons] at hs
    by_cases hds : d = s
    · rw [if_pos hds] at hs
      injection hs with hs; subst hs hds
      rw [eval_put_same v h.size hd]; exact hv
    · rw [if_neg hds] at hs
      rw [eval_put_other v hds]
      exact hk _ _ (h.tmps s y hs)
theorem RelG.put_none {C : Ctx} {N : Nat} {tm : List (Nat × A)} {bx bx' : List (Nat × List A)} {ow ow' : List (Nat × Own)} {a : Act} {w w' : World} {m m' : Mm} {g g' : Gh} (h : RelG C N ⟨tm, bx, ow⟩ a w m g) (he : EnvG C bx' ow' w' m' g') (hk : ∀ x v, AR m g x v → AR m' g' x v) {v : Value} :
    RelG C N ⟨tm, bx', ow'⟩ (a.put none v) w' m' g' :=
  ⟨he, h.size, h.defers, fun s y hs => hk _ _ (h.tmps s y hs)⟩

def Good (C : Ctx) (N : Nat) (Q : Exit → St → Prop) : Exit → Act → World → Prop := fun e a w => ∃ st, Rel C N st a w ∧ Q e st
structure SWp (P : Program) (N : Nat) (c : Code) (Q : Exit → St → Prop) (st : St) : Prop where
  go : ∀ C a w, Rel C N st a w → c.wp P (Good C N Q) a w
structure SOps (P : Program) (N : Nat) (ops : Array Oper) (Q : Exit → St → Prop) (l : List Oper) (st : St) : Prop where
  go : ∀ C a w, Rel C N st a w → wpList P ops (Good C N Q) l a w
def thenF (P : Program) (N : Nat) (c : Code) (Q : Exit → St → Prop) : Exit → St → Prop
  | .normal, st => SWp P N c Q st
  | e, st => Q e st
structure Then (P : Program) (N : Nat) (c : Code) (Q : Exit → St → Prop) (e : Exit) (st : St) : Prop where
  go : thenF P N c Q e st
def blockF (id : Nat) (Q : Exit → St → Prop) : Exit → St → Prop
  | .exit id', st => if id' = id then Q .normal st else Q (.exit id') st
  | e, st => Q e st
structure InBlock (id : Nat) (Q : Exit → St → Prop) (e : Exit) (st : St) : Prop where
  go : blockF id Q e st

section
variable {P : Program} {N : Nat} {Q : Exit → St → Prop} {st : St}
theorem swp_skip (h : Q .normal st) : SWp P N .skip Q st := .mk fun C a w hr => wp_skip ⟨st, hr, h⟩
theorem swp_label {l : Nat} (h : Q .normal st) : SWp P N (.label l) Q st := .mk fun C a w hr => wp_label ⟨st, hr, h⟩
theorem swp_exit {id : Nat} (h : Q (.exit id) st) : SWp P N (.exit id) Q st := .mk fun C a w hr => wp_exit ⟨st, hr, h⟩
theorem swp_ret (h : Q .ret st) : SWp P N .ret Q st := .mk fun C a w hr => wp_ret ⟨st, hr, h⟩
theorem swp_seq {x y : Code} (h : SWp P N x (Then P N y Q) st) : SWp P N (.seq x y) Q st := .mk fun C a w hr =>
  wp_seq (Code.wp_mono (fun e a' w' ⟨st', hr', hq⟩ => by
    cases e with
    | normal => exact (show SWp P N y Q st' from hq.go).go C a' w' hr'
    | _ => exact ⟨st', hr', hq.go⟩) (h.go C a w hr))
theorem swp_block {id : Nat} {c : Code} (h : SWp P N c (InBlock id Q) st) : SWp P N (.block id c) Q st := .mk fun C a w hr =>
  wp_block (Code.wp_mono (fun e a' w' ⟨st', hr', hq⟩ => by
    cases e with
    | exit id' =>
      show if id' = id then _ else _
      by_cases hid : id' = id
      · have hq' : (if id' = id then Q .normal st' else Q (.exit id') st') := hq.go
        rw [if_pos hid] at hq' ⊢
        exact ⟨st', hr', hq'⟩
      · have hq' : (if id' = id then Q .normal st' else Q (.exit id') st') := hq.go
        rw [if_neg hid] at hq' ⊢
        exact ⟨st', hr', hq'⟩
    | _ => exact ⟨st', hr', hq.go⟩) (h.go C a w hr))
theorem swp_mono {c : Code} {Q' : Exit → St → Prop} (h : SWp P N c Q st) (hq : ∀ e s, Q e s → Q' e s) : SWp P N c Q' st := .mk fun C a w hr =>
  Code.wp_mono (fun e a' w' ⟨st', hr', hq'⟩ => ⟨st', hr', hq _ _ hq'⟩) (h.go C a w hr)
structure Weak (N : Nat) (st st' : St) : Prop where
  go : ∀ C a w, Rel C N st a w → Rel C N st' a w
theorem Weak.refl {st : St} : Weak N st st := .mk fun _ _ _ h => h
theorem Weak.trans {a b c : St} (h : Weak N a b) (k : Weak N b c) : Weak N a c := .mk fun C x w hr => k.go C x w (h.go C x w hr)
theorem swp_weak {c : Code} {st' : St} (hw : Weak N st st') (h : SWp P N c Q st') : SWp P N c Q st := .mk fun C a w hr => h.go C a w (hw.go C a w hr)
def Upto (N : Nat) (Q : Exit → St → Prop) : Exit → St → Prop := fun e st => ∃ st', Weak N st st' ∧ Q e st'
theorem good_upto {C : Ctx} {e : Exit} {a : Act} {w : World} (h : Good C N (Upto N Q) e a w) : Good C N Q e a w := by
  obtain ⟨s, hr, s', hw, hq⟩ := h
  exact ⟨s', hw.go _ _ _ hr, hq⟩
theorem swp_join {c : Code} {st' : St} (h : SWp P N c (fun e s => match e with | .normal => Weak N s st' | e => Q e s) st) (k : Q .normal st') : SWp P N c Q st := .mk fun C a w hr =>
  Code.wp_mono (fun e a' w' ⟨s, hr', hq⟩ => by
    cases e with
    | normal => exact ⟨st', hq.go _ _ _ hr', k⟩
    | _ => exact ⟨s, hr', hq⟩) (h.go C a w hr)
def forF (N : Nat) (S : Nat → St) (I : Nat → Prop) (n k : Nat) (Q : Exit → St → Prop) : Exit → St → Prop
  | .normal, s' => k < n ∧ I (k + 1) ∧ Weak N s' (S (k + 1))
  | e, s' => Q e s'
structure ForQ (N : Nat) (S : Nat → St) (I : Nat → Prop) (n k : Nat) (Q : Exit → St → Prop) (e : Exit) (s' : St) : Prop where
  go : forF N S I n k Q e s'
theorem swp_for {c : Code} (S : Nat → St) (I : Nat → Prop) (n : Nat) (h0 : Weak N st (S 0)) (hI : I 0) (hround : ∀ k, k ≤ n → I k → SWp P N c (ForQ N S I n k Q) (S k)) : SWp P N (.loop c) Q st := by
  refine .mk fun C a w hr => ?_
  have key : ∀ d k a w, n - k = d → k ≤ n → I k → Rel C N (S k) a w → ∀ (b : Frame) (kk : List Item) (cs : List Frame), ∃ e a' w', Good C N Q e a' w' ∧ Arrives P (lone (b.at a (.code c :: .inLoop c :: kk)) cs w) b kk cs e a' w' := by
    intro d
    induction d with
    | zero =>
      intro k a w hn hk hi hr b kk cs
      obtain ⟨e, a1, w1, ⟨s1, hr1, hq⟩, harr⟩ := (hround k hk hi).go C a w hr b (.inLoop c :: kk) cs
      cases e with
      | normal => obtain ⟨h1, h3, h2⟩ := hq.go; omega
      | exit id => exact ⟨_, a1, w1, ⟨s1, hr1, hq.go⟩, .pass (x := .inLoop c) rfl (fun _ _ => .inl (by simp)) harr⟩
      | goto l => exact ⟨_, a1, w1, ⟨s1, hr1, hq.go⟩, .pass (x := .inLoop c) rfl (fun _ _ => .inl (by simp)) harr⟩
      | ret => exact ⟨_, a1, w1, ⟨s1, hr1, hq.go⟩, .pass (x := .inLoop c) rfl (fun _ _ => .inl (by simp)) harr⟩
      | panic ch => exact ⟨_, a1, w1, ⟨s1, hr1, hq.go⟩, .pass (x := .inLoop c) rfl (fun _ _ => .inl (by simp)) harr⟩
      | outgrown => exact ⟨_, a1, w1, ⟨s1, hr1, hq.go⟩, .pass (x := .inLoop c) rfl (fun _ _ => .inl (by simp)) harr⟩
    | succ d ih =>
      intro k a w hn hk hi hr b kk cs
      obtain ⟨e, a1, w1, ⟨s1, hr1, hq⟩, harr⟩ := (hround k hk hi).go C a w hr b (.inLoop c :: kk) cs
      cases e with
      | normal =>
        obtain ⟨h1, h3, h2⟩ := hq.go
        obtain ⟨e2, a2, w2, hq2, harr2⟩ := ih (k + 1) a1 w1 (by omega) (by omega) h3 (h2.go C a1 w1 hr1) b kk cs
        exact ⟨e2, a2, w2, hq2, .of_steps (Steps.trans harr (.one step_inLoop)) harr2⟩
      | exit id => exact ⟨_, a1, w1, ⟨s1, hr1, hq.go⟩, .pass (x := .inLoop c) rfl (fun _ _ => .inl (by simp)) harr⟩
      | goto l => exact ⟨_, a1, w1, ⟨s1, hr1, hq.go⟩, .pass (x := .inLoop c) rfl (fun _ _ => .inl (by simp)) harr⟩
      | ret => exact ⟨_, a1, w1, ⟨s1, hr1, hq.go⟩, .pass (x := .inLoop c) rfl (fun _ _ => .inl (by simp)) harr⟩
      | panic ch => exact ⟨_, a1, w1, ⟨s1, hr1, hq.go⟩, .pass (x := .inLoop c) rfl (fun _ _ => .inl (by simp)) harr⟩
      | outgrown => exact ⟨_, a1, w1, ⟨s1, hr1, hq.go⟩, .pass (x := .inLoop c) rfl (fun _ _ => .inl (by simp)) harr⟩
  intro b k cs
  obtain ⟨e, a', w', hq, harr⟩ := key _ 0 a w rfl (Nat.zero_le _) hI (h0.go C a w hr) b k cs
  exact ⟨e, a', w', hq, .of_steps (.one step_loop) harr⟩
end
end Go.Proofs.YtloippgblkoemaaGreatDoor.Sim
