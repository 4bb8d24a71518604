/- Merged by bundles.py: SimFn, SimFs, SimBy. -/
import Derived.Test.YtabejnjnkpdjbaaU12
import Derived.Test.YtabejnjnkpdjbaaU7
import Derived.Lib.ConvBytes
import Derived.Laws.BytesString
/- A logic of states: a row put into a family; a family seen from now on. -/
namespace Go.Proofs.Ytabejnjnkpdjbaa.Sim
set_option linter.unusedVariables false
set_option linter.unusedSimpArgs false
open Go.RowKit Mem
def is_ (j : Nat) : Nat → Bool := fun k => Nat.beq k j
theorem get_flt {β : Type} (j : Nat) : ∀ (l : List (Nat × β)) (k : Nat), get (l.filter fun p => !(Nat.beq p.1 j)) k = if k = j then none else get l k
  | [], k => by simp [get]
  | (i, x) :: l, k => by
    have ih := get_flt j l k
    rw [List.filter_cons]
    by_cases h : i = j
    · subst h
      rw [if_neg (by simp [Nat.beq_refl]), ih]
      by_cases hk : k = i
      · rw [if_pos hk, if_pos hk]
      · rw [if_neg hk, if_neg hk, get_cons, if_neg (fun e => hk e.symm)]
    · rw [if_pos (by simp only [Bool.not_eq_true']; exact Bool.eq_false_iff.2 fun e => h (Nat.eq_of_beq_eq_true e)), get_cons, get_cons, ih]
      by_cases hik : i = k
      · subst hik; rw [if_pos rfl, if_neg h, if_pos rfl]
      · rw [if_neg hik, if_neg hik]
def Gh.closeF (g : Gh) (i j : Nat) : Gh := { g with lw := fun k => if k = j then false else g.lw k, sf := fun k b => if k = i then g.sf k b || !(noBlk (g.go j) b) else g.sf k b }
theorem ar0_closeF {m : Mm} {g : Gh} {i j : Nat} {x : A} {v : Value} (h : AR0 m g x v) : AR0 m (g.closeF i j) (clr0 (is_ j) x) v := by
  have key : ∀ k, is_ j k = false → (g.closeF i j).lw k = g.lw k := fun k hk => if_neg (Nat.ne_of_beq_eq_false hk)
  cases x with
  | own k n =>
    show AR0 m _ (bif is_ j k then .any else .own k n) v
    cases hb : is_ j k with
    | true => trivial
    | false => exact ⟨(key k hb).trans h.1, h.2⟩
  | oe k n sz q off =>
    show AR0 m _ (bif is_ j k then .any else .oe k n sz q off) v
    cases hb : is_ j k with
    | true => trivial
    | false => exact ⟨(key k hb).trans h.1, h.2⟩
  | sfx k n sz q =>
    show AR0 m _ (bif is_ j k then .any else .sfx k n sz q) v
    cases hb : is_ j k with
    | true => trivial
    | false => exact ⟨(key k hb).trans h.1, h.2⟩
  | ev k n u =>
    show AR0 m _ (bif is_ j k then .any else .ev k n u) v
    cases hb : is_ j k with
    | true => trivial
    | false => exact ⟨(key k hb).trans h.1, h.2⟩
  | _ => exact h
theorem ar_closeF {m : Mm} {g : Gh} {i j : Nat} {x : A} {v : Value} (h : AR m g x v) : AR m (g.closeF i j) (x.clr (is_ j)) v := h.mp _ (fun _ => true) (fun x v _ h => ar0_closeF h) (allt x)
theorem ins_old {β : Type} {a b : List β} {x y : β} {q : Nat} (h : (a ++ x :: b)[q]? = some y) : (q = a.length ∧ y = x) ∨ (q ≠ a.length ∧ (a ++ b)[if q < a.length then q else q - 1]? = some y) := by
  rcases Nat.lt_trichotomy q a.length with h1 | h1 | h1
  · rw [List.getElem?_append_left h1] at h
    exact .inr ⟨by omega, by rw [if_pos h1, List.getElem?_append_left h1]; exact h⟩
  · subst h1
    rw [ins_at] at h; injection h with h
    exact .inl ⟨rfl, h.symm⟩
  · rw [List.getElem?_append_right (by omega), show q - a.length = (q - a.length - 1) + 1 by omega, List.getElem?_cons_succ] at h
    exact .inr ⟨by omega, by rw [if_neg (by omega), List.getElem?_append_right (by omega), show q - 1 - a.length = q - a.length - 1 by omega]; exact h⟩
section
variable {C : Ctx} {bx : List (Nat × List A)} {ow : List (Nat × Own)} {w : World} {m : Mm} {g : Gh}
theorem EnvG.closeF (he : EnvG C bx ow w m g) {i j : Nat} {a b : List (Value × Own)} {o : Own} (hc : chB i = true) (hb : get bx i = some [.rs (FamR (a ++ b))]) (hj : get ow j = some o) (hh : hid j = true) :
    EnvG C ((i, [.rs (FamR (a ++ (g.go j, o) :: b))]) :: bx.map fun p => (p.1, p.2.map (A.clr (is_ j)))) (ow.filter fun p => !(Nat.beq p.1 j)) w m (g.closeF i j) := by
  obtain ⟨r1, r2, r3⟩ := he.rs
  obtain ⟨⟨f1, f2, f3⟩, hS⟩ := r1 i _ hc hb
  obtain ⟨vs, k1, k2, k3, k4⟩ := he.owns j o hj
  have hsf : ∀ k c, (g.closeF i j).sf k c = if k = i then g.sf k c || !(noBlk (g.go j) c) else g.sf k c := fun k c => rfl
  have hbn : ∀ c, noBlk (g.go j) c = false → (g.go j).ownBlock = some c := fun c h => by
    cases hx : (g.go j).ownBlock with
    | none => unfold noBlk at h; rw [hx] at h; cases h
    | some d =>
      unfold noBlk at h; rw [hx] at h
      simp only [Bool.not_eq_false'] at h
      rw [Nat.eq_of_beq_eq_true h]
  have hbx : ∀ k cs, get ((i, [A.rs (FamR (a ++ (g.go j, o) :: b))]) :: bx.map fun p => (p.1, p.2.map (A.clr (is_ j)))) k = some cs → (k = i ∧ cs = [A.rs (FamR (a ++ (g.go j, o) :: b))]) ∨ (k ≠ i ∧ ∃ c0, get bx k = some c0 ∧ cs = c0.map (A.clr (is_ j))) := fun k cs hk => by
    rw [get_cons] at hk
    by_cases e : i = k
    · subst e; rw [if_pos rfl] at hk; injection hk with hk; exact .inl ⟨rfl, hk.symm⟩
    · rw [if_neg e, get_map2] at hk
      cases h0 : get bx k with
      | none => rw [h0] at hk; cases hk
      | some c0 => rw [h0] at hk; injection hk with hk; exact .inr ⟨fun e' => e e'.symm, c0, rfl, hk.symm⟩
  have hbg : ∀ k cs, get ((i, [A.rs (FamR (a ++ (g.go j, o) :: b))]) :: bx.map fun p => (p.1, p.2.map (A.clr (is_ j)))) k = some cs → ∃ c0, get bx k = some c0 := fun k cs hk => by
    rcases hbx k cs hk with ⟨rfl, _⟩ | ⟨_, c0, h0, _⟩
    · exact ⟨_, hb⟩
    · exact ⟨c0, h0⟩
  have how : ∀ k ok, get (ow.filter fun p => !(Nat.beq p.1 j)) k = some ok → k ≠ j ∧ get ow k = some ok := fun k ok hk => by
    rw [get_flt] at hk
    by_cases e : k = j
    · rw [if_pos e] at hk; cases hk
    · rw [if_neg e] at hk; exact ⟨e, hk⟩
  have hnew : ∀ c, (g.go j).ownBlock = some c → C.mine c ∧ (∀ q, m c q = none) ∧ (∀ k cs, get bx k = some cs → chB k = false → g.gb k ≠ c) ∧ ∀ k ok, get ow k = some ok → k ≠ j → (g.go k).ownBlock ≠ some c := fun c hcu =>
    ⟨(k4 c hcu).2.2, fun q => by rw [(k4 c hcu).1 q, vis_hid hh]; rfl, (k4 c hcu).2.1, fun k ok hk hkj h => he.apart j k o ok hj hk (fun e => hkj e.symm) c hcu h⟩
  exact {
    lo := he.lo, gm := he.gm, sub := he.sub, ext := he.ext, gt := he.gt
    lb := fun k => by
      rw [get_cons]
      by_cases e : i = k
      · subst e; rw [if_pos rfl]; exact (he.lb i).trans (by rw [hb]; rfl)
      · rw [if_neg e, get_map2, Option.isSome_map]; exact he.lb k
    lw := fun k => by
      rw [get_flt]
      show (if k = j then false else g.lw k) = _
      by_cases e : k = j
      · rw [if_pos e, if_pos e]; rfl
      · rw [if_neg e, if_neg e]; exact he.lw k
    ln := fun k ok hk => he.ln k ok (how k ok hk).2
    boxes := fun k cs hk hck => by
      rcases hbx k cs hk with ⟨rfl, _⟩ | ⟨_, c0, h0, rfl⟩
      · rw [hc] at hck; cases hck
      · obtain ⟨us, ty, h1, h2, h3, h4⟩ := he.boxes k c0 h0 hck
        refine ⟨us, ty, h1, .ce (c := g.cz) (by simpa using h2) rfl, fun q x v hx hv => ?_, h4⟩
        rw [List.getElem?_map] at hx
        cases hq : c0[q]? with
        | none => rw [hq] at hx; cases hx
        | some y => rw [hq] at hx; injection hx with hx; subst hx; exact ⟨ar_closeF (h3 q y v hq hv).1, (h3 q y v hq hv).2⟩
    inj := fun p q cp cq h1 h2 h3 h4 => by
      obtain ⟨c0, h5⟩ := hbg p cp h1
      obtain ⟨c1, h6⟩ := hbg q cq h2
      exact he.inj p q c0 c1 h5 h6 h3 h4
    owns := fun k ok hk => by
      obtain ⟨_, hk⟩ := how k ok hk
      obtain ⟨us, h1, h2, h3, h4⟩ := he.owns k ok hk
      refine ⟨us, h1, h2, h3, fun c hcu => ⟨(h4 c hcu).1, fun q cs hq hcq => ?_, (h4 c hcu).2.2⟩⟩
      obtain ⟨c0, h5⟩ := hbg q cs hq
      exact (h4 c hcu).2.1 q c0 h5 hcq
    apart := fun p q op oq h1 h2 => he.apart p q op oq (how p op h1).2 (how q oq h2).2
    pin := fun k ok hk => he.pin k ok (how k ok hk).2
    pinb := fun k cs hk hk2 => by
      obtain ⟨c0, h0⟩ := hbg k cs hk
      exact he.pinb k c0 h0 hk2
    rs := by
      have hold : ∀ k R, get ((i, [A.rs (FamR (a ++ (g.go j, o) :: b))]) :: bx.map fun p => (p.1, p.2.map (A.clr (is_ j)))) k = some [.rs R] → (k = i ∧ R = FamR (a ++ (g.go j, o) :: b)) ∨ (k ≠ i ∧ get bx k = some [.rs R]) := fun k R hk => by
        rcases hbx k _ hk with ⟨rfl, h1⟩ | ⟨hne, c0, h0, h1⟩
        · injection h1 with h1; injection h1 with h1; exact .inl ⟨rfl, h1⟩
        · exact .inr ⟨hne, rs_map (f := clr0 (is_ j)) clr0_rs (o := get bx k) (by rw [h0]; exact congrArg some h1.symm)⟩
      refine ⟨fun k R hck hk => ?_, fun p q R R' hcp hcq h1 h2 hpq c hcc => ?_, fun k cs hck hk hk2 => ?_⟩
      · rcases hold k R hk with ⟨rfl, rfl⟩ | ⟨hne, hk⟩
        · refine ⟨⟨fun c hcs => ?_, fun q p hq => ?_, fun p q x y h1 h2 hpq c hcx => ?_⟩, fun c hcs => ?_⟩
          · rw [hsf, if_pos rfl, Bool.or_eq_true, Bool.not_eq_true'] at hcs
            rcases hcs with hcs | hcs
            · exact f1 c hcs
            · exact (k1.lt c (hbn c hcs)).2
          · rcases ins_old hq with ⟨_, rfl⟩ | ⟨_, hq⟩
            · exact ⟨⟨vs, k1, k2, k3⟩, fun c hcu => by rw [hsf, if_pos rfl, Bool.or_eq_true, Bool.not_eq_true']; exact .inr (noBlk_f hcu)⟩
            · obtain ⟨h5, h6⟩ := f2 _ p hq
              exact ⟨h5, fun c hcu => by rw [hsf, if_pos rfl, Bool.or_eq_true]; exact .inl (h6 c hcu)⟩
          · rcases ins_old h1 with ⟨e1, rfl⟩ | ⟨e1, h1⟩
            · rcases ins_old h2 with ⟨e2, rfl⟩ | ⟨e2, h2⟩
              · omega
              · exact fun h => (hS c ((f2 _ y h2).2 c h)).2.2.2 j o hj hcx
            · rcases ins_old h2 with ⟨e2, rfl⟩ | ⟨e2, h2⟩
              · exact (hS c ((f2 _ x h1).2 c hcx)).2.2.2 j o hj
              · exact f3 _ _ x y h1 h2 (by split <;> split <;> omega) c hcx
          · rw [hsf, if_pos rfl, Bool.or_eq_true, Bool.not_eq_true'] at hcs
            rcases hcs with hcs | hcs
            · obtain ⟨e1, e2, e3, e4⟩ := hS c hcs
              refine ⟨e1, e2, fun q cs hq hcq => ?_, fun q oq hq => e4 q oq (how q oq hq).2⟩
              obtain ⟨c0, h0⟩ := hbg q cs hq
              exact e3 q c0 h0 hcq
            · obtain ⟨e1, e2, e3, e4⟩ := hnew c (hbn c hcs)
              refine ⟨e1, e2, fun q cs hq hcq => ?_, fun q oq hq => e4 q oq (how q oq hq).2 (how q oq hq).1⟩
              obtain ⟨c0, h0⟩ := hbg q cs hq
              exact e3 q c0 h0 hcq
        · obtain ⟨e0, e5⟩ := r1 k R hck hk
          have hs : (g.closeF i j).sf k = g.sf k := by funext c; rw [hsf, if_neg hne]
          rw [hs]
          refine ⟨e0, fun c hcs => ?_⟩
          obtain ⟨e1, e2, e3, e4⟩ := e5 c hcs
          refine ⟨e1, e2, fun q cs hq hcq => ?_, fun q oq hq => e4 q oq (how q oq hq).2⟩
          obtain ⟨c0, h0⟩ := hbg q cs hq
          exact e3 q c0 h0 hcq
      · have hgk : ∀ k R, get ((i, [A.rs (FamR (a ++ (g.go j, o) :: b))]) :: bx.map fun p => (p.1, p.2.map (A.clr (is_ j)))) k = some [.rs R] → ∃ R0, get bx k = some [.rs R0] := fun k R hk => by
          rcases hold k R hk with ⟨rfl, _⟩ | ⟨_, hk⟩
          · exact ⟨_, hb⟩
          · exact ⟨_, hk⟩
        obtain ⟨R0, h10⟩ := hgk p R h1
        obtain ⟨R1, h20⟩ := hgk q R' h2
        rw [hsf] at hcc ⊢
        by_cases hpi : p = i
        · rw [if_pos hpi] at hcc
          have hqi : q ≠ i := fun e => hpq (hpi.trans e.symm)
          rw [if_neg hqi]
          rw [Bool.or_eq_true, Bool.not_eq_true'] at hcc
          rcases hcc with hcc | hcc
          · exact r2 p q R0 R1 hcp hcq h10 h20 hpq c hcc
          · cases hq : g.sf q c with
            | false => rfl
            | true => exact absurd (hbn c hcc) ((r1 q R1 hcq h20).2 c hq |>.2.2.2 j o hj)
        · rw [if_neg hpi] at hcc
          have hold2 := r2 p q R0 R1 hcp hcq h10 h20 hpq c hcc
          split
          · rw [hold2, Bool.false_or]
            cases hn : noBlk (g.go j) c with
            | true => rfl
            | false => exact absurd (hbn c hn) ((r1 p R0 hcp h10).2 c hcc |>.2.2.2 j o hj)
          · exact hold2
      · obtain ⟨c0, h0⟩ := hbg k cs hk
        exact r3 k c0 hck h0 hk2 }
end
section
variable {N : Nat} {tm : List (Nat × A)} {bx : List (Nat × List A)} {ow : List (Nat × Own)}
abbrev clT (j : Nat) (tm : List (Nat × A)) : List (Nat × A) := tm.map fun p => (p.1, p.2.clr (is_ j))
abbrev clX (j : Nat) (bx : List (Nat × List A)) : List (Nat × List A) := bx.map fun p => (p.1, p.2.map (A.clr (is_ j)))
abbrev clO (j : Nat) (ow : List (Nat × Own)) : List (Nat × Own) := ow.filter fun p => !(Nat.beq p.1 j)
theorem clT_get {C : Ctx} {st : St} {a : Act} {w : World} {m : Mm} {g : Gh} (hr : RelG C N st a w m g) {i j s : Nat} {x : A} (hx : get (clT j st.tm) s = some x) : AR m (g.closeF i j) x (a.eval (.tmp s)) := by
  rw [show get (clT j st.tm) s = _ from get_mapv _ _ _] at hx
  cases h : get st.tm s with
  | none => rw [h] at hx; cases hx
  | some y => rw [h] at hx; injection hx with hx; subst hx; exact ar_closeF (hr.tmps s y h)
theorem weak_closeV (s i j E : Nat) (a b : List (Value × Own)) {n n2 : Nat} {o : Own} {u : Value} (hs : get tm s = some (.own j n)) (hE : get tm E = some (.ev j n2 u)) (hb : get bx i = some [.rs (FamR (a ++ b))]) (hj : get ow j = some o) (hn : n = o.rows.length) (hn2 : n2 = o.rows.length) (hc : chB i = true := by rfl) (hh : hid j = true := by rfl) :
    Weak N ⟨tm, bx, ow⟩ ⟨(s, .t (.v u)) :: clT j tm, (i, [.rs (FamR (a ++ (u, o) :: b))]) :: clX j bx, clO j ow⟩ := .mk fun C ac w ⟨m, g, hr⟩ => by
  obtain ⟨_, _, _, h5⟩ := hr.tmps E _ hE
  have hu : g.go j = u := h5 (by rw [hr.env.ln j _ hj]; exact hn2)
  have h1 := hr.env.closeF hc hb hj hh
  rw [hu] at h1
  refine ⟨m, g.closeF i j, h1, hr.size, hr.defers, fun s' x hx => ?_⟩
  rw [get_cons] at hx
  split at hx
  · rename_i e; subst e; injection hx with hx; subst hx
    obtain ⟨_, _, _, h4⟩ := hr.tmps s _ hs
    rw [h4 (by rw [hr.env.ln j _ hj]; exact hn), hu]; exact .v _
  · exact clT_get hr hx
theorem weak_closeG (s i j : Nat) (a b : List (Value × Own)) (c1 c2 : List A) {n : Nat} {o : Own} (hs : get tm s = some (.ag (c1 ++ .own j n :: c2))) (hb : get bx i = some [.rs (FamR (a ++ b))]) (hj : get ow j = some o) (hn : n = o.rows.length) (hc : chB i = true := by rfl) (hh : hid j = true := by rfl) :
    WeakE N ⟨tm, bx, ow⟩ fun u : Value => ⟨(s, .ag (c1.map (clr0 (is_ j)) ++ .t (.v u) :: c2.map (clr0 (is_ j)))) :: clT j tm, (i, [.rs (FamR (a ++ (u, o) :: b))]) :: clX j bx, clO j ow⟩ := .mk fun C ac w ⟨m, g, hr⟩ => by
  refine ⟨g.go j, m, g.closeF i j, hr.env.closeF hc hb hj hh, hr.size, hr.defers, fun s' x hx => ?_⟩
  rw [get_cons] at hx
  split at hx
  · rename_i e; subst e; injection hx with hx; subst hx
    obtain ⟨vs, h1, h2, h3⟩ := hr.tmps s _ hs
    refine ⟨vs, h1, by simpa using h2, fun q x v hx hv => ?_⟩
    rcases ins_old hx with ⟨rfl, rfl⟩ | ⟨hne, hx⟩
    · rw [List.length_map] at hv
      obtain ⟨h5, h6⟩ := h3 c1.length _ v ins_at hv
      obtain ⟨_, _, _, h7⟩ := h5
      refine ⟨?_, h6⟩
      rw [h7 (by rw [hr.env.ln j _ hj]; exact hn)]; exact .v _
    · rw [List.length_map, ← List.map_append, List.getElem?_map] at hx
      rw [List.length_map] at hne
      cases hy : (c1 ++ c2)[if q < c1.length then q else q - 1]? with
      | none => rw [hy] at hx; cases hx
      | some y =>
        rw [hy] at hx; injection hx with hx; subst hx
        have hq := ins_get (a := c1) (b := c2) (x := A.own j n) (if q < c1.length then q else q - 1)
        rw [hy, show (if (if q < c1.length then q else q - 1) < c1.length then (if q < c1.length then q else q - 1) else (if q < c1.length then q else q - 1) + 1) = q by
          by_cases hql : q < c1.length
          · rw [if_pos hql, if_pos hql]
          · rw [if_neg hql, if_neg (by omega)]; omega] at hq
        obtain ⟨h5, h6⟩ := h3 q y v hq hv
        exact ⟨ar0_closeF h5, h6⟩
  · exact clT_get hr hx
end
end Go.Proofs.Ytabejnjnkpdjbaa.Sim

/- A logic of states: an empty family; a family that is seen from now on; calls whose answers are chosen. -/
namespace Go.Proofs.Ytabejnjnkpdjbaa.Sim
set_option linter.unusedVariables false
set_option linter.unusedSimpArgs false
open Go.RowKit Mem
section
variable {C : Ctx} {bx : List (Nat × List A)} {ow : List (Nat × Own)} {w : World} {m : Mm} {g : Gh}
def Gh.fam0 (g : Gh) (i : Nat) : Gh := { g with lb := fun k => if k = i then true else g.lb k, sf := fun k b => if k = i then false else g.sf k b }
theorem ar_fam0 {x : A} {v : Value} {i : Nat} (h : AR m g x v) : AR m (g.fam0 i) x v := h.lift fun x v h => by
  have key : ∀ k, g.lb k = true → (g.fam0 i).lb k = true := fun k hk => by show (if k = i then true else g.lb k) = true; rw [hk]; split <;> rfl
  cases x with
  | bp k off => exact ⟨key k h.1, h.2⟩
  | sb k n sz e => exact ⟨key k h.1, h.2⟩
  | rp k q => exact ⟨h.1, key k h.2.1, h.2.2⟩
  | _ => exact h
theorem EnvG.fam0 (he : EnvG C bx ow w m g) {i : Nat} (hc : chB i = true) (hp : Nat.ble 2000 i = false) (hi : get bx i = none) : EnvG C ((i, [.rs (FamR [])]) :: bx) ow w m (g.fam0 i) := by
  obtain ⟨r1, r2, r3⟩ := he.rs
  have hbx : ∀ k cs, get ((i, [A.rs (FamR [])]) :: bx) k = some cs → (k = i ∧ cs = [A.rs (FamR [])]) ∨ (k ≠ i ∧ get bx k = some cs) := fun k cs hk => by
    rw [get_cons] at hk
    by_cases e : i = k
    · subst e; rw [if_pos rfl] at hk; injection hk with hk; exact .inl ⟨rfl, hk.symm⟩
    · rw [if_neg e] at hk; exact .inr ⟨fun e' => e e'.symm, hk⟩
  have hbc : ∀ k cs, get ((i, [A.rs (FamR [])]) :: bx) k = some cs → chB k = false → get bx k = some cs := fun k cs hk hck => by
    rcases hbx k cs hk with ⟨rfl, _⟩ | ⟨_, h⟩
    · rw [hc] at hck; cases hck
    · exact h
  exact {
    lo := he.lo, gm := he.gm, sub := he.sub, ext := he.ext, gt := he.gt
    lb := fun k => by
      rw [get_cons]
      show (if k = i then true else g.lb k) = _
      by_cases e : k = i
      · subst e; simp
      · rw [if_neg e, if_neg (fun e' => e e'.symm)]; exact he.lb k
    lw := he.lw, ln := he.ln
    boxes := fun k cs hk hck => by
      obtain ⟨us, ty, h1, h2, h3, h4⟩ := he.boxes k cs (hbc k cs hk hck) hck
      exact ⟨us, ty, h1, h2, fun q x v hx hv => ⟨ar_fam0 (h3 q x v hx hv).1, (h3 q x v hx hv).2⟩, h4⟩
    inj := fun p q cp cq h1 h2 h3 h4 => he.inj p q cp cq (hbc p cp h1 h3) (hbc q cq h2 h4) h3 h4
    owns := fun k ok hk => by
      obtain ⟨us, h1, h2, h3, h4⟩ := he.owns k ok hk
      exact ⟨us, h1, h2, h3, fun c hcu => ⟨(h4 c hcu).1, fun q cs hq hcq => (h4 c hcu).2.1 q cs (hbc q cs hq hcq) hcq, (h4 c hcu).2.2⟩⟩
    apart := he.apart
    pin := he.pin
    pinb := fun k cs hk hk2 => by
      rcases hbx k cs hk with ⟨rfl, _⟩ | ⟨_, h⟩
      · rw [hp] at hk2; cases hk2
      · exact he.pinb k cs h hk2
    rs := by
      have hsf : ∀ k c, (g.fam0 i).sf k c = if k = i then false else g.sf k c := fun k c => rfl
      have hrs : ∀ k R, get ((i, [A.rs (FamR [])]) :: bx) k = some [.rs R] → (k = i ∧ R = FamR []) ∨ (k ≠ i ∧ get bx k = some [.rs R]) := fun k R hk => by
        rcases hbx k _ hk with ⟨h1, h2⟩ | h
        · injection h2 with h2; injection h2 with h2; exact .inl ⟨h1, h2⟩
        · exact .inr h
      refine ⟨fun k R hck hk => ?_, fun p q R R' hcp hcq h1 h2 hpq c hcc => ?_, fun k cs hck hk hk2 => ?_⟩
      · rcases hrs k R hk with ⟨rfl, rfl⟩ | ⟨hne, hk⟩
        · have e : (g.fam0 k).sf k = fun _ => false := by funext c; rw [hsf, if_pos rfl]
          rw [e]
          exact ⟨⟨fun b h => (by cases h), fun j p h => (by simp at h), fun p q x y h => (by simp at h)⟩, fun c h => (by cases h)⟩
        · have e : (g.fam0 i).sf k = g.sf k := by funext c; rw [hsf, if_neg hne]
          rw [e]
          obtain ⟨e1, e2⟩ := r1 k R hck hk
          refine ⟨e1, fun c hcs => ?_⟩
          obtain ⟨e3, e4, e5, e6⟩ := e2 c hcs
          exact ⟨e3, e4, fun q cs hq hcq => e5 q cs (hbc q cs hq hcq) hcq, e6⟩
      · rcases hrs p R h1 with ⟨rfl, rfl⟩ | ⟨hne, h1⟩
        · rw [hsf, if_pos rfl] at hcc; cases hcc
        · rw [hsf, if_neg hne] at hcc
          rcases hrs q R' h2 with ⟨rfl, rfl⟩ | ⟨hne2, h2⟩
          · rw [hsf, if_pos rfl]
          · rw [hsf, if_neg hne2]; exact r2 p q R R' hcp hcq h1 h2 hpq c hcc
      · rcases hbx k cs hk with ⟨rfl, _⟩ | ⟨_, h⟩
        · rw [hp] at hk2; cases hk2
        · exact r3 k cs hck h hk2 }
inductive UpL (fs : List (Value × Own)) : List T → List T → Prop
  | nil : UpL fs [] []
  | keep (x : T) {l l' : List T} (h : UpL fs l l') : UpL fs (x :: l) (x :: l')
  | up (p : Value × Own) (hp : p ∈ fs) {l l' : List T} (h : UpL fs l l') : UpL fs (.v p.1 :: l) (.sl p.2.sz p.2.rows :: l')
theorem UpL.app {fs : List (Value × Own)} {a b a' b' : List T} (h : UpL fs a b) (k : UpL fs a' b') : UpL fs (a ++ a') (b ++ b') := by
  induction h with
  | nil => exact k
  | keep x _ ih => exact .keep x ih
  | up p hp _ ih => exact .up p hp ih
theorem UpL.keeps {fs : List (Value × Own)} : ∀ l : List T, UpL fs l l
  | [] => .nil
  | x :: l => .keep x (UpL.keeps l)
theorem UpL.mono {fs fs' : List (Value × Own)} {a b : List T} (h : UpL fs a b) (hs : ∀ p ∈ fs, p ∈ fs') : UpL fs' a b := by
  induction h with
  | nil => exact .nil
  | keep x _ ih => exact .keep x ih
  | up p hp _ ih => exact .up p (hs p hp) ih
theorem UpL.cells {fs : List (Value × Own)} {a b : List T} (h : UpL fs a b) (hT : ∀ p ∈ fs, TR m (.sl p.2.sz p.2.rows) p.1) {vs : List Value} (hc : CellsAre m a vs) : CellsAre m b vs := by
  induction h generalizing vs with
  | nil => exact hc
  | @keep x l l' _ ih =>
    obtain ⟨h1, h2⟩ := hc
    cases vs with
    | nil => simp at h1
    | cons v vs =>
      obtain ⟨h3, h4⟩ := ih (vs := vs) ⟨by simpa using h1, fun j t u h3 h4 => h2 (j + 1) t u (by simpa using h3) (by simpa using h4)⟩
      exact ⟨by simp [h3], fun j t u h5 h6 => by
        cases j with
        | zero => simp at h5 h6; subst h5 h6; exact h2 0 _ _ rfl rfl
        | succ j => exact h4 j t u (by simpa using h5) (by simpa using h6)⟩
  | @up p hp l l' _ ih =>
    obtain ⟨h1, h2⟩ := hc
    cases vs with
    | nil => simp at h1
    | cons v vs =>
      obtain ⟨h3, h4⟩ := ih (vs := vs) ⟨by simpa using h1, fun j t u h3 h4 => h2 (j + 1) t u (by simpa using h3) (by simpa using h4)⟩
      exact ⟨by simp [h3], fun j t u h5 h6 => by
        cases j with
        | zero =>
          simp at h5 h6; subst h5 h6
          obtain ⟨h7, h8⟩ := h2 0 _ _ rfl rfl
          have := tr_v h7
          subst this
          exact ⟨hT p hp, h8⟩
        | succ j => exact h4 j t u (by simpa using h5) (by simpa using h6)⟩
open Classical in
theorem EnvG.famshow (he : EnvG C bx ow w m g) {i j : Nat} {fs : List (Value × Own)} {o : Own} {R' : List (List T)} (hc : chB i = true) (hb : get bx i = some [.rs (FamR fs)]) (hj : get ow j = some o) (hh : hid j = true) (hl : R'.length = o.rows.length) (hsz : ∀ r ∈ R', r.length = o.sz) (hu : UpL fs o.rows.flatten R'.flatten) :
    ∃ m', EnvG C ((i, [.rs (FamR [])]) :: bx) ((j, ⟨o.e, o.sz, R'⟩) :: ow) w m' { g with sf := fun k b => if k = i then false else g.sf k b } ∧ ∀ b q v, m b q = some v → m' b q = some v := by
  obtain ⟨r1, r2, r3⟩ := he.rs
  obtain ⟨⟨f1, f2, f3⟩, hS⟩ := r1 i _ hc hb
  let m' : Mm := fun b q => if g.sf i b = true ∧ ∃ p ∈ fs, p.1.ownBlock = some b ∧ q < p.2.rows.length * p.2.sz then w.cell? ⟨b, q, none⟩ else m b q
  have hkeep : ∀ b q v, m b q = some v → m' b q = some v := fun b q v hv => by
    show (if _ then _ else _) = _
    rw [if_neg (fun h => by rw [(hS b h.1).2.1 q] at hv; cases hv)]; exact hv
  have hsame : ∀ b q, g.sf i b = false → m' b q = m b q := fun b q hb => if_neg (fun h => by rw [hb] at h; cases h.1)
  have hsub : Sub m' w := fun b q v hv => by
    have hv : (if g.sf i b = true ∧ ∃ p ∈ fs, p.1.ownBlock = some b ∧ q < p.2.rows.length * p.2.sz then w.cell? ⟨b, q, none⟩ else m b q) = some v := hv
    split at hv
    · exact hv
    · exact he.sub b q v hv
  have hT : ∀ p ∈ fs, TR m' (.sl p.2.sz p.2.rows) p.1 := fun p hp => by
    obtain ⟨k, hk⟩ := List.getElem?_of_mem hp
    obtain ⟨⟨vs, k1, k2, k3⟩, k4⟩ := f2 k p hk
    refine tr_owns k1 k2 (k3.mono hkeep) fun b hb q u hq => ?_
    show (if _ then _ else _) = _
    rw [if_pos ⟨k4 b hb, p, hp, hb, by rw [← k1.1]; exact (List.getElem?_eq_some_iff.1 hq).1⟩]
    have := k1.cells hb q u hq
    rwa [addr_add, Nat.zero_add] at this
  have hbx : ∀ k cs, get ((i, [A.rs (FamR [])]) :: bx) k = some cs → (k = i ∧ cs = [A.rs (FamR [])]) ∨ (k ≠ i ∧ get bx k = some cs) := fun k cs hk => by
    rw [get_cons] at hk
    by_cases e : i = k
    · subst e; rw [if_pos rfl] at hk; injection hk with hk; exact .inl ⟨rfl, hk.symm⟩
    · rw [if_neg e] at hk; exact .inr ⟨fun e' => e e'.symm, hk⟩
  have hbc : ∀ k cs, get ((i, [A.rs (FamR [])]) :: bx) k = some cs → chB k = false → get bx k = some cs := fun k cs hk hck => by
    rcases hbx k cs hk with ⟨rfl, _⟩ | ⟨_, h⟩
    · rw [hc] at hck; cases hck
    · exact h
  have how : ∀ k ok, get ((j, ⟨o.e, o.sz, R'⟩) :: ow) k = some ok → (k = j ∧ ok = ⟨o.e, o.sz, R'⟩) ∨ (k ≠ j ∧ get ow k = some ok) := fun k ok hk => by
    rw [get_cons] at hk
    by_cases e : j = k
    · subst e; rw [if_pos rfl] at hk; injection hk with hk; exact .inl ⟨rfl, hk.symm⟩
    · rw [if_neg e] at hk; exact .inr ⟨fun e' => e e'.symm, hk⟩
  have hog : ∀ k ok, get ((j, ⟨o.e, o.sz, R'⟩) :: ow) k = some ok → ∃ o0, get ow k = some o0 := fun k ok hk => by
    rcases how k ok hk with ⟨rfl, _⟩ | ⟨_, h⟩
    · exact ⟨o, hj⟩
    · exact ⟨ok, h⟩
  have hsn : ∀ b, (∀ k ok, get ow k = some ok → (g.go k).ownBlock = some b → g.sf i b = false) := fun b k ok hk h => by
    cases hs : g.sf i b with
    | false => rfl
    | true => exact absurd h ((hS b hs).2.2.2 k ok hk)
  refine ⟨m', {
    lo := he.lo, gm := he.gm, sub := hsub
    ext := ⟨fun b q v hv => hkeep b q v (he.ext.keep b q v hv), fun b q hlt hgv => by
      rw [hsame b q, he.ext.old b q hlt hgv]
      cases hs : g.sf i b with
      | false => rfl
      | true =>
        rcases (hS b hs).1 with h | h
        · omega
        · rw [hgv] at h; cases h⟩
    gt := fun b q v hv => hkeep b q v (he.gt b q v hv)
    lb := fun k => by
      rw [get_cons]
      by_cases e : i = k
      · subst e; rw [if_pos rfl]; exact (he.lb i).trans (by rw [hb]; rfl)
      · rw [if_neg e]; exact he.lb k
    lw := fun k => by
      rw [get_cons]
      by_cases e : j = k
      · subst e; rw [if_pos rfl]; exact (he.lw j).trans (by rw [hj]; rfl)
      · rw [if_neg e]; exact he.lw k
    ln := fun k ok hk => by
      rcases how k ok hk with ⟨rfl, rfl⟩ | ⟨_, h⟩
      · exact (he.ln k o hj).trans hl.symm
      · exact he.ln k ok h
    boxes := fun k cs hk hck => by
      obtain ⟨us, ty, h1, h2, h3, h4, h5⟩ := he.boxes k cs (hbc k cs hk hck) hck
      refine ⟨us, ty, h1, h2, fun q x v hx hv => ⟨((h3 q x v hx hv).1.mono hkeep).lift fun x v h => ?_, (h3 q x v hx hv).2⟩, h4, fun q => ?_⟩
      · cases x <;> exact h
      · rw [show m' (g.gb k) q = m (g.gb k) q from hsame _ _ ?_]
        · exact h5 q
        · cases hs : g.sf i (g.gb k) with
          | false => rfl
          | true => exact absurd rfl ((hS _ hs).2.2.1 k cs (hbc k cs hk hck) hck)
    inj := fun p q cp cq h1 h2 h3 h4 => he.inj p q cp cq (hbc p cp h1 h3) (hbc q cq h2 h4) h3 h4
    owns := fun k ok hk => by
      rcases how k ok hk with ⟨rfl, rfl⟩ | ⟨_, h⟩
      · obtain ⟨us, h1, h2, h3, h4⟩ := he.owns k o hj
        refine ⟨us, by show RowM w 0 o.e o.sz (g.go k) R'.length us; rw [hl]; exact h1, hsz, UpL.cells hu hT (h3.mono hkeep), fun b hb => ⟨fun q => ?_, fun q cs hq hcq => (h4 b hb).2.1 q cs (hbc q cs hq hcq) hcq, (h4 b hb).2.2⟩⟩
        rw [hsame b q (hsn b k o hj hb)]; exact (h4 b hb).1 q
      · obtain ⟨us, h1, h2, h3, h4⟩ := he.owns k ok h
        refine ⟨us, h1, h2, h3.mono hkeep, fun b hb => ⟨fun q => ?_, fun q cs hq hcq => (h4 b hb).2.1 q cs (hbc q cs hq hcq) hcq, (h4 b hb).2.2⟩⟩
        rw [hsame b q (hsn b k ok h hb)]; exact (h4 b hb).1 q
    apart := fun p q op oq h1 h2 => by
      obtain ⟨o1, h3⟩ := hog p op h1
      obtain ⟨o2, h4⟩ := hog q oq h2
      exact he.apart p q o1 o2 h3 h4
    pin := fun k ok hk => by
      obtain ⟨o1, h3⟩ := hog k ok hk
      exact he.pin k o1 h3
    pinb := fun k cs hk hk2 => by
      rcases hbx k cs hk with ⟨rfl, _⟩ | ⟨_, h⟩
      · exact he.pinb k _ hb hk2
      · exact he.pinb k cs h hk2
    rs := by
      have hrs : ∀ k R, get ((i, [A.rs (FamR [])]) :: bx) k = some [.rs R] → (k = i ∧ R = FamR []) ∨ (k ≠ i ∧ get bx k = some [.rs R]) := fun k R hk => by
        rcases hbx k _ hk with ⟨h1, h2⟩ | h
        · injection h2 with h2; injection h2 with h2; exact .inl ⟨h1, h2⟩
        · exact .inr h
      refine ⟨fun k R hck hk => ?_, fun p q R R' hcp hcq h1 h2 hpq c hcc => ?_, fun k cs hck hk hk2 => ?_⟩
      · rcases hrs k R hk with ⟨rfl, rfl⟩ | ⟨hne, hk⟩
        · have e : (fun b => if k = k then false else g.sf k b) = fun _ : Nat => false := by funext c; rw [if_pos rfl]
          show FamAt [] w m' (fun b => if k = k then false else g.sf k b) ∧ _
          refine ⟨⟨fun b h => (by rw [e] at h; cases h), fun q p h => (by simp at h), fun p q x y h => (by simp at h)⟩, fun c h => ?_⟩
          have h : (if k = k then false else g.sf k c) = true := h
          rw [if_pos rfl] at h; cases h
        · obtain ⟨e1, e2⟩ := r1 k R hck hk
          have e : (fun b => if k = i then false else g.sf k b) = g.sf k := by funext c; rw [if_neg hne]
          show R.R w m' (fun b => if k = i then false else g.sf k b) (g.rp k) ∧ ∀ c, (if k = i then false else g.sf k c) = true → _
          rw [e]
          refine ⟨R.loc (fun _ _ => rfl) hkeep e1, fun c hcs => ?_⟩
          rw [if_neg hne] at hcs
          obtain ⟨e3, e4, e5, e6⟩ := e2 c hcs
          refine ⟨e3, fun q => ?_, fun q cs hq hcq => e5 q cs (hbc q cs hq hcq) hcq, fun q oq hq => ?_⟩
          · rw [hsame c q (r2 k i R _ hck hc hk hb hne c hcs)]; exact e4 q
          · obtain ⟨o1, h3⟩ := hog q oq hq
            exact e6 q o1 h3
      · rcases hrs p R h1 with ⟨rfl, rfl⟩ | ⟨hne, h1⟩
        · have hcc : (if p = p then false else g.sf p c) = true := hcc
          rw [if_pos rfl] at hcc; cases hcc
        · have hcc : (if p = i then false else g.sf p c) = true := hcc
          rw [if_neg hne] at hcc
          show (if q = i then false else g.sf q c) = false
          rcases hrs q R' h2 with ⟨rfl, rfl⟩ | ⟨hne2, h2⟩
          · rw [if_pos rfl]
          · rw [if_neg hne2]; exact r2 p q R R' hcp hcq h1 h2 hpq c hcc
      · rcases hbx k cs hk with ⟨rfl, _⟩ | ⟨_, h⟩
        · exact r3 k _ hck hb hk2
        · exact r3 k cs hck h hk2 }, hkeep⟩
end
section
variable {N : Nat} {tm : List (Nat × A)} {bx : List (Nat × List A)} {ow : List (Nat × Own)}
theorem weak_fam0 (i : Nat) (hi : get bx i = none) (hc : chB i = true := by rfl) (hp : Nat.ble 2000 i = false := by rfl) : Weak N ⟨tm, bx, ow⟩ ⟨tm, (i, [.rs (FamR [])]) :: bx, ow⟩ := .mk fun C ac w ⟨m, g, hr⟩ =>
  ⟨m, g.fam0 i, hr.env.fam0 hc hp hi, hr.size, hr.defers, fun s x hx => ar_fam0 (hr.tmps s x hx)⟩
theorem weak_famshow (i j : Nat) (R' : List (List T)) {fs : List (Value × Own)} {o : Own} (hb : get bx i = some [.rs (FamR fs)]) (hj : get ow j = some o) (hl : R'.length = o.rows.length) (hsz : ∀ r ∈ R', r.length = o.sz) (hu : UpL fs o.rows.flatten R'.flatten) (hc : chB i = true := by rfl) (hh : hid j = true := by rfl) :
    Weak N ⟨tm, bx, ow⟩ ⟨tm, (i, [.rs (FamR [])]) :: bx, (j, ⟨o.e, o.sz, R'⟩) :: ow⟩ := .mk fun C ac w ⟨m, g, hr⟩ => by
  obtain ⟨m', h1, h2⟩ := hr.env.famshow hc hb hj hh hl hsz hu
  exact ⟨m', _, h1, hr.size, hr.defers, fun s x hx => ((hr.tmps s x hx).mono h2).lift fun x v h => by cases x <;> exact h⟩
end
structure ECalls (P : Program) (f : FuncId) (args : List A) (bx0 : List (Nat × List A)) (ow0 : List (Nat × Own)) {ι : Type} (r : ι → A) (bx1 : ι → List (Nat × List A)) (ow1 : ι → List (Nat × Own)) : Prop where
  ent : ∀ (args : Array Value) (w : World), (callFunc f args).run P w = .ok (.enter f args) w
  run : ∀ (m : Mm) (w : World) (g : Gh) (vals : Array Value), EnvG (lentC w m g bx0 ow0) bx0 ow0 w m g → vals.size = args.length → (∀ (i : Nat) x v, args[i]? = some x → vals[i]? = some v → AR m g x v) →
    Calls P f vals w fun e w' => ∃ i v m' g', e = .returned v ∧ EnvG (lentC w m g bx0 ow0) (bx1 i) (ow1 i) w' m' g' ∧ AR m' g' (r i) v
theorem LCalls.e {P : Program} {f : FuncId} {args : List A} {bx0 bx1 : List (Nat × List A)} {ow0 ow1 : List (Nat × Own)} {r : A} (h : LCalls P f args bx0 ow0 r bx1 ow1) : ECalls P f args bx0 ow0 (fun _ : Unit => r) (fun _ => bx1) (fun _ => ow1) := ⟨h.ent, fun m w g vals he hl hv => (h.run m w g vals he hl hv).mono fun _ _ ⟨v, m', g', h1, h2, h3⟩ => ⟨(), v, m', g', h1, h2, h3⟩⟩
structure RetE (P : Program) (fn : Func) {ι : Type} (r : ι → A) (bx1 : ι → List (Nat × List A)) (ow1 : ι → List (Nat × Own)) (e : Exit) (st : St) : Prop where
  go : ∃ i, RetL P fn (r i) (bx1 i) (ow1 i) e st
theorem rete {P : Program} {fn : Func} {ι : Type} {r : ι → A} {bx1 : ι → List (Nat × List A)} {ow1 : ι → List (Nat × Own)} {e : Exit} {st : St} (i : ι) (h : RetL P fn (r i) (bx1 i) (ow1 i) e st) : RetE P fn r bx1 ow1 e st := ⟨⟨i, h⟩⟩
theorem ecalls_of {P : Program} {f : FuncId} {fn : Func} {c : Code} {args : List A} {bx0 : List (Nat × List A)} {ow0 : List (Nat × Own)} {ι : Type} {r : ι → A} {bx1 : ι → List (Nat × List A)} {ow1 : ι → List (Nat × Own)} {N : Nat} (hf : P.funcs[f]? = some fn) (hb : fn.body = some c) (hname : (fn.name == "runtime.NumGoroutine") = false) (hN : fn.ntmps = N) (hargs : Nat.ble args.length N = true)
    (h : SWp P N c (RetE P fn r bx1 ow1) ⟨argTmA 0 args, bx0, ow0⟩) : ECalls P f args bx0 ow0 r bx1 ow1 where
  ent := fun vals w => by
    have hname' : ¬ fn.name = "runtime.NumGoroutine" := by simpa using hname
    simp [callFunc, hf, hname', hb]
  run := fun m w g vals he hl hv => by
    refine calls_of_wk hf hb ?_
    have hal := Nat.le_of_ble_eq_true hargs
    have hrel : Rel (lentC w m g bx0 ow0) N ⟨argTmA 0 args, bx0, ow0⟩ { tmps := vals ++ Array.replicate (fn.ntmps - vals.size) undef, defers := [] } w := by
      refine ⟨m, g, he, by simp [hN]; omega, rfl, fun s x hx => ?_⟩
      obtain ⟨_, h2⟩ := argTmA_get args 0 s x hx
      rw [Nat.sub_zero] at h2
      have hlt : s < vals.size := by rw [hl]; exact (List.getElem?_eq_some_iff.1 h2).1
      have : (Act.eval { tmps := vals ++ Array.replicate (fn.ntmps - vals.size) undef, defers := [] } (.tmp s)) = vals[s] := by
        show (vals ++ Array.replicate (fn.ntmps - vals.size) undef).getD s undef = _
        rw [Array.getD_eq_getD_getElem?, Array.getElem?_append_left hlt, Array.getElem?_eq_getElem hlt]; rfl
      rw [this]
      exact hv s x _ h2 (Array.getElem?_eq_getElem hlt)
    refine wk_mono ?_ (h.go _ _ w hrel)
    rintro e a' w' ⟨st, ⟨m', g', hr⟩, ⟨i, ⟨he, ts, hres, hri, hlv, hx, hw⟩⟩⟩
    obtain ⟨v, h1, h2⟩ := resultsA_ok hr hres
    obtain ⟨h3, h4⟩ := envg_sub hr.env hx hw
    rcases he with rfl | rfl <;> exact ⟨hr.defers, v, h1, i, v, m', _, rfl, h3, by rw [hri]; exact h4 h2 (by rw [← hri]; exact hlv)⟩
section
variable {P : Program} {N : Nat} {Q : Exit → St → Prop} {ops : Array Oper} {rest : List Oper} {o : Oper} {tm : List (Nat × A)} {bx bx0 : List (Nat × List A)} {ow ow0 : List (Nat × Own)}
theorem sops_ecall {f : FuncId} {xs : List Operand} {at_ : Array TypeId} {args : List A} {ι : Type} [Inhabited ι] {r : ι → A} {bx1 : ι → List (Nat × List A)} {ow1 : ι → List (Nat × Own)} {d : Nat} (hc : ECalls P f args bx0 ow0 r bx1 ow1) (fb fw : Nat → Nat) (hg : GuardIs ops tm o true) (ho : o.op = .call { callee := .value (.func f), args := xs.toArray, argTypes := at_ }) (hd : o.dst = some d) (hN : Nat.blt d N = true)
    (ha : ArgsL fb fw ow bx0 ow0 (evA tm) xs args) (hx : LentX fb fw bx bx0) (hw : LentW fw ow ow0) (hl : (bx0.all fun p => p.2.all fun x => x.live bx0 ow0) = true) (hB : ∀ i, lendB fb fw bx bx0 (bx1 i) ow ow0 (ow1 i) = true)
    (h : ∀ i, SOps P N ops Q rest ⟨(d, (r i).ren fb fw) :: tm.map (fun p => (p.1, p.2.clr (chgOf fw (fun _ => false) ow0))), bxAft fb fw (chgOf fw (fun _ => false) ow0) (bx1 i) bx, owAft fw ow0 (ow1 i) ow⟩) : SOps P N ops Q (o :: rest) ⟨tm, bx, ow⟩ := by
  have hL := fun i => lend_of (kp := fun _ => false) hx hw hl (hB i) (fun _ h => Bool.noConfusion h)
  refine .mk fun C a w ⟨m, g, hr⟩ => ?_
  have hrun : (execOp a.eval o).run P w = .ok (.enter f (xs.map a.eval).toArray) w := by
    have := hc.ent (xs.map a.eval).toArray w
    simp only [execOp, ho, resolve, Deferred.ofValue, Act.eval, invoke, Sem.run_bind, Sem.run_pure, Result.andThen_ok, List.map_toArray, Array.append_empty, Array.empty_append, Array.append_eq_append, List.append_nil, List.nil_append] at this ⊢
    simpa using this
  refine wpList_step fun K hK => ?_
  rw [if_pos (hg.wanted (m := m) (g := g) fun j want e _ _ y hy => hr.tmps e y hy)]
  have i0 : ι := default
  obtain ⟨h1, h2⟩ := ha.ok (hL i0) hr.env (a := a) (fun x _ y hy => hr.ev hy)
  refine wp_call_of hrun (hc.run m w _ _ ((hL i0).env_in hr.env) (by simp [h1]) (fun i x v h3 h4 => h2 i x v h3 (by simpa using h4))) ?_
  rintro e w' ⟨i, v, m', g', rfl, henv, hv⟩
  obtain ⟨g'', e1, e2, e3⟩ := (hL i).env_out hr.env henv
  refine ⟨v, rfl, hK _ _ ((h i).go C _ _ ⟨m', g'', ?_⟩)⟩
  rw [hd]
  have hrel : RelG C N ⟨tm.map (fun p => (p.1, p.2.clr (chgOf fw (fun _ => false) ow0))), bxAft fb fw (chgOf fw (fun _ => false) ow0) (bx1 i) bx, owAft fw ow0 (ow1 i) ow⟩ a w' m' g'' := ⟨e1, hr.size, hr.defers, fun s x hx => by
    rw [show get (tm.map fun p => (p.1, p.2.clr (chgOf fw (fun _ => false) ow0))) s = _ from get_mapv _ _ _] at hx
    cases h5 : get tm s with
    | none => rw [h5] at hx; cases hx
    | some y => rw [h5] at hx; injection hx with hx; subst hx; exact e2 y _ (hr.tmps s y h5)⟩
  exact hrel.put e1 (fun x v h => h) (Nat.lt_of_succ_le (Nat.le_of_ble_eq_true hN)) (e3 (r i) v hv)
end
end Go.Proofs.Ytabejnjnkpdjbaa.Sim

/- A logic of states: a text as a row of bytes, a row of bytes as a text. -/
namespace Go.Proofs.Ytabejnjnkpdjbaa.Sim
set_option linter.unusedVariables false
set_option linter.unusedSimpArgs false
open Go.RowKit Mem

def byteT (b : UInt8) : List T := [.v (.int .u8 (b.toNat : Int))]
def byE (P : Program) (t : TypeId) : Option TypeId := match P.underlying t with
  | some (.slice e) => match P.underlying e with
    | some (.int .u8) => some e
    | _ => none
  | _ => none
theorem byE_spec {P : Program} {t e : TypeId} (h : byE P t = some e) : P.underlying t = some (.slice e) ∧ P.underlying e = some (.int .u8) := by
  unfold byE at h
  split at h
  · rename_i e' he
    split at h
    · rename_i h1; injection h with h; subst h; exact ⟨he, h1⟩
    · cases h
  · cases h
section
variable {P : Program} {N : Nat} {Q : Exit → St → Prop} {ops : Array Oper} {rest : List Oper} {o : Oper} {tm : List (Nat × A)} {bx : List (Nat × List A)} {ow : List (Nat × Own)} {ρ : Operand → Option A}
end
end Go.Proofs.Ytabejnjnkpdjbaa.Sim
