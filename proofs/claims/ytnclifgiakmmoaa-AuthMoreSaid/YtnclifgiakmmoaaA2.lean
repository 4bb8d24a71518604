/- Merged by bundles.py: SimC, SimD, SimE, SimF. -/
import Derived.Test.YtnclifgiakmmoaaA1
import Derived.Deep.MidRow
import Derived.Great.BuildSlice
import Derived.Laws.CopyRow
/- A logic of states: what single operations hand back. -/
namespace Go.Proofs.Ytnclifgiakmmoaa.Sim
set_option linter.unusedVariables false
set_option linter.unusedSimpArgs false
open Go.RowKit Mem

/-- of a type: is it a struct or an array? how many cells? -/
def tyI (P : Program) (ty : TypeId) : Option (Bool × Nat) := (P.underlying ty).bind fun d => (P.info? ty).map fun i => (d.isRow, i.size)
def fieldOff (P : Program) (s : TypeId) (f : Nat) : Option Nat := match P.underlying s with
  | some (.struct fs) => match fs[f]? with
    | some fd => match P.info? fd.type with
      | some i => if i.size = 0 then none else some fd.offset
      | none => none
    | none => none
  | _ => none
def sliceSz (P : Program) (t : TypeId) : Option Nat := match P.underlying t with
  | some (.slice e) => (P.info? e).map (·.size)
  | _ => none
theorem tyI_spec {P : Program} {ty : TypeId} {b : Bool} {n : Nat} (h : tyI P ty = some (b, n)) : ∃ d i, P.underlying ty = some d ∧ P.info? ty = some i ∧ d.isRow = b ∧ i.size = n := by
  unfold tyI at h
  cases hu : P.underlying ty with
  | none => rw [hu] at h; cases h
  | some d =>
    rw [hu] at h
    cases hi : P.info? ty with
    | none => rw [hi] at h; cases h
    | some i =>
      rw [hi] at h
      simp at h
      exact ⟨d, i, rfl, rfl, h.1, h.2⟩

section
variable {P : Program} {bx : List (Nat × List A)} {ow : List (Nat × Own)} {o : Oper} {ρ : Operand → Option A} {r : A}
theorem pure_run (h : ∀ (C : Ctx) (m : Mm) (g : Gh) (w : World) (a : Act), EnvG C bx ow w m g → (∀ x ∈ o.op.operands.toList, ∀ y, ρ x = some y → AR m g y (a.eval x)) → ∃ v, (execOp a.eval o).run P w = .ok (.value v) w ∧ AR m g r v) : PureOp P bx ow o ρ r := by
  refine .mk fun C m g w a Q he ho => ?_
  obtain ⟨v, h1, h2⟩ := h C m g w a he ho
  exact wp_of_run h1 ⟨v, m, rfl, Lo.refl _, Ext.refl _ _, he.sub, h2⟩
theorem tr_v {m : Mm} {x v : Value} (h : TR m (.v x) v) : v = x := by cases h; rfl
theorem po_move {x : Operand} (ho : o.op = .move x) (hx : ρ x = some r) : PureOp P bx ow o ρ r := pure_run fun C m g w a he h =>
  ⟨a.eval x, by simp [execOp, ho], h x (by simp [ho, Op.operands]) r hx⟩
theorem po_assign {x : Operand} (ho : o.op = .assign x) (hx : ρ x = some r) : PureOp P bx ow o ρ r := pure_run fun C m g w a he h =>
  ⟨a.eval x, by simp [execOp, ho], h x (by simp [ho, Op.operands]) r hx⟩
theorem po_pick_t {c x y : Operand} {b : Bool} (ho : o.op = .pick c x y) (hc : ρ c = some (.t (.v (.bool b)))) (hb : b = true) (hx : ρ x = some r) : PureOp P bx ow o ρ r := pure_run fun C m g w a he h => by
  have h1 := tr_v (h c (by simp [ho, Op.operands]) _ hc)
  subst hb
  exact ⟨a.eval x, by simp only [execOp, ho, h1, asBool, Sem.run_bind, Sem.run_pure, Result.andThen_ok, if_true], h x (by simp [ho, Op.operands]) r hx⟩
theorem po_pick_f {c x y : Operand} {b : Bool} (ho : o.op = .pick c x y) (hc : ρ c = some (.t (.v (.bool b)))) (hb : b = false) (hx : ρ y = some r) : PureOp P bx ow o ρ r := pure_run fun C m g w a he h => by
  have h1 := tr_v (h c (by simp [ho, Op.operands]) _ hc)
  subst hb
  exact ⟨a.eval y, by simp only [execOp, ho, h1, asBool, Sem.run_bind, Sem.run_pure, Result.andThen_ok, Bool.false_eq_true, if_false], h y (by simp [ho, Op.operands]) r hx⟩

theorem flat_len {sz : Nat} {rows : List (List T)} (hr : ∀ r ∈ rows, r.length = sz) : rows.flatten.length = rows.length * sz := by
  induction rows with
  | nil => simp
  | cons r rs ih =>
    rw [List.flatten_cons, List.length_append, ih fun x hx => hr x (by simp [hx]), hr r (by simp), List.length_cons, Nat.succ_mul]; omega
theorem flat_get {sz : Nat} {rows : List (List T)} (hr : ∀ r ∈ rows, r.length = sz) {k j : Nat} {r : List T} {t : T} (hk : rows[k]? = some r) (hj : r[j]? = some t) : rows.flatten[k * sz + j]? = some t := by
  induction rows generalizing k with
  | nil => simp at hk
  | cons q rs ih =>
    have hq := hr q (by simp)
    have hjl : j < r.length := (List.getElem?_eq_some_iff.1 hj).1
    rw [List.flatten_cons]
    cases k with
    | zero =>
      simp at hk; subst hk
      rw [Nat.zero_mul, Nat.zero_add, List.getElem?_append_left hjl]; exact hj
    | succ k =>
      simp at hk
      rw [List.getElem?_append_right (by rw [hq, Nat.succ_mul]; omega), hq, show (k + 1) * sz + j - sz = k * sz + j by rw [Nat.succ_mul]; omega]
      exact ih (fun x hx => hr x (by simp [hx])) hk
theorem tr_nil (m : Mm) (sz : Nat) {A : Option Addr} {cap : Nat} (hm : cap ≤ maxLen) : TR m (.sl sz []) (.slice A 0 cap) := .sl sz [] A 0 0 cap (fun _ _ => undef) (Nat.zero_le _) hm (fun h => absurd rfl h) (fun r h => by cases h) (fun k j r t h => by simp at h) (fun k j r t h => by simp at h)
/-- a row of the call's own reads as its rows -/
theorem tr_owns {w : World} {m : Mm} {base : Nat} {e : TypeId} {sz : Nat} {v : Value} {rows : List (List T)} {vs : List Value} (ho : RowM w base e sz v rows.length vs) (hr : ∀ r ∈ rows, r.length = sz) (hc : CellsAre m rows.flatten vs)
    (hb : ∀ b, v.ownBlock = some b → ∀ k u, vs[k]? = some u → m b k = some u) : TR m (.sl sz rows) v := by
  obtain ⟨hl, hcase⟩ := ho
  rcases hcase with ⟨hg, h0⟩ | ⟨b, cap, cur, hg, _, hh, hnc, hcm, hcs, htk⟩
  · have hrows : rows = [] := List.eq_nil_of_length_eq_zero h0
    subst hrows
    rw [hg]; exact tr_nil m sz (Nat.zero_le _)
  · have hm := hb b (by rw [hg]; rfl)
    rw [hg]
    have hat : ∀ {k j : Nat} {r : List T} {t : T}, rows[k]? = some r → r[j]? = some t → ∃ u, vs[k * sz + j]? = some u ∧ TR m t u ∧ u.oneCell' = true := fun {k j r t} hk hj => by
      have h1 := flat_get hr hk hj
      have h2 : k * sz + j < vs.length := by rw [hc.1]; exact (List.getElem?_eq_some_iff.1 h1).1
      exact ⟨_, List.getElem?_eq_getElem h2, hc.2 _ t _ h1 (List.getElem?_eq_getElem h2)⟩
    refine .sl sz rows (some ⟨b, 0, none⟩) b 0 cap (fun k j => vs.getD (k * sz + j) undef) hnc hcm (fun _ => rfl) hr ?_ ?_
    · intro k j r t hk hj
      obtain ⟨u, h1, h2, h3⟩ := hat hk hj
      rw [Nat.zero_add, List.getD_eq_getElem?_getD, h1]
      exact ⟨hm _ _ h1, h3⟩
    · intro k j r t hk hj
      obtain ⟨u, h1, h2, h3⟩ := hat hk hj
      rw [List.getD_eq_getElem?_getD, h1]
      exact h2

/-- what a slot's row reads as -/
inductive Vw (ow : List (Nat × Own)) : A → T → Prop
  | t (x : T) : Vw ow (.t x) x
  | nil (sz : Nat) : Vw ow (.t (.v (.slice none 0 0))) (.sl sz [])
  | emp (sz : Nat) : Vw ow .emp (.sl sz [])
  | own {i n : Nat} {e : TypeId} {sz : Nat} {rows : List (List T)} (h : get ow i = some ⟨e, sz, rows⟩) (hn : n = rows.length) (hv : hid i = false := by rfl) : Vw ow (.own i n) (.sl sz rows)
  | le {t t' : T} (h : ∀ m v, TR m t v → TR m t' v) : Vw ow (.t t) t'
  | fn (f : FuncId) : Vw ow (.t (.v (.func (.func f) #[] #[]))) (.clo f [])
  | agn : Vw ow (.ag []) (.agg [])
  | agc {x : A} {t : T} {cs : List A} {ts : List T} (h : Vw ow x t) (hl : Vw ow (.ag cs) (.agg ts)) : Vw ow (.ag (x :: cs)) (.agg (t :: ts))
/-- a struct's cells, the first one apart -/
theorem ag_cons {m : Mm} {g : Gh} {x : A} {cs : List A} {v : Value} (h : AR m g (.ag (x :: cs)) v) : ∃ (u : Value) (us : List Value), v = .agg (u :: us).toArray ∧ AR0 m g x u ∧ u.oneCell' = true ∧ AR m g (.ag cs) (.agg us.toArray) := by
  obtain ⟨vs, rfl, h1, h2⟩ := h
  obtain ⟨l⟩ := vs
  cases l with
  | nil => simp at h1
  | cons u us =>
    have h3 := h2 0 x u rfl (by simp)
    refine ⟨u, us, rfl, h3.1, h3.2, us.toArray, rfl, by simpa using h1, fun j y v h4 h5 => ?_⟩
    exact h2 (j + 1) y v (by simpa using h4) (by simpa using h5)
theorem tr_agg_cons {m : Mm} {t : T} {ts : List T} {u : Value} {us : List Value} (h : TR m t u) (h1 : u.oneCell' = true) (hl : TR m (.agg ts) (.agg us.toArray)) : TR m (.agg (t :: ts)) (.agg (u :: us).toArray) := by
  cases hl with
  | agg _ _ h2 h3 h4 =>
    refine .agg _ _ (by simpa using h2) (fun v hv => ?_) (fun j t' v h5 h6 => ?_)
    · rcases List.mem_cons.1 (by simpa using hv) with rfl | hv
      · exact h1
      · exact h3 v (by simpa using hv)
    · cases j with
      | zero => simp at h5 h6; subst h5 h6; exact h
      | succ j => exact h4 j t' v (by simpa using h5) (by simpa using h6)
theorem Vw.ok {C : Ctx} {w : World} {m : Mm} {g : Gh} {x : A} {t : T} {v : Value} (h : Vw ow x t) (he : EnvG C bx ow w m g) (hx : AR m g x v) : TR m t v := by
  induction h generalizing v with
  | t x => exact hx
  | nil sz =>
    have hx' : TR m (.v (.slice none 0 0)) v := hx
    cases hx'
    exact tr_nil m sz (Nat.zero_le _)
  | emp sz =>
    obtain ⟨A, rfl⟩ := hx
    exact tr_nil m sz (Nat.zero_le _)
  | @own i n e sz rows h hn hv =>
    obtain ⟨_, _, _, hvg⟩ := hx
    obtain rfl := hvg (by rw [he.ln i _ h]; exact hn)
    obtain ⟨vs, ho, hr, hc, hb⟩ := he.owns i _ h
    exact tr_owns ho hr hc fun b hb' k u hu => by rw [(hb b hb').1 k, vis_see hv]; exact hu
  | le h => exact h m v hx
  | fn f =>
    have hx' : TR m (.v (.func (.func f) #[] #[])) v := hx
    cases hx'
    exact .clo f [] #[] rfl (fun j t v h => by simp at h)
  | agn =>
    obtain ⟨vs, rfl, h1, _⟩ := hx
    have : vs = #[] := Array.eq_empty_of_size_eq_zero (by simpa using h1)
    subst this
    exact .agg [] #[] rfl (fun v hv => by simp at hv) (fun j t v h => by simp at h)
  | @agc x t cs ts h hl ih1 ih2 =>
    obtain ⟨u, us, rfl, h1, h2, h3⟩ := ag_cons hx
    exact tr_agg_cons (ih1 h1.two) h2 (ih2 h3)
inductive VwL (ow : List (Nat × Own)) : List A → List T → Prop
  | nil : VwL ow [] []
  | cons {x : A} {t : T} {l : List A} {ts : List T} (h : Vw ow x t) (hl : VwL ow l ts) : VwL ow (x :: l) (t :: ts)
theorem vc {ow : List (Nat × Own)} {x : A} {t : T} {l : List A} {ts : List T} (hl : VwL ow l ts) (h : Vw ow x t := by first | exact .t _ | exact .own rfl (by first | rfl | assumption | (simp; done) | (simp; omega)) | exact .nil _ | exact .emp _ | exact .fn _) : VwL ow (x :: l) (t :: ts) := .cons h hl
theorem VwL.at {l : List A} {ts : List T} (h : VwL ow l ts) : l.length = ts.length ∧ ∀ (j : Nat) t, ts[j]? = some t → ∃ x, l[j]? = some x ∧ Vw ow x t := by
  induction h with
  | nil => exact ⟨rfl, fun j t h => by simp at h⟩
  | cons h hl ih =>
    refine ⟨by simp [ih.1], fun j t ht => ?_⟩
    cases j with
    | zero => simp at ht; subst ht; exact ⟨_, rfl, h⟩
    | succ j => simp at ht; simpa using ih.2 j t ht

theorem add_mid (b o j : Nat) : (⟨b, o, none⟩ : Addr).add j = ⟨b, o + j, none⟩ := Addr.add_mid b o j
theorem run_load_scalar {ty : TypeId} {n : Nat} (hT : tyI P ty = some (false, n)) {w : World} {b off : Nat} {v : Value} (hc : w.cell? ⟨b, off, none⟩ = some v) : (Instr.loadAt ty (.pointer (some ⟨b, off, none⟩))).run P w = .ok v w := by
  obtain ⟨d, i, hu, hi, hd, hs⟩ := tyI_spec hT
  have hagg : (isAgg ty).run P w = .ok false w := by
    unfold isAgg
    rw [Sem.run_bind, run_underlying hu w]
    cases d <;> simp_all
  simp [Instr.loadAt, Instr.sureAddr, loadVar, Sem.run_bind, hagg, hc]
theorem run_load_agg {ty : TypeId} {n : Nat} (hT : tyI P ty = some (true, n)) {w : World} {b off : Nat} {cs : List Value} (hn : cs.length = n) (hc : ∀ (j : Nat) v, cs[j]? = some v → w.cell? ⟨b, off + j, none⟩ = some v) : (Instr.loadAt ty (.pointer (some ⟨b, off, none⟩))).run P w = .ok (.agg cs.toArray) w := by
  obtain ⟨d, i, hu, hi, hd, hs⟩ := tyI_spec hT
  exact run_loadAt_mid w b off ty cs d hc hu hd (by rw [hi]; simp [hs, hn])
theorem po_load {ty : TypeId} {x : Operand} {cs : List T} {t : T} {n : Nat} (ho : o.op = .load ty x) (hx : ρ x = some (.t (.tp cs))) (hT : tyI P ty = some (false, n)) (ht : cs[0]? = some t) : PureOp P bx ow o ρ (.t t) := pure_run fun C m g w a he h => by
  have h1 : TR m (.tp cs) (a.eval x) := h x (by simp [ho, Op.operands]) _ hx
  generalize hv : a.eval x = v at h1
  cases h1 with
  | tp cs b off u hu hr =>
    have hc := he.sub _ _ _ (hu 0 t ht).1
    rw [Nat.add_zero] at hc
    exact ⟨u 0, by simp [execOp, ho, hv, run_load_scalar hT hc], hr 0 t ht⟩
theorem po_load_agg {ty : TypeId} {x : Operand} {cs ts : List T} {n : Nat} (ho : o.op = .load ty x) (hx : ρ x = some (.t (.tp cs))) (hT : tyI P ty = some (true, n)) (hn : ts.length = n) (ht : cs.take n = ts) : PureOp P bx ow o ρ (.t (.agg ts)) := pure_run fun C m g w a he h => by
  have h1 : TR m (.tp cs) (a.eval x) := h x (by simp [ho, Op.operands]) _ hx
  generalize hv : a.eval x = v at h1
  cases h1 with
  | tp cs b off u hu hr =>
    have hts : ∀ (j : Nat) t, ts[j]? = some t → cs[j]? = some t := fun j t hj => by
      have hjn : j < n := by rw [← hn]; exact (List.getElem?_eq_some_iff.1 hj).1
      rw [← ht, List.getElem?_take_of_lt hjn] at hj; exact hj
    have hl : ∀ (j : Nat) v, ((List.range n).map u)[j]? = some v → j < n ∧ v = u j := fun j v hj => by
      have hjn : j < n := by have := (List.getElem?_eq_some_iff.1 hj).1; simpa using this
      rw [List.getElem?_map, List.getElem?_range hjn] at hj
      exact ⟨hjn, by simpa using hj.symm⟩
    have hget : ∀ j, j < n → ∃ t, ts[j]? = some t := fun j hj => ⟨_, List.getElem?_eq_getElem (by omega)⟩
    have hc : ∀ (j : Nat) v, ((List.range n).map u)[j]? = some v → w.cell? ⟨b, off + j, none⟩ = some v := fun j v hj => by
      obtain ⟨hjn, rfl⟩ := hl j v hj
      obtain ⟨t, h3⟩ := hget j hjn
      exact he.sub _ _ _ (hu j t (hts j t h3)).1
    refine ⟨.agg ((List.range n).map u).toArray, by simp only [execOp, ho, hv, Sem.run_bind, run_load_agg hT (show ((List.range n).map u).length = n by simp) hc]; rfl, .agg ts _ (by simp [hn]) ?_ ?_⟩
    · intro v hv'
      obtain ⟨j, hj⟩ := List.getElem?_of_mem hv'
      obtain ⟨hjn, rfl⟩ := hl j v (by simpa using hj)
      obtain ⟨t, h3⟩ := hget j hjn
      exact (hu j t (hts j t h3)).2
    · intro j t v h3 h4
      obtain ⟨_, rfl⟩ := hl j v (by simpa using h4)
      exact hr j t (hts j t h3)
theorem po_load_bx {ty : TypeId} {x : Operand} {i off n : Nat} {cs : List A} (ho : o.op = .load ty x) (hx : ρ x = some (.bp i off)) (hT : tyI P ty = some (false, n)) (hb : get bx i = some cs) (ht : cs[off]? = some r) (hq : cellB i = true := by rfl) : PureOp P bx ow o ρ r := pure_run fun C m g w a he h => by
  obtain ⟨_, h1⟩ := h x (by simp [ho, Op.operands]) _ hx
  obtain ⟨vs, ty', hh, hs, hc, _, _⟩ := he.boxes i cs hb
  rw [ob_cells hq] at hh
  replace hs := hs.cell hq
  have hlt : off < vs.size := by rw [hs]; exact (List.getElem?_eq_some_iff.1 ht).1
  have hcell : w.cell? ⟨g.gb i, off, none⟩ = some vs[off] := by simp [World.cell?, hh, hlt]
  exact ⟨vs[off], by simp [execOp, ho, h1, run_load_scalar hT hcell], (hc off r _ ht (by simp [hlt])).1⟩
theorem po_load_bx_agg {ty : TypeId} {x : Operand} {i off n : Nat} {cs : List A} {ts : List T} (ho : o.op = .load ty x) (hx : ρ x = some (.bp i off)) (hT : tyI P ty = some (true, n)) (hb : get bx i = some cs) (hv : VwL ow ((cs.drop off).take n) ts) (hn : ts.length = n) (hq : cellB i = true := by rfl) : PureOp P bx ow o ρ (.t (.agg ts)) := pure_run fun C m g w a he h => by
  obtain ⟨_, h1⟩ := h x (by simp [ho, Op.operands]) _ hx
  obtain ⟨vs, ty', hh, hs, hc, _, _⟩ := he.boxes i cs hb
  rw [ob_cells hq] at hh
  replace hs := hs.cell hq
  obtain ⟨hvl, hva⟩ := hv.at
  have hlen : off + n ≤ vs.size ∨ n = 0 := by
    rw [hs]; simp at hvl; omega
  have hat : ∀ (j : Nat) v, ((vs.toList.drop off).take n)[j]? = some v → j < n ∧ vs[off + j]? = some v := fun j v hj => by
    have hjn : j < n := by have := (List.getElem?_eq_some_iff.1 hj).1; simp at this; omega
    rw [List.getElem?_take_of_lt hjn, List.getElem?_drop] at hj
    exact ⟨hjn, by simpa using hj⟩
  have hcell : ∀ (j : Nat) v, ((vs.toList.drop off).take n)[j]? = some v → w.cell? ⟨g.gb i, off + j, none⟩ = some v := fun j v hj => by
    simp [World.cell?, hh, (hat j v hj).2]
  have hrd : ∀ (j : Nat) v, ((vs.toList.drop off).take n)[j]? = some v → ∃ x, cs[off + j]? = some x ∧ AR m g x v ∧ v.oneCell' = true := fun j v hj => by
    obtain ⟨hjn, h3⟩ := hat j v hj
    have hlt : off + j < cs.length := by rw [← hs]; exact (Array.getElem?_eq_some_iff.1 h3).1
    exact ⟨_, List.getElem?_eq_getElem hlt, hc _ _ _ (List.getElem?_eq_getElem hlt) h3⟩
  refine ⟨_, by simp only [execOp, ho, h1, Sem.run_bind, run_load_agg hT (show ((vs.toList.drop off).take n).length = n by simp; omega) hcell]; rfl, .agg ts _ (by simp [hn]; omega) ?_ ?_⟩
  · intro v hv'
    obtain ⟨j, hj⟩ := List.getElem?_of_mem hv'
    obtain ⟨x, _, _, h3⟩ := hrd j v (by simpa using hj)
    exact h3
  · intro j t v h3 h4
    obtain ⟨x, h5, h6⟩ := hva j t h3
    obtain ⟨x', h7, h8, _⟩ := hrd j v (by simpa using h4)
    have hjn : j < n := by rw [← hn]; exact (List.getElem?_eq_some_iff.1 h3).1
    rw [List.getElem?_take_of_lt hjn, List.getElem?_drop, h7] at h5
    injection h5 with h5; subst h5
    exact h6.ok he h8
theorem fieldOff_spec {s : TypeId} {f k : Nat} (h : fieldOff P s f = some k) : ∃ fs fd i, P.underlying s = some (.struct fs) ∧ fs[f]? = some fd ∧ P.info? fd.type = some i ∧ i.size ≠ 0 ∧ fd.offset = k := by
  unfold fieldOff at h
  split at h
  · rename_i fs hu
    split at h
    · rename_i fd hf
      split at h
      · rename_i i hi
        split at h
        · cases h
        · rename_i hs; injection h with h; exact ⟨fs, fd, i, hu, hf, hi, hs, h⟩
      · cases h
    · cases h
  · cases h
theorem run_field {s : TypeId} {f k : Nat} (h : fieldOff P s f = some k) (w : World) (b off : Nat) : (Instr.fieldAt s (.pointer (some ⟨b, off, none⟩)) f).run P w = .ok (.pointer (some ⟨b, off + k, none⟩)) w := by
  obtain ⟨fs, fd, i, hu, hf, hi, hs, hk⟩ := fieldOff_spec h
  simp [Instr.fieldAt, run_underlying hu, hf, Instr.sureAddr, fieldPlace, sizeOf, typeInfo, hi, hs, hk, add_mid]
theorem po_field {s : TypeId} {x : Operand} {f k : Nat} {cs : List T} (ho : o.op = .fieldAddr s x f) (hx : ρ x = some (.t (.tp cs))) (hk : fieldOff P s f = some k) : PureOp P bx ow o ρ (.t (.tp (cs.drop k))) := pure_run fun C m g w a he h => by
  have h1 : TR m (.tp cs) (a.eval x) := h x (by simp [ho, Op.operands]) _ hx
  generalize hv : a.eval x = v at h1
  cases h1 with
  | tp cs b off u hu hr =>
    refine ⟨_, by simp only [execOp, ho, hv, Sem.run_bind, run_field hk]; rfl, .tp _ b (off + k) (fun j => u (k + j)) ?_ ?_⟩
    · intro j t hj
      rw [List.getElem?_drop] at hj
      have := hu (k + j) t hj
      rw [Nat.add_assoc]; exact this
    · intro j t hj
      rw [List.getElem?_drop] at hj
      exact hr (k + j) t hj
theorem po_field_bx {s : TypeId} {x : Operand} {f k i off : Nat} (ho : o.op = .fieldAddr s x f) (hx : ρ x = some (.bp i off)) (hk : fieldOff P s f = some k) : PureOp P bx ow o ρ (.bp i (off + k)) := pure_run fun C m g w a he h => by
  obtain ⟨h0, h1⟩ := h x (by simp [ho, Op.operands]) _ hx
  exact ⟨_, by simp only [execOp, ho, h1, Sem.run_bind, run_field hk]; rfl, h0, rfl⟩
theorem sliceSz_spec {t : TypeId} {sz : Nat} (h : sliceSz P t = some sz) : ∃ e i, P.underlying t = some (.slice e) ∧ P.info? e = some i ∧ i.size = sz := by
  unfold sliceSz at h
  split at h
  · rename_i e hu
    cases hi : P.info? e with
    | none => rw [hi] at h; cases h
    | some i => rw [hi] at h; simp at h; exact ⟨e, i, hu, hi, h⟩
  · cases h
theorem po_index {t : TypeId} {x ix : Operand} {y : A} {sz k : Nat} {rows : List (List T)} {row : List T} {n : Int} {ik : IntKind} (ho : o.op = .indexAddr t x ix) (hx : ρ x = some y) (hy : Vw ow y (.sl sz rows)) (hi : ρ ix = some (.t (.v (.int ik n)))) (hT : sliceSz P t = some sz) (hn : n = (k : Int)) (hk : rows[k]? = some row) : PureOp P bx ow o ρ (.t (.tp row)) := pure_run fun C m g w a he h => by
  have h1 : TR m (.sl sz rows) (a.eval x) := hy.ok he (h x (by simp [ho, Op.operands]) _ hx)
  have h2 := tr_v (h ix (by simp [ho, Op.operands]) _ hi)
  obtain ⟨e, i, hu, hie, hs⟩ := sliceSz_spec hT
  generalize hv : a.eval x = v at h1
  have hkl : k < rows.length := (List.getElem?_eq_some_iff.1 hk).1
  cases h1 with
  | sl sz rows A b off cap u hc hm hA hr hu' ht =>
    have hA' := hA (by intro e; subst e; simp at hk)
    subst hA' hn
    have hlt : (k : Int) < (rows.length : Int) := by omega
    refine ⟨.pointer (some ⟨b, off + k * sz, none⟩), ?_, .tp row b (off + k * sz) (fun j => u k j) ?_ ?_⟩
    · simp [execOp, ho, hv, h2, Instr.indexAt, asIntOf, run_underlying hu, sizeOf, typeInfo, hie, hs, hkl, add_mid]
    · intro j t hj
      have := hu' k j row t hk hj
      rw [Nat.add_assoc]; exact this
    · intro j t hj
      exact ht k j row t hk hj
end
end Go.Proofs.Ytnclifgiakmmoaa.Sim

/- A logic of states: numbers, texts, calls. -/
namespace Go.Proofs.Ytnclifgiakmmoaa.Sim
set_option linter.unusedVariables false
set_option linter.unusedSimpArgs false
open Go.RowKit Mem

/-- data that is a value just so -/
inductive Ex : T → Value → Prop
  | v (x : Value) : Ex (.v x) x
  | agg {cs : List T} {vs : List Value} (hl : cs.length = vs.length) (h : ∀ (j : Nat) t v, cs[j]? = some t → vs[j]? = some v → t = .v v) : Ex (.agg cs) (.agg vs.toArray)
theorem Ex.eq {m : Mm} {t : T} {x v : Value} (h : Ex t x) (hv : TR m t v) : v = x := by
  cases h with
  | v x => exact tr_v hv
  | @agg cs vs hl h =>
    cases hv with
    | agg cs ws hw h1 ht =>
      congr 1
      refine Array.ext' (List.ext_getElem? fun j => ?_)
      by_cases hj : j < vs.length
      · have e1 : ws[j]? = some (ws[j]'(by omega)) := Array.getElem?_eq_getElem (by omega)
        have e2 : cs[j]? = some (cs[j]'(by omega)) := List.getElem?_eq_getElem (by omega)
        have e3 : vs[j]? = some (vs[j]'(by omega)) := List.getElem?_eq_getElem (by omega)
        have h5 := ht j _ _ e2 e1
        rw [h j _ _ e2 e3] at h5
        have h6 := tr_v h5
        rw [Array.getElem?_toList, e1, h6]
        simp [e3]
      · rw [List.getElem?_eq_none (by simp; omega), List.getElem?_eq_none (by simp; omega)]

def cmpB : BinOp → Int → Int → Option Bool
  | .lss, x, y => some (decide (x < y))
  | .leq, x, y => some (decide (x ≤ y))
  | .gtr, x, y => some (decide (y < x))
  | .geq, x, y => some (decide (y ≤ x))
  | .eql, x, y => some (decide (x = y))
  | .neq, x, y => some (!decide (x = y))
  | _, _, _ => none
def arI : BinOp → IntKind → Int → Int → Option Int
  | .add, k, x, y => some (k.wrap (x + y))
  | .sub, k, x, y => some (k.wrap (x - y))
  | .mul, k, x, y => some (k.wrap (x * y))
  | _, _, _, _ => none
section
variable {P : Program} {bx : List (Nat × List A)} {ow : List (Nat × Own)} {o : Oper} {ρ : Operand → Option A} {r : A}
theorem po_ex2 {op : BinOp} {t t2 : TypeId} {x y : Operand} {tx ty : T} {vx vy vr : Value} (ho : o.op = .binOp op t x y t2) (hx : ρ x = some (.t tx)) (hy : ρ y = some (.t ty)) (ex : Ex tx vx) (ey : Ex ty vy)
    (hr : ∀ (w : World) (a b : Operand), ((do eqGuard op t a b vx vy; binOp op t vx vy) : Sem Value).run P w = .ok vr w) : PureOp P bx ow o ρ (.t (.v vr)) := pure_run fun C m g w a he h => by
  have h1 := ex.eq (h x (by simp [ho, Op.operands]) _ hx)
  have h2 := ey.eq (h y (by simp [ho, Op.operands]) _ hy)
  refine ⟨vr, ?_, .v _⟩
  have := hr w x y
  simp only [execOp, ho, h1, h2]
  rw [Sem.run_bind, this]; rfl
theorem po_cmp {op : BinOp} {t t2 : TypeId} {x y : Operand} {k : IntKind} {i j : Int} {c : Bool} (ho : o.op = .binOp op t x y t2) (hx : ρ x = some (.t (.v (.int k i)))) (hy : ρ y = some (.t (.v (.int k j)))) (hc : cmpB op i j = some c) : PureOp P bx ow o ρ (.t (.v (.bool c))) :=
  po_ex2 ho hx hy (.v _) (.v _) (by
    intro w a b
    cases op <;> first | (injection hc with hc; subst hc; simp [eqGuard, binOp, Op.intCmp, bne]; done) | (injection hc with hc; subst hc; simp [eqGuard, binOp, Op.intCmp, bne]; rfl) | cases hc)
theorem po_arith {op : BinOp} {t t2 : TypeId} {x y : Operand} {k : IntKind} {i j c : Int} (ho : o.op = .binOp op t x y t2) (hx : ρ x = some (.t (.v (.int k i)))) (hy : ρ y = some (.t (.v (.int k j)))) (hc : arI op k i j = some c) : PureOp P bx ow o ρ (.t (.v (.int k c))) :=
  po_ex2 ho hx hy (.v _) (.v _) (by
    intro w a b
    cases op <;> first | (injection hc with hc; subst hc; simp [eqGuard, binOp, Op.intArith]; done) | cases hc)
theorem ar_add {k : IntKind} {x y z : Int} (hz : k.wrap z = z) (h : x + y = z) : arI .add k x y = some z := by simp [arI, h, hz]
theorem wrap_i64 {n : Int} (h : -9223372036854775808 ≤ n ∧ n ≤ 9223372036854775807) : IntKind.i64.wrap n = n := IntWalk.i64_in _ h
theorem po_rem {t t2 : TypeId} {x y : Operand} {k : IntKind} {i j : Int} (ho : o.op = .binOp .rem t x y t2) (hx : ρ x = some (.t (.v (.int k i)))) (hy : ρ y = some (.t (.v (.int k j)))) (hj : j ≠ 0) : PureOp P bx ow o ρ (.t (.v (.int k (i.tmod j)))) :=
  po_ex2 ho hx hy (.v _) (.v _) (by intro w a b; simp [eqGuard, binOp, Op.intDiv, hj])
theorem po_not {t : TypeId} {x : Operand} {b : Bool} (ho : o.op = .unOp .not t x) (hx : ρ x = some (.t (.v (.bool b)))) : PureOp P bx ow o ρ (.t (.v (.bool (!b)))) := pure_run fun C m g w a he h => by
  have h1 := tr_v (h x (by simp [ho, Op.operands]) _ hx)
  exact ⟨.bool (!b), by simp [execOp, ho, h1, Op.unary], .v _⟩
theorem po_len {x : Operand} {t : TypeId} {y : A} {sz : Nat} {rows : List (List T)} (ho : o.op = .call { callee := .builtin .len, args := #[x], argTypes := #[t] }) (hx : ρ x = some y) (hy : Vw ow y (.sl sz rows)) (hT : sliceSz P t = some sz) : PureOp P bx ow o ρ (.t (.v (.int .i64 rows.length))) := pure_run fun C m g w a he h => by
  have h1 : TR m (.sl sz rows) (a.eval x) := hy.ok he (h x (by simp [ho, Op.operands, Call.operands]) _ hx)
  obtain ⟨e, _, hu, _, _⟩ := sliceSz_spec hT
  generalize hv : a.eval x = v at h1
  cases h1 with
  | sl sz rows A b off cap u hc hm hA hr hu' ht =>
    exact ⟨.int .i64 rows.length, by simp [execOp, ho, hv, resolve, invoke, builtin, Builtin.len_, run_underlying hu, goInt], .v _⟩
theorem po_extract {x : Operand} {i : Nat} {cs : List T} {t : T} (ho : o.op = .extract x i) (hx : ρ x = some (.t (.tup cs))) (ht : cs[i]? = some t) : PureOp P bx ow o ρ (.t t) := pure_run fun C m g w a he h => by
  have h1 : TR m (.tup cs) (a.eval x) := h x (by simp [ho, Op.operands]) _ hx
  generalize hv : a.eval x = v at h1
  cases h1 with
  | tup cs vs hl hr =>
    have hlt : i < vs.size := by rw [hl]; exact (List.getElem?_eq_some_iff.1 ht).1
    exact ⟨vs[i], by simp [execOp, ho, hv, Instr.extract, hlt], hr i t _ ht (by simp [hlt])⟩

/-- a call: what it is handed, what it hands back; it turns nothing -/
structure PCalls (P : Program) (f : FuncId) (args : List T) (r : T) : Prop where
  ent : ∀ (args : Array Value) (w : World), (callFunc f args).run P w = .ok (.enter f args) w
  run : ∀ (m : Mm) (w : World) (vals : Array Value), Sub m w → vals.size = args.length → (∀ (i : Nat) t v, args[i]? = some t → vals[i]? = some v → TR m t v) → GT m →
    Calls P f vals w fun e w' => ∃ v m', e = .returned v ∧ Lo w w' ∧ Ext m m' w.heap.size ∧ Sub m' w' ∧ TR m' r v
/-- what operands read as -/
inductive Args (ow : List (Nat × Own)) (ρ : Operand → Option A) : List Operand → List T → Prop
  | nil : Args ow ρ [] []
  | cons {x : Operand} {y : A} {t : T} {xs : List Operand} {ts : List T} (h : ρ x = some y) (hv : Vw ow y t) (hl : Args ow ρ xs ts) : Args ow ρ (x :: xs) (t :: ts)
theorem ac {ow : List (Nat × Own)} {ρ : Operand → Option A} {x : Operand} {y : A} {t : T} {xs : List Operand} {ts : List T} (hl : Args ow ρ xs ts) (h : ρ x = some y := by exact rfl) (hv : Vw ow y t := by first | exact .t _ | exact .own rfl (by first | rfl | assumption | (simp; done) | (simp; omega)) | exact .nil _ | exact .emp _ | exact .fn _) : Args ow ρ (x :: xs) (t :: ts) := .cons h hv hl
theorem Args.ok {C : Ctx} {w : World} {m : Mm} {g : Gh} {xs : List Operand} {ts : List T} (h : Args ow ρ xs ts) (he : EnvG C bx ow w m g) {a : Act} (ha : ∀ x ∈ xs, ∀ y, ρ x = some y → AR m g y (a.eval x)) : xs.length = ts.length ∧ ∀ (i : Nat) t v, ts[i]? = some t → (xs.map a.eval)[i]? = some v → TR m t v := by
  induction h with
  | nil => exact ⟨rfl, fun i t v h => by simp at h⟩
  | @cons x y t xs ts h hv hl ih =>
    obtain ⟨h1, h2⟩ := ih fun x hx => ha x (by simp [hx])
    refine ⟨by simp [h1], fun i t' v h3 h4 => ?_⟩
    cases i with
    | zero => simp at h3 h4; subst h3 h4; exact hv.ok he (ha x (by simp) y h)
    | succ i => simp at h3; exact h2 i t' v h3 (by simpa using h4)
theorem po_call {f : FuncId} {xs : List Operand} {at_ : Array TypeId} {ts : List T} {t : T} (hc : PCalls P f ts t) (ho : o.op = .call { callee := .value (.func f), args := xs.toArray, argTypes := at_ }) (ha : Args ow ρ xs ts) : PureOp P bx ow o ρ (.t t) := by
  refine .mk fun C m g w a Q he h => ?_
  obtain ⟨hl, hv⟩ := ha.ok he (a := a) (fun x hx y hy => h x (by simp [ho, Op.operands, Call.operands, hx]) y hy)
  have hrun : (execOp a.eval o).run P w = .ok (.enter f (xs.map a.eval).toArray) w := by
    have := hc.ent (xs.map a.eval).toArray w
    simp only [execOp, ho, resolve, Deferred.ofValue, Act.eval, invoke, Sem.run_bind, Sem.run_pure, Result.andThen_ok, List.map_toArray, Array.append_empty, Array.empty_append, Array.append_eq_append, List.append_nil, List.nil_append] at this ⊢
    simpa using this
  exact wp_call_of hrun (hc.run m w _ he.sub (by simp [hl]) (fun i t v h1 h2 => hv i t v h1 (by simpa using h2)) he.gt) fun e w' ⟨v, m', h1, h2, h3, h4, h5⟩ => ⟨v, h1, v, m', rfl, h2, h3, h4, h5⟩
end
end Go.Proofs.Ytnclifgiakmmoaa.Sim

/- A logic of states: boxes, rows of the call's own, struct literals; a function's beginning and end. -/
namespace Go.Proofs.Ytnclifgiakmmoaa.Sim
set_option linter.unusedVariables false
set_option linter.unusedSimpArgs false
open Go.RowKit Mem

/-- a value's cells -/
def T.cells : T → List T
  | .agg cs => cs
  | .v (.agg vs) => vs.toList.map .v
  | t => [t]
def T.okB : T → Bool
  | .v (.agg vs) => vs.toList.all (·.oneCell')
  | .v x => x.oneCell'
  | .tup _ => false
  | _ => true
theorem cells_ok {m : Mm} {t : T} {v : Value} (h : TR m t v) (hk : t.okB = true) : CellsAre m t.cells v.cells.toList := by
  have one : ∀ {t : T} {v : Value}, t.cells = [t] → TR m t v → v.oneCell' = true → CellsAre m t.cells v.cells.toList := by
    intro t v hc ht h1
    have hv : v.cells = #[v] := by cases v <;> first | rfl | cases h1
    rw [hc, hv]
    refine ⟨rfl, fun j t' v' h2 h3 => ?_⟩
    cases j with
    | zero => simp at h2 h3; subst h2 h3; exact ⟨ht, h1⟩
    | succ j => simp at h2
  cases h with
  | v =>
    cases v with
    | agg vs =>
      refine ⟨by simp [T.cells, Value.cells], fun j t' v' h2 h3 => ?_⟩
      simp only [T.cells, Value.cells] at h2 h3
      rw [List.getElem?_map] at h2
      rw [h3] at h2
      simp at h2; subst h2
      simp only [T.okB, List.all_eq_true] at hk
      exact ⟨.v _, hk v' (List.mem_of_getElem? h3)⟩
    | tuple vs => simp [T.okB, Value.oneCell'] at hk
    | _ => exact one rfl (.v _) rfl
  | sl sz rows A b off cap u hc hm hA hr hu ht => exact one rfl (.sl sz rows A b off cap u hc hm hA hr hu ht) rfl
  | agg cs vs hl h1 ht =>
    refine ⟨by simp [T.cells, Value.cells, hl], fun j t' v' h2 h3 => ?_⟩
    simp only [T.cells, Value.cells] at h2 h3
    exact ⟨ht j t' v' h2 (by simpa using h3), h1 v' (List.mem_of_getElem? h3)⟩
  | tup cs vs => simp [T.okB] at hk
  | tp cs b off u hu ht => exact one rfl (.tp cs b off u hu ht) rfl
  | clo f caps vs hl ht => exact one rfl (.clo f caps vs hl ht) rfl
theorem CellsAre.one {m : Mm} {ts : List T} {vs : List Value} (h : CellsAre m ts vs) : ∀ v ∈ vs, v.oneCell' = true := by
  intro v hv
  obtain ⟨j, hj⟩ := List.getElem?_of_mem hv
  have hlt : j < ts.length := by rw [← h.1]; exact (List.getElem?_eq_some_iff.1 hj).1
  exact (h.2 j _ v (List.getElem?_eq_getElem hlt) hj).2
theorem CellsAre.app {m : Mm} {ts ts' : List T} {vs vs' : List Value} (h : CellsAre m ts vs) (k : CellsAre m ts' vs') : CellsAre m (ts ++ ts') (vs ++ vs') := by
  refine ⟨by simp [h.1, k.1], fun j t v h1 h2 => ?_⟩
  by_cases hj : j < ts.length
  · rw [List.getElem?_append_left hj] at h1
    rw [List.getElem?_append_left (by rw [h.1]; exact hj)] at h2
    exact h.2 j t v h1 h2
  · rw [List.getElem?_append_right (by omega)] at h1
    rw [List.getElem?_append_right (by rw [h.1]; omega), h.1] at h2
    exact k.2 _ t v h1 h2
theorem CellsAre.take {m : Mm} {ts : List T} {vs : List Value} (h : CellsAre m ts vs) (n : Nat) : CellsAre m (ts.take n) (vs.take n) := by
  refine ⟨by simp [h.1], fun j t v h1 h2 => ?_⟩
  rw [List.getElem?_take] at h1 h2
  split at h1
  · rename_i hj; rw [if_pos hj] at h2; exact h.2 j t v h1 h2
  · cases h1
theorem CellsAre.drop {m : Mm} {ts : List T} {vs : List Value} (h : CellsAre m ts vs) (n : Nat) : CellsAre m (ts.drop n) (vs.drop n) := by
  refine ⟨by simp [h.1], fun j t v h1 h2 => ?_⟩
  rw [List.getElem?_drop] at h1 h2
  exact h.2 _ t v h1 h2

/-- a slice's cells, one behind the other -/
theorem TR.flat {m : Mm} {sz : Nat} {rows : List (List T)} {A : Option Addr} {n cap : Nat} (h : TR m (.sl sz rows) (.slice A n cap)) (h0 : 0 < rows.length) (hsz : 0 < sz) :
    ∃ (b off : Nat) (vs : List Value), A = some ⟨b, off, none⟩ ∧ CellsAre m rows.flatten vs ∧ vs.length = rows.length * sz ∧ ∀ (j : Nat) v, vs[j]? = some v → m b (off + j) = some v := by
  cases h with
  | sl sz rows A b off cap u hc hm hA hr hu ht =>
    have hA' := hA (by intro e; subst e; simp at h0)
    have hfl : rows.flatten.length = rows.length * sz := flat_len hr
    have hat : ∀ (j : Nat) t, rows.flatten[j]? = some t → ∃ r, rows[j / sz]? = some r ∧ r[j % sz]? = some t := fun j t hj => flat_at hsz hr hj
    refine ⟨b, off, (List.range (rows.length * sz)).map fun j => u (j / sz) (j % sz), hA', ⟨by simp [hfl], ?_⟩, by simp, ?_⟩
    · intro j t v h1 h2
      obtain ⟨r, h3, h4⟩ := hat j t h1
      have hj : j < rows.length * sz := by rw [← hfl]; exact (List.getElem?_eq_some_iff.1 h1).1
      rw [List.getElem?_map, List.getElem?_range hj] at h2
      simp at h2; subst h2
      exact ⟨ht _ _ _ _ h3 h4, (hu _ _ _ _ h3 h4).2⟩
    · intro j v h2
      have hj : j < rows.length * sz := by have := (List.getElem?_eq_some_iff.1 h2).1; simpa using this
      rw [List.getElem?_map, List.getElem?_range hj] at h2
      simp at h2; subst h2
      obtain ⟨r, h3, h4⟩ := hat j _ (List.getElem?_eq_getElem (by rw [hfl]; exact hj))
      have := (hu _ _ _ _ h3 h4).1
      rwa [show j / sz * sz + j % sz = j from by rw [Nat.mul_comm]; exact Nat.div_add_mod j sz] at this
where
  flat_at {sz : Nat} {rows : List (List T)} (hsz : 0 < sz) (hr : ∀ r ∈ rows, r.length = sz) {j : Nat} {t : T} (hj : rows.flatten[j]? = some t) : ∃ r, rows[j / sz]? = some r ∧ r[j % sz]? = some t := by
    induction rows generalizing j with
    | nil => simp at hj
    | cons r rs ih =>
      have hl := hr r (by simp)
      rw [List.flatten_cons] at hj
      by_cases hlt : j < sz
      · rw [List.getElem?_append_left (by omega)] at hj
        exact ⟨r, by rw [Nat.div_eq_of_lt hlt]; rfl, by rw [Nat.mod_eq_of_lt hlt]; exact hj⟩
      · rw [List.getElem?_append_right (by omega), hl] at hj
        obtain ⟨r', h1, h2⟩ := ih (fun x hx => hr x (by simp [hx])) hj
        have hd : j / sz = (j - sz) / sz + 1 := by
          have : j = (j - sz) + sz := by omega
          conv => lhs; rw [this]
          exact Nat.add_div_right _ hsz
        have hm : j % sz = (j - sz) % sz := by
          have : j = (j - sz) + sz := by omega
          conv => lhs; rw [this]
          exact Nat.add_mod_right _ _
        exact ⟨r', by rw [hd]; simpa using h1, by rw [hm]; exact h2⟩

/-- a literal's cells -/
def fillT (pl : Nat → Option (Nat × Nat)) : List T → List (Nat × T) → Option (List T)
  | zs, [] => some zs
  | zs, (i, t) :: r => match pl i with
    | some (off, sz) => bif t.okB && Nat.beq t.cells.length sz && Nat.ble (off + sz) zs.length then fillT pl (zs.take off ++ (t.cells ++ zs.drop (off + sz))) r else none
    | none => none
def bldT (P : Program) (t : TypeId) (parts : List (Nat × T)) : Option (List T) :=
  match P.info? t, P.underlying t with
  | some it, some (.array _ e) =>
    match it.zero, P.info? e with
    | some z, some ie => fillT (fun i => some (i * ie.size, ie.size)) (z.cells.toList.map .v) parts
    | _, _ => none
  | some it, some (.struct fields) =>
    match it.zero, fields.toList.mapM (fun f => (P.info? f.type).map fun i => (f.offset, i.size)) with
    | some z, some places => fillT (places.toArray[·]?) (z.cells.toList.map .v) parts
    | _, _ => none
  | _, _ => none
theorem fill_set (off sz : Nat) (cells : Array Value) (vs : List Value) (hs : vs.length = sz) (hf : off + sz ≤ cells.size) :
    ((vs.zipIdx).foldl (fun cs (x : Value × Nat) => cs.setIfInBounds (off + x.2) x.1) cells).toList = cells.toList.take off ++ (vs ++ cells.toList.drop (off + sz)) := by
  obtain ⟨h1, h2⟩ := Great.foldl_set off vs 0 cells
  refine List.ext_getElem? fun k => ?_
  rw [Array.getElem?_toList, h2 k]
  by_cases hk : k < off
  · rw [if_neg (by omega), List.getElem?_append_left (by simp; omega), List.getElem?_take_of_lt hk]; simp
  · rw [List.getElem?_append_right (by simp; omega)]
    have ht : (cells.toList.take off).length = off := by simp; omega
    rw [ht]
    by_cases hk2 : k < off + sz
    · rw [if_pos (by omega), List.getElem?_append_left (by omega)]; simp
    · rw [if_neg (by omega), List.getElem?_append_right (by omega), List.getElem?_drop]
      simp only [Array.getElem?_toList]
      congr 1; omega
theorem fill_ok {m : Mm} {pl : Nat → Option (Nat × Nat)} : ∀ {parts : List (Nat × T)} {zs rs : List T} {cells : Array Value} {vals : List (Nat × Value)}, fillT pl zs parts = some rs → CellsAre m zs cells.toList → parts.length = vals.length →
    (∀ (i : Nat) p q, parts[i]? = some p → vals[i]? = some q → q.1 = p.1 ∧ TR m p.2 q.2) → ∃ cells', Instr.fill pl cells vals = some cells' ∧ CellsAre m rs cells'.toList
  | [], zs, rs, cells, vals, h, hc, hl, _ => by
    have : vals = [] := List.eq_nil_of_length_eq_zero hl.symm
    subst this
    injection h with h; subst h
    exact ⟨cells, rfl, hc⟩
  | (i, t) :: r, zs, rs, cells, vals, h, hc, hl, hp => by
    obtain ⟨⟨i', v⟩, vals, rfl⟩ : ∃ q vs, vals = q :: vs := by cases vals with | nil => simp at hl | cons q vs => exact ⟨q, vs, rfl⟩
    obtain ⟨hi, hv⟩ := hp 0 _ _ rfl rfl
    dsimp only at hi hv
    subst hi
    unfold fillT at h
    cases hpl : pl i' with
    | none => rw [hpl] at h; cases h
    | some x =>
      obtain ⟨off, sz⟩ := x
      rw [hpl] at h
      dsimp only at h
      cases hb : (t.okB && Nat.beq t.cells.length sz && Nat.ble (off + sz) zs.length) with
      | false => rw [hb] at h; cases h
      | true =>
        rw [hb] at h
        simp only [Bool.and_eq_true] at hb
        obtain ⟨⟨hb1, hb2⟩, hb3⟩ := hb
        have hcv := cells_ok hv hb1
        have e1 : t.cells.length = sz := Nat.eq_of_beq_eq_true hb2
        have e2 : off + sz ≤ zs.length := Nat.le_of_ble_eq_true hb3
        have e3 : v.cells.size = sz := by have := hcv.1; simp at this; omega
        have e4 : off + sz ≤ cells.size := by have := hc.1; simp at this; omega
        have hset := fill_set off sz cells v.cells.toList (by simpa using e3) e4
        have hz : v.cells.zipIdx.foldl (fun cs (x : Value × Nat) => cs.setIfInBounds (off + x.2) x.1) cells = (v.cells.toList.zipIdx).foldl (fun cs (x : Value × Nat) => cs.setIfInBounds (off + x.2) x.1) cells := by
          rw [← Array.foldl_toList, Array.toList_zipIdx]
        have hnew : CellsAre m (zs.take off ++ (t.cells ++ zs.drop (off + sz))) (v.cells.zipIdx.foldl (fun cs (x : Value × Nat) => cs.setIfInBounds (off + x.2) x.1) cells).toList := by
          rw [hz, hset]
          exact (hc.take off).app (hcv.app (hc.drop (off + sz)))
        obtain ⟨cells', h5, h6⟩ := fill_ok (parts := r) h hnew (by simpa using hl) (fun j p q h1 h2 => hp (j + 1) p q (by simpa using h1) (by simpa using h2))
        refine ⟨cells', ?_, h6⟩
        unfold Instr.fill
        rw [hpl]
        dsimp only
        rw [if_neg (by simp; omega)]
        exact h5
theorem zero_cells (m : Mm) {z : Value} (h : ∀ v ∈ z.cells.toList, v.oneCell' = true) : CellsAre m (z.cells.toList.map .v) z.cells.toList := by
  refine ⟨by simp, fun j t v h1 h2 => ?_⟩
  rw [List.getElem?_map, h2] at h1
  simp at h1; subst h1
  exact ⟨.v _, h v (List.mem_of_getElem? h2)⟩
def zeroOk (P : Program) (t : TypeId) : Bool := match P.info? t with
  | some it => match it.zero with | some z => z.cells.toList.all (·.oneCell') | none => false
  | none => false

section
variable {P : Program} {bx : List (Nat × List A)} {ow : List (Nat × Own)} {o : Oper} {ρ : Operand → Option A} {r : A}
theorem bld_ok {m : Mm} {t : TypeId} {parts : List (Nat × T)} {rs : List T} {vals : List (Nat × Value)} (h : bldT P t parts = some rs) (hz : zeroOk P t = true) (hl : parts.length = vals.length)
    (hp : ∀ (i : Nat) p q, parts[i]? = some p → vals[i]? = some q → q.1 = p.1 ∧ TR m p.2 q.2) : ∃ cells, P.built t vals = some cells ∧ CellsAre m rs cells.toList := by
  unfold bldT at h
  unfold zeroOk at hz
  unfold Program.built
  cases hi : P.info? t with
  | none => rw [hi] at h; cases h
  | some it =>
    rw [hi] at h hz
    dsimp only at h hz
    have hzc : ∀ z, it.zero = some z → CellsAre m (z.cells.toList.map .v) z.cells.toList := fun z hz' => by
      rw [hz'] at hz
      exact zero_cells m (List.all_eq_true.1 hz)
    split at h
    · rename_i it' e h1 h2
      injection h1 with h1; subst h1
      rw [h2]
      dsimp only
      split at h
      · rename_i z ie h3 h4
        rw [h3, h4]
        exact fill_ok h (hzc z h3) hl hp
      · cases h
    · rename_i it' fields h1 h2
      injection h1 with h1; subst h1
      rw [h2]
      dsimp only
      split at h
      · rename_i z places h3 h4
        rw [h3, h4]
        exact fill_ok h (hzc z h3) hl hp
      · cases h
    · cases h
/-- of a struct's type: where its fields lie, its zero's cells -/
def strI (P : Program) (t : TypeId) : Option (List (Nat × Nat) × List Value) := match P.info? t, P.underlying t with
  | some it, some (.struct fields) => match it.zero, fields.toList.mapM (fun f => (P.info? f.type).map fun i => (f.offset, i.size)) with
    | some z, some places => bif z.cells.toList.all (·.oneCell') then some (places, z.cells.toList) else none
    | _, _ => none
  | _, _ => none
theorem strI_bld {t : TypeId} {pl : List (Nat × Nat)} {zs : List Value} (h : strI P t = some (pl, zs)) (parts : List (Nat × T)) : bldT P t parts = fillT (fun i => pl[i]?) (zs.map .v) parts ∧ zeroOk P t = true := by
  unfold strI at h
  unfold bldT zeroOk
  split at h
  · rename_i it fields h1 h2
    rw [h1, h2]
    dsimp only
    split at h
    · rename_i z places h3 h4
      rw [h3]
      dsimp only
      try rw [h4]
      try dsimp only
      cases hb : (z.cells.toList.all (·.oneCell')) with
      | false => rw [hb] at h; cases h
      | true =>
        rw [hb] at h
        injection h with h
        injection h with e1 e2
        subst e1 e2
        exact ⟨by simp, rfl⟩
    · cases h
  · cases h
/-- operands, numbered, with what they read as -/
inductive Parts (ow : List (Nat × Own)) (ρ : Operand → Option A) : List (Nat × Operand) → List (Nat × T) → Prop
  | nil : Parts ow ρ [] []
  | cons {i : Nat} {x : Operand} {y : A} {t : T} {xs : List (Nat × Operand)} {ts : List (Nat × T)} (h : ρ x = some y) (hv : Vw ow y t) (hl : Parts ow ρ xs ts) : Parts ow ρ ((i, x) :: xs) ((i, t) :: ts)
theorem Parts.ok {C : Ctx} {w : World} {m : Mm} {g : Gh} {xs : List (Nat × Operand)} {ts : List (Nat × T)} (h : Parts ow ρ xs ts) (he : EnvG C bx ow w m g) {a : Act} (ha : ∀ x ∈ xs.map (·.2), ∀ y, ρ x = some y → AR m g y (a.eval x)) :
    ts.length = (xs.map fun p => (p.1, a.eval p.2)).length ∧ ∀ (i : Nat) p q, ts[i]? = some p → (xs.map fun p => (p.1, a.eval p.2))[i]? = some q → q.1 = p.1 ∧ TR m p.2 q.2 := by
  induction h with
  | nil => exact ⟨rfl, fun i p q h => by simp at h⟩
  | @cons i x y t xs ts h hv hl ih =>
    obtain ⟨h1, h2⟩ := ih fun x hx => ha x (by simp at hx ⊢; exact .inr hx)
    refine ⟨by simp [h1], fun j p q h3 h4 => ?_⟩
    cases j with
    | zero => simp at h3 h4; subst h3 h4; exact ⟨rfl, hv.ok he (ha x (by simp) y h)⟩
    | succ j => simp at h3; exact h2 j p q h3 (by simpa using h4)
theorem po_build {t : TypeId} {xs : List (Nat × Operand)} {ts : List (Nat × T)} {rs : List T} (ho : o.op = .build t xs.toArray) (hx : Parts ow ρ xs ts) (hz : zeroOk P t = true) (hb : bldT P t ts = some rs) : PureOp P bx ow o ρ (.t (.agg rs)) := pure_run fun C m g w a he h => by
  obtain ⟨h1, h2⟩ := hx.ok he (a := a) (fun x hx y hy => h x (by simp [ho, Op.operands] at hx ⊢; exact hx) y hy)
  obtain ⟨cells, h3, h4⟩ := bld_ok hb hz h1 h2
  have hrun := run_build (P := P) w t (xs.map fun p => (p.1, a.eval p.2)).toArray cells (by simpa using h3)
  refine ⟨.agg cells, ?_, .agg rs cells (by simpa using h4.1) h4.one (fun j t v h5 h6 => (h4.2 j t v h5 (by simpa using h6)).1)⟩
  simp only [execOp, ho]
  rw [List.map_toArray] at *
  rw [Sem.run_bind, show (xs.map fun x => (x.1, a.eval x.2)).toArray = (xs.map fun p => (p.1, a.eval p.2)).toArray from rfl, hrun]; rfl
theorem po_buildS {t : TypeId} {xs : List (Nat × Operand)} {ts : List (Nat × T)} {rs : List T} {pl : List (Nat × Nat)} {zs : List Value} (hS : strI P t = some (pl, zs)) (ho : o.op = .build t xs.toArray) (hx : Parts ow ρ xs ts) (hb : fillT (fun i => pl[i]?) (zs.map .v) ts = some rs) : PureOp P bx ow o ρ (.t (.agg rs)) :=
  po_build ho hx (strI_bld hS ts).2 (by rw [(strI_bld hS ts).1]; exact hb)
end
end Go.Proofs.Ytnclifgiakmmoaa.Sim

/- A logic of states: boxes made and written, rows made and grown. -/
namespace Go.Proofs.Ytnclifgiakmmoaa.Sim
set_option linter.unusedVariables false
set_option linter.unusedSimpArgs false
open Go.RowKit Mem

def A.cells : A → List A
  | .t x => x.cells.map .t
  | .ag cs => cs
  | y => [y]
def A.okB : A → Bool
  | .t x => x.okB
  | .any => false
  | .tu _ => false
  | .cl _ _ => false
  | _ => true
def ACells (m : Mm) (g : Gh) (ys : List A) (us : List Value) : Prop := us.length = ys.length ∧ ∀ (j : Nat) y u, ys[j]? = some y → us[j]? = some u → AR m g y u ∧ u.oneCell' = true
theorem acells_ok {m : Mm} {g : Gh} {y : A} {v : Value} (h : AR m g y v) (hk : y.okB = true) : ACells m g y.cells v.cells.toList := by
  have one : ∀ {y : A}, y.cells = [y] → AR m g y v → v.oneCell' = true → ACells m g y.cells v.cells.toList := by
    intro y hc hy h1
    have hv : v.cells = #[v] := by cases v <;> first | rfl | cases h1
    rw [hc, hv]
    refine ⟨rfl, fun j t' v' h2 h3 => ?_⟩
    cases j with
    | zero => simp at h2 h3; subst h2 h3; exact ⟨hy, h1⟩
    | succ j => simp at h2
  cases y with
  | t x =>
    have := cells_ok (show TR m x v from h) hk
    refine ⟨by simp [A.cells, this.1], fun j y u h1 h2 => ?_⟩
    simp only [A.cells, List.getElem?_map] at h1
    cases hx : x.cells[j]? with
    | none => rw [hx] at h1; cases h1
    | some t => rw [hx] at h1; simp at h1; subst h1; exact this.2 j t u hx h2
  | bp i off => exact one rfl h (by rw [h.2]; rfl)
  | sb i n => exact one rfl h (by obtain ⟨_, cap, rfl, _⟩ := h; rfl)
  | own i n => exact one rfl h (by obtain ⟨_, _, ⟨A, c, rfl⟩, _⟩ := h; rfl)
  | emp => exact one rfl h (by obtain ⟨A, rfl⟩ := h; rfl)
  | oe i n sz k off => exact one rfl h (by obtain ⟨_, _, ⟨A, rfl⟩, _⟩ := h; rfl)
  | any => cases hk
  | sfx i n sz k => exact one rfl h (by obtain ⟨_, _, ⟨A, c, rfl⟩, _⟩ := h; rfl)
  | ag cs =>
    obtain ⟨vs, rfl, h1, h2⟩ := h
    exact ⟨by simp [A.cells, Value.cells, h1], fun j y u hy hu => ⟨(h2 j y u hy (by simpa [Value.cells] using hu)).1.two, (h2 j y u hy (by simpa [Value.cells] using hu)).2⟩⟩
  | tu cs => cases hk
  | cl f cs => cases hk
theorem ACells.app {m : Mm} {g : Gh} {ts ts' : List A} {vs vs' : List Value} (h : ACells m g ts vs) (k : ACells m g ts' vs') : ACells m g (ts ++ ts') (vs ++ vs') := by
  refine ⟨by simp [h.1, k.1], fun j t v h1 h2 => ?_⟩
  by_cases hj : j < ts.length
  · rw [List.getElem?_append_left hj] at h1
    rw [List.getElem?_append_left (by rw [h.1]; exact hj)] at h2
    exact h.2 j t v h1 h2
  · rw [List.getElem?_append_right (by omega)] at h1
    rw [List.getElem?_append_right (by rw [h.1]; omega), h.1] at h2
    exact k.2 _ t v h1 h2
theorem ACells.take {m : Mm} {g : Gh} {ts : List A} {vs : List Value} (h : ACells m g ts vs) (n : Nat) : ACells m g (ts.take n) (vs.take n) := by
  refine ⟨by simp [h.1], fun j t v h1 h2 => ?_⟩
  rw [List.getElem?_take] at h1 h2
  split at h1
  · rename_i hj; rw [if_pos hj] at h2; exact h.2 j t v h1 h2
  · cases h1
theorem ACells.drop {m : Mm} {g : Gh} {ts : List A} {vs : List Value} (h : ACells m g ts vs) (n : Nat) : ACells m g (ts.drop n) (vs.drop n) := by
  refine ⟨by simp [h.1], fun j t v h1 h2 => ?_⟩
  rw [List.getElem?_drop] at h1 h2
  exact h.2 _ t v h1 h2
theorem ACells.one {m : Mm} {g : Gh} {ts : List A} {vs : List Value} (h : ACells m g ts vs) : ∀ v ∈ vs, v.oneCell' = true := by
  intro v hv
  obtain ⟨j, hj⟩ := List.getElem?_of_mem hv
  have hlt : j < ts.length := by rw [← h.1]; exact (List.getElem?_eq_some_iff.1 hj).1
  exact (h.2 j _ v (List.getElem?_eq_getElem hlt) hj).2

/-- one box more -/
def Gh.addB (g : Gh) (i b : Nat) : Gh := { g with gb := fun j => if j = i then b else g.gb j, lb := fun j => if j = i then true else g.lb j }
theorem AR0.addB {m : Mm} {g : Gh} {x : A} {v : Value} (h : AR0 m g x v) {i b : Nat} (hi : g.lb i = false) : AR0 m (g.addB i b) x v := by
  cases x with
  | bp j off =>
    obtain ⟨h1, h2⟩ := h
    have hne : j ≠ i := fun e => by subst e; rw [hi] at h1; cases h1
    exact ⟨by simp [Gh.addB, hne, h1], by simp [Gh.addB, hne, h2]⟩
  | sb j n =>
    obtain ⟨h1, cap, h2⟩ := h
    have hne : j ≠ i := fun e => by subst e; rw [hi] at h1; cases h1
    exact ⟨by simp [Gh.addB, hne, h1], cap, by simpa [Gh.addB, hne] using h2⟩
  | _ => exact h
theorem AR.addB {m : Mm} {g : Gh} {x : A} {v : Value} (h : AR m g x v) {i b : Nat} (hi : g.lb i = false) : AR m (g.addB i b) x v := h.lift fun _ _ h => h.addB hi
theorem alloc_new_cells {w : World} {b o : Nat} {m : Mm} (hs : Sub m w) (h : w.heap.size ≤ b) : m b o = none := by
  cases hv : m b o with
  | none => rfl
  | some v => have := hs.lt hv; omega
section
variable {C : Ctx} {bx : List (Nat × List A)} {ow : List (Nat × Own)} {w : World} {m : Mm} {g : Gh}
theorem EnvG.boxT (he : EnvG C bx ow w m g) {i : Nat} (hp : Nat.ble 2000 i = false) (hi : get bx i = none) {cs : List A} {vs : Array Value} {ty : Tag} (hc : ACells m g cs vs.toList) : EnvG C ((i, cs) :: bx) ow (w.alloc (obOf i vs ty)) m (g.addB i w.heap.size) := by
  have hlo : Lo w (w.alloc (obOf i vs ty)) := (Lo.refl w).alloc _
  have hlb : g.lb i = false := by rw [he.lb, hi]; rfl
  have hs := he.step hlo (Ext.refl m _) (he.sub.lo hlo)
  have hlt : ∀ j cs', get bx j = some cs' → g.gb j < w.heap.size := fun j cs' hj => by
    obtain ⟨vs', ty', h1, _⟩ := he.boxes j cs' hj
    exact block_lt h1
  exact {
    lo := hs.lo, gm := hs.gm, sub := hs.sub, ext := hs.ext, gt := hs.gt
    lb := fun j => by
      rw [get_cons]
      show (if j = i then true else g.lb j) = _
      by_cases hji : j = i
      · subst hji; simp
      · rw [if_neg hji, if_neg (fun e => hji e.symm)]; exact he.lb j
    lw := he.lw, ln := he.ln
    boxes := fun j cs' hj => by
      rw [get_cons] at hj
      by_cases hji : i = j
      · subst hji
        rw [if_pos rfl] at hj; injection hj with hj; subst hj
        refine ⟨vs, ty, ?_, .of (by simpa using hc.1), fun k x v h1 h2 => ?_, ?_, ?_⟩
        · show (w.alloc (obOf i vs ty)).heap[if i = i then w.heap.size else g.gb i]? = _
          rw [if_pos rfl]; exact heap_alloc_new w _
        · have := hc.2 k x v h1 (by simpa using h2)
          exact ⟨this.1.addB hlb, this.2⟩
        · show C.mine (if i = i then w.heap.size else g.gb i)
          rw [if_pos rfl]; exact .inl he.lo.size
        · intro o
          show m (if i = i then w.heap.size else g.gb i) o = none
          rw [if_pos rfl]; exact alloc_new_cells he.sub (Nat.le_refl _)
      · rw [if_neg hji] at hj
        obtain ⟨vs', ty', h1, h2, h3, h4, h5⟩ := hs.boxes j cs' hj
        have hg : (g.addB i w.heap.size).gb j = g.gb j := by show (if j = i then _ else _) = _; rw [if_neg (fun e => hji e.symm)]
        rw [hg]
        exact ⟨vs', ty', h1, h2, fun k x v h6 h7 => ⟨(h3 k x v h6 h7).1.addB hlb, (h3 k x v h6 h7).2⟩, h4, h5⟩
    inj := fun j k cj ck hj hk h => by
      rw [get_cons] at hj hk
      have e : ∀ q, (g.addB i w.heap.size).gb q = if q = i then w.heap.size else g.gb q := fun q => rfl
      rw [e, e] at h
      by_cases hji : i = j <;> by_cases hki : i = k
      · omega
      · rw [if_neg hki] at hk
        rw [if_pos hji.symm, if_neg (fun e => hki e.symm)] at h
        have := hlt k ck hk; omega
      · rw [if_neg hji] at hj
        rw [if_neg (fun e => hji e.symm), if_pos hki.symm] at h
        have := hlt j cj hj; omega
      · rw [if_neg hji] at hj; rw [if_neg hki] at hk
        rw [if_neg (fun e => hji e.symm), if_neg (fun e => hki e.symm)] at h
        exact he.inj j k cj ck hj hk h
    owns := fun j o hj => by
      obtain ⟨vs', h1, h2, h3, h4⟩ := hs.owns j o hj
      refine ⟨vs', h1, h2, h3, fun b hb => ⟨(h4 b hb).1, fun k ck hk => ?_, (h4 b hb).2.2⟩⟩
      rw [get_cons] at hk
      show (if k = i then w.heap.size else g.gb k) ≠ b
      by_cases hki : i = k
      · rw [if_pos hki.symm]
        obtain ⟨vs2, h5, _⟩ := he.owns j o hj
        have := (h5.lt b hb).2; omega
      · rw [if_neg hki] at hk
        rw [if_neg (fun e => hki e.symm)]
        exact (h4 b hb).2.1 k ck hk
    apart := hs.apart
    pin := hs.pin
    pinb := fun j cs' hj hj2 => by
      rw [get_cons] at hj
      show (if j = i then w.heap.size else g.gb j) = _
      by_cases hji : i = j
      · subst hji; rw [hp] at hj2; cases hj2
      · rw [if_neg hji] at hj; rw [if_neg (fun e => hji e.symm)]; exact hs.pinb j cs' hj hj2 }
theorem EnvG.box (he : EnvG C bx ow w m g) {i : Nat} (hp : Nat.ble 2000 i = false) (hq : cellB i = true) (hi : get bx i = none) {cs : List A} {vs : Array Value} {ty : TypeId} (hc : ACells m g cs vs.toList) : EnvG C ((i, cs) :: bx) ow (w.alloc (.cells vs ty)) m (g.addB i w.heap.size) := by
  have := he.boxT (ty := ⟨ty, 0, 0, 0⟩) hp hi hc
  rwa [ob_cells hq] at this
/-- a box written -/
theorem EnvG.setAtW (he : EnvG C bx ow w m g) {i : Nat} {cs cs' : List A} (hi : get bx i = some cs) {vs' : Array Value} {ty : Tag} {w' : World} (hgw : w.grownBy w' (some (g.gb i))) (hsame : w'.heap[g.gb i]? = some (obOf i vs' ty)) (hz : BxSz i vs'.size cs'.length) (hc : ∀ (k : Nat) x v, cs'[k]? = some x → vs'[k]? = some v → AR m g x v ∧ v.oneCell' = true) : EnvG C ((i, cs') :: bx) ow w' m g := by
  obtain ⟨vs0, ty0, h1, h2, h3, h4, h5⟩ := he.boxes i cs hi
  have hother : ∀ k, k < w.heap.size → k ≠ g.gb i → w'.heap[k]? = w.heap[k]? := fun k hk hne => hgw.block k hk (fun e => hne (by injection e))
  have hlb : ∀ j cj, get ((i, cs') :: bx) j = some cj → ∃ c0, get bx j = some c0 := fun j cj hj => by
    rw [get_cons] at hj
    by_cases hji : i = j
    · subst hji; exact ⟨cs, hi⟩
    · rw [if_neg hji] at hj; exact ⟨cj, hj⟩
  exact {
    lo := he.lo.grown hgw (fun k hk => by injection hk with hk; subst hk; exact h4)
    gm := he.gm
    sub := fun b o v hv => by
      have hb : b ≠ g.gb i := fun e => by rw [e, h5 o] at hv; cases hv
      rw [World.cell?_of_block (a := ⟨b, o, none⟩) (hother b (he.sub.lt hv) hb)]; exact he.sub b o v hv
    ext := he.ext
    gt := he.gt
    lb := fun j => by
      rw [get_cons, he.lb j]
      by_cases hji : i = j
      · subst hji; rw [if_pos rfl, hi]; rfl
      · rw [if_neg hji]
    lw := he.lw, ln := he.ln
    boxes := fun j cj hj => by
      rw [get_cons] at hj
      by_cases hji : i = j
      · subst hji
        rw [if_pos rfl] at hj; injection hj with hj; subst hj
        exact ⟨vs', ty, hsame, hz, hc, h4, h5⟩
      · rw [if_neg hji] at hj
        obtain ⟨vs2, ty2, h6, h7⟩ := he.boxes j cj hj
        exact ⟨vs2, ty2, by rw [hother _ (block_lt h6) fun e => hji (he.inj j i cj cs hj hi e).symm]; exact h6, h7⟩
    inj := fun j k cj ck hj hk h => by
      obtain ⟨c1, hj'⟩ := hlb j cj hj
      obtain ⟨c2, hk'⟩ := hlb k ck hk
      exact he.inj j k c1 c2 hj' hk' h
    owns := fun j o hj => by
      obtain ⟨vs2, h6, h7, h8, h9⟩ := he.owns j o hj
      refine ⟨vs2, h6.kept hgw ?_, h7, h8, fun b hb => ⟨(h9 b hb).1, fun k ck hk => ?_, (h9 b hb).2.2⟩⟩
      · cases hb : (g.go j).ownBlock with
        | none => exact .inl rfl
        | some b => exact .inr fun e => by injection e with e; exact (h9 b hb).2.1 i cs hi e.symm
      · obtain ⟨c2, hk'⟩ := hlb k ck hk
        exact (h9 b hb).2.1 k c2 hk'
    apart := he.apart
    pin := he.pin
    pinb := fun j cj hj hj2 => by
      obtain ⟨c1, hj'⟩ := hlb j cj hj
      exact he.pinb j c1 hj' hj2 }
theorem EnvG.setAt (he : EnvG C bx ow w m g) {i : Nat} {cs cs' : List A} (hi : get bx i = some cs) {vs' : Array Value} {ty : Tag} {w' : World} (hgw : w.grownBy w' (some (g.gb i))) (hsame : w'.heap[g.gb i]? = some (obOf i vs' ty)) (hc : ACells m g cs' vs'.toList) : EnvG C ((i, cs') :: bx) ow w' m g :=
  he.setAtW hi hgw hsame (.of (by simpa using hc.1)) fun k x v h6 h7 => hc.2 k x v h6 (by simpa using h7)
theorem EnvG.setB (he : EnvG C bx ow w m g) {i : Nat} {cs cs' : List A} (hi : get bx i = some cs) {vs vs' : Array Value} {ty : TypeId} (hh : w.heap[g.gb i]? = some (.cells vs ty (0, 0))) (hc : ACells m g cs' vs'.toList) (hq : cellB i = true := by rfl) : EnvG C ((i, cs') :: bx) ow (w.setRow (g.gb i) vs') m g :=
  he.setAt (ty := ⟨ty, 0, 0, 0⟩) hi (grown_setRow' w (g.gb i) vs') (by rw [ob_cells hq]; exact setRow_heap w (g.gb i) vs vs' ty (0, 0) hh) hc
where
  grown_setRow' (w : World) (g : Nat) (cs : Array Value) : w.grownBy (w.setRow g cs) (some g) := ⟨rfl, rfl, rfl, by simp, fun k _ hk => setRow_other w g k cs (fun e => hk (by rw [e]))⟩
end
end Go.Proofs.Ytnclifgiakmmoaa.Sim
