/- Merged by bundles.py: SimC, SimD. -/
import Derived.Test.YtpncekdhigappaaDoorR2
import Derived.Deep.MidRow
/- A logic of states: what single operations hand back. -/
namespace Go.Proofs.YtpncekdhigappaaDoor.Sim
set_option linter.unusedVariables false
set_option linter.unusedSimpArgs false
open Go.RowKit Mem

/-- of a type: is it a struct or an array? how many cells? -/
def tyI (P : Program) (ty : TypeId) : Option (Bool × Nat) := (P.underlying ty).bind fun d => (P.info? ty).map fun i => (d.isRow, i.size)
def fieldOff (P : Program) (s : TypeId) (f : Nat) : Option Nat := match P.underlying s with
  | some (.struct fs) => match fs[f]? with
    | some fd => match P.info? fd.type with
      | some i => if i.size = 0 then none else some fd.offset
      | none => none
    | none => none
  | _ => none
def isStr (P : Program) (t : TypeId) : Bool := match P.underlying t with | some .string => true | _ => false
def intK (P : Program) (t : TypeId) : Option IntKind := match P.underlying t with | some (.int k) => some k | _ => none
theorem isStr_spec {P : Program} {t : TypeId} (h : isStr P t = true) : P.underlying t = some .string := by
  unfold isStr at h
  split at h
  · assumption
  · cases h
theorem intK_spec {P : Program} {t : TypeId} {k : IntKind} (h : intK P t = some k) : P.underlying t = some (.int k) := by
  unfold intK at h
  split at h
  · rename_i k' hu; injection h with h; subst h; exact hu
  · cases h
def sliceSz (P : Program) (t : TypeId) : Option Nat := match P.underlying t with
  | some (.slice e) => (P.info? e).map (·.size)
  | _ => none
theorem tyI_spec {P : Program} {ty : TypeId} {b : Bool} {n : Nat} (h : tyI P ty = some (b, n)) : ∃ d i, P.underlying ty = some d ∧ P.info? ty = some i ∧ d.isRow = b ∧ i.size = n := by
  unfold tyI at h
  cases hu : P.underlying ty with
  | none => rw [hu] at h; cases h
  | some d =>
    rw [hu] at h
    cases hi : P.info? ty with
    | none => rw [hi] at h; cases h
    | some i =>
      rw [hi] at h
      simp at h
      exact ⟨d, i, rfl, rfl, h.1, h.2⟩

section
variable {P : Program} {bx : List (Nat × List A)} {ow : List (Nat × Own)} {o : Oper} {ρ : Operand → Option A} {r : A}
theorem pure_run (h : ∀ (C : Ctx) (m : Mm) (g : Gh) (w : World) (a : Act), EnvG C bx ow w m g → (∀ x ∈ o.op.operands.toList, ∀ y, ρ x = some y → AR m g y (a.eval x)) → ∃ v, (execOp a.eval o).run P w = .ok (.value v) w ∧ AR m g r v) : PureOp P bx ow o ρ r := by
  refine .mk fun C m g w a Q he ho => ?_
  obtain ⟨v, h1, h2⟩ := h C m g w a he ho
  exact wp_of_run h1 ⟨v, m, rfl, Lo.refl _, Ext.refl _ _, he.sub, h2⟩
theorem tr_v {m : Mm} {x v : Value} (h : TR m (.v x) v) : v = x := by cases h; rfl
theorem po_move {x : Operand} (ho : o.op = .move x) (hx : ρ x = some r) : PureOp P bx ow o ρ r := pure_run fun C m g w a he h =>
  ⟨a.eval x, by simp [execOp, ho], h x (by simp [ho, Op.operands]) r hx⟩
theorem po_assign {x : Operand} (ho : o.op = .assign x) (hx : ρ x = some r) : PureOp P bx ow o ρ r := pure_run fun C m g w a he h =>
  ⟨a.eval x, by simp [execOp, ho], h x (by simp [ho, Op.operands]) r hx⟩
theorem po_pick_t {c x y : Operand} {b : Bool} (ho : o.op = .pick c x y) (hc : ρ c = some (.t (.v (.bool b)))) (hb : b = true) (hx : ρ x = some r) : PureOp P bx ow o ρ r := pure_run fun C m g w a he h => by
  have h1 := tr_v (h c (by simp [ho, Op.operands]) _ hc)
  subst hb
  exact ⟨a.eval x, by simp only [execOp, ho, h1, asBool, Sem.run_bind, Sem.run_pure, Result.andThen_ok, if_true], h x (by simp [ho, Op.operands]) r hx⟩
theorem po_pick_f {c x y : Operand} {b : Bool} (ho : o.op = .pick c x y) (hc : ρ c = some (.t (.v (.bool b)))) (hb : b = false) (hx : ρ y = some r) : PureOp P bx ow o ρ r := pure_run fun C m g w a he h => by
  have h1 := tr_v (h c (by simp [ho, Op.operands]) _ hc)
  subst hb
  exact ⟨a.eval y, by simp only [execOp, ho, h1, asBool, Sem.run_bind, Sem.run_pure, Result.andThen_ok, Bool.false_eq_true, if_false], h y (by simp [ho, Op.operands]) r hx⟩

theorem flat_len {sz : Nat} {rows : List (List T)} (hr : ∀ r ∈ rows, r.length = sz) : rows.flatten.length = rows.length * sz := by
  induction rows with
  | nil => simp
  | cons r rs ih =>
    rw [List.flatten_cons, List.length_append, ih fun x hx => hr x (by simp [hx]), hr r (by simp), List.length_cons, Nat.succ_mul]; omega
theorem flat_get {sz : Nat} {rows : List (List T)} (hr : ∀ r ∈ rows, r.length = sz) {k j : Nat} {r : List T} {t : T} (hk : rows[k]? = some r) (hj : r[j]? = some t) : rows.flatten[k * sz + j]? = some t := by
  induction rows generalizing k with
  | nil => simp at hk
  | cons q rs ih =>
    have hq := hr q (by simp)
    have hjl : j < r.length := (List.getElem?_eq_some_iff.1 hj).1
    rw [List.flatten_cons]
    cases k with
    | zero =>
      simp at hk; subst hk
      rw [Nat.zero_mul, Nat.zero_add, List.getElem?_append_left hjl]; exact hj
    | succ k =>
      simp at hk
      rw [List.getElem?_append_right (by rw [hq, Nat.succ_mul]; omega), hq, show (k + 1) * sz + j - sz = k * sz + j by rw [Nat.succ_mul]; omega]
      exact ih (fun x hx => hr x (by simp [hx])) hk
theorem tr_nil (m : Mm) (sz : Nat) {A : Option Addr} {cap : Nat} (hm : cap ≤ maxLen) : TR m (.sl sz []) (.slice A 0 cap) := .sl sz [] A 0 0 cap (fun _ _ => undef) (Nat.zero_le _) hm (fun h => absurd rfl h) (fun r h => by cases h) (fun k j r t h => by simp at h) (fun k j r t h => by simp at h)
/-- a row of the call's own reads as its rows -/
theorem tr_owns {w : World} {m : Mm} {base : Nat} {e : TypeId} {sz : Nat} {v : Value} {rows : List (List T)} {vs : List Value} (ho : RowM w base e sz v rows.length vs) (hr : ∀ r ∈ rows, r.length = sz) (hc : CellsAre m rows.flatten vs)
    (hb : ∀ b, v.ownBlock = some b → ∀ k u, vs[k]? = some u → m b k = some u) : TR m (.sl sz rows) v := by
  obtain ⟨hl, hcase⟩ := ho
  rcases hcase with ⟨hg, h0⟩ | ⟨b, cap, cur, hg, _, hh, hnc, hcm, hcs, htk⟩
  · have hrows : rows = [] := List.eq_nil_of_length_eq_zero h0
    subst hrows
    rw [hg]; exact tr_nil m sz (Nat.zero_le _)
  · have hm := hb b (by rw [hg]; rfl)
    rw [hg]
    have hat : ∀ {k j : Nat} {r : List T} {t : T}, rows[k]? = some r → r[j]? = some t → ∃ u, vs[k * sz + j]? = some u ∧ TR m t u ∧ u.oneCell' = true := fun {k j r t} hk hj => by
      have h1 := flat_get hr hk hj
      have h2 : k * sz + j < vs.length := by rw [hc.1]; exact (List.getElem?_eq_some_iff.1 h1).1
      exact ⟨_, List.getElem?_eq_getElem h2, hc.2 _ t _ h1 (List.getElem?_eq_getElem h2)⟩
    refine .sl sz rows (some ⟨b, 0, none⟩) b 0 cap (fun k j => vs.getD (k * sz + j) undef) hnc hcm (fun _ => rfl) hr ?_ ?_
    · intro k j r t hk hj
      obtain ⟨u, h1, h2, h3⟩ := hat hk hj
      rw [Nat.zero_add, List.getD_eq_getElem?_getD, h1]
      exact ⟨hm _ _ h1, h3⟩
    · intro k j r t hk hj
      obtain ⟨u, h1, h2, h3⟩ := hat hk hj
      rw [List.getD_eq_getElem?_getD, h1]
      exact h2

/-- what a slot's row reads as -/
inductive Vw (ow : List (Nat × Own)) : A → T → Prop
  | t (x : T) : Vw ow (.t x) x
  | nil (sz : Nat) : Vw ow (.t (.v (.slice none 0 0))) (.sl sz [])
  | emp (sz : Nat) : Vw ow .emp (.sl sz [])
  | own {i n : Nat} {e : TypeId} {sz : Nat} {rows : List (List T)} (h : get ow i = some ⟨e, sz, rows⟩) (hn : n = rows.length) (hv : hid i = false := by rfl) : Vw ow (.own i n) (.sl sz rows)
  | le {t t' : T} (h : ∀ m v, TR m t v → TR m t' v) : Vw ow (.t t) t'
  | fn (f : FuncId) : Vw ow (.t (.v (.func (.func f) #[] #[]))) (.clo f [])
  | agn : Vw ow (.ag []) (.agg [])
  | agc {x : A} {t : T} {cs : List A} {ts : List T} (h : Vw ow x t) (hl : Vw ow (.ag cs) (.agg ts)) : Vw ow (.ag (x :: cs)) (.agg (t :: ts))
/-- a struct's cells, the first one apart -/
theorem ag_cons {m : Mm} {g : Gh} {x : A} {cs : List A} {v : Value} (h : AR m g (.ag (x :: cs)) v) : ∃ (u : Value) (us : List Value), v = .agg (u :: us).toArray ∧ AR0 m g x u ∧ u.oneCell' = true ∧ AR m g (.ag cs) (.agg us.toArray) := by
  obtain ⟨vs, rfl, h1, h2⟩ := h
  obtain ⟨l⟩ := vs
  cases l with
  | nil => simp at h1
  | cons u us =>
    have h3 := h2 0 x u rfl (by simp)
    refine ⟨u, us, rfl, h3.1, h3.2, us.toArray, rfl, by simpa using h1, fun j y v h4 h5 => ?_⟩
    exact h2 (j + 1) y v (by simpa using h4) (by simpa using h5)
theorem tr_agg_cons {m : Mm} {t : T} {ts : List T} {u : Value} {us : List Value} (h : TR m t u) (h1 : u.oneCell' = true) (hl : TR m (.agg ts) (.agg us.toArray)) : TR m (.agg (t :: ts)) (.agg (u :: us).toArray) := by
  cases hl with
  | agg _ _ h2 h3 h4 =>
    refine .agg _ _ (by simpa using h2) (fun v hv => ?_) (fun j t' v h5 h6 => ?_)
    · rcases List.mem_cons.1 (by simpa using hv) with rfl | hv
      · exact h1
      · exact h3 v (by simpa using hv)
    · cases j with
      | zero => simp at h5 h6; subst h5 h6; exact h
      | succ j => exact h4 j t' v (by simpa using h5) (by simpa using h6)
theorem Vw.ok {C : Ctx} {w : World} {m : Mm} {g : Gh} {x : A} {t : T} {v : Value} (h : Vw ow x t) (he : EnvG C bx ow w m g) (hx : AR m g x v) : TR m t v := by
  induction h generalizing v with
  | t x => exact hx
  | nil sz =>
    have hx' : TR m (.v (.slice none 0 0)) v := hx
    cases hx'
    exact tr_nil m sz (Nat.zero_le _)
  | emp sz =>
    obtain ⟨A, rfl⟩ := hx
    exact tr_nil m sz (Nat.zero_le _)
  | @own i n e sz rows h hn hv =>
    obtain ⟨_, _, _, hvg⟩ := hx
    obtain rfl := hvg (by rw [he.ln i _ h]; exact hn)
    obtain ⟨vs, ho, hr, hc, hb⟩ := he.owns i _ h
    exact tr_owns ho hr hc fun b hb' k u hu => by rw [(hb b hb').1 k, vis_see hv]; exact hu
  | le h => exact h m v hx
  | fn f =>
    have hx' : TR m (.v (.func (.func f) #[] #[])) v := hx
    cases hx'
    exact .clo f [] #[] rfl (fun j t v h => by simp at h)
  | agn =>
    obtain ⟨vs, rfl, h1, _⟩ := hx
    have : vs = #[] := Array.eq_empty_of_size_eq_zero (by simpa using h1)
    subst this
    exact .agg [] #[] rfl (fun v hv => by simp at hv) (fun j t v h => by simp at h)
  | @agc x t cs ts h hl ih1 ih2 =>
    obtain ⟨u, us, rfl, h1, h2, h3⟩ := ag_cons hx
    exact tr_agg_cons (ih1 h1.two) h2 (ih2 h3)
inductive VwL (ow : List (Nat × Own)) : List A → List T → Prop
  | nil : VwL ow [] []
  | cons {x : A} {t : T} {l : List A} {ts : List T} (h : Vw ow x t) (hl : VwL ow l ts) : VwL ow (x :: l) (t :: ts)
theorem vc {ow : List (Nat × Own)} {x : A} {t : T} {l : List A} {ts : List T} (hl : VwL ow l ts) (h : Vw ow x t := by first | exact .t _ | exact .own rfl (by first | rfl | assumption | (simp; done) | (simp; omega)) | exact .nil _ | exact .emp _ | exact .fn _) : VwL ow (x :: l) (t :: ts) := .cons h hl
theorem VwL.at {l : List A} {ts : List T} (h : VwL ow l ts) : l.length = ts.length ∧ ∀ (j : Nat) t, ts[j]? = some t → ∃ x, l[j]? = some x ∧ Vw ow x t := by
  induction h with
  | nil => exact ⟨rfl, fun j t h => by simp at h⟩
  | cons h hl ih =>
    refine ⟨by simp [ih.1], fun j t ht => ?_⟩
    cases j with
    | zero => simp at ht; subst ht; exact ⟨_, rfl, h⟩
    | succ j => simp at ht; simpa using ih.2 j t ht

theorem add_mid (b o j : Nat) : (⟨b, o, none⟩ : Addr).add j = ⟨b, o + j, none⟩ := Addr.add_mid b o j
theorem run_load_scalar {ty : TypeId} {n : Nat} (hT : tyI P ty = some (false, n)) {w : World} {b off : Nat} {v : Value} (hc : w.cell? ⟨b, off, none⟩ = some v) : (Instr.loadAt ty (.pointer (some ⟨b, off, none⟩))).run P w = .ok v w := by
  obtain ⟨d, i, hu, hi, hd, hs⟩ := tyI_spec hT
  have hagg : (isAgg ty).run P w = .ok false w := by
    unfold isAgg
    rw [Sem.run_bind, run_underlying hu w]
    cases d <;> simp_all
  simp [Instr.loadAt, Instr.sureAddr, loadVar, Sem.run_bind, hagg, hc]
theorem run_load_agg {ty : TypeId} {n : Nat} (hT : tyI P ty = some (true, n)) {w : World} {b off : Nat} {cs : List Value} (hn : cs.length = n) (hc : ∀ (j : Nat) v, cs[j]? = some v → w.cell? ⟨b, off + j, none⟩ = some v) : (Instr.loadAt ty (.pointer (some ⟨b, off, none⟩))).run P w = .ok (.agg cs.toArray) w := by
  obtain ⟨d, i, hu, hi, hd, hs⟩ := tyI_spec hT
  exact run_loadAt_mid w b off ty cs d hc hu hd (by rw [hi]; simp [hs, hn])
theorem po_load {ty : TypeId} {x : Operand} {cs : List T} {t : T} {n : Nat} (ho : o.op = .load ty x) (hx : ρ x = some (.t (.tp cs))) (hT : tyI P ty = some (false, n)) (ht : cs[0]? = some t) : PureOp P bx ow o ρ (.t t) := pure_run fun C m g w a he h => by
  have h1 : TR m (.tp cs) (a.eval x) := h x (by simp [ho, Op.operands]) _ hx
  generalize hv : a.eval x = v at h1
  cases h1 with
  | tp cs b off u hu hr =>
    have hc := he.sub _ _ _ (hu 0 t ht).1
    rw [Nat.add_zero] at hc
    exact ⟨u 0, by simp [execOp, ho, hv, run_load_scalar hT hc], hr 0 t ht⟩
theorem po_load_agg {ty : TypeId} {x : Operand} {cs ts : List T} {n : Nat} (ho : o.op = .load ty x) (hx : ρ x = some (.t (.tp cs))) (hT : tyI P ty = some (true, n)) (hn : ts.length = n) (ht : cs.take n = ts) : PureOp P bx ow o ρ (.t (.agg ts)) := pure_run fun C m g w a he h => by
  have h1 : TR m (.tp cs) (a.eval x) := h x (by simp [ho, Op.operands]) _ hx
  generalize hv : a.eval x = v at h1
  cases h1 with
  | tp cs b off u hu hr =>
    have hts : ∀ (j : Nat) t, ts[j]? = some t → cs[j]? = some t := fun j t hj => by
      have hjn : j < n := by rw [← hn]; exact (List.getElem?_eq_some_iff.1 hj).1
      rw [← ht, List.getElem?_take_of_lt hjn] at hj; exact hj
    have hl : ∀ (j : Nat) v, ((List.range n).map u)[j]? = some v → j < n ∧ v = u j := fun j v hj => by
      have hjn : j < n := by have := (List.getElem?_eq_some_iff.1 hj).1; simpa using this
      rw [List.getElem?_map, List.getElem?_range hjn] at hj
      exact ⟨hjn, by simpa using hj.symm⟩
    have hget : ∀ j, j < n → ∃ t, ts[j]? = some t := fun j hj => ⟨_, List.getElem?_eq_getElem (by omega)⟩
    have hc : ∀ (j : Nat) v, ((List.range n).map u)[j]? = some v → w.cell? ⟨b, off + j, none⟩ = some v := fun j v hj => by
      obtain ⟨hjn, rfl⟩ := hl j v hj
      obtain ⟨t, h3⟩ := hget j hjn
      exact he.sub _ _ _ (hu j t (hts j t h3)).1
    refine ⟨.agg ((List.range n).map u).toArray, by simp only [execOp, ho, hv, Sem.run_bind, run_load_agg hT (show ((List.range n).map u).length = n by simp) hc]; rfl, .agg ts _ (by simp [hn]) ?_ ?_⟩
    · intro v hv'
      obtain ⟨j, hj⟩ := List.getElem?_of_mem hv'
      obtain ⟨hjn, rfl⟩ := hl j v (by simpa using hj)
      obtain ⟨t, h3⟩ := hget j hjn
      exact (hu j t (hts j t h3)).2
    · intro j t v h3 h4
      obtain ⟨_, rfl⟩ := hl j v (by simpa using h4)
      exact hr j t (hts j t h3)
theorem po_load_bx {ty : TypeId} {x : Operand} {i off n : Nat} {cs : List A} (ho : o.op = .load ty x) (hx : ρ x = some (.bp i off)) (hT : tyI P ty = some (false, n)) (hb : get bx i = some cs) (ht : cs[off]? = some r) (hq : cellB i = true := by rfl) : PureOp P bx ow o ρ r := pure_run fun C m g w a he h => by
  obtain ⟨_, h1⟩ := h x (by simp [ho, Op.operands]) _ hx
  obtain ⟨vs, ty', hh, hs, hc, _, _⟩ := he.boxes i cs hb
  rw [ob_cells hq] at hh
  have hlt : off < vs.size := by rw [hs]; exact (List.getElem?_eq_some_iff.1 ht).1
  have hcell : w.cell? ⟨g.gb i, off, none⟩ = some vs[off] := by simp [World.cell?, hh, hlt]
  exact ⟨vs[off], by simp [execOp, ho, h1, run_load_scalar hT hcell], (hc off r _ ht (by simp [hlt])).1⟩
theorem po_load_bx_agg {ty : TypeId} {x : Operand} {i off n : Nat} {cs : List A} {ts : List T} (ho : o.op = .load ty x) (hx : ρ x = some (.bp i off)) (hT : tyI P ty = some (true, n)) (hb : get bx i = some cs) (hv : VwL ow ((cs.drop off).take n) ts) (hn : ts.length = n) (hq : cellB i = true := by rfl) : PureOp P bx ow o ρ (.t (.agg ts)) := pure_run fun C m g w a he h => by
  obtain ⟨_, h1⟩ := h x (by simp [ho, Op.operands]) _ hx
  obtain ⟨vs, ty', hh, hs, hc, _, _⟩ := he.boxes i cs hb
  rw [ob_cells hq] at hh
  obtain ⟨hvl, hva⟩ := hv.at
  have hlen : off + n ≤ vs.size ∨ n = 0 := by
    rw [hs]; simp at hvl; omega
  have hat : ∀ (j : Nat) v, ((vs.toList.drop off).take n)[j]? = some v → j < n ∧ vs[off + j]? = some v := fun j v hj => by
    have hjn : j < n := by have := (List.getElem?_eq_some_iff.1 hj).1; simp at this; omega
    rw [List.getElem?_take_of_lt hjn, List.getElem?_drop] at hj
    exact ⟨hjn, by simpa using hj⟩
  have hcell : ∀ (j : Nat) v, ((vs.toList.drop off).take n)[j]? = some v → w.cell? ⟨g.gb i, off + j, none⟩ = some v := fun j v hj => by
    simp [World.cell?, hh, (hat j v hj).2]
  have hrd : ∀ (j : Nat) v, ((vs.toList.drop off).take n)[j]? = some v → ∃ x, cs[off + j]? = some x ∧ AR m g x v ∧ v.oneCell' = true := fun j v hj => by
    obtain ⟨hjn, h3⟩ := hat j v hj
    have hlt : off + j < cs.length := by rw [← hs]; exact (Array.getElem?_eq_some_iff.1 h3).1
    exact ⟨_, List.getElem?_eq_getElem hlt, hc _ _ _ (List.getElem?_eq_getElem hlt) h3⟩
  refine ⟨_, by simp only [execOp, ho, h1, Sem.run_bind, run_load_agg hT (show ((vs.toList.drop off).take n).length = n by simp; omega) hcell]; rfl, .agg ts _ (by simp [hn]; omega) ?_ ?_⟩
  · intro v hv'
    obtain ⟨j, hj⟩ := List.getElem?_of_mem hv'
    obtain ⟨x, _, _, h3⟩ := hrd j v (by simpa using hj)
    exact h3
  · intro j t v h3 h4
    obtain ⟨x, h5, h6⟩ := hva j t h3
    obtain ⟨x', h7, h8, _⟩ := hrd j v (by simpa using h4)
    have hjn : j < n := by rw [← hn]; exact (List.getElem?_eq_some_iff.1 h3).1
    rw [List.getElem?_take_of_lt hjn, List.getElem?_drop, h7] at h5
    injection h5 with h5; subst h5
    exact h6.ok he h8
theorem fieldOff_spec {s : TypeId} {f k : Nat} (h : fieldOff P s f = some k) : ∃ fs fd i, P.underlying s = some (.struct fs) ∧ fs[f]? = some fd ∧ P.info? fd.type = some i ∧ i.size ≠ 0 ∧ fd.offset = k := by
  unfold fieldOff at h
  split at h
  · rename_i fs hu
    split at h
    · rename_i fd hf
      split at h
      · rename_i i hi
        split at h
        · cases h
        · rename_i hs; injection h with h; exact ⟨fs, fd, i, hu, hf, hi, hs, h⟩
      · cases h
    · cases h
  · cases h
theorem run_field {s : TypeId} {f k : Nat} (h : fieldOff P s f = some k) (w : World) (b off : Nat) : (Instr.fieldAt s (.pointer (some ⟨b, off, none⟩)) f).run P w = .ok (.pointer (some ⟨b, off + k, none⟩)) w := by
  obtain ⟨fs, fd, i, hu, hf, hi, hs, hk⟩ := fieldOff_spec h
  simp [Instr.fieldAt, run_underlying hu, hf, Instr.sureAddr, fieldPlace, sizeOf, typeInfo, hi, hs, hk, add_mid]
theorem po_field {s : TypeId} {x : Operand} {f k : Nat} {cs : List T} (ho : o.op = .fieldAddr s x f) (hx : ρ x = some (.t (.tp cs))) (hk : fieldOff P s f = some k) : PureOp P bx ow o ρ (.t (.tp (cs.drop k))) := pure_run fun C m g w a he h => by
  have h1 : TR m (.tp cs) (a.eval x) := h x (by simp [ho, Op.operands]) _ hx
  generalize hv : a.eval x = v at h1
  cases h1 with
  | tp cs b off u hu hr =>
    refine ⟨_, by simp only [execOp, ho, hv, Sem.run_bind, run_field hk]; rfl, .tp _ b (off + k) (fun j => u (k + j)) ?_ ?_⟩
    · intro j t hj
      rw [List.getElem?_drop] at hj
      have := hu (k + j) t hj
      rw [Nat.add_assoc]; exact this
    · intro j t hj
      rw [List.getElem?_drop] at hj
      exact hr (k + j) t hj
theorem po_field_bx {s : TypeId} {x : Operand} {f k i off : Nat} (ho : o.op = .fieldAddr s x f) (hx : ρ x = some (.bp i off)) (hk : fieldOff P s f = some k) : PureOp P bx ow o ρ (.bp i (off + k)) := pure_run fun C m g w a he h => by
  obtain ⟨h0, h1⟩ := h x (by simp [ho, Op.operands]) _ hx
  exact ⟨_, by simp only [execOp, ho, h1, Sem.run_bind, run_field hk]; rfl, h0, rfl⟩
theorem sliceSz_spec {t : TypeId} {sz : Nat} (h : sliceSz P t = some sz) : ∃ e i, P.underlying t = some (.slice e) ∧ P.info? e = some i ∧ i.size = sz := by
  unfold sliceSz at h
  split at h
  · rename_i e hu
    cases hi : P.info? e with
    | none => rw [hi] at h; cases h
    | some i => rw [hi] at h; simp at h; exact ⟨e, i, hu, hi, h⟩
  · cases h
theorem po_index {t : TypeId} {x ix : Operand} {y : A} {sz k : Nat} {rows : List (List T)} {row : List T} {n : Int} {ik : IntKind} (ho : o.op = .indexAddr t x ix) (hx : ρ x = some y) (hy : Vw ow y (.sl sz rows)) (hi : ρ ix = some (.t (.v (.int ik n)))) (hT : sliceSz P t = some sz) (hn : n = (k : Int)) (hk : rows[k]? = some row) : PureOp P bx ow o ρ (.t (.tp row)) := pure_run fun C m g w a he h => by
  have h1 : TR m (.sl sz rows) (a.eval x) := hy.ok he (h x (by simp [ho, Op.operands]) _ hx)
  have h2 := tr_v (h ix (by simp [ho, Op.operands]) _ hi)
  obtain ⟨e, i, hu, hie, hs⟩ := sliceSz_spec hT
  generalize hv : a.eval x = v at h1
  have hkl : k < rows.length := (List.getElem?_eq_some_iff.1 hk).1
  cases h1 with
  | sl sz rows A b off cap u hc hm hA hr hu' ht =>
    have hA' := hA (by intro e; subst e; simp at hk)
    subst hA' hn
    have hlt : (k : Int) < (rows.length : Int) := by omega
    refine ⟨.pointer (some ⟨b, off + k * sz, none⟩), ?_, .tp row b (off + k * sz) (fun j => u k j) ?_ ?_⟩
    · simp [execOp, ho, hv, h2, Instr.indexAt, asIntOf, run_underlying hu, sizeOf, typeInfo, hie, hs, hkl, add_mid]
    · intro j t hj
      have := hu' k j row t hk hj
      rw [Nat.add_assoc]; exact this
    · intro j t hj
      exact ht k j row t hk hj
end
end Go.Proofs.YtpncekdhigappaaDoor.Sim

/- A logic of states: numbers, texts, calls. -/
namespace Go.Proofs.YtpncekdhigappaaDoor.Sim
set_option linter.unusedVariables false
set_option linter.unusedSimpArgs false
open Go.RowKit Mem

/-- data that is a value just so -/
inductive Ex : T → Value → Prop
  | v (x : Value) : Ex (.v x) x
  | agg {cs : List T} {vs : List Value} (hl : cs.length = vs.length) (h : ∀ (j : Nat) t v, cs[j]? = some t → vs[j]? = some v → t = .v v) : Ex (.agg cs) (.agg vs.toArray)
theorem Ex.eq {m : Mm} {t : T} {x v : Value} (h : Ex t x) (hv : TR m t v) : v = x := by
  cases h with
  | v x => exact tr_v hv
  | @agg cs vs hl h =>
    cases hv with
    | agg cs ws hw h1 ht =>
      congr 1
      refine Array.ext' (List.ext_getElem? fun j => ?_)
      by_cases hj : j < vs.length
      · have e1 : ws[j]? = some (ws[j]'(by omega)) := Array.getElem?_eq_getElem (by omega)
        have e2 : cs[j]? = some (cs[j]'(by omega)) := List.getElem?_eq_getElem (by omega)
        have e3 : vs[j]? = some (vs[j]'(by omega)) := List.getElem?_eq_getElem (by omega)
        have h5 := ht j _ _ e2 e1
        rw [h j _ _ e2 e3] at h5
        have h6 := tr_v h5
        rw [Array.getElem?_toList, e1, h6]
        simp [e3]
      · rw [List.getElem?_eq_none (by simp; omega), List.getElem?_eq_none (by simp; omega)]

def cmpB : BinOp → Int → Int → Option Bool
  | .lss, x, y => some (decide (x < y))
  | .leq, x, y => some (decide (x ≤ y))
  | .gtr, x, y => some (decide (y < x))
  | .geq, x, y => some (decide (y ≤ x))
  | .eql, x, y => some (decide (x = y))
  | .neq, x, y => some (!decide (x = y))
  | _, _, _ => none
def arI : BinOp → IntKind → Int → Int → Option Int
  | .add, k, x, y => some (k.wrap (x + y))
  | .sub, k, x, y => some (k.wrap (x - y))
  | .mul, k, x, y => some (k.wrap (x * y))
  | _, _, _, _ => none
def strB : BinOp → ByteArray → ByteArray → Option Bool
  | .eql, a, b => some (decide (a = b))
  | .neq, a, b => some (!decide (a = b))
  | .lss, a, b => some (Op.bytesLess a.toList b.toList)
  | _, _, _ => none

section
variable {P : Program} {bx : List (Nat × List A)} {ow : List (Nat × Own)} {o : Oper} {ρ : Operand → Option A} {r : A}
theorem po_ex2 {op : BinOp} {t t2 : TypeId} {x y : Operand} {tx ty : T} {vx vy vr : Value} (ho : o.op = .binOp op t x y t2) (hx : ρ x = some (.t tx)) (hy : ρ y = some (.t ty)) (ex : Ex tx vx) (ey : Ex ty vy)
    (hr : ∀ (w : World) (a b : Operand), ((do eqGuard op t a b vx vy; binOp op t vx vy) : Sem Value).run P w = .ok vr w) : PureOp P bx ow o ρ (.t (.v vr)) := pure_run fun C m g w a he h => by
  have h1 := ex.eq (h x (by simp [ho, Op.operands]) _ hx)
  have h2 := ey.eq (h y (by simp [ho, Op.operands]) _ hy)
  refine ⟨vr, ?_, .v _⟩
  have := hr w x y
  simp only [execOp, ho, h1, h2]
  rw [Sem.run_bind, this]; rfl
theorem po_cmp {op : BinOp} {t t2 : TypeId} {x y : Operand} {k : IntKind} {i j : Int} {c : Bool} (ho : o.op = .binOp op t x y t2) (hx : ρ x = some (.t (.v (.int k i)))) (hy : ρ y = some (.t (.v (.int k j)))) (hc : cmpB op i j = some c) : PureOp P bx ow o ρ (.t (.v (.bool c))) :=
  po_ex2 ho hx hy (.v _) (.v _) (by
    intro w a b
    cases op <;> first | (injection hc with hc; subst hc; simp [eqGuard, binOp, Op.intCmp, bne]; done) | (injection hc with hc; subst hc; simp [eqGuard, binOp, Op.intCmp, bne]; rfl) | cases hc)
theorem po_arith {op : BinOp} {t t2 : TypeId} {x y : Operand} {k : IntKind} {i j c : Int} (ho : o.op = .binOp op t x y t2) (hx : ρ x = some (.t (.v (.int k i)))) (hy : ρ y = some (.t (.v (.int k j)))) (hc : arI op k i j = some c) : PureOp P bx ow o ρ (.t (.v (.int k c))) :=
  po_ex2 ho hx hy (.v _) (.v _) (by
    intro w a b
    cases op <;> first | (injection hc with hc; subst hc; simp [eqGuard, binOp, Op.intArith]; done) | cases hc)
theorem ar_add {k : IntKind} {x y z : Int} (hz : k.wrap z = z) (h : x + y = z) : arI .add k x y = some z := by simp [arI, h, hz]
theorem ar_sub {k : IntKind} {x y z : Int} (hz : k.wrap z = z) (h : x - y = z) : arI .sub k x y = some z := by simp [arI, h, hz]
theorem ar_mul {k : IntKind} {x y z : Int} (hz : k.wrap z = z) (h : x * y = z) : arI .mul k x y = some z := by simp [arI, h, hz]
theorem wrap_i64 {n : Int} (h : -9223372036854775808 ≤ n ∧ n ≤ 9223372036854775807) : IntKind.i64.wrap n = n := IntWalk.i64_in _ h
theorem po_quo {t t2 : TypeId} {x y : Operand} {k : IntKind} {i j : Int} (ho : o.op = .binOp .quo t x y t2) (hx : ρ x = some (.t (.v (.int k i)))) (hy : ρ y = some (.t (.v (.int k j)))) (hj : j ≠ 0) : PureOp P bx ow o ρ (.t (.v (.int k (k.wrap (i.tdiv j))))) :=
  po_ex2 ho hx hy (.v _) (.v _) (by intro w a b; simp [eqGuard, binOp, Op.intDiv, hj])
theorem po_rem {t t2 : TypeId} {x y : Operand} {k : IntKind} {i j : Int} (ho : o.op = .binOp .rem t x y t2) (hx : ρ x = some (.t (.v (.int k i)))) (hy : ρ y = some (.t (.v (.int k j)))) (hj : j ≠ 0) : PureOp P bx ow o ρ (.t (.v (.int k (i.tmod j)))) :=
  po_ex2 ho hx hy (.v _) (.v _) (by intro w a b; simp [eqGuard, binOp, Op.intDiv, hj])
theorem ba_eq (a b : ByteArray) : (a.toList == b.toList) = decide (a = b) := by
  rw [Bool.eq_iff_iff]; simp only [beq_iff_eq, decide_eq_true_eq]
  exact ⟨bs_inj, fun h => by rw [h]⟩
theorem po_str {op : BinOp} {t t2 : TypeId} {x y : Operand} {i j : ByteArray} {c : Bool} (ho : o.op = .binOp op t x y t2) (hx : ρ x = some (.t (.v (.string i)))) (hy : ρ y = some (.t (.v (.string j)))) (hc : strB op i j = some c) : PureOp P bx ow o ρ (.t (.v (.bool c))) :=
  po_ex2 ho hx hy (.v _) (.v _) (by
    intro w a b
    cases op <;> first | (injection hc with hc; subst hc; simp [eqGuard, binOp, Op.stringOp, ba_eq]; done) | cases hc)
theorem po_cat {t t2 : TypeId} {x y : Operand} {i j : ByteArray} (ho : o.op = .binOp .add t x y t2) (hx : ρ x = some (.t (.v (.string i)))) (hy : ρ y = some (.t (.v (.string j)))) (hs : i.size + j.size ≤ 9223372036854775807) : PureOp P bx ow o ρ (.t (.v (.string (i ++ j)))) :=
  po_ex2 ho hx hy (.v _) (.v _) (by
    intro w a b
    have := run_string_add_sum (P := P) (w := w) i j hs
    simp [eqGuard, binOp, this])
theorem po_boolq {op : BinOp} {t t2 : TypeId} {x y : Operand} {i j : Bool} (ho : o.op = .binOp op t x y t2) (hx : ρ x = some (.t (.v (.bool i)))) (hy : ρ y = some (.t (.v (.bool j)))) (hu : P.underlying t = some .bool) (hop : op = .eql ∨ op = .neq) : PureOp P bx ow o ρ (.t (.v (.bool (if op = .eql then i == j else !(i == j))))) :=
  po_ex2 ho hx hy (.v _) (.v _) (by
    intro w a b
    rcases hop with rfl | rfl
    · simp [eqGuard, run_eql_bool w t i j hu]
    · simp [eqGuard, run_neq_bool w t i j hu])
theorem po_not {t : TypeId} {x : Operand} {b : Bool} (ho : o.op = .unOp .not t x) (hx : ρ x = some (.t (.v (.bool b)))) : PureOp P bx ow o ρ (.t (.v (.bool (!b)))) := pure_run fun C m g w a he h => by
  have h1 := tr_v (h x (by simp [ho, Op.operands]) _ hx)
  exact ⟨.bool (!b), by simp [execOp, ho, h1, Op.unary], .v _⟩
theorem po_conv_int {src dst : TypeId} {x : Operand} {k k' : IntKind} {i c : Int} (ho : o.op = .convert src dst x) (hx : ρ x = some (.t (.v (.int k' i)))) (hs : intK P src = some k') (hd : intK P dst = some k) (hc : k.wrap i = c) : PureOp P bx ow o ρ (.t (.v (.int k c))) := pure_run fun C m g w a he h => by
  have h1 := tr_v (h x (by simp [ho, Op.operands]) _ hx)
  subst hc
  refine ⟨.int k (k.wrap i), ?_, .v _⟩
  simp [execOp, ho, h1, convert, run_underlying (intK_spec hs), run_underlying (intK_spec hd), Conv.intToInt]
theorem po_len_str {x : Operand} {t : TypeId} {s : ByteArray} (ho : o.op = .call { callee := .builtin .len, args := #[x], argTypes := #[t] }) (hx : ρ x = some (.t (.v (.string s)))) (hu : isStr P t = true) : PureOp P bx ow o ρ (.t (.v (.int .i64 s.size))) := pure_run fun C m g w a he h => by
  have h1 := tr_v (h x (by simp [ho, Op.operands, Call.operands]) _ hx)
  exact ⟨.int .i64 s.size, by simp [execOp, ho, h1, resolve, invoke, builtin, Builtin.len_, run_underlying (isStr_spec hu), goInt], .v _⟩
theorem po_len {x : Operand} {t : TypeId} {y : A} {sz : Nat} {rows : List (List T)} (ho : o.op = .call { callee := .builtin .len, args := #[x], argTypes := #[t] }) (hx : ρ x = some y) (hy : Vw ow y (.sl sz rows)) (hT : sliceSz P t = some sz) : PureOp P bx ow o ρ (.t (.v (.int .i64 rows.length))) := pure_run fun C m g w a he h => by
  have h1 : TR m (.sl sz rows) (a.eval x) := hy.ok he (h x (by simp [ho, Op.operands, Call.operands]) _ hx)
  obtain ⟨e, _, hu, _, _⟩ := sliceSz_spec hT
  generalize hv : a.eval x = v at h1
  cases h1 with
  | sl sz rows A b off cap u hc hm hA hr hu' ht =>
    exact ⟨.int .i64 rows.length, by simp [execOp, ho, hv, resolve, invoke, builtin, Builtin.len_, run_underlying hu, goInt], .v _⟩
theorem po_index_str {t : TypeId} {x ix : Operand} {s : ByteArray} {k : Nat} {n : Int} {ik : IntKind} (ho : o.op = .index t x ix) (hx : ρ x = some (.t (.v (.string s)))) (hi : ρ ix = some (.t (.v (.int ik n)))) (hu : isStr P t = true) (hn : n = (k : Int)) (hk : k < s.size) : PureOp P bx ow o ρ (.t (.v (.int .u8 s[k].toNat))) := pure_run fun C m g w a he h => by
  have h1 := tr_v (h x (by simp [ho, Op.operands]) _ hx)
  have h2 := tr_v (h ix (by simp [ho, Op.operands]) _ hi)
  subst hn
  refine ⟨.int .u8 s[k].toNat, ?_, .v _⟩
  have : s[k]? = some s[k] := by simp [hk]
  simp [execOp, ho, h1, h2, Instr.index, asIntOf, run_underlying (isStr_spec hu), hk]
theorem po_extract {x : Operand} {i : Nat} {cs : List T} {t : T} (ho : o.op = .extract x i) (hx : ρ x = some (.t (.tup cs))) (ht : cs[i]? = some t) : PureOp P bx ow o ρ (.t t) := pure_run fun C m g w a he h => by
  have h1 : TR m (.tup cs) (a.eval x) := h x (by simp [ho, Op.operands]) _ hx
  generalize hv : a.eval x = v at h1
  cases h1 with
  | tup cs vs hl hr =>
    have hlt : i < vs.size := by rw [hl]; exact (List.getElem?_eq_some_iff.1 ht).1
    exact ⟨vs[i], by simp [execOp, ho, hv, Instr.extract, hlt], hr i t _ ht (by simp [hlt])⟩

/-- a call: what it is handed, what it hands back; it turns nothing -/
structure PCalls (P : Program) (f : FuncId) (args : List T) (r : T) : Prop where
  ent : ∀ (args : Array Value) (w : World), (callFunc f args).run P w = .ok (.enter f args) w
  run : ∀ (m : Mm) (w : World) (vals : Array Value), Sub m w → vals.size = args.length → (∀ (i : Nat) t v, args[i]? = some t → vals[i]? = some v → TR m t v) →
    Calls P f vals w fun e w' => ∃ v m', e = .returned v ∧ Lo w w' ∧ Ext m m' w.heap.size ∧ Sub m' w' ∧ TR m' r v
/-- what operands read as -/
inductive Args (ow : List (Nat × Own)) (ρ : Operand → Option A) : List Operand → List T → Prop
  | nil : Args ow ρ [] []
  | cons {x : Operand} {y : A} {t : T} {xs : List Operand} {ts : List T} (h : ρ x = some y) (hv : Vw ow y t) (hl : Args ow ρ xs ts) : Args ow ρ (x :: xs) (t :: ts)
theorem ac {ow : List (Nat × Own)} {ρ : Operand → Option A} {x : Operand} {y : A} {t : T} {xs : List Operand} {ts : List T} (hl : Args ow ρ xs ts) (h : ρ x = some y := by exact rfl) (hv : Vw ow y t := by first | exact .t _ | exact .own rfl (by first | rfl | assumption | (simp; done) | (simp; omega)) | exact .nil _ | exact .emp _ | exact .fn _) : Args ow ρ (x :: xs) (t :: ts) := .cons h hv hl
theorem Args.ok {C : Ctx} {w : World} {m : Mm} {g : Gh} {xs : List Operand} {ts : List T} (h : Args ow ρ xs ts) (he : EnvG C bx ow w m g) {a : Act} (ha : ∀ x ∈ xs, ∀ y, ρ x = some y → AR m g y (a.eval x)) : xs.length = ts.length ∧ ∀ (i : Nat) t v, ts[i]? = some t → (xs.map a.eval)[i]? = some v → TR m t v := by
  induction h with
  | nil => exact ⟨rfl, fun i t v h => by simp at h⟩
  | @cons x y t xs ts h hv hl ih =>
    obtain ⟨h1, h2⟩ := ih fun x hx => ha x (by simp [hx])
    refine ⟨by simp [h1], fun i t' v h3 h4 => ?_⟩
    cases i with
    | zero => simp at h3 h4; subst h3 h4; exact hv.ok he (ha x (by simp) y h)
    | succ i => simp at h3; exact h2 i t' v h3 (by simpa using h4)
theorem po_call {f : FuncId} {xs : List Operand} {at_ : Array TypeId} {ts : List T} {t : T} (hc : PCalls P f ts t) (ho : o.op = .call { callee := .value (.func f), args := xs.toArray, argTypes := at_ }) (ha : Args ow ρ xs ts) : PureOp P bx ow o ρ (.t t) := by
  refine .mk fun C m g w a Q he h => ?_
  obtain ⟨hl, hv⟩ := ha.ok he (a := a) (fun x hx y hy => h x (by simp [ho, Op.operands, Call.operands, hx]) y hy)
  have hrun : (execOp a.eval o).run P w = .ok (.enter f (xs.map a.eval).toArray) w := by
    have := hc.ent (xs.map a.eval).toArray w
    simp only [execOp, ho, resolve, Deferred.ofValue, Act.eval, invoke, Sem.run_bind, Sem.run_pure, Result.andThen_ok, List.map_toArray, Array.append_empty, Array.empty_append, Array.append_eq_append, List.append_nil, List.nil_append] at this ⊢
    simpa using this
  exact wp_call_of hrun (hc.run m w _ he.sub (by simp [hl]) (fun i t v h1 h2 => hv i t v h1 (by simpa using h2))) fun e w' ⟨v, m', h1, h2, h3, h4, h5⟩ => ⟨v, h1, v, m', rfl, h2, h3, h4, h5⟩
theorem po_call_clo {f : FuncId} {x : Operand} {xs : List Operand} {at_ : Array TypeId} {ts caps : List T} {t : T} (ho : o.op = .call { callee := .value x, args := xs.toArray, argTypes := at_ }) (hx : ρ x = some (.t (.clo f caps))) (ha : Args ow ρ xs ts) (hc : PCalls P f (ts ++ caps) t) : PureOp P bx ow o ρ (.t t) := by
  refine .mk fun C m g w a Q he h => ?_
  obtain ⟨hl, hv⟩ := ha.ok he (a := a) (fun x hx y hy => h x (by simp [ho, Op.operands, Call.operands, hx]) y hy)
  have h1 : TR m (.clo f caps) (a.eval x) := h x (by simp [ho, Op.operands, Call.operands]) _ hx
  generalize hvx : a.eval x = v at h1
  cases h1 with
  | clo f caps vs hs ht =>
    have hrun : (execOp a.eval o).run P w = .ok (.enter f ((xs.map a.eval).toArray ++ vs)) w := by
      have := hc.ent ((xs.map a.eval).toArray ++ vs) w
      simp only [execOp, ho, resolve, Deferred.ofValue, hvx, invoke, Sem.run_bind, Sem.run_pure, Result.andThen_ok, List.map_toArray, Array.append_empty, Array.empty_append] at this ⊢
      simpa using this
    refine wp_call_of hrun (hc.run m w _ he.sub (by simp [hl, hs]) ?_) fun e w' ⟨v, m', h1, h2, h3, h4, h5⟩ => ⟨v, h1, v, m', rfl, h2, h3, h4, h5⟩
    intro i t v h1 h2
    rw [List.getElem?_append] at h1
    rw [Array.getElem?_append] at h2
    by_cases hi : i < ts.length
    · rw [if_pos hi] at h1
      rw [if_pos (by simpa [hl] using hi)] at h2
      exact hv i t v h1 (by simpa using h2)
    · rw [if_neg hi] at h1
      rw [if_neg (by simpa [hl] using hi)] at h2
      refine ht _ t v h1 ?_
      simpa [hl] using h2
end
end Go.Proofs.YtpncekdhigappaaDoor.Sim
