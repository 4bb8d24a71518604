/- Merged by bundles.py: SimO. -/
import Derived.Test.YtnclifgiakmmoaaGreatH7
/- A logic of states: calls that are lent rows and boxes, or hand back rows of the caller's own. -/
namespace Go.Proofs.YtnclifgiakmmoaaGreat.Sim
set_option linter.unusedVariables false
set_option linter.unusedSimpArgs false
open Go.RowKit Mem

/-- the memory of the moment, all of it -/
def allw (w : World) : Mm := fun b o => w.cell? ⟨b, o, none⟩
theorem sub_allw (w : World) : Sub (allw w) w := fun _ _ _ h => h
theorem gt_allw {C : Ctx} {bx : List (Nat × List A)} {ow : List (Nat × Own)} {w : World} {m : Mm} {g : Gh} (he : EnvG C bx ow w m g) : GT (allw w) := fun b o v ht => he.sub b o v (he.gt b o v ht)
theorem allw_of {m : Mm} {w : World} (h : Sub m w) : ∀ b o v, m b o = some v → allw w b o = some v := h
/-- what a slot reads as while nothing turns: hidden rows, too -/
inductive VwS (ow : List (Nat × Own)) : A → T → Prop
  | t (x : T) : VwS ow (.t x) x
  | nil (sz : Nat) : VwS ow (.t (.v (.slice none 0 0))) (.sl sz [])
  | emp (sz : Nat) : VwS ow .emp (.sl sz [])
  | own {i n : Nat} {e : TypeId} {sz : Nat} {rows : List (List T)} (h : get ow i = some ⟨e, sz, rows⟩) (hn : n = rows.length) : VwS ow (.own i n) (.sl sz rows)
  | fn (f : FuncId) : VwS ow (.t (.v (.func (.func f) #[] #[]))) (.clo f [])
  | agn : VwS ow (.ag []) (.agg [])
  | agc {x : A} {t : T} {cs : List A} {ts : List T} (h : VwS ow x t) (hl : VwS ow (.ag cs) (.agg ts)) : VwS ow (.ag (x :: cs)) (.agg (t :: ts))
section
variable {P : Program} {bx : List (Nat × List A)} {ow : List (Nat × Own)} {o : Oper} {ρ : Operand → Option A} {r : A}
theorem VwS.ok {C : Ctx} {w : World} {m : Mm} {g : Gh} {x : A} {t : T} {v : Value} (h : VwS ow x t) (he : EnvG C bx ow w m g) (hx : AR m g x v) : TR (allw w) t v := by
  induction h generalizing v with
  | t x => exact TR.mono (allw_of he.sub) hx
  | nil sz =>
    have hx' : TR m (.v (.slice none 0 0)) v := hx
    cases hx'
    exact tr_nil _ sz (Nat.zero_le _)
  | emp sz =>
    obtain ⟨A, rfl⟩ := hx
    exact tr_nil _ sz (Nat.zero_le _)
  | @own i n e sz rows h hn =>
    obtain ⟨_, _, _, hvg⟩ := hx
    obtain rfl := hvg (by rw [he.ln i _ h]; exact hn)
    obtain ⟨vs, ho, hr, hc, hb⟩ := he.owns i _ h
    exact tr_owns ho hr (hc.mono (allw_of he.sub)) fun b hb' k u hu => by
      have := ho.cells hb' k u hu
      rwa [addr_add, Nat.zero_add] at this
  | fn f =>
    have hx' : TR m (.v (.func (.func f) #[] #[])) v := hx
    cases hx'
    exact .clo f [] #[] rfl (fun j t v h => by simp at h)
  | agn =>
    obtain ⟨vs, rfl, h1, _⟩ := hx
    have : vs = #[] := Array.eq_empty_of_size_eq_zero (by simpa using h1)
    subst this
    exact .agg [] #[] rfl (fun v hv => by simp at hv) (fun j t v h => by simp at h)
  | @agc x t cs ts h hl ih1 ih2 =>
    obtain ⟨u, us, rfl, h1, h2, h3⟩ := ag_cons hx
    exact tr_agg_cons (ih1 h1.two) h2 (ih2 h3)
inductive ArgsS (ow : List (Nat × Own)) (ρ : Operand → Option A) : List Operand → List T → Prop
  | nil : ArgsS ow ρ [] []
  | cons {x : Operand} {y : A} {t : T} {xs : List Operand} {ts : List T} (h : ρ x = some y) (hv : VwS ow y t) (hl : ArgsS ow ρ xs ts) : ArgsS ow ρ (x :: xs) (t :: ts)
theorem ArgsS.ok {C : Ctx} {w : World} {m : Mm} {g : Gh} {xs : List Operand} {ts : List T} (h : ArgsS ow ρ xs ts) (he : EnvG C bx ow w m g) {a : Act} (ha : ∀ x ∈ xs, ∀ y, ρ x = some y → AR m g y (a.eval x)) : xs.length = ts.length ∧ ∀ (i : Nat) t v, ts[i]? = some t → (xs.map a.eval)[i]? = some v → TR (allw w) t v := by
  induction h with
  | nil => exact ⟨rfl, fun i t v h => by simp at h⟩
  | @cons x y t xs ts h hv hl ih =>
    obtain ⟨h1, h2⟩ := ih fun x hx => ha x (by simp [hx])
    refine ⟨by simp [h1], fun i t' v h3 h4 => ?_⟩
    cases i with
    | zero => simp at h3 h4; subst h3 h4; exact hv.ok he (ha x (by simp) y h)
    | succ i => simp at h3; exact h2 i t' v h3 (by simpa using h4)
/-- data that hangs on no memory -/
def T.scB : T → Bool
  | .v _ => true
  | _ => false
def T.sc : T → Bool
  | .v _ => true
  | .tup cs => cs.all T.scB
  | .agg cs => cs.all T.scB
  | _ => false
theorem sc1 {m m' : Mm} {t : T} {v : Value} (h : t.scB = true) (hv : TR m t v) : TR m' t v := by
  cases t with
  | v x => cases hv; exact .v _
  | _ => cases h
theorem sc_any {m m' : Mm} {t : T} {v : Value} (h : t.sc = true) (hv : TR m t v) : TR m' t v := by
  cases hv with
  | v => exact .v _
  | tup cs vs hl ht => exact .tup cs vs hl fun j t v h1 h2 => sc1 ((List.all_eq_true.1 h) t (List.mem_of_getElem? h1)) (ht j t v h1 h2)
  | agg cs vs hl h1 ht => exact .agg cs vs hl h1 fun j t v h2 h3 => sc1 ((List.all_eq_true.1 h) t (List.mem_of_getElem? h2)) (ht j t v h2 h3)
  | _ => cases h
/-- a call that sees hidden rows, too, and answers data that hangs on no memory -/
theorem po_call_see {f : FuncId} {xs : List Operand} {at_ : Array TypeId} {ts : List T} {t : T} (hc : PCalls P f ts t) (ho : o.op = .call { callee := .value (.func f), args := xs.toArray, argTypes := at_ }) (ha : ArgsS ow ρ xs ts) (hs : t.sc = true) : PureOp P bx ow o ρ (.t t) := by
  refine .mk fun C m g w a Q he h => ?_
  obtain ⟨hl, hv⟩ := ha.ok he (a := a) (fun x hx y hy => h x (by simp [ho, Op.operands, Call.operands, hx]) y hy)
  have hrun : (execOp a.eval o).run P w = .ok (.enter f (xs.map a.eval).toArray) w := by
    have := hc.ent (xs.map a.eval).toArray w
    simp only [execOp, ho, resolve, Deferred.ofValue, Act.eval, invoke, Sem.run_bind, Sem.run_pure, Result.andThen_ok, List.map_toArray, Array.append_empty, Array.empty_append, Array.append_eq_append, List.append_nil, List.nil_append] at this ⊢
    simpa using this
  exact wp_call_of hrun (hc.run (allw w) w _ (sub_allw w) (by simp [hl]) (fun i t v h1 h2 => hv i t v h1 (by simpa using h2)) (gt_allw he)) fun e w' ⟨v, m', h1, h2, h3, h4, h5, _⟩ => ⟨v, h1, v, m, rfl, h2, Ext.refl _ _, he.sub.lo h2, NFx.refl _ _, sc_any hs h5⟩
def A.isLf : A → Bool
  | .ag _ => false
  | .tu _ => false
  | .cl _ _ => false
  | _ => true
theorem lf0 {m : Mm} {g : Gh} {x : A} {v : Value} (h : x.isLf = true) (hx : AR m g x v) : AR0 m g x v := by
  cases x <;> first | exact hx | cases h
def A.is1 : A → Bool
  | .tu _ => false
  | _ => true
theorem is1 {m : Mm} {g : Gh} {x : A} {v : Value} (h : x.is1 = true) (hx : AR m g x v) : AR1 m g x v := by
  cases x <;> first | exact hx | cases h
/-- a box's cells, rows of the call's own among them -/
theorem po_load_bx_ag {ty : TypeId} {x : Operand} {i off n : Nat} {cs ds : List A} (ho : o.op = .load ty x) (hx : ρ x = some (.bp i off)) (hT : tyI P ty = some (true, n)) (hb : get bx i = some cs) (hd : (cs.drop off).take n = ds) (hn : ds.length = n) (hlf : ds.all A.isLf = true) (hq : cellB i = true := by rfl) : PureOp P bx ow o ρ (.ag ds) := pure_run fun C m g w a he h => by
  obtain ⟨_, h1⟩ := h x (by simp [ho, Op.operands]) _ hx
  obtain ⟨vs, ty', hh, hs, hc, _, _⟩ := he.boxes i cs hb (cell_ch hq)
  rw [ob_cells hq] at hh
  replace hs := hs.cell hq
  have hlen : off + n ≤ vs.size ∨ n = 0 := by
    rw [hs]; rw [← hd] at hn; simp at hn; omega
  have hat : ∀ (j : Nat) v, ((vs.toList.drop off).take n)[j]? = some v → j < n ∧ vs[off + j]? = some v := fun j v hj => by
    have hjn : j < n := by have := (List.getElem?_eq_some_iff.1 hj).1; simp at this; omega
    rw [List.getElem?_take_of_lt hjn, List.getElem?_drop] at hj
    exact ⟨hjn, by simpa using hj⟩
  have hcell : ∀ (j : Nat) v, ((vs.toList.drop off).take n)[j]? = some v → w.cell? ⟨g.gb i, off + j, none⟩ = some v := fun j v hj => by
    simp [World.cell?, hh, (hat j v hj).2]
  refine ⟨_, by simp only [execOp, ho, h1, Sem.run_bind, run_load_agg hT (show ((vs.toList.drop off).take n).length = n by simp; omega) hcell]; rfl, _, rfl, by simp [hn]; omega, fun j x u h3 h4 => ?_⟩
  obtain ⟨hjn, h5⟩ := hat j u (by simpa using h4)
  have h6 : cs[off + j]? = some x := by rw [← hd, List.getElem?_take_of_lt hjn, List.getElem?_drop] at h3; exact h3
  have h7 := hc _ x u h6 h5
  exact ⟨lf0 ((List.all_eq_true.1 hlf) x (List.mem_of_getElem? h3)) h7.1, h7.2⟩
/-- a function that captured boxes -/
inductive CapsA (ρ : Operand → Option A) : List Operand → List A → Prop
  | nil : CapsA ρ [] []
  | cons {x : Operand} {y : A} {xs : List Operand} {ys : List A} (h : ρ x = some y) (hv : y.isLf = true) (hl : CapsA ρ xs ys) : CapsA ρ (x :: xs) (y :: ys)
theorem CapsA.at {xs : List Operand} {ys : List A} (h : CapsA ρ xs ys) : xs.length = ys.length ∧ ∀ (j : Nat) y, ys[j]? = some y → ∃ x, xs[j]? = some x ∧ ρ x = some y ∧ y.isLf = true := by
  induction h with
  | nil => exact ⟨rfl, fun j y h => by simp at h⟩
  | cons h hv hl ih =>
    refine ⟨by simp [ih.1], fun j y hy => ?_⟩
    cases j with
    | zero => simp at hy; subst hy; exact ⟨_, rfl, h, hv⟩
    | succ j => simp at hy; simpa using ih.2 j y hy
theorem po_func_cl {f : FuncId} {xs : List Operand} {ys : List A} (ho : o.op = .makeFunc (.func f) #[] xs.toArray) (ha : CapsA ρ xs ys) : PureOp P bx ow o ρ (.cl f ys) := pure_run fun C m g w a he h => by
  obtain ⟨hl, hv⟩ := ha.at
  refine ⟨.func (.func f) #[] (xs.map a.eval).toArray, ?_, _, rfl, by simpa using hl, fun j y u h1 h2 => ?_⟩
  · simp only [execOp, ho, Instr.makeFunc, List.map_toArray, List.map_nil, Sem.run_bind, Sem.run_pure, Result.andThen_ok]
  · obtain ⟨x, h3, h4, h5⟩ := hv j y h1
    have h6 : u = a.eval x := by simpa [h3] using h2.symm
    rw [h6]
    exact lf0 h5 (h x (by simp [ho, Op.operands]; exact List.mem_of_getElem? h3) y h4)
end

/-- a function's results, rows of the call's own among them -/
inductive ResA (P : Program) (st : St) : List ResultVar → List A → Prop
  | nil : ResA P st [] []
  | tmp {s : Nat} {y : A} {l : List ResultVar} {ys : List A} (h : get st.tm s = some y) (h1 : y.is1 = true) (hl : ResA P st l ys) : ResA P st (.tmp s :: l) (y :: ys)
  | cell {s i : Nat} {ty : TypeId} {n : Nat} {cs : List A} {ys : List A} {l : List ResultVar} (h : get st.tm s = some (.bp i 0)) (hb : get st.bx i = some cs) (hT : tyI P ty = some (true, n)) (hn : cs.length = n) (hlf : cs.all A.isLf = true) (hl : ResA P st l ys) (hq : cellB i = true := by rfl) : ResA P st (.cell s ty :: l) (.ag cs :: ys)
  | cell1 {s i : Nat} {ty : TypeId} {n : Nat} {c : A} {ys : List A} {l : List ResultVar} (h : get st.tm s = some (.bp i 0)) (hb : get st.bx i = some [c]) (hT : tyI P ty = some (false, n)) (h1 : c.is1 = true) (hl : ResA P st l ys) (hq : cellB i = true := by rfl) : ResA P st (.cell s ty :: l) (c :: ys)
  | tmpT {s : Nat} {y : A} {t : T} {l : List ResultVar} {ys : List A} (h : get st.tm s = some y) (hv : Vw st.ow y t) (hl : ResA P st l ys) : ResA P st (.tmp s :: l) (.t t :: ys)
  | cellT {s i : Nat} {ty : TypeId} {n : Nat} {cs : List A} {us : List T} {ys : List A} {l : List ResultVar} (h : get st.tm s = some (.bp i 0)) (hb : get st.bx i = some cs) (hT : tyI P ty = some (true, n)) (hv : VwL st.ow cs us) (hn : us.length = n) (hl : ResA P st l ys) (hq : cellB i = true := by rfl) : ResA P st (.cell s ty :: l) (.t (.agg us) :: ys)
def resA : List A → A
  | [t] => t
  | ts => .tu ts
theorem resA_ok {P : Program} {C : Ctx} {N : Nat} {st : St} {a : Act} {w : World} {m : Mm} {g : Gh} (hr : RelG C N st a w m g) {l : List ResultVar} {ts : List A} (h : ResA P st l ts) :
    ∃ vs : List Value, (l.mapM (resF a)).run P w = .ok vs w ∧ vs.length = ts.length ∧ ∀ (i : Nat) t v, ts[i]? = some t → vs[i]? = some v → AR1 m g t v := by
  induction h with
  | nil => exact ⟨[], by simp, rfl, fun i t v h => by simp at h⟩
  | @tmp s y l ys h h1 _ ih =>
    obtain ⟨vs, h2, h3, h4⟩ := ih
    refine ⟨a.tmps.getD s undef :: vs, ?_, by simp [h3], fun i t' v h5 h6 => ?_⟩
    · simp only [List.mapM_cons, resF, Sem.run_bind, Sem.run_pure, Result.andThen_ok, h2]
    · cases i with
      | zero => simp at h5 h6; subst h5; rw [← h6]; exact is1 h1 (by have := hr.tmps s y h; simpa [Act.eval] using this)
      | succ i => simp at h5; exact h4 i t' v h5 (by simpa using h6)
  | @cell s i ty n cs ys l h hb hT hn hlf _ hq ih =>
    obtain ⟨vs, h1, h2, h3⟩ := ih
    obtain ⟨_, hp⟩ := hr.tmps s _ h
    have hp' : a.tmps.getD s undef = .pointer (some ⟨g.gb i, 0, none⟩) := hp
    obtain ⟨xs, ty', hh, hs, hc, _⟩ := hr.env.boxes i cs hb (cell_ch hq)
    rw [ob_cells hq] at hh
    replace hs := hs.cell hq
    have hcell : ∀ (j : Nat) v, xs.toList[j]? = some v → w.cell? ⟨g.gb i, 0 + j, none⟩ = some v := fun j v hj => by
      simp only [World.cell?, hh, Nat.zero_add]; simpa using hj
    have hld := run_load_agg (P := P) hT (w := w) (b := g.gb i) (off := 0) (cs := xs.toList) (by simp; omega) hcell
    refine ⟨.agg xs.toList.toArray :: vs, ?_, by simp [h2], fun q t' v h4 h5 => ?_⟩
    · simp only [Instr.loadAt, Instr.sureAddr, Sem.run_bind, Sem.run_pure, Result.andThen_ok] at hld
      simp only [List.mapM_cons, resF, Sem.run_bind, Sem.run_pure, Result.andThen_ok, hp', asAddr, hld, h1]
    · cases q with
      | zero =>
        simp at h4 h5; subst h4 h5
        exact ⟨xs, rfl, hs, fun j x u h6 h7 => ⟨lf0 ((List.all_eq_true.1 hlf) x (List.mem_of_getElem? h6)) (hc j x u h6 h7).1, (hc j x u h6 h7).2⟩⟩
      | succ q => simp at h4; exact h3 q t' v h4 (by simpa using h5)
  | @cell1 s i ty n c ys l h hb hT h1 _ hq ih =>
    obtain ⟨vs, h2, h3, h4⟩ := ih
    obtain ⟨_, hp⟩ := hr.tmps s _ h
    have hp' : a.tmps.getD s undef = .pointer (some ⟨g.gb i, 0, none⟩) := hp
    obtain ⟨xs, ty', hh, hs, hc, _⟩ := hr.env.boxes i _ hb (cell_ch hq)
    rw [ob_cells hq] at hh
    replace hs := hs.cell hq
    have hlt : 0 < xs.size := by rw [hs]; simp
    have hcell : w.cell? ⟨g.gb i, 0, none⟩ = some xs[0] := by simp [World.cell?, hh, hlt]
    have hld := run_load_scalar (P := P) hT (w := w) hcell
    refine ⟨xs[0] :: vs, ?_, by simp [h3], fun q t' v h5 h6 => ?_⟩
    · simp only [Instr.loadAt, Instr.sureAddr, Sem.run_bind, Sem.run_pure, Result.andThen_ok] at hld
      simp only [List.mapM_cons, resF, Sem.run_bind, Sem.run_pure, Result.andThen_ok, hp', asAddr, hld, h2]
    · cases q with
      | zero => simp at h5 h6; subst h5 h6; exact is1 h1 (hc 0 c _ rfl (by simp [hlt])).1
      | succ q => simp at h5; exact h4 q t' v h5 (by simpa using h6)
  | @tmpT s y t l ys h hv _ ih =>
    obtain ⟨vs, h2, h3, h4⟩ := ih
    refine ⟨a.tmps.getD s undef :: vs, ?_, by simp [h3], fun i t' v h5 h6 => ?_⟩
    · simp only [List.mapM_cons, resF, Sem.run_bind, Sem.run_pure, Result.andThen_ok, h2]
    · cases i with
      | zero =>
        simp at h5 h6; subst h5; rw [← h6]
        exact hv.ok hr.env (by have := hr.tmps s y h; simpa [Act.eval] using this)
      | succ i => simp at h5; exact h4 i t' v h5 (by simpa using h6)
  | @cellT s i ty n cs us ys l h hb hT hv hn _ hq ih =>
    obtain ⟨vs, h1, h2, h3⟩ := ih
    obtain ⟨_, hp⟩ := hr.tmps s _ h
    have hp' : a.tmps.getD s undef = .pointer (some ⟨g.gb i, 0, none⟩) := hp
    obtain ⟨xs, ty', hh, hs, hc, _⟩ := hr.env.boxes i cs hb (cell_ch hq)
    rw [ob_cells hq] at hh
    replace hs := hs.cell hq
    obtain ⟨e1, e2⟩ := hv.at
    have hcell : ∀ (j : Nat) v, xs.toList[j]? = some v → w.cell? ⟨g.gb i, 0 + j, none⟩ = some v := fun j v hj => by
      simp only [World.cell?, hh, Nat.zero_add]; simpa using hj
    have hld := run_load_agg (P := P) hT (w := w) (b := g.gb i) (off := 0) (cs := xs.toList) (by simp; omega) hcell
    refine ⟨.agg xs.toList.toArray :: vs, ?_, by simp [h2], fun q t' v h4 h5 => ?_⟩
    · simp only [Instr.loadAt, Instr.sureAddr, Sem.run_bind, Sem.run_pure, Result.andThen_ok] at hld
      simp only [List.mapM_cons, resF, Sem.run_bind, Sem.run_pure, Result.andThen_ok, hp', asAddr, hld, h1]
    · cases q with
      | zero =>
        simp at h4 h5; subst h4 h5
        refine TR.agg us xs (by omega) (fun v hv' => ?_) (fun j t v h6 h7 => ?_)
        · obtain ⟨j, hj⟩ := List.getElem?_of_mem hv'
          have hlt : j < cs.length := by rw [← hs]; simpa using (List.getElem?_eq_some_iff.1 hj).1
          exact (hc j _ v (List.getElem?_eq_getElem hlt) (by simpa using hj)).2
        · obtain ⟨x, h8, h9⟩ := e2 j t h6
          exact h9.ok hr.env (hc j x v h8 h7).1
      | succ q => simp at h4; exact h3 q t' v h4 (by simpa using h5)
theorem resultsA_ok {P : Program} {C : Ctx} {N : Nat} {st : St} {a : Act} {w : World} {m : Mm} {g : Gh} (hr : RelG C N st a w m g) {fn : Func} {ts : List A} (h : ResA P st fn.results.toList ts) : ∃ v, (results fn a.tmps).run P w = .ok v w ∧ AR m g (resA ts) v := by
  obtain ⟨vs, h1, h2, h3⟩ := resA_ok hr h
  refine ⟨if h : vs.toArray.size = 1 then vs.toArray[0] else .tuple vs.toArray, ?_, ?_⟩
  · have hm : (fn.results.mapM (resF a)).run P w = .ok vs.toArray w := by
      rw [← Array.toArray_toList (xs := fn.results), List.mapM_toArray, map_eq_pure_bind, Sem.run_bind, h1]; rfl
    show ((fn.results.mapM (resF a) >>= fun vs => pure (if h : vs.size = 1 then vs[0] else .tuple vs)) : Sem Value).run P w = _
    rw [Sem.run_bind, hm]; rfl
  · match ts, vs, h2 with
    | [], [], _ => exact ⟨#[], rfl, rfl, fun j t v h => by simp at h⟩
    | [t], [v], _ => exact (h3 0 t v rfl rfl).two
    | t :: t' :: ts, v :: v' :: vs, h2 => exact ⟨_, rfl, by simpa using h2, fun j t v h4 h5 => h3 j t v h4 (by simpa using h5)⟩

/-- blocks that are lent -/
def isRs : Option (List A) → Bool
  | some [.rs _] => true
  | _ => false
theorem isRs_spec {o : Option (List A)} (h : isRs o = true) : ∃ R, o = some [.rs R] := by
  unfold isRs at h; split at h
  · exact ⟨_, rfl⟩
  · cases h
def lentB (g : Gh) (bx : List (Nat × List A)) (ow : List (Nat × Own)) (b : Nat) : Bool := (bx.any fun p => !(chB p.1) && Nat.beq (g.gb p.1) b) || (ow.any fun p => match (g.go p.1).ownBlock with | some c => Nat.beq c b | none => false) || bx.any fun p => chB p.1 && (isRs (get bx p.1) && g.sf p.1 b)
def lentC (w : World) (m : Mm) (g : Gh) (bx : List (Nat × List A)) (ow : List (Nat × Own)) : Ctx := ⟨w, m, lentB g bx ow, g.go, g.gb, g.rp⟩
theorem get_mem {β : Type} {l : List (Nat × β)} {i : Nat} {x : β} (h : get l i = some x) : (i, x) ∈ l := by
  induction l with
  | nil => cases h
  | cons p l ih =>
    obtain ⟨j, y⟩ := p
    rw [get_cons] at h
    split at h
    · rename_i e; subst e; injection h with h; subst h; simp
    · exact List.mem_cons_of_mem _ (ih h)
theorem mem_get {β : Type} {l : List (Nat × β)} {p : Nat × β} (h : p ∈ l) : ∃ x, get l p.1 = some x := by
  induction l with
  | nil => cases h
  | cons q l ih =>
    obtain ⟨j, y⟩ := q
    rw [get_cons]
    by_cases e : j = p.1
    · exact ⟨y, by rw [if_pos e]⟩
    · rw [if_neg e]
      rcases List.mem_cons.1 h with h | h
      · subst h; exact absurd rfl e
      · exact ih h
theorem lent_spec {g : Gh} {bx : List (Nat × List A)} {ow : List (Nat × Own)} {b : Nat} (h : lentB g bx ow b = true) : (∃ i cs, get bx i = some cs ∧ chB i = false ∧ g.gb i = b) ∨ (∃ i o, get ow i = some o ∧ (g.go i).ownBlock = some b) ∨ ∃ i R, chB i = true ∧ get bx i = some [.rs R] ∧ g.sf i b = true := by
  unfold lentB at h
  rw [Bool.or_eq_true, Bool.or_eq_true] at h
  rcases h with (h | h) | h
  · obtain ⟨p, h1, h2⟩ := List.any_eq_true.1 h
    obtain ⟨x, h3⟩ := mem_get h1
    simp only [Bool.and_eq_true, Bool.not_eq_true'] at h2
    exact .inl ⟨p.1, x, h3, h2.1, Nat.eq_of_beq_eq_true h2.2⟩
  · obtain ⟨p, h1, h2⟩ := List.any_eq_true.1 h
    obtain ⟨x, h3⟩ := mem_get h1
    refine .inr (.inl ⟨p.1, x, h3, ?_⟩)
    split at h2
    · rename_i c hc; rw [hc, Nat.eq_of_beq_eq_true h2]
    · cases h2
  · obtain ⟨p, h1, h2⟩ := List.any_eq_true.1 h
    simp only [Bool.and_eq_true] at h2
    obtain ⟨R, hR⟩ := isRs_spec h2.2.1
    exact .inr (.inr ⟨p.1, R, h2.1, hR, h2.2.2⟩)
theorem lent_rs {g : Gh} {bx : List (Nat × List A)} {ow : List (Nat × Own)} {i b : Nat} {R : Rsc} (hi : chB i = true) (h : get bx i = some [.rs R]) (hs : g.sf i b = true) : lentB g bx ow b = true := by
  unfold lentB
  rw [Bool.or_eq_true]
  refine .inr (List.any_eq_true.2 ⟨_, get_mem h, ?_⟩)
  rw [h]; simp [hi, isRs, hs]
theorem lent_bx {g : Gh} {bx : List (Nat × List A)} {ow : List (Nat × Own)} {i : Nat} {cs : List A} (h : get bx i = some cs) (hc : chB i = false) : lentB g bx ow (g.gb i) = true := by
  unfold lentB
  rw [Bool.or_eq_true, Bool.or_eq_true]
  exact .inl (.inl (List.any_eq_true.2 ⟨_, get_mem h, by rw [hc]; exact Nat.beq_refl _⟩))
theorem lent_ow {g : Gh} {bx : List (Nat × List A)} {ow : List (Nat × Own)} {i b : Nat} {o : Own} (h : get ow i = some o) (hb : (g.go i).ownBlock = some b) : lentB g bx ow b = true := by
  unfold lentB
  rw [Bool.or_eq_true, Bool.or_eq_true]
  exact .inl (.inr (List.any_eq_true.2 ⟨_, get_mem h, by simp only [hb]; exact Nat.beq_refl _⟩))
structure LCalls (P : Program) (f : FuncId) (args : List A) (bx0 : List (Nat × List A)) (ow0 : List (Nat × Own)) (r : A) (bx1 : List (Nat × List A)) (ow1 : List (Nat × Own)) : Prop where
  ent : ∀ (args : Array Value) (w : World), (callFunc f args).run P w = .ok (.enter f args) w
  run : ∀ (m : Mm) (w : World) (g : Gh) (vals : Array Value), EnvG (lentC w m g bx0 ow0) bx0 ow0 w m g → vals.size = args.length → (∀ (i : Nat) x v, args[i]? = some x → vals[i]? = some v → AR m g x v) →
    Calls P f vals w fun e w' => ∃ v m' g', e = .returned v ∧ EnvG (lentC w m g bx0 ow0) bx1 ow1 w' m' g' ∧ AR m' g' r v
theorem envg_sub {C : Ctx} {bx bx' : List (Nat × List A)} {ow ow' : List (Nat × Own)} {w : World} {m : Mm} {g : Gh} (he : EnvG C bx ow w m g) (h2 : SubX bx bx' ow' bx') (h3 : SubW ow ow') :
    EnvG C bx' ow' w m { g with lb := fun i => (get bx' i).isSome, lw := fun i => (get ow' i).isSome } ∧ ∀ {x : A} {v : Value}, AR m g x v → x.live bx' ow' = true → AR m { g with lb := fun i => (get bx' i).isSome, lw := fun i => (get ow' i).isSome } x v := by
  have har : ∀ {x : A} {v : Value}, AR m g x v → x.live bx' ow' = true → AR m { g with lb := fun i => (get bx' i).isSome, lw := fun i => (get ow' i).isSome } x v := by
    intro x v h hl
    refine h.liftP (A.live0 bx' ow') (fun x v hl h => ?_) hl
    cases x with
    | bp i off => exact ⟨hl, h.2⟩
    | sb i n sz e => exact ⟨hl, h.2⟩
    | rp i k => exact ⟨h.1, hl, h.2.2⟩
    | own i n => exact ⟨hl, h.2⟩
    | oe i n sz k off => exact ⟨hl, h.2⟩
    | sfx i n sz k => exact ⟨hl, h.2⟩
    | ev i n u => exact ⟨hl, h.2⟩
    | pr i t => exact ⟨h.1, hl, h.2.2⟩
    | _ => exact h
  refine ⟨{
      lo := he.lo, gm := he.gm, sub := he.sub, ext := he.ext, gt := he.gt, lb := fun i => rfl, lw := fun i => rfl
      ln := fun i o hi => he.ln i o (h3.get hi)
      boxes := fun i cs hi hch => by
        obtain ⟨h4, h5⟩ := h2.get hi
        obtain ⟨vs, ty, h6, h7, h8, h9⟩ := he.boxes i cs h4 hch
        exact ⟨vs, ty, h6, h7, fun j x v hx hv => ⟨har (h8 j x v hx hv).1 ((List.all_eq_true.1 h5) x (List.mem_of_getElem? hx)), (h8 j x v hx hv).2⟩, h9⟩
      inj := fun i j ci cj hi hj hci hcj h => he.inj i j ci cj (h2.get hi).1 (h2.get hj).1 hci hcj h
      owns := fun i o hi => by
        obtain ⟨vs, h6, h7, h8, h9⟩ := he.owns i o (h3.get hi)
        exact ⟨vs, h6, h7, h8, fun b hb => ⟨(h9 b hb).1, fun j cs hj hcj => (h9 b hb).2.1 j cs (h2.get hj).1 hcj, (h9 b hb).2.2⟩⟩
      apart := fun i j oi oj hi hj => he.apart i j oi oj (h3.get hi) (h3.get hj)
      pin := fun i o hi => he.pin i o (h3.get hi)
      pinb := fun i cs hi => he.pinb i cs (h2.get hi).1
      rs := he.rsF (fun _ => False) (fun i R _ hi => ⟨(h2.get hi).1, rfl, rfl⟩) (fun i cs _ hi _ => ⟨rfl, cs, (h2.get hi).1⟩) (fun _ h => h.elim) (fun _ _ _ => rfl) (fun _ _ _ h => h) (fun _ _ _ h => h) (fun j cs hj hcj => .inl ⟨j, cs, (h2.get hj).1, hcj, rfl⟩) (fun j o hj b hb => .inl ⟨j, o, h3.get hj, hb⟩)
      nb := fun i n hi h => he.nb i n hi (h2.get h).1
      nf := he.nf }, har⟩
def argTmA : Nat → List A → List (Nat × A)
  | _, [] => []
  | i, t :: ts => (i, t) :: argTmA (i + 1) ts
theorem argTmA_get : ∀ (ts : List A) (i s : Nat) (x : A), get (argTmA i ts) s = some x → i ≤ s ∧ ts[s - i]? = some x
  | [], i, s, x, h => by cases h
  | t :: ts, i, s, x, h => by
    unfold argTmA at h
    rw [get_cons] at h
    split at h
    · rename_i e; subst e; injection h with h; exact ⟨Nat.le_refl _, by simp [h]⟩
    · obtain ⟨h1, h2⟩ := argTmA_get ts (i + 1) s x h
      refine ⟨by omega, ?_⟩
      rw [show s - i = (s - (i + 1)) + 1 by omega]; simpa using h2
structure RetL (P : Program) (fn : Func) (r : A) (bx1 : List (Nat × List A)) (ow1 : List (Nat × Own)) (e : Exit) (st : St) : Prop where
  go : (e = .normal ∨ e = .ret) ∧ ∃ ts, ResA P st fn.results.toList ts ∧ r = resA ts ∧ r.live bx1 ow1 = true ∧ SubX st.bx bx1 ow1 bx1 ∧ SubW st.ow ow1
theorem retl {P : Program} {fn : Func} {r : A} {bx1 : List (Nat × List A)} {ow1 : List (Nat × Own)} {e : Exit} {st : St} {l : List ResultVar} {ts : List A} (he : e = .normal ∨ e = .ret) (hl : fn.results.toList = l) (h : ResA P st l ts) (hr : r = resA ts) (hv : r.live bx1 ow1 = true) (h1 : SubX st.bx bx1 ow1 bx1) (h2 : SubW st.ow ow1) : RetL P fn r bx1 ow1 e st := ⟨⟨he, ts, by rw [hl]; exact h, hr, hv, h1, h2⟩⟩
theorem retl1 {P : Program} {fn : Func} {r : A} {bx1 : List (Nat × List A)} {ow1 : List (Nat × Own)} {e : Exit} {st : St} {l : List ResultVar} (he : e = .normal ∨ e = .ret) (hl : fn.results.toList = l) (h : ResA P st l [r]) (hv : r.live bx1 ow1 = true) (h1 : SubX st.bx bx1 ow1 bx1) (h2 : SubW st.ow ow1) : RetL P fn r bx1 ow1 e st := retl he hl h rfl hv h1 h2
theorem lcalls_of {P : Program} {f : FuncId} {fn : Func} {c : Code} {args : List A} {bx0 bx1 : List (Nat × List A)} {ow0 ow1 : List (Nat × Own)} {r : A} {N : Nat} (hf : P.funcs[f]? = some fn) (hb : fn.body = some c) (hname : (fn.name == "runtime.NumGoroutine") = false) (hN : fn.ntmps = N) (hargs : Nat.ble args.length N = true)
    (h : SWp P N c (RetL P fn r bx1 ow1) ⟨argTmA 0 args, bx0, ow0⟩) : LCalls P f args bx0 ow0 r bx1 ow1 where
  ent := fun vals w => by
    have hname' : ¬ fn.name = "runtime.NumGoroutine" := by simpa using hname
    simp [callFunc, hf, hname', hb]
  run := fun m w g vals he hl hv => by
    refine calls_of_wk hf hb ?_
    have hal := Nat.le_of_ble_eq_true hargs
    have hrel : Rel (lentC w m g bx0 ow0) N ⟨argTmA 0 args, bx0, ow0⟩ { tmps := vals ++ Array.replicate (fn.ntmps - vals.size) undef, defers := [] } w := by
      refine ⟨m, g, he, by simp [hN]; omega, rfl, fun s x hx => ?_⟩
      obtain ⟨_, h2⟩ := argTmA_get args 0 s x hx
      rw [Nat.sub_zero] at h2
      have hlt : s < vals.size := by rw [hl]; exact (List.getElem?_eq_some_iff.1 h2).1
      have : (Act.eval { tmps := vals ++ Array.replicate (fn.ntmps - vals.size) undef, defers := [] } (.tmp s)) = vals[s] := by
        show (vals ++ Array.replicate (fn.ntmps - vals.size) undef).getD s undef = _
        rw [Array.getD_eq_getD_getElem?, Array.getElem?_append_left hlt, Array.getElem?_eq_getElem hlt]; rfl
      rw [this]
      exact hv s x _ h2 (Array.getElem?_eq_getElem hlt)
    refine wk_mono ?_ (h.go _ _ w hrel)
    rintro e a' w' ⟨st, ⟨m', g', hr⟩, ⟨he, ts, hres, rfl, hlv, hx, hw⟩⟩
    obtain ⟨v, h1, h2⟩ := resultsA_ok hr hres
    obtain ⟨h3, h4⟩ := envg_sub hr.env hx hw
    rcases he with rfl | rfl <;> exact ⟨hr.defers, v, h1, v, m', _, rfl, h3, h4 h2 hlv⟩
end Go.Proofs.YtnclifgiakmmoaaGreat.Sim
