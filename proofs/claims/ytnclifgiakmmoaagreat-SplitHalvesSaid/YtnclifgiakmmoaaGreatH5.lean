/- Merged by bundles.py: SimG, SimH. -/
import Derived.Test.YtnclifgiakmmoaaGreatH4
/- A logic of states: the operations that make and write boxes; a function's beginning and end; what is forgotten. -/
namespace Go.Proofs.YtnclifgiakmmoaaGreat.Sim
set_option linter.unusedVariables false
set_option linter.unusedSimpArgs false
open Go.RowKit Mem

section
variable {P : Program} {N : Nat} {Q : Exit → St → Prop} {ops : Array Oper} {rest : List Oper} {o : Oper} {tm : List (Nat × A)} {bx : List (Nat × List A)} {ow : List (Nat × Own)}
theorem sops_run {st' : St} (hg : GuardIs ops tm o true) (h : ∀ C a w m g, RelG C N ⟨tm, bx, ow⟩ a w m g → ∃ v w', (execOp a.eval o).run P w = .ok (.value v) w' ∧ Rel C N st' (a.put o.dst v) w') (k : SOps P N ops Q rest st') : SOps P N ops Q (o :: rest) ⟨tm, bx, ow⟩ := by
  refine .mk fun C a w ⟨m, g, hr⟩ => ?_
  obtain ⟨v, w', h1, h2⟩ := h C a w m g hr
  refine wpList_step fun K hK => ?_
  rw [if_pos (hg.wanted (m := m) (g := g) fun j want e _ _ y hy => hr.tmps e y hy)]
  exact wp_of_run h1 (hK _ _ (k.go C _ _ h2))
theorem sops_box {ty : TypeId} {x : Operand} {y : A} {d : Nat} (hg : GuardIs ops tm o true) (ho : o.op = .box ty x) (hd : o.dst = some d) (hN : Nat.blt d N = true) (hx : evA tm x = some y) (hk : y.okB = true) (hi : get bx d = none)
    (h : SOps P N ops Q rest ⟨(d, .bp d 0) :: tm, (d, y.cells) :: bx, ow⟩) (hp : Nat.ble 2000 d = false := by rfl) (hq : cellB d = true := by rfl) : SOps P N ops Q (o :: rest) ⟨tm, bx, ow⟩ := by
  refine sops_run hg (fun C a w m g hr => ?_) h
  have hv := hr.ev hx
  have hlb : g.lb d = false := by rw [hr.env.lb, hi]; rfl
  refine ⟨.pointer (some ⟨w.heap.size, 0, none⟩), w.alloc (.cells (a.eval x).cells ty), ?_, m, g.addB d w.heap.size, ?_⟩
  · simp [execOp, ho, Instr.box, newVar, newRow]
  · rw [hd]
    refine hr.put (hr.env.box hp hq hi (acells_ok hv hk)) (fun x v h => h.addB hlb) (Nat.lt_of_succ_le (Nat.le_of_ble_eq_true hN)) ?_
    exact ⟨by simp [Gh.addB], by simp [Gh.addB]⟩
/-- cells written -/
def spl (cs : List A) (off : Nat) (ys : List A) : List A := cs.take off ++ (ys ++ cs.drop (off + ys.length))
theorem sops_store {ty : TypeId} {x z : Operand} {y : A} {i off n : Nat} {ag : Bool} {cs : List A} (hg : GuardIs ops tm o true) (ho : o.op = .store ty x z) (hd : o.dst = none) (hx : evA tm x = some (.bp i off)) (hz : evA tm z = some y) (hk : y.okB = true)
    (hb : get bx i = some cs) (hT : tyI P ty = some (ag, n)) (hn : y.cells.length = n) (hf : Nat.ble (off + n) cs.length = true)
    (h : SOps P N ops Q rest ⟨tm, (i, spl cs off y.cells) :: bx, ow⟩) (hq : cellB i = true := by rfl) : SOps P N ops Q (o :: rest) ⟨tm, bx, ow⟩ := by
  refine .mk fun C a w ⟨m, g, hr⟩ => ?_
  obtain ⟨_, h1⟩ := hr.ev hx
  have hv := acells_ok (hr.ev hz) hk
  obtain ⟨vs, ty', hh, hs, hc, hw0, hm⟩ := hr.env.boxes i cs hb (cell_ch hq)
  rw [ob_cells hq] at hh
  replace hs := hs.cell hq
  obtain ⟨d', i', hu, hi', _, hsz⟩ := tyI_spec hT
  have hlen : (a.eval z).cells.toList.length = n := by rw [hv.1, hn]
  have hfit := Nat.le_of_ble_eq_true hf
  have hst := run_storeCells_at P (g.gb i) off ty'.ty (a.eval z).cells.toList 0 vs w hh (by rw [hlen, Nat.add_zero, hs]; exact hfit) hv.one
  rw [Nat.add_zero] at hst
  have hca : ACells m g (spl cs off y.cells) (vs.toList.take off ++ (a.eval z).cells.toList ++ vs.toList.drop (off + (a.eval z).cells.toList.length)) := by
    have hc' : ACells m g cs vs.toList := ⟨by simpa using hs, fun j t v h2 h3 => hc j t v h2 (by simpa using h3)⟩
    rw [List.append_assoc]
    unfold spl
    rw [hv.1]
    exact (hc'.take off).app (hv.app (hc'.drop _))
  refine wpList_step fun K hK => ?_
  rw [if_pos (hg.wanted (m := m) (g := g) fun j want e _ _ y hy => hr.tmps e y hy)]
  have hrun : (execOp a.eval o).run P w = .ok .skip (w.setRow (g.gb i) (vs.toList.take off ++ (a.eval z).cells.toList ++ vs.toList.drop (off + (a.eval z).cells.toList.length)).toArray) := by
    have hsz' : (a.eval z).cells.size = i'.size := by rw [hsz]; simpa using hlen
    have hsv : (storeVar ty ⟨g.gb i, off, none⟩ (a.eval z)).run P w = .ok () (w.setRow (g.gb i) (vs.toList.take off ++ (a.eval z).cells.toList ++ vs.toList.drop (off + (a.eval z).cells.toList.length)).toArray) := by
      generalize a.eval z = u at *
      simp [storeVar, sizeOf, typeInfo, hi', hsz']
      simpa [hsz'] using hst
    simp only [execOp, ho, h1, Instr.storeAt, Instr.sureAddr, Sem.run_bind, Sem.run_pure, Result.andThen_ok, hsv]
  unfold Oper.wp
  rw [hrun, Oper.upon_skip]
  refine hK _ _ (h.go C _ _ ⟨m, g, ?_⟩)
  rw [hd]
  exact hr.put_none (hr.env.setB hb hh (by simpa using hca) hq) (fun x v h => h)

/-- what is forgotten: slots, boxes, rows -/
def A.live0 (bx : List (Nat × List A)) (ow : List (Nat × Own)) : A → Bool
  | .bp i _ => (get bx i).isSome
  | .sb i _ _ _ => (get bx i).isSome
  | .rp i _ => (get bx i).isSome
  | .pr i _ => (get bx i).isSome
  | .own i _ => (get ow i).isSome
  | .oe i _ _ _ _ => (get ow i).isSome
  | .sfx i _ _ _ => (get ow i).isSome
  | .ev i _ _ => (get ow i).isSome
  | _ => true
def A.live (bx : List (Nat × List A)) (ow : List (Nat × Own)) (x : A) : Bool := x.allP (A.live0 bx ow)
inductive SubT (tm : List (Nat × A)) (bx : List (Nat × List A)) (ow : List (Nat × Own)) : List (Nat × A) → Prop
  | nil : SubT tm bx ow []
  | cons {s : Nat} {x y : A} {l : List (Nat × A)} (h : get tm s = some x) (he : x = y) (hl : y.live bx ow = true) (hs : SubT tm bx ow l) : SubT tm bx ow ((s, y) :: l)
inductive SubX (bx0 : List (Nat × List A)) (bx : List (Nat × List A)) (ow : List (Nat × Own)) : List (Nat × List A) → Prop
  | nil : SubX bx0 bx ow []
  | cons {i : Nat} {cs cs' : List A} {l : List (Nat × List A)} (h : get bx0 i = some cs) (he : cs = cs') (hl : (cs'.all fun x => x.live bx ow) = true) (hs : SubX bx0 bx ow l) : SubX bx0 bx ow ((i, cs') :: l)
inductive SubW (ow0 : List (Nat × Own)) : List (Nat × Own) → Prop
  | nil : SubW ow0 []
  | cons {i : Nat} {c c' : Own} {l : List (Nat × Own)} (h : get ow0 i = some c) (he : c = c') (hs : SubW ow0 l) : SubW ow0 ((i, c') :: l)
theorem SubT.get {tm' : List (Nat × A)} (h : SubT tm bx ow tm') {s : Nat} {x : A} (hs : get tm' s = some x) : get tm s = some x ∧ x.live bx ow = true := by
  induction h with
  | nil => cases hs
  | cons h he hl _ ih =>
    rw [get_cons] at hs
    split at hs
    · rename_i e; subst e; injection hs with hs; subst hs he; exact ⟨h, hl⟩
    · exact ih hs
theorem SubX.get {bx0 bx' : List (Nat × List A)} (h : SubX bx0 bx ow bx') {i : Nat} {cs : List A} (hs : get bx' i = some cs) : get bx0 i = some cs ∧ (cs.all fun x => x.live bx ow) = true := by
  induction h with
  | nil => cases hs
  | cons h he hl _ ih =>
    rw [get_cons] at hs
    split at hs
    · rename_i e; subst e; injection hs with hs; subst hs he; exact ⟨h, hl⟩
    · exact ih hs
theorem SubW.get {ow0 ow' : List (Nat × Own)} (h : SubW ow0 ow') {i : Nat} {c : Own} (hs : get ow' i = some c) : get ow0 i = some c := by
  induction h with
  | nil => cases hs
  | cons h he _ ih =>
    rw [get_cons] at hs
    split at hs
    · rename_i e; subst e; injection hs with hs; subst hs he; exact h
    · exact ih hs
theorem weak_sub {tm' : List (Nat × A)} {bx' : List (Nat × List A)} {ow' : List (Nat × Own)} (h1 : SubT tm bx' ow' tm') (h2 : SubX bx bx' ow' bx') (h3 : SubW ow ow') : Weak N ⟨tm, bx, ow⟩ ⟨tm', bx', ow'⟩ := by
  refine .mk fun C a w ⟨m, g, hr⟩ => ?_
  have har : ∀ {x : A} {v : Value}, AR m g x v → x.live bx' ow' = true → AR m { g with lb := fun i => (get bx' i).isSome, lw := fun i => (get ow' i).isSome } x v := by
    intro x v h hl
    refine h.liftP (A.live0 bx' ow') (fun x v hl h => ?_) hl
    cases x with
    | bp i off => exact ⟨hl, h.2⟩
    | sb i n sz e => exact ⟨hl, h.2⟩
    | rp i k => exact ⟨h.1, hl, h.2.2⟩
    | pr i k => exact ⟨h.1, hl, h.2.2⟩
    | own i n => exact ⟨hl, h.2⟩
    | oe i n sz k off => exact ⟨hl, h.2⟩
    | sfx i n sz k => exact ⟨hl, h.2⟩
    | ev i n u => exact ⟨hl, h.2⟩
    | _ => exact h
  refine ⟨m, { g with lb := fun i => (get bx' i).isSome, lw := fun i => (get ow' i).isSome }, ?_, hr.size, hr.defers, fun s x hs => ?_⟩
  · have he := hr.env
    exact {
      lo := he.lo, gm := he.gm, sub := he.sub, ext := he.ext, gt := he.gt, lb := fun i => rfl, lw := fun i => rfl
      ln := fun i o hi => he.ln i o (h3.get hi)
      boxes := fun i cs hi hch => by
        obtain ⟨h4, h5⟩ := h2.get hi
        obtain ⟨vs, ty, h6, h7, h8, h9⟩ := he.boxes i cs h4 hch
        exact ⟨vs, ty, h6, h7, fun j x v hx hv => ⟨har (h8 j x v hx hv).1 ((List.all_eq_true.1 h5) x (List.mem_of_getElem? hx)), (h8 j x v hx hv).2⟩, h9⟩
      inj := fun i j ci cj hi hj hci hcj h => he.inj i j ci cj (h2.get hi).1 (h2.get hj).1 hci hcj h
      owns := fun i o hi => by
        obtain ⟨vs, h6, h7, h8, h9⟩ := he.owns i o (h3.get hi)
        exact ⟨vs, h6, h7, h8, fun b hb => ⟨(h9 b hb).1, fun j cs hj hcj => (h9 b hb).2.1 j cs (h2.get hj).1 hcj, (h9 b hb).2.2⟩⟩
      apart := fun i j oi oj hi hj => he.apart i j oi oj (h3.get hi) (h3.get hj)
      pin := fun i o hi => he.pin i o (h3.get hi)
      pinb := fun i cs hi => he.pinb i cs (h2.get hi).1
      rs := he.rsF (fun _ => False) (fun i R _ hi => ⟨(h2.get hi).1, rfl, rfl⟩) (fun i cs _ hi _ => ⟨rfl, cs, (h2.get hi).1⟩) (fun _ h => h.elim) (fun _ _ _ => rfl) (fun _ _ _ h => h) (fun _ _ _ h => h) (fun j cs hj hcj => .inl ⟨j, cs, (h2.get hj).1, hcj, rfl⟩) (fun j o hj b hb => .inl ⟨j, o, h3.get hj, hb⟩)
      nb := fun i n hi h => he.nb i n hi (h2.get h).1
      nf := he.nf }
  · obtain ⟨h4, h5⟩ := h1.get hs
    exact har (hr.tmps s x h4) h5
/-- data that reads in another way, too -/
def Le (t t' : T) : Prop := ∀ m v, TR m t v → TR m t' v
theorem Le.nil (sz : Nat) : Le (.v (.slice none 0 0)) (.sl sz []) := fun m v h => by cases h; exact tr_nil m sz (Nat.zero_le _)
end

/-- a function's results -/
inductive Res (P : Program) (st : St) : List ResultVar → List T → Prop
  | nil : Res P st [] []
  | tmp {s : Nat} {y : A} {t : T} {l : List ResultVar} {ts : List T} (h : get st.tm s = some y) (hv : Vw st.ow y t) (hl : Res P st l ts) : Res P st (.tmp s :: l) (t :: ts)
  | cell {s i : Nat} {ty : TypeId} {n : Nat} {cs : List A} {us ts : List T} {l : List ResultVar} (h : get st.tm s = some (.bp i 0)) (hb : get st.bx i = some cs) (hT : tyI P ty = some (true, n)) (hv : VwL st.ow cs us) (hn : us.length = n) (hl : Res P st l ts) (hq : cellB i = true := by rfl) : Res P st (.cell s ty :: l) (.agg us :: ts)
  | cell1 {s i : Nat} {ty : TypeId} {n : Nat} {c : A} {u : T} {ts : List T} {l : List ResultVar} (h : get st.tm s = some (.bp i 0)) (hb : get st.bx i = some [c]) (hT : tyI P ty = some (false, n)) (hv : Vw st.ow c u) (hl : Res P st l ts) (hq : cellB i = true := by rfl) : Res P st (.cell s ty :: l) (u :: ts)
def resT : List T → T
  | [t] => t
  | ts => .tup ts
def resF (a : Act) : ResultVar → Sem Value := fun r => match r with
  | .tmp t => pure (a.tmps.getD t undef)
  | .cell b t => do loadVar t (← asAddr (a.tmps.getD b undef))
theorem res_ok {P : Program} {C : Ctx} {N : Nat} {st : St} {a : Act} {w : World} {m : Mm} {g : Gh} (hr : RelG C N st a w m g) {l : List ResultVar} {ts : List T} (h : Res P st l ts) :
    ∃ vs : List Value, (l.mapM (resF a)).run P w = .ok vs w ∧ vs.length = ts.length ∧ ∀ (i : Nat) t v, ts[i]? = some t → vs[i]? = some v → TR m t v := by
  induction h with
  | nil => exact ⟨[], by simp, rfl, fun i t v h => by simp at h⟩
  | @tmp s y t l ts h hv _ ih =>
    obtain ⟨vs, h1, h2, h3⟩ := ih
    refine ⟨a.tmps.getD s undef :: vs, ?_, by simp [h2], fun i t' v h4 h5 => ?_⟩
    · simp only [List.mapM_cons, resF, Sem.run_bind, Sem.run_pure, Result.andThen_ok, h1]
    · cases i with
      | zero => simp at h4 h5; subst h4; rw [← h5]; exact hv.ok hr.env (by have := hr.tmps s y h; simpa [Act.eval] using this)
      | succ i => simp at h4; exact h3 i t' v h4 (by simpa using h5)
  | @cell s i ty n cs us ts l h hb hT hv hn _ hq ih =>
    obtain ⟨vs, h1, h2, h3⟩ := ih
    obtain ⟨_, hp⟩ := hr.tmps s _ h
    have hp' : a.tmps.getD s undef = .pointer (some ⟨g.gb i, 0, none⟩) := hp
    obtain ⟨xs, ty', hh, hs, hc, _⟩ := hr.env.boxes i cs hb (cell_ch hq)
    rw [ob_cells hq] at hh
    replace hs := hs.cell hq
    obtain ⟨e1, e2⟩ := hv.at
    have hcell : ∀ (j : Nat) v, xs.toList[j]? = some v → w.cell? ⟨g.gb i, 0 + j, none⟩ = some v := fun j v hj => by
      simp only [World.cell?, hh, Nat.zero_add]; simpa using hj
    have hld := run_load_agg (P := P) hT (w := w) (b := g.gb i) (off := 0) (cs := xs.toList) (by simp; omega) hcell
    refine ⟨.agg xs.toList.toArray :: vs, ?_, by simp [h2], fun q t' v h4 h5 => ?_⟩
    · simp only [Instr.loadAt, Instr.sureAddr, Sem.run_bind, Sem.run_pure, Result.andThen_ok] at hld
      simp only [List.mapM_cons, resF, Sem.run_bind, Sem.run_pure, Result.andThen_ok, hp', asAddr, hld, h1]
    · cases q with
      | zero =>
        simp at h4 h5; subst h4 h5
        refine .agg us xs (by omega) (fun v hv' => ?_) (fun j t v h6 h7 => ?_)
        · obtain ⟨j, hj⟩ := List.getElem?_of_mem hv'
          have hlt : j < cs.length := by rw [← hs]; simpa using (List.getElem?_eq_some_iff.1 hj).1
          exact (hc j _ v (List.getElem?_eq_getElem hlt) (by simpa using hj)).2
        · obtain ⟨x, h8, h9⟩ := e2 j t h6
          exact h9.ok hr.env (hc j x v h8 h7).1
      | succ q => simp at h4; exact h3 q t' v h4 (by simpa using h5)
  | @cell1 s i ty n c u ts l h hb hT hv _ hq ih =>
    obtain ⟨vs, h1, h2, h3⟩ := ih
    obtain ⟨_, hp⟩ := hr.tmps s _ h
    have hp' : a.tmps.getD s undef = .pointer (some ⟨g.gb i, 0, none⟩) := hp
    obtain ⟨xs, ty', hh, hs, hc, _⟩ := hr.env.boxes i _ hb (cell_ch hq)
    rw [ob_cells hq] at hh
    replace hs := hs.cell hq
    have hlt : 0 < xs.size := by rw [hs]; simp
    have hcell : w.cell? ⟨g.gb i, 0, none⟩ = some xs[0] := by simp [World.cell?, hh, hlt]
    have hld := run_load_scalar (P := P) hT (w := w) hcell
    refine ⟨xs[0] :: vs, ?_, by simp [h2], fun q t' v h4 h5 => ?_⟩
    · simp only [Instr.loadAt, Instr.sureAddr, Sem.run_bind, Sem.run_pure, Result.andThen_ok] at hld
      simp only [List.mapM_cons, resF, Sem.run_bind, Sem.run_pure, Result.andThen_ok, hp', asAddr, hld, h1]
    · cases q with
      | zero => simp at h4 h5; subst h4 h5; exact hv.ok hr.env (hc 0 c _ rfl (by simp [hlt])).1
      | succ q => simp at h4; exact h3 q t' v h4 (by simpa using h5)
theorem results_ok {P : Program} {C : Ctx} {N : Nat} {st : St} {a : Act} {w : World} {m : Mm} {g : Gh} (hr : RelG C N st a w m g) {fn : Func} {ts : List T} (h : Res P st fn.results.toList ts) : ∃ v, (results fn a.tmps).run P w = .ok v w ∧ TR m (resT ts) v := by
  obtain ⟨vs, h1, h2, h3⟩ := res_ok hr h
  refine ⟨if h : vs.toArray.size = 1 then vs.toArray[0] else .tuple vs.toArray, ?_, ?_⟩
  · have hm : (fn.results.mapM (resF a)).run P w = .ok vs.toArray w := by
      rw [← Array.toArray_toList (xs := fn.results), List.mapM_toArray, map_eq_pure_bind, Sem.run_bind, h1]; rfl
    show ((fn.results.mapM (resF a) >>= fun vs => pure (if h : vs.size = 1 then vs[0] else .tuple vs)) : Sem Value).run P w = _
    rw [Sem.run_bind, hm]; rfl
  · match ts, vs, h2 with
    | [], [], _ => exact .tup [] #[] rfl (fun j t v h => by simp at h)
    | [t], [v], _ => exact h3 0 t v rfl rfl
    | t :: t' :: ts, v :: v' :: vs, h2 => exact .tup _ _ (by simpa using h2) (fun j t v h4 h5 => h3 j t v h4 (by simpa using h5))

section
variable {P : Program} {N : Nat} {Q : Exit → St → Prop} {c : Code} {st : St}
theorem then_go (h : SWp P N c Q st) : Then P N c Q .normal st := ⟨h⟩
theorem then_ret (h : Q .ret st) : Then P N c Q .ret st := ⟨h⟩
theorem then_exit {id : Nat} (h : Q (.exit id) st) : Then P N c Q (.exit id) st := ⟨h⟩
theorem block_go {id : Nat} (h : Q .normal st) : InBlock id Q .normal st := ⟨h⟩
theorem block_ret {id : Nat} (h : Q .ret st) : InBlock id Q .ret st := ⟨h⟩
theorem block_exit {id : Nat} (h : Q .normal st) : InBlock id Q (.exit id) st := ⟨by
  show (if id = id then _ else _); rw [if_pos rfl]; exact h⟩
theorem block_far {id id' : Nat} (hne : Nat.beq id' id = false) (h : Q (.exit id') st) : InBlock id Q (.exit id') st := ⟨by
  show (if id' = id then _ else _); rw [if_neg (Nat.ne_of_beq_eq_false hne)]; exact h⟩
theorem for_ret {S : Nat → St} {I : Nat → Prop} {n k : Nat} (h : Q .ret st) : ForQ N S I n k Q .ret st := ⟨h⟩
theorem for_exit {S : Nat → St} {I : Nat → Prop} {n k id : Nat} (h : Q (.exit id) st) : ForQ N S I n k Q (.exit id) st := ⟨h⟩
theorem for_next {S : Nat → St} {I : Nat → Prop} {n k : Nat} (hk : k < n) (h : Weak N st (S (k + 1))) (hi : I (k + 1)) : ForQ N S I n k Q .normal st := ⟨⟨hk, hi, h⟩⟩
end
def argTm : Nat → List T → List (Nat × A)
  | _, [] => []
  | i, t :: ts => (i, .t t) :: argTm (i + 1) ts
theorem argTm_get : ∀ (ts : List T) (i s : Nat) (x : A), get (argTm i ts) s = some x → ∃ t, i ≤ s ∧ ts[s - i]? = some t ∧ x = .t t
  | [], i, s, x, h => by cases h
  | t :: ts, i, s, x, h => by
    unfold argTm at h
    rw [get_cons] at h
    split at h
    · rename_i e; subst e; injection h with h; exact ⟨t, Nat.le_refl _, by simp, h.symm⟩
    · obtain ⟨t', h1, h2, h3⟩ := argTm_get ts (i + 1) s x h
      refine ⟨t', by omega, ?_, h3⟩
      rw [show s - i = (s - (i + 1)) + 1 by omega]; simpa using h2
structure RetQ (P : Program) (fn : Func) (r : T) (e : Exit) (st : St) : Prop where
  go : (e = .normal ∨ e = .ret) ∧ ∃ ts, Res P st fn.results.toList ts ∧ r = resT ts
theorem retq {P : Program} {fn : Func} {r : T} {e : Exit} {st : St} {l : List ResultVar} {ts : List T} (he : e = .normal ∨ e = .ret) (hl : fn.results.toList = l) (h : Res P st l ts) (hr : r = resT ts) : RetQ P fn r e st := ⟨⟨he, ts, by rw [hl]; exact h, hr⟩⟩
theorem eq_b {a b : Bool} (h : a = b) : T.v (.bool a) = resT [.v (.bool b)] := by rw [h]; rfl
theorem pcalls_of {P : Program} {f : FuncId} {fn : Func} {c : Code} {args : List T} {r : T} {N : Nat} (hf : P.funcs[f]? = some fn) (hb : fn.body = some c) (hname : (fn.name == "runtime.NumGoroutine") = false) (hN : fn.ntmps = N) (hargs : Nat.ble args.length N = true)
    (h : SWp P N c (RetQ P fn r) ⟨argTm 0 args, [], []⟩) : PCalls P f args r where
  ent := fun vals w => by
    have hname' : ¬ fn.name = "runtime.NumGoroutine" := by simpa using hname
    simp [callFunc, hf, hname', hb]
  run := fun m w vals hs hl hv hT => by
    refine calls_of_wk hf hb ?_
    have hal := Nat.le_of_ble_eq_true hargs
    have hrel : Rel ⟨w, m, fun _ => false, fun _ => undef, fun _ => 0, fun _ _ => undef⟩ N ⟨argTm 0 args, [], []⟩ { tmps := vals ++ Array.replicate (fn.ntmps - vals.size) undef, defers := [] } w := by
      refine ⟨m, ⟨fun _ => 0, fun _ => undef, fun _ => 0, fun _ => false, fun _ => false, fun _ => (0, 0), fun _ _ => false, fun _ _ => undef⟩, ?_, by simp [hN]; omega, rfl, fun s x hx => ?_⟩
      · exact {
          lo := .of_lo (Lo.refl _), gm := fun b o h => by cases h
          sub := hs, ext := ExtX.refl _ _ _, gt := hT, lb := fun i => rfl, lw := fun i => rfl
          ln := fun i o h => by cases h
          boxes := fun i cs h => by cases h
          inj := fun i j ci cj h => by cases h
          owns := fun i o h => by cases h
          apart := fun i j oi oj h => by cases h
          pin := fun i o h => by cases h
          pinb := fun i o h => by cases h
          rs := ⟨fun i R _ h => (by cases h), fun i j R R' _ _ h => (by cases h), fun i cs _ h => (by cases h)⟩
          nb := fun i n _ h => by cases h
          nf := fun b o u hb hu => absurd (hs.lt hu) (by rcases hb with hb | hb; exact Nat.not_lt.2 hb; cases hb) }
      · obtain ⟨t, _, h2, rfl⟩ := argTm_get args 0 s x hx
        rw [Nat.sub_zero] at h2
        have hlt : s < vals.size := by rw [hl]; exact (List.getElem?_eq_some_iff.1 h2).1
        have : (Act.eval { tmps := vals ++ Array.replicate (fn.ntmps - vals.size) undef, defers := [] } (.tmp s)) = vals[s] := by
          show (vals ++ Array.replicate (fn.ntmps - vals.size) undef).getD s undef = _
          rw [Array.getD_eq_getD_getElem?, Array.getElem?_append_left hlt, Array.getElem?_eq_getElem hlt]; rfl
        rw [this]
        exact hv s t _ h2 (Array.getElem?_eq_getElem hlt)
    refine wk_mono ?_ (h.go ⟨w, m, fun _ => false, fun _ => undef, fun _ => 0, fun _ _ => undef⟩ _ w hrel)
    rintro e a' w' ⟨st, ⟨m', g, hr⟩, ⟨he, ts, hres, rfl⟩⟩
    obtain ⟨v, h1, h2⟩ := results_ok hr hres
    rcases he with rfl | rfl <;> exact ⟨hr.defers, v, h1, v, m', rfl, hr.env.lo.lo (fun _ => rfl), hr.env.ext.ext (fun _ => rfl), hr.env.sub, h2, .of (hr.env.ext.ext (fun _ => rfl)) fun b o u hb => hr.env.nf b o u (.inl hb)⟩
end Go.Proofs.YtnclifgiakmmoaaGreat.Sim

/- A logic of states: slices made, rows of the call's own. -/
namespace Go.Proofs.YtnclifgiakmmoaaGreat.Sim
set_option linter.unusedVariables false
set_option linter.unusedSimpArgs false
open Go.RowKit Mem

/-- of a slice's type: the element, its cells, its bytes -/
def sliceE (P : Program) (t : TypeId) : Option (TypeId × Nat × Nat) := match P.underlying t with
  | some (.slice e) => match P.info? e with
    | some i => match i.zero with
      | some z => bif Nat.beq z.cells.size i.size && Nat.blt 0 i.size then some (e, i.size, i.bytes) else none
      | none => none
    | none => none
  | _ => none
theorem sliceE_spec {P : Program} {t e sz by_ : Nat} (h : sliceE P t = some (e, sz, by_)) : ∃ i z, P.underlying t = some (.slice e) ∧ P.info? e = some i ∧ i.zero = some z ∧ i.size = sz ∧ i.bytes = by_ ∧ z.cells.size = sz ∧ 0 < sz := by
  unfold sliceE at h
  split at h
  · rename_i e' hu
    split at h
    · rename_i i hi
      split at h
      · rename_i z hz
        cases hb : (Nat.beq z.cells.size i.size && Nat.blt 0 i.size) with
        | false => rw [hb] at h; cases h
        | true =>
          rw [hb] at h
          simp only [cond_true, Option.some.injEq, Prod.mk.injEq] at h
          obtain ⟨rfl, rfl, rfl⟩ := h
          simp only [Bool.and_eq_true] at hb
          exact ⟨i, z, hu, hi, hz, rfl, rfl, Nat.eq_of_beq_eq_true hb.1, Nat.lt_of_succ_le (Nat.le_of_ble_eq_true hb.2)⟩
      · cases h
    · cases h
  · cases h

/-- operands, numbered from i on, with what they read as -/
inductive DParts (ow : List (Nat × Own)) (ρ : Operand → Option A) (sz : Nat) : Nat → List (Nat × Operand) → List (List T) → Prop
  | nil (i : Nat) : DParts ow ρ sz i [] []
  | cons {i : Nat} {x : Operand} {y : A} {t : T} {xs : List (Nat × Operand)} {rows : List (List T)} (h : ρ x = some y) (hv : Vw ow y t) (hk : t.okB = true) (hn : Nat.beq t.cells.length sz = true) (hl : DParts ow ρ sz (i + 1) xs rows) : DParts ow ρ sz i ((i, x) :: xs) (t.cells :: rows)
section
variable {P : Program} {bx : List (Nat × List A)} {ow : List (Nat × Own)} {o : Oper} {ρ : Operand → Option A} {r : A}
theorem DParts.ok {C : Ctx} {w : World} {m : Mm} {g : Gh} {sz i : Nat} {xs : List (Nat × Operand)} {rows : List (List T)} (h : DParts ow ρ sz i xs rows) (he : EnvG C bx ow w m g) {a : Act} (ha : ∀ x ∈ xs.map (·.2), ∀ y, ρ x = some y → AR m g y (a.eval x)) :
    ∃ vs : List Value, xs.map (fun p => (p.1, a.eval p.2)) = (vs.zipIdx i).map (fun x => (x.2, x.1)) ∧ vs.length = rows.length ∧ (∀ v ∈ vs, v.cells.size = sz) ∧ (∀ r ∈ rows, r.length = sz) ∧ CellsAre m rows.flatten (vs.flatMap fun v => v.cells.toList) := by
  induction h with
  | nil i => exact ⟨[], rfl, rfl, (fun v h => by cases h), (fun v h => by cases h), rfl, (fun j t v h => by simp at h)⟩
  | @cons i x y t xs rows h hv hk hn hl ih =>
    obtain ⟨vs, h1, h2, h3, h4, h5⟩ := ih fun x hx => ha x (by simp at hx ⊢; exact .inr hx)
    have hc := cells_ok (hv.ok he (ha x (by simp) y h)) hk
    have hn' := Nat.eq_of_beq_eq_true hn
    have hs : (a.eval x).cells.size = sz := by have := hc.1; simp at this; omega
    refine ⟨a.eval x :: vs, by simp [h1, List.zipIdx_cons], by simp [h2], ?_, ?_, ?_⟩
    · intro v hv'
      rcases List.mem_cons.1 hv' with rfl | hv'
      · exact hs
      · exact h3 v hv'
    · intro q hq
      rcases List.mem_cons.1 hq with rfl | hq
      · exact hn'
      · exact h4 q hq
    · rw [List.flatten_cons, List.flatMap_cons]
      exact hc.app h5
/-- the cells of a new block, as memory that stays -/
theorem ext_new {m : Mm} {w : World} (hs : Sub m w) (cs : Array Value) (ty : TypeId) : Ext m (upm m w (w.alloc (.cells cs ty))) w.heap.size ∧ Sub (upm m w (w.alloc (.cells cs ty))) (w.alloc (.cells cs ty)) ∧ ∀ k v, cs[k]? = some v → upm m w (w.alloc (.cells cs ty)) w.heap.size k = some v := by
  refine ⟨ext_upm hs, upm_sub hs ((Lo.refl w).alloc _), fun k v hk => ?_⟩
  rw [upm_new (Nat.lt_irrefl _) (nfB_cells (heap_alloc_new w _) (.inl rfl))]
  unfold World.cell?
  rw [show (w.alloc (.cells cs ty)).heap[w.heap.size]? = some (.cells cs ty (0, 0)) from heap_alloc_new w _]
  simpa using hk
theorem built_run {t e sz by_ len : Nat} (hT : sliceE P t = some (e, sz, by_)) (w : World) (vs : List Value) (hv : ∀ v ∈ vs, v.cells.size = sz) (hlen : vs.length = len) (h0 : 0 < len) (hsm : Nat.ble (len * sz) (2 ^ 24) = true) :
    (Instr.buildSlice t len ((vs.zipIdx 0).map (fun x => (x.2, x.1))).toArray).run P w = .ok (.slice (some ⟨w.heap.size, 0, none⟩) len len) (w.alloc (.cells (vs.flatMap fun v => v.cells.toList).toArray e)) := by
  obtain ⟨i, z, hu, hi, hz, rfl, _, _, hsz⟩ := sliceE_spec hT
  have hle := Nat.le_of_ble_eq_true hsm
  have hpos : 0 < len * i.size := Nat.mul_pos h0 hsz
  refine run_buildSlice w t e len _ _ i z hu hi hz (by omega) (by omega) ?_
  have := Great.fill_whole hsz vs ((Array.range (len * i.size)).map (z.cells[· % z.cells.size]!)) hv (by simp [hlen])
  simpa using this
theorem tr_new_row {m : Mm} {w : World} (hs : Sub m w) {sz len e : Nat} {rows : List (List T)} {vs : List Value} (hl : vs.length = rows.length * sz) (hlen : rows.length = len) (hr : ∀ r ∈ rows, r.length = sz) (hc : CellsAre m rows.flatten vs) (hml : len ≤ maxLen) :
    TR (upm m w (w.alloc (.cells vs.toArray e))) (.sl sz rows) (.slice (some ⟨w.heap.size, 0, none⟩) len len) := by
  obtain ⟨h1, h2, h3⟩ := ext_new hs vs.toArray e
  subst hlen
  refine tr_owns (w := w.alloc (.cells vs.toArray e)) (base := 0) (e := e) (vs := vs) ⟨hl, .inr ⟨w.heap.size, rows.length, vs.toArray, rfl, Nat.zero_le _, ⟨(0, 0), heap_alloc_new w _, .inl rfl⟩, Nat.le_refl _, hml, by simp [hl], ?_⟩⟩ hr (hc.mono h1.1) ?_
  · simp only; rw [← hl]; exact List.take_length
  · intro b hb k u hu
    injection hb with hb; subst hb
    exact h3 k u (by simpa using hu)
theorem flatMap_cells_len {sz : Nat} : ∀ {vs : List Value}, (∀ v ∈ vs, v.cells.size = sz) → (vs.flatMap fun v => v.cells.toList).length = vs.length * sz
  | [], _ => by simp
  | v :: vs, h => by
    rw [List.flatMap_cons, List.length_append, flatMap_cells_len fun x hx => h x (by simp [hx]), List.length_cons, Nat.succ_mul]
    have := h v (by simp)
    simp [this]; omega
theorem po_buildSlice {t e sz by_ len : Nat} {xs : List (Nat × Operand)} {rows : List (List T)} (ho : o.op = .buildSlice t len xs.toArray) (hT : sliceE P t = some (e, sz, by_)) (hx : DParts ow ρ sz 0 xs rows) (hlen : rows.length = len) (h0 : Nat.blt 0 len = true) (hsm : Nat.ble (len * sz) (2 ^ 24) = true) : PureOp P bx ow o ρ (.t (.sl sz rows)) := by
  refine .mk fun C m g w a Q he h => ?_
  obtain ⟨vs, h1, h2, h3, h4, h5⟩ := hx.ok he (a := a) (fun x hx y hy => h x (by simp [ho, Op.operands] at hx ⊢; exact hx) y hy)
  have hrun := built_run (P := P) hT w vs h3 (by omega) (Nat.lt_of_succ_le (Nat.le_of_ble_eq_true h0)) hsm
  obtain ⟨e1, e2, _⟩ := ext_new he.sub (vs.flatMap fun v => v.cells.toList).toArray e
  obtain ⟨_, _, _, _, _, _, _, _, hszp⟩ := sliceE_spec hT
  refine wp_of_run (v := .slice (some ⟨w.heap.size, 0, none⟩) len len) (w' := w.alloc (.cells (vs.flatMap fun v => v.cells.toList).toArray e)) ?_ ⟨_, _, rfl, (Lo.refl w).alloc _, e1, e2, upm_nf, ?_⟩
  · simp only [execOp, ho, List.map_toArray]
    rw [show (xs.map fun x => (x.1, a.eval x.2)) = (vs.zipIdx 0).map (fun x => (x.2, x.1)) from h1, Sem.run_bind, hrun]; rfl
  · refine tr_new_row he.sub (by rw [flatMap_cells_len h3, h2]) hlen h4 h5 ?_
    have := Nat.le_of_ble_eq_true hsm
    have h6 : len * 1 ≤ len * sz := Nat.mul_le_mul_left _ hszp
    unfold maxLen; omega
theorem po_buildSlice0 {t e sz by_ : Nat} (ho : o.op = .buildSlice t 0 #[]) (hT : sliceE P t = some (e, sz, by_)) : PureOp P bx ow o ρ .emp := by
  refine .mk fun C m g w a Q he h => ?_
  obtain ⟨i, z, hu, hi, hz, _⟩ := sliceE_spec hT
  obtain ⟨e1, e2, _⟩ := ext_new he.sub #[] e
  refine wp_of_run (v := .slice (some ⟨w.heap.size, 0, none⟩) 0 0) (w' := w.alloc (.cells #[] e)) ?_ ⟨_, _, rfl, (Lo.refl w).alloc _, e1, e2, upm_nf, ⟨_, rfl⟩⟩
  simp [execOp, ho, Instr.buildSlice, run_underlying hu, sizeOf, typeInfo, hi, Instr.fill, newRow]
  congr 2
  exact Array.eq_empty_of_size_eq_zero (by simp)
/-- is there nothing, and room for nothing? -/
inductive IsEmp : A → Prop
  | emp : IsEmp .emp
  | nil : IsEmp (.t (.v (.slice none 0 0)))
theorem IsEmp.ok {m : Mm} {g : Gh} {y : A} {v : Value} (h : IsEmp y) (hv : AR m g y v) : ∃ A, v = .slice A 0 0 := by
  cases h with
  | emp => exact hv
  | nil => exact ⟨none, tr_v (show TR m (.v (.slice none 0 0)) v from hv)⟩
/-- an append onto nothing: new memory -/
theorem po_append_new {t e sz by_ : Nat} {x z : Operand} {y y' : A} {rows : List (List T)} (ho : o.op = .call { callee := .builtin .append, args := #[x, z], argTypes := #[t, t] }) (hg : o.guard = none) (hx : ρ x = some y) (hy : IsEmp y) (hz : ρ z = some y') (hz' : Vw ow y' (.sl sz rows)) (hT : sliceE P t = some (e, sz, by_))
    (hb : rows.length * by_ ≤ 140737488355328) (hm : rows.length ≤ maxLen) : PureOp P bx ow o ρ (.t (.sl sz rows)) := by
  refine .mk fun C m g w a Q he h => ?_
  obtain ⟨i, zv, hu, hi, hzz, h4, h5, h6, h7⟩ := sliceE_spec hT
  obtain ⟨Ax, hvx⟩ := hy.ok (h x (by simp [ho, Op.operands, Call.operands]) _ hx)
  have hvz : TR m (.sl sz rows) (a.eval z) := hz'.ok he (h z (by simp [ho, Op.operands, Call.operands]) _ hz)
  rcases Nat.eq_zero_or_pos rows.length with h0 | h0
  · have hr0 : rows = [] := List.eq_nil_of_length_eq_zero h0
    subst hr0
    generalize hvv : a.eval z = vz at hvz
    cases hvz with
    | sl _ _ A b off cap u hc hm' hA hr hu' ht =>
      exact wp_append_nothing x z t ho e i hu hi Ax A 0 0 cap hvx hvv (Nat.le_refl _) ⟨_, m, rfl, Lo.refl _, Ext.refl _ _, he.sub, NFx.refl _ _, tr_nil m sz (Nat.zero_le _)⟩
  · generalize hvv : a.eval z = vz at hvz
    have hform : ∃ A cap, vz = .slice A rows.length cap := by cases hvz with | sl _ _ A b off cap => exact ⟨A, cap, rfl⟩
    obtain ⟨A, cap, rfl⟩ := hform
    have hrl : ∀ r ∈ rows, r.length = sz := by cases hvz with | sl _ _ A b off cap u hc hm' hA hr hu' ht => exact hr
    obtain ⟨b, off, vs, rfl, hc, hl, hcell⟩ := hvz.flat h0 h7
    refine wp_append_new hg x z t ho e i zv sz by_ hu hi hzz h4 h5 h6 h7 Ax 0 0 [] hvx (fun _ => ⟨rfl, rfl⟩) (by simp) (by simp) ⟨b, off, none⟩ rows.length cap vs hvv hl (fun j u hj => by rw [addr_add]; exact he.sub _ _ _ (hcell j u hj)) hc.one (by omega) (by omega) (by rw [Nat.zero_add]; exact hb) ?_
    intro v' w' hown hgr
    rw [Nat.zero_add, List.nil_append] at hown
    have hlo := Lo.of_grown hgr
    refine ⟨v', _, rfl, hlo, ext_upm (w' := w') he.sub, upm_sub he.sub hlo, upm_nf, ?_⟩
    refine tr_owns (.of hown) hrl (hc.mono (ext_upm he.sub).1) ?_
    intro b' hb' k u hk
    rw [upm_new (by have := (hown.lt b' hb').1; omega) ((RowM.of hown).nf hb' hk)]
    have := hown.cells hb' k u hk
    rwa [addr_add, Nat.zero_add] at this
theorem po_func {f : FuncId} {xs : List Operand} {ts : List T} (ho : o.op = .makeFunc (.func f) #[] xs.toArray) (ha : Args ow ρ xs ts) : PureOp P bx ow o ρ (.t (.clo f ts)) := pure_run fun C m g w a he h => by
  obtain ⟨hl, hv⟩ := ha.ok he (a := a) (fun x hx y hy => h x (by simp [ho, Op.operands, hx]) y hy)
  refine ⟨.func (.func f) #[] (xs.map a.eval).toArray, ?_, .clo f ts _ (by simpa using hl) (fun i t v h1 h2 => hv i t v h1 (by simpa using h2))⟩
  simp only [execOp, ho, Instr.makeFunc, List.map_toArray, List.map_nil, Sem.run_bind, Sem.run_pure, Result.andThen_ok]
end
end Go.Proofs.YtnclifgiakmmoaaGreat.Sim
