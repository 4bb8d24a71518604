/- Merged by bundles.py: SimY, SimRen, SimFm. -/
import Derived.Test.YtabejnjnkpdjbaaU11
import Derived.Test.YtabejnjnkpdjbaaU10
/- A logic of states: operations that make and write boxes and rows, in a region that draws its order. -/
namespace Go.Proofs.Ytabejnjnkpdjbaa.Sim
set_option linter.unusedVariables false
set_option linter.unusedSimpArgs false
open Go.RowKit Mem
section
variable {P : Program} {bx bx' : List (Nat × List A)} {ow ow' : List (Nat × Own)} {o : Oper} {ρ : Operand → Option A} {r : A}
theorem e_run (h : ∀ (C : Ctx) (m : Mm) (g : Gh) (w : World) (a : Act), EnvG C bx ow w m g → (∀ x ∈ o.op.operands.toList, ∀ y, ρ x = some y → AR m g y (a.eval x)) →
    ∃ v w' m' g', (execOp a.eval o).run P w = .ok (.value v) w' ∧ EnvG C bx' ow' w' m' g' ∧ AR m' g' r v ∧ ∀ x u, AR m g x u → AR m' g' x u) : EStep P bx ow o ρ r bx' ow' := .mk fun C m g w a Q he ho => by
  obtain ⟨v, w', m', g', h1, h2, h3, h4⟩ := h C m g w a he ho
  exact wp_of_run h1 ⟨v, m', g', rfl, h2, h3, h4⟩
theorem e_append {t e sz by_ : Nat} {x z : Operand} {i n : Nat} {y' : A} {rows rows2 : List (List T)} (ho : o.op = .call { callee := .builtin .append, args := #[x, z], argTypes := #[t, t] })
    (hx : ρ x = some (.own i n)) (hi : get ow i = some ⟨e, sz, rows⟩) (hn : n = rows.length) (hz : ρ z = some y') (hz' : Vw ow y' (.sl sz rows2)) (hT : sliceE P t = some (e, sz, by_))
    (hb : (rows.length + rows2.length) * by_ ≤ 140737488355328) (hm : rows.length + rows2.length ≤ maxLen) (hp : Nat.ble 2000 i = false := by rfl) : EStep P bx ow o ρ (.own i (rows ++ rows2).length) bx ((i, ⟨e, sz, rows ++ rows2⟩) :: ow) := e_run fun C m g w a he hop => by
  obtain ⟨i', zv, hu, hi', hzz, h4, h5, h6, h7⟩ := sliceE_spec hT
  have hop1 := hop x (by simp [ho, Op.operands, Call.operands]) _ hx
  obtain ⟨hlw, _, hAx, hgo⟩ := hop1
  have hln := he.ln i _ hi
  have hvx := hgo (by rw [hln]; exact hn)
  have hvz : TR m (.sl sz rows2) (a.eval z) := hz'.ok he (hop z (by simp [ho, Op.operands, Call.operands]) _ hz)
  obtain ⟨vs, ho1, hrl, hc, hbk⟩ := he.owns i _ hi
  dsimp only at ho1 hrl hc hbk
  have hrl2 : ∀ r ∈ rows2, r.length = sz := by generalize a.eval z = vz at hvz; cases hvz with | sl _ _ A b off cap u hc hm' hA hr hu' ht => exact hr
  have hform : ∃ A cap, a.eval z = .slice A rows2.length cap := by generalize a.eval z = vz at hvz; cases hvz with | sl _ _ A b off cap => exact ⟨A, cap, rfl⟩
  obtain ⟨Az, capz, hvv⟩ := hform
  have hexec : ∀ v' w', (Builtin.append_ #[t, t] o.type #[a.eval x, a.eval z]).run P w = .ok v' w' → (execOp a.eval o).run P w = .ok (.value v') w' := fun v' w' hh => by
    simp only [execOp, ho, resolve, invoke, builtin, Sem.run_bind, Sem.run_pure, Result.andThen_ok, List.map_toArray, List.map_cons, List.map_nil, hh]
  rcases Nat.eq_zero_or_pos rows2.length with h0 | h0
  · have hr0 : rows2 = [] := List.eq_nil_of_length_eq_zero h0
    subst hr0
    obtain ⟨A, c, hA⟩ := hAx
    have hnc : n ≤ c := by
      obtain ⟨_, hcase⟩ := ho1
      rcases hcase with ⟨e1, e2⟩ | ⟨q, cap, cur, e1, _, _, e2, _⟩
      · omega
      · rw [← hvx, hA] at e1; injection e1 with e3 e4 e5; omega
    refine ⟨a.eval x, w, m, g, hexec _ _ (by rw [hvv, hA]; exact run_append_nothing (P := P) (w := w) t o.type e i' hu hi' A Az n c capz hnc), ?_, ?_, fun x u h => h⟩
    · rw [List.append_nil]
      refine he.same (fun j => rfl) fun j => ?_
      rw [get_cons]
      split
      · rename_i e'; subst e'; exact hi.symm
      · rfl
    · rw [List.append_nil, ← hn]
      exact hop x (by simp [ho, Op.operands, Call.operands]) _ hx
  · obtain ⟨b, off, us, rfl, hcu, hlu, hcell⟩ := TR.flat (hvv ▸ hvz) h0 h7
    obtain ⟨v', w', hrun, hown, hcase⟩ := run_append_own3 (P := P) w 0 t o.type e i' zv sz by_ hu hi' hzz h4 h5 h6 h7 (g.go i) rows.length vs ho1 ⟨b, off, none⟩ rows2.length capz us hlu (fun j u hj => by rw [addr_add]; exact he.sub _ _ _ (hcell j u hj)) hcu.one hm hb (Nat.zero_le _)
    obtain ⟨h8, h9⟩ := he.setO (hp := hp) (i := i) (v := v') (e := e) (sz := sz) (rows := rows ++ rows2) (vs := vs ++ us) (by rw [List.length_append]; exact hown) (fun r hr' => by
        rcases List.mem_append.1 hr' with hr' | hr'
        · exact hrl r hr'
        · exact hrl2 r hr') (by rw [List.flatten_append]; exact hc.app hcu) (.inl ⟨_, hi, by simp; omega⟩) (by
        rcases hcase with ⟨e1, e2⟩ | hf
        · exact .inl ⟨_, vis i vs, hi, e1, e2, vis_pre fun k u hk => by rw [List.getElem?_append_left (List.getElem?_eq_some_iff.1 hk).1]; exact hk, fun b hb k => (hbk b hb).1 k⟩
        · exact .inr hf)
    refine ⟨v', w', _, _, hexec _ _ (by rw [hvv, hvx]; exact hrun), h8, ?_, fun x u h => h.setO h9 (.inr (by rw [hln]; simp; omega))⟩
    refine ⟨by simp [Gh.setO], by simp [Gh.setO], ?_, fun _ => by simp [Gh.setO]⟩
    obtain ⟨_, hq⟩ := hown
    rcases hq with ⟨rfl, e2⟩ | ⟨q, cap, cur, rfl, _⟩
    · omega
    · exact ⟨some ⟨q, 0, none⟩, cap, by rw [List.length_append]⟩
theorem e_allocS {ty : TypeId} {d : Nat} {pl : List (Nat × Nat)} {zs : List Value} (hS : strI P ty = some (pl, zs)) (ho : o.op = .alloc ty) (hi : get bx d = none) (hp : Nat.ble 2000 d = false := by rfl) (hq : cellB d = true := by rfl) : EStep P bx ow o ρ (.bp d 0) ((d, zs.map fun v => A.t (T.v v)) :: bx) ow := e_run fun C m g w a he _ => by
  obtain ⟨it, z, h1, h2, h3, h4⟩ := strI_zero hS
  have hlb : g.lb d = false := by rw [he.lb, hi]; rfl
  refine ⟨.pointer (some ⟨w.heap.size, 0, none⟩), w.alloc (.cells z.cells ty), m, g.addB d w.heap.size, ?_, he.box hp hq hi (vs := z.cells) (ty := ty) ⟨by rw [h3]; simp, fun j x v hx hv => ?_⟩, ⟨by simp [Gh.addB], by simp [Gh.addB]⟩, fun x v h => h.addB hlb⟩
  · simp [execOp, ho, Instr.alloc, zeroValue, typeInfo, h1, h2, newVar, newRow]
  · rw [h3] at hv
    rw [List.getElem?_map, hv] at hx
    simp at hx; subst hx
    exact ⟨TR.v _, h4 v (List.mem_of_getElem? hv)⟩
theorem e_store {ty : TypeId} {x z : Operand} {y : A} {i off n : Nat} {ag : Bool} {cs : List A} (ho : o.op = .store ty x z) (hd : o.dst = none) (hx : ρ x = some (.bp i off)) (hz : ρ z = some y) (hk : y.okB = true)
    (hb : get bx i = some cs) (hT : tyI P ty = some (ag, n)) (hn : y.cells.length = n) (hf : Nat.ble (off + n) cs.length = true) (hq : cellB i = true := by rfl) : EStep P bx ow o ρ .any ((i, spl cs off y.cells) :: bx) ow := .mk fun C m g w a Q he hop => by
  obtain ⟨_, h1⟩ := hop x (by simp [ho, Op.operands]) _ hx
  have hv := acells_ok (hop z (by simp [ho, Op.operands]) _ hz) hk
  obtain ⟨vs, ty', hh, hs, hc, hw0, hm⟩ := he.boxes i cs hb (cell_ch hq)
  rw [ob_cells hq] at hh
  replace hs := hs.cell hq
  obtain ⟨d', i', hu, hi', _, hsz⟩ := tyI_spec hT
  have hlen : (a.eval z).cells.toList.length = n := by rw [hv.1, hn]
  have hfit := Nat.le_of_ble_eq_true hf
  have hst := run_storeCells_at P (g.gb i) off ty'.ty (a.eval z).cells.toList 0 vs w hh (by rw [hlen, Nat.add_zero, hs]; exact hfit) hv.one
  rw [Nat.add_zero] at hst
  have hca : ACells m g (spl cs off y.cells) (vs.toList.take off ++ (a.eval z).cells.toList ++ vs.toList.drop (off + (a.eval z).cells.toList.length)) := by
    have hc' : ACells m g cs vs.toList := ⟨by simpa using hs, fun j t v h2 h3 => hc j t v h2 (by simpa using h3)⟩
    rw [List.append_assoc]
    unfold spl
    rw [hv.1]
    exact (hc'.take off).app (hv.app (hc'.drop _))
  have hrun : (execOp a.eval o).run P w = .ok .skip (w.setRow (g.gb i) (vs.toList.take off ++ (a.eval z).cells.toList ++ vs.toList.drop (off + (a.eval z).cells.toList.length)).toArray) := by
    have hsz' : (a.eval z).cells.size = i'.size := by rw [hsz]; simpa using hlen
    have hsv : (storeVar ty ⟨g.gb i, off, none⟩ (a.eval z)).run P w = .ok () (w.setRow (g.gb i) (vs.toList.take off ++ (a.eval z).cells.toList ++ vs.toList.drop (off + (a.eval z).cells.toList.length)).toArray) := by
      generalize a.eval z = u at *
      simp [storeVar, sizeOf, typeInfo, hi', hsz']
      simpa [hsz'] using hst
    simp only [execOp, ho, h1, Instr.storeAt, Instr.sureAddr, Sem.run_bind, Sem.run_pure, Result.andThen_ok, hsv]
  unfold Oper.wp
  rw [hrun, Oper.upon_skip]
  refine ⟨undef, m, g, (by rw [hd]; try rfl), he.setB hb hh (by simpa using hca) hq, trivial, fun x u h => h⟩
theorem e_store_own {ty e : TypeId} {x z : Operand} {y : A} {i nn sz k off n : Nat} {ag : Bool} {rows : List (List T)} {row ts : List T} {t : T} (hh : hid i = true) (ho : o.op = .store ty x z) (hd : o.dst = none) (hx : ρ x = some (.oe i nn sz k off)) (hi : get ow i = some ⟨e, sz, rows⟩) (hnn : nn = rows.length)
    (hz : ρ z = some y) (hv : Vw ow y t) (hk : t.okB = true) (hts : t.cells = ts) (hT : tyI P ty = some (ag, n)) (hn : ts.length = n) (hrow : rows[k]? = some row) (hf : Nat.ble (off + n) row.length = true) : EStep P bx ow o ρ .any bx ((i, ⟨e, sz, rows.set k (row.take off ++ (ts ++ row.drop (off + n)))⟩) :: ow) := .mk fun C m g w a Q he hop => by
  obtain ⟨h1, h2, _, h4⟩ := hop x (by simp [ho, Op.operands]) _ hx
  obtain ⟨b, h5, h6⟩ := h4 (by rw [he.ln i _ hi]; exact hnn)
  have hvt : TR m t (a.eval z) := hv.ok he (hop z (by simp [ho, Op.operands]) _ hz)
  have hca : ACells m g (ts.map A.t) (a.eval z).cells.toList := by
    have := acells_ok (m := m) (g := g) (y := .t t) hvt hk
    rw [← hts]; exact this
  obtain ⟨vs, hown, hrr, hc, _⟩ := he.owns i _ hi
  dsimp only at hown hrr hc
  have hfit := Nat.le_of_ble_eq_true hf
  have hkl : k < rows.length := (List.getElem?_eq_some_iff.1 hrow).1
  have hrl : row.length = sz := hrr row (List.mem_of_getElem? hrow)
  obtain ⟨b', cap, cur, e1, e2, ⟨fz, e3, e3f⟩, e4, e5, e6, e7⟩ := own_form hown (by omega)
  rw [e1] at h5; injection h5 with h5; subst h5
  have hus : (a.eval z).cells.toList.length = n := by rw [hca.1]; simp [hn]
  have hoff : k * sz + off + n ≤ cur.size := by
    have hks : k * sz + sz ≤ rows.length * sz := by rw [← Nat.succ_mul]; exact Nat.mul_le_mul_right _ hkl
    have : rows.length * sz ≤ cap * sz := Nat.mul_le_mul_right _ e4
    omega
  have hst := run_storeCells_atM P b' (k * sz + off) e fz (a.eval z).cells.toList 0 cur w e3 e3f (by rw [hus, Nat.add_zero]; exact hoff) hca.one
  rw [Nat.add_zero] at hst
  obtain ⟨d', i', hu, hi', _, hsz⟩ := tyI_spec hT
  have hrun : (execOp a.eval o).run P w = .ok .skip (w.setRow b' (cur.toList.take (k * sz + off) ++ (a.eval z).cells.toList ++ cur.toList.drop (k * sz + off + (a.eval z).cells.toList.length)).toArray) := by
    have hsz' : (a.eval z).cells.size = i'.size := by rw [hsz]; simpa using hus
    have hsv : (storeVar ty ⟨b', k * sz + off, none⟩ (a.eval z)).run P w = .ok () (w.setRow b' (cur.toList.take (k * sz + off) ++ (a.eval z).cells.toList ++ cur.toList.drop (k * sz + off + (a.eval z).cells.toList.length)).toArray) := by
      generalize a.eval z = u at *
      simp [storeVar, sizeOf, typeInfo, hi', hsz']
      simpa [hsz'] using hst
    simp only [execOp, ho, h6, Instr.storeAt, Instr.sureAddr, Sem.run_bind, Sem.run_pure, Result.andThen_ok, hsv]
  unfold Oper.wp
  rw [hrun, Oper.upon_skip]
  refine ⟨undef, m, g, (by rw [hd]; try rfl), he.setE (rows := rows) (rows' := rows.set k (row.take off ++ (ts ++ row.drop (off + n)))) (vs' := vs.take (k * sz + off) ++ ((a.eval z).cells.toList ++ vs.drop (k * sz + off + n))) hh hi (by simp) e1 e3 e3f ?_ ?_ ?_ ?_, trivial, fun x u h => h⟩
  · intro r0 hr0
    rcases List.mem_or_eq_of_mem_set hr0 with h7 | h7
    · exact hrr r0 h7
    · subst h7; simp; omega
  · have hks : (k + 1) * sz ≤ rows.length * sz := Nat.mul_le_mul_right _ hkl
    rw [Nat.succ_mul] at hks
    have hfl := flat_len hrr
    have hF : rows.flatten = rows.flatten.take (k * sz) ++ (row ++ rows.flatten.drop (k * sz + sz)) := by
      conv => lhs; rw [← set_self hrow]
      exact flat_set hrr hrow hrl
    have hta : (rows.flatten.take (k * sz)).length = k * sz := by rw [List.length_take]; omega
    have h8 := take_mid (rows.flatten.take (k * sz)) row (rows.flatten.drop (k * sz + sz)) off (by omega)
    have h9 := drop_mid (rows.flatten.take (k * sz)) row (rows.flatten.drop (k * sz + sz)) (off + n) hfit
    rw [← hF, hta] at h8 h9
    rw [flat_set hrr hrow (by simp; omega)]
    rw [List.append_assoc, List.append_assoc, ← h9, ← List.append_assoc, ← h8]
    have hts2 : CellsAre m ts (a.eval z).cells.toList := ⟨by rw [hus, hn], fun j t v h10 h11 => hca.2 j (.t t) v (by rw [List.getElem?_map, h10]; rfl) h11⟩
    exact (hc.take _).app (hts2.app (by rw [show k * sz + off + n = k * sz + (off + n) by omega]; exact hc.drop _))
  · have hus' : (a.eval z).cells.size = n := by simpa using hus
    simp; omega
  · have hks : (k + 1) * sz ≤ rows.length * sz := Nat.mul_le_mul_right _ hkl
    rw [Nat.succ_mul] at hks
    have hL : rows.length * sz ≤ cur.size := Nat.le_trans (Nat.mul_le_mul_right _ e4) e6
    have hl1 : (cur.toList.take (k * sz + off)).length = k * sz + off := by simp; omega
    rw [← e7]
    simp only [List.append_assoc]
    rw [List.take_append, hl1, List.take_of_length_le (show (cur.toList.take (k * sz + off)).length ≤ rows.length * sz by omega), List.take_append, List.take_of_length_le (show (a.eval z).cells.toList.length ≤ rows.length * sz - (k * sz + off) by omega), hus, Nat.sub_sub]
    rw [List.take_take, Nat.min_eq_left (by omega), List.drop_take]
end
end Go.Proofs.Ytabejnjnkpdjbaa.Sim

/- A logic of states: a row gets another number: a lent one becomes the call's own, a hidden one may be seen from then on. -/
namespace Go.Proofs.Ytabejnjnkpdjbaa.Sim
set_option linter.unusedVariables false
set_option linter.unusedSimpArgs false
open Go.RowKit Mem

def rn (i i' j : Nat) : Nat := bif Nat.beq j i then i' else j
theorem rn_same (i i' : Nat) : rn i i' i = i' := by unfold rn; rw [Nat.beq_refl]; rfl
theorem rn_other {i i' j : Nat} (h : j ≠ i) : rn i i' j = j := by
  unfold rn
  cases e : Nat.beq j i with
  | true => exact absurd (Nat.eq_of_beq_eq_true e) h
  | false => rfl
def renO (i i' : Nat) (ow : List (Nat × Own)) : List (Nat × Own) := ow.map fun p => (rn i i' p.1, p.2)
def renX (i i' : Nat) (bx : List (Nat × List A)) : List (Nat × List A) := bx.map fun p => (p.1, p.2.map (A.ren (fun k => k) (rn i i')))
def renT (i i' : Nat) (tm : List (Nat × A)) : List (Nat × A) := tm.map fun p => (p.1, A.ren (fun k => k) (rn i i') p.2)
theorem get_renO {i i' : Nat} {ow : List (Nat × Own)} (hn : get ow i' = none) (hne : i ≠ i') (j : Nat) : get (renO i i' ow) j = if j = i' then get ow i else if j = i then none else get ow j := by
  induction ow with
  | nil => simp [renO, get]
  | cons p r ih =>
    obtain ⟨k, x⟩ := p
    rw [get_cons] at hn
    split at hn
    · cases hn
    rename_i hk
    have ih := ih hn
    show get ((rn i i' k, x) :: renO i i' r) j = _
    rw [get_cons, get_cons, get_cons, ih]
    by_cases hki : k = i
    · subst hki
      rw [rn_same]
      by_cases hj : i' = j
      · subst hj; simp
      · have hj' : ¬ j = i' := fun e => hj e.symm
        by_cases hjk : j = k
        · subst hjk; simp [hj, hj']
        · have hkj : ¬ k = j := fun e => hjk e.symm
          simp [hj, hj', hjk, hkj]
    · rw [rn_other hki]
      by_cases hkj : k = j
      · subst hkj; simp [hk, hki]
      · simp [hkj, hki]
theorem get_renX {i i' : Nat} {bx : List (Nat × List A)} (j : Nat) : get (renX i i' bx) j = (get bx j).map fun cs => cs.map (A.ren (fun k => k) (rn i i')) := by
  induction bx with
  | nil => rfl
  | cons p r ih =>
    obtain ⟨k, x⟩ := p
    show get ((k, _) :: renX i i' r) j = _
    rw [get_cons, get_cons, ih]
    by_cases hkj : k = j
    · rw [if_pos hkj, if_pos hkj]; rfl
    · rw [if_neg hkj, if_neg hkj]
theorem get_renT {i i' : Nat} {tm : List (Nat × A)} (j : Nat) : get (renT i i' tm) j = (get tm j).map (A.ren (fun k => k) (rn i i')) := by
  induction tm with
  | nil => rfl
  | cons p r ih =>
    obtain ⟨k, x⟩ := p
    show get ((k, _) :: renT i i' r) j = _
    rw [get_cons, get_cons, ih]
    by_cases hkj : k = j
    · rw [if_pos hkj, if_pos hkj]; rfl
    · rw [if_neg hkj, if_neg hkj]
theorem EnvG.ren' {C : Ctx} {bx : List (Nat × List A)} {ow : List (Nat × Own)} {w : World} {m : Mm} {g : Gh} (he : EnvG C bx ow w m g) {i i' : Nat} {o : Own} (hi : get ow i = some o) (hh : hid i = true ∨ hid i' = false) (hn : get ow i' = none) (h2 : Nat.ble 2000 i' = false) :
    ∃ m' g', EnvG C (renX i i' bx) (renO i i' ow) w m' g' ∧ ∀ x v, AR m g x v → AR m' g' (x.ren (fun k => k) (rn i i')) v := by
  have hne : i ≠ i' := fun e => by rw [e, hn] at hi; cases hi
  obtain ⟨vs, hrow, hsz, hcells, hblk⟩ := he.owns i o hi
  have hO := fun j => get_renO hn hne j
  have hX := fun j => get_renX (i := i) (i' := i') (bx := bx) j
  have hlwi : g.lw i' = false := by rw [he.lw, hn]; rfl
  have hmm : ∀ b q u, m b q = some u → rowm m (g.go i) (vis i' vs) b q = some u := fun b q u hu => by
    unfold rowm
    split
    · rename_i hb
      rw [(hblk b hb).1 q] at hu
      rcases hh with hh | hh
      · rw [vis_hid hh] at hu; simp at hu
      · rw [vis_see hh]; exact vis_get hu
    · exact hu
  have hgoO : ∀ j, j ≠ i' → (if j = i' then g.go i else g.go j) = g.go j := fun j h => if_neg h
  have hlw' : ∀ j, g.lw j = true → j ≠ i' := fun j hj e => by rw [e, hlwi] at hj; cases hj
  have hget : ∀ j, g.lw j = true → (get (renO i i' ow) (rn i i' j)).isSome = true := fun j hj => by
    rw [hO]
    by_cases hji : j = i
    · subst hji; rw [rn_same, if_pos rfl, hi]; rfl
    · rw [rn_other hji, if_neg (hlw' j hj), if_neg hji, ← he.lw j]; exact hj
  let g' : Gh := { g with go := fun j => if j = i' then g.go i else g.go j, ln := fun j => if j = i' then g.ln i else g.ln j, lw := fun j => (get (renO i i' ow) j).isSome }
  have hgo : ∀ j, g.lw j = true → g'.go (rn i i' j) = g.go j := fun j hj => by
    by_cases hji : j = i
    · subst hji; rw [rn_same]; exact if_pos rfl
    · rw [rn_other hji]; exact if_neg (hlw' j hj)
  have hln : ∀ j, g.lw j = true → g'.ln (rn i i' j) = g.ln j := fun j hj => by
    by_cases hji : j = i
    · subst hji; rw [rn_same]; exact if_pos rfl
    · rw [rn_other hji]; exact if_neg (hlw' j hj)
  have hAR : ∀ x v, AR m g x v → AR (rowm m (g.go i) (vis i' vs)) g' (x.ren (fun k => k) (rn i i')) v := fun x v hx => by
    refine AR.mp (ren0 (fun k => k) (rn i i')) (fun _ => true) (fun x v _ hx => ?_) (by
      cases x <;> simp [A.allP, A.all1]
      intro y _; cases y <;> simp [A.all1]) hx
    cases x with
    | t x => exact TR.mono hmm hx
    | bp k off => exact hx
    | sb k n sz e => exact hx
    | rs R => exact hx
    | rp k n => exact hx
    | own j n =>
      obtain ⟨h1, h3, h4, h5⟩ := hx
      exact ⟨hget j h1, by rw [hln j h1]; exact h3, h4, fun e => by rw [hgo j h1]; exact h5 (by rw [hln j h1] at e; exact e)⟩
    | ev j n u =>
      obtain ⟨h1, h3, h4, h5⟩ := hx
      exact ⟨hget j h1, by rw [hln j h1]; exact h3, h4, fun e => by rw [hgo j h1]; exact h5 (by rw [hln j h1] at e; exact e)⟩
    | emp => exact hx
    | oe j n sz k off =>
      obtain ⟨h1, h3, h4, h5⟩ := hx
      exact ⟨hget j h1, by rw [hln j h1]; exact h3, h4, fun e => by rw [hgo j h1]; exact h5 (by rw [hln j h1] at e; exact e)⟩
    | any => trivial
    | sfx j n sz k =>
      obtain ⟨h1, h3, h4, h5⟩ := hx
      exact ⟨hget j h1, by rw [hln j h1]; exact h3, h4, fun e => by rw [hgo j h1]; exact h5 (by rw [hln j h1] at e; exact e)⟩
    | ag cs => exact hx
    | tu cs => exact hx
    | cl f cs => exact hx
  have hown : ∀ j oj, get (renO i i' ow) j = some oj → (j = i' ∧ oj = o) ∨ (j ≠ i' ∧ j ≠ i ∧ get ow j = some oj) := fun j oj hj => by
    rw [hO] at hj
    by_cases h1 : j = i'
    · rw [if_pos h1, hi] at hj; injection hj with hj; exact .inl ⟨h1, hj.symm⟩
    · rw [if_neg h1] at hj
      by_cases h3 : j = i
      · rw [if_pos h3] at hj; cases hj
      · rw [if_neg h3] at hj; exact .inr ⟨h1, h3, hj⟩
  have hgo1 : g'.go i' = g.go i := if_pos rfl
  have hgo2 : ∀ j, j ≠ i' → g'.go j = g.go j := fun j h => if_neg h
  refine ⟨rowm m (g.go i) (vis i' vs), g', {
    lo := he.lo
    gm := he.gm
    sub := fun b q u hu => by
      unfold rowm at hu
      split at hu
      · rename_i hb
        have := hrow.cells hb q u (vis_get hu)
        rwa [addr_add, Nat.zero_add] at this
      · exact he.sub b q u hu
    gt := fun b q u ht => hmm b q u (he.gt b q u ht)
    ext := ⟨fun b q u hu => hmm b q u (he.ext.keep b q u hu), fun b q hb hgb => by
      unfold rowm
      by_cases hvv : (g.go i).ownBlock = some b
      · rcases (hblk b hvv).2.2 with h1 | h1
        · omega
        · rw [hgb] at h1; cases h1
      · rw [if_neg hvv]; exact he.ext.old b q hb hgb⟩
    lb := fun j => by
      rw [hX, Option.isSome_map]; exact he.lb j
    lw := fun j => rfl
    ln := fun j oj hj => by
      rcases hown j oj hj with ⟨h1, h3⟩ | ⟨h1, h3, h4⟩
      · subst h1 h3; show (if j = j then g.ln i else g.ln j) = _; rw [if_pos rfl]; exact he.ln i _ hi
      · show (if j = i' then g.ln i else g.ln j) = _; rw [if_neg h1]; exact he.ln j _ h4
    boxes := fun j cs hj hcj => by
      rw [hX] at hj
      cases hb : get bx j with
      | none => rw [hb] at hj; cases hj
      | some cs0 =>
        rw [hb] at hj
        have hj : cs0.map (A.ren (fun k => k) (rn i i')) = cs := by simpa using hj
        subst hj
        obtain ⟨vs2, ty, h1, h3, h4, h5, h6⟩ := he.boxes j cs0 hb hcj
        refine ⟨vs2, ty, h1, by simpa using h3, fun q x u hx hu => ?_, h5, fun q => ?_⟩
        · rw [List.getElem?_map] at hx
          cases hc : cs0[q]? with
          | none => rw [hc] at hx; cases hx
          | some y =>
            rw [hc] at hx
            have hx : A.ren (fun k => k) (rn i i') y = x := by simpa using hx
            subst hx
            exact ⟨hAR _ _ (h4 q y u hc hu).1, (h4 q y u hc hu).2⟩
        · show rowm m (g.go i) (vis i' vs) (g.gb j) q = none
          unfold rowm
          rw [if_neg (fun e => (hblk _ e).2.1 j cs0 hb hcj rfl)]
          exact h6 q
    inj := fun j k cj ck hj hk hcj hck e => by
      rw [hX] at hj hk
      cases hb : get bx j with
      | none => rw [hb] at hj; cases hj
      | some c1 =>
        cases hb2 : get bx k with
        | none => rw [hb2] at hk; cases hk
        | some c2 => exact he.inj j k c1 c2 hb hb2 hcj hck e
    owns := fun j oj hj => by
      rcases hown j oj hj with ⟨h1, h3⟩ | ⟨h1, h3, h4⟩
      · subst h1 h3
        rw [hgo1]
        refine ⟨vs, hrow, hsz, hcells.mono hmm, fun b hb => ⟨fun k => ?_, fun q cs hq hcq => ?_, (hblk b hb).2.2⟩⟩
        · unfold rowm; rw [if_pos hb]
        · rw [hX] at hq
          cases hb2 : get bx q with
          | none => rw [hb2] at hq; cases hq
          | some c2 => exact (hblk b hb).2.1 q c2 hb2 hcq
      · rw [hgo2 j h1]
        obtain ⟨vs2, k1, k2, k3, k4⟩ := he.owns j oj h4
        refine ⟨vs2, k1, k2, k3.mono hmm, fun b hb => ⟨fun k => ?_, fun q cs hq hcq => ?_, (k4 b hb).2.2⟩⟩
        · unfold rowm
          rw [if_neg (fun e => he.apart i j o oj hi h4 (fun e => h3 e.symm) b e hb)]
          exact (k4 b hb).1 k
        · rw [hX] at hq
          cases hb2 : get bx q with
          | none => rw [hb2] at hq; cases hq
          | some c2 => exact (k4 b hb).2.1 q c2 hb2 hcq
    apart := fun j k oj ok hj hk hjk b hb => by
      rcases hown j oj hj with ⟨h1, h3⟩ | ⟨h1, h3, h4⟩
      · rcases hown k ok hk with ⟨k1, k3⟩ | ⟨k1, k3, k4⟩
        · exact absurd (h1.trans k1.symm) hjk
        · subst h1; rw [hgo1] at hb; rw [hgo2 k k1]
          exact he.apart i k o ok hi k4 (fun e => k3 e.symm) b hb
      · rw [hgo2 j h1] at hb
        rcases hown k ok hk with ⟨k1, k3⟩ | ⟨k1, k3, k4⟩
        · subst k1; rw [hgo1]
          exact he.apart j i oj o h4 hi h3 b hb
        · rw [hgo2 k k1]
          exact he.apart j k oj ok h4 k4 hjk b hb
    pin := fun j oj hj hj2 => by
      rcases hown j oj hj with ⟨h1, h3⟩ | ⟨h1, h3, h4⟩
      · rw [h1, h2] at hj2; cases hj2
      · rw [hgo2 j h1]; exact he.pin j oj h4 hj2
    pinb := fun j cs hj hj2 => by
      rw [hX] at hj
      cases hb : get bx j with
      | none => rw [hb] at hj; cases hj
      | some c1 => exact he.pinb j c1 hb hj2
    rs := he.rsF (fun k => (g.go i).ownBlock = some k) (fun k R _ hk => ⟨rs_map ren0_rs (by rw [hX] at hk; exact hk), rfl, rfl⟩) (fun k cs _ hk _ => by
      rw [hX] at hk
      cases hc : get bx k with
      | none => rw [hc] at hk; cases hk
      | some c0 => exact ⟨rfl, c0, by first | exact hc | rfl⟩) (fun k hk => .inr ⟨i, o, hi, hk⟩) (fun _ _ _ => rfl) hmm (fun b _ hnt hb q => by unfold rowm; rw [if_neg hnt]; exact hb q) (fun k cs hk hck => by
      rw [hX] at hk
      cases hc : get bx k with
      | none => rw [hc] at hk; cases hk
      | some c0 => exact .inl ⟨k, c0, by first | exact hc | rfl, hck, rfl⟩) (fun j oj hj b hb => by
      rcases hown j oj hj with ⟨h1, h3⟩ | ⟨h1, h3, h4⟩
      · subst h1; rw [hgo1] at hb; exact .inl ⟨i, o, hi, hb⟩
      · rw [hgo2 j h1] at hb; exact .inl ⟨j, oj, h4, hb⟩) }, hAR⟩
theorem EnvG.ren {C : Ctx} {bx : List (Nat × List A)} {ow : List (Nat × Own)} {w : World} {m : Mm} {g : Gh} (he : EnvG C bx ow w m g) {i i' : Nat} {o : Own} (hi : get ow i = some o) (hh : hid i = true) (hn : get ow i' = none) (h2 : Nat.ble 2000 i' = false) :
    ∃ m' g', EnvG C (renX i i' bx) (renO i i' ow) w m' g' ∧ ∀ x v, AR m g x v → AR m' g' (x.ren (fun k => k) (rn i i')) v := he.ren' hi (.inl hh) hn h2
theorem weak_ren {N : Nat} {tm tm' : List (Nat × A)} {bx bx' : List (Nat × List A)} {ow ow' : List (Nat × Own)} (i i' : Nat) {o : Own} (hi : get ow i = some o) (hh : hid i = true) (hn : get ow i' = none) (h2 : Nat.ble 2000 i' = false)
    (h3 : renT i i' tm = tm') (h4 : renX i i' bx = bx') (h5 : renO i i' ow = ow') : Weak N ⟨tm, bx, ow⟩ ⟨tm', bx', ow'⟩ := .mk fun C a w ⟨m, g, hr⟩ => by
  subst h3 h4 h5
  obtain ⟨m', g', h6, h7⟩ := hr.env.ren hi hh hn h2
  refine ⟨m', g', h6, hr.size, hr.defers, fun s x hx => ?_⟩
  rw [get_renT] at hx
  cases ht : get tm s with
  | none => rw [ht] at hx; cases hx
  | some y =>
    rw [ht] at hx
    have hx : A.ren (fun k => k) (rn i i') y = x := by simpa using hx
    subst hx
    exact h7 _ _ (hr.tmps s y ht)
theorem swp_up {P : Program} {N : Nat} {c : Code} {Q : Exit → St → Prop} {st : St} (h : SWp P N c (Upto N Q) st) : SWp P N c Q st := .mk fun C a w hr => wk_mono (fun _ _ _ h => good_upto h) (h.go C a w hr)
theorem up_to {N : Nat} {Q : Exit → St → Prop} {e : Exit} {st st' : St} (hw : Weak N st st') (h : Q e st') : Upto N Q e st := ⟨st', hw, h⟩
end Go.Proofs.Ytabejnjnkpdjbaa.Sim

/- A logic of states: a family of rows that nobody else has, each known by its slice's value. -/
namespace Go.Proofs.Ytabejnjnkpdjbaa.Sim
set_option linter.unusedVariables false
set_option linter.unusedSimpArgs false
open Go.RowKit Mem
def FamAt (fs : List (Value × Own)) (w : World) (m : Mm) (S : Nat → Bool) : Prop :=
  (∀ b, S b = true → b < w.heap.size) ∧
  (∀ (j : Nat) p, fs[j]? = some p → (∃ vs, RowM w 0 p.2.e p.2.sz p.1 p.2.rows.length vs ∧ (∀ r ∈ p.2.rows, r.length = p.2.sz) ∧ CellsAre m p.2.rows.flatten vs) ∧ ∀ b, p.1.ownBlock = some b → S b = true) ∧
  ∀ (i j : Nat) p q, fs[i]? = some p → fs[j]? = some q → i ≠ j → ∀ b, p.1.ownBlock = some b → q.1.ownBlock ≠ some b
def FamR (fs : List (Value × Own)) : Rsc where
  R := fun w m S _ => FamAt fs w m S
  loc := fun hw hm ⟨h1, h2, h3⟩ => ⟨fun b hb => by
      have := hw b hb
      rw [Array.getElem?_eq_getElem (h1 b hb)] at this
      exact (Array.getElem?_eq_some_iff.1 this).1, fun j p hj => by
      obtain ⟨⟨vs, k1, k2, k3⟩, k4⟩ := h2 j p hj
      exact ⟨⟨vs, owns_block k1 fun b hb => hw b (k4 b hb), k2, k3.mono hm⟩, k4⟩, h3⟩
  lt := fun ⟨h1, _⟩ hk => h1 _ hk
structure WeakE (N : Nat) (st : St) {ι : Type} (st' : ι → St) : Prop where
  go : ∀ C a w, Rel C N st a w → ∃ i, Rel C N (st' i) a w
theorem sops_weakE {P : Program} {N : Nat} {Q : Exit → St → Prop} {st : St} {ops : Array Oper} {l : List Oper} {ι : Type} {st' : ι → St} (hw : WeakE N st st') (h : ∀ i, SOps P N ops Q l (st' i)) : SOps P N ops Q l st := .mk fun C a w hr => by
  obtain ⟨i, hi⟩ := hw.go C a w hr
  exact (h i).go C a w hi
def noBlk (u : Value) (b : Nat) : Bool := match u.ownBlock with | some c => !(Nat.beq c b) | none => true
theorem noBlk_f {u : Value} {b : Nat} (h : u.ownBlock = some b) : noBlk u b = false := by unfold noBlk; rw [h]; simp [Nat.beq_refl]
theorem noBlk_t {u : Value} {b : Nat} (h : u.ownBlock ≠ some b) : noBlk u b = true := by
  unfold noBlk
  cases hu : u.ownBlock with
  | none => rfl
  | some c =>
    rw [hu] at h
    have : c ≠ b := fun e => h (by rw [e])
    simp only [Bool.not_eq_true', beq_eq_false_iff_ne]
    exact Bool.eq_false_iff.2 fun e => this (Nat.eq_of_beq_eq_true e)
theorem noBlk_s {u : Value} {b : Nat} (h : noBlk u b = true) : u.ownBlock ≠ some b := fun e => by rw [noBlk_f e] at h; cases h
def Gh.openF (g : Gh) (i j : Nat) (u : Value) (n : Nat) : Gh := { g.setO j u n with sf := fun k b => if k = i then g.sf k b && noBlk u b else g.sf k b }
theorem ins_get {β : Type} {a b : List β} {x : β} (j : Nat) : (a ++ x :: b)[if j < a.length then j else j + 1]? = (a ++ b)[j]? := by
  by_cases h : j < a.length
  · rw [if_pos h, List.getElem?_append_left h, List.getElem?_append_left h]
  · rw [if_neg h, List.getElem?_append_right (by omega), List.getElem?_append_right (by omega), show j + 1 - a.length = (j - a.length) + 1 by omega, List.getElem?_cons_succ]
theorem ins_at {β : Type} {a b : List β} {x : β} : (a ++ x :: b)[a.length]? = some x := by rw [List.getElem?_append_right (Nat.le_refl _), Nat.sub_self]; rfl
section
variable {C : Ctx} {bx : List (Nat × List A)} {ow : List (Nat × Own)} {w : World} {m : Mm} {g : Gh}
theorem EnvG.openF (he : EnvG C bx ow w m g) {i j : Nat} {a b : List (Value × Own)} {u : Value} {o : Own} (hc : chB i = true) (hb : get bx i = some [.rs (FamR (a ++ (u, o) :: b))]) (hj : get ow j = none) (hh : hid j = true) (hp : Nat.ble 2000 j = false) :
    EnvG C ((i, [.rs (FamR (a ++ b))]) :: bx) ((j, o) :: ow) w m (g.openF i j u o.rows.length) := by
  obtain ⟨r1, r2, r3⟩ := he.rs
  obtain ⟨⟨f1, f2, f3⟩, hS⟩ := r1 i _ hc hb
  obtain ⟨⟨vs, k1, k2, k3⟩, k4⟩ := f2 a.length (u, o) ins_at
  dsimp only at k1 k2 k3 k4
  have hgo : ∀ k, (g.openF i j u o.rows.length).go k = if k = j then u else g.go k := fun k => rfl
  have hsf : ∀ k c, (g.openF i j u o.rows.length).sf k c = if k = i then g.sf k c && noBlk u c else g.sf k c := fun k c => rfl
  have hAR : ∀ x v, AR m g x v → AR m (g.openF i j u o.rows.length) x v := fun x v hx => hx.lift fun x v h => by
    have := AR0.setO (m' := m) (v := u) (n := o.rows.length) h (fun _ _ _ h => h) (i := j) (.inl (by rw [he.lw, hj]; rfl))
    exact this
  have hbx : ∀ k cs, get ((i, [.rs (FamR (a ++ b))]) :: bx) k = some cs → chB k = false → get bx k = some cs := fun k cs hk hck => by
    rw [get_cons] at hk
    by_cases e : i = k
    · subst e; rw [hc] at hck; cases hck
    · rw [if_neg e] at hk; exact hk
  have hbs : ∀ k, (get ((i, [A.rs (FamR (a ++ b))]) :: bx) k).isSome = (get bx k).isSome := fun k => by
    rw [get_cons]
    by_cases e : i = k
    · subst e; rw [if_pos rfl, hb]; rfl
    · rw [if_neg e]
  have hou : ∀ k ok, get ow k = some ok → ∀ c, u.ownBlock = some c → (g.go k).ownBlock ≠ some c := fun k ok hk c hcu => (hS c (k4 c hcu)).2.2.2 k ok hk
  exact {
    lo := he.lo, gm := he.gm, sub := he.sub, ext := he.ext, gt := he.gt
    lb := fun k => by rw [hbs k]; exact he.lb k
    lw := fun k => by
      rw [get_cons]
      show (if k = j then true else g.lw k) = _
      by_cases e : k = j
      · subst e; simp
      · rw [if_neg e, if_neg (fun e' => e e'.symm)]; exact he.lw k
    ln := fun k ok hk => by
      rw [get_cons] at hk
      show (if k = j then o.rows.length else g.ln k) = _
      by_cases e : k = j
      · subst e; rw [if_pos rfl] at hk; injection hk with hk; subst hk; rw [if_pos rfl]
      · rw [if_neg (fun e' => e e'.symm)] at hk; rw [if_neg e]; exact he.ln k ok hk
    boxes := fun k cs hk hck => by
      obtain ⟨us, ty, h1, h2, h3, h4⟩ := he.boxes k cs (hbx k cs hk hck) hck
      exact ⟨us, ty, h1, h2, fun q x v hx hv => ⟨hAR _ _ (h3 q x v hx hv).1, (h3 q x v hx hv).2⟩, h4⟩
    inj := fun p q cp cq h1 h2 h3 h4 => he.inj p q cp cq (hbx p cp h1 h3) (hbx q cq h2 h4) h3 h4
    owns := fun k ok hk => by
      rw [get_cons] at hk
      rw [hgo]
      by_cases e : k = j
      · subst e; rw [if_pos rfl] at hk; injection hk with hk; subst hk
        rw [if_pos rfl]
        refine ⟨vs, k1, k2, k3, fun c hcu => ?_⟩
        obtain ⟨e1, e2, e3, e4⟩ := hS c (k4 c hcu)
        exact ⟨fun q => by rw [e2 q, vis_hid hh]; rfl, fun q cs hq hcq => e3 q cs (hbx q cs hq hcq) hcq, e1⟩
      · rw [if_neg (fun e' => e e'.symm)] at hk
        rw [if_neg e]
        obtain ⟨us, h1, h2, h3, h4⟩ := he.owns k ok hk
        exact ⟨us, h1, h2, h3, fun c hcu => ⟨(h4 c hcu).1, fun q cs hq hcq => (h4 c hcu).2.1 q cs (hbx q cs hq hcq) hcq, (h4 c hcu).2.2⟩⟩
    apart := fun p q op oq h1 h2 hpq c hcp => by
      rw [get_cons] at h1 h2
      rw [hgo] at hcp ⊢
      by_cases e : p = j
      · subst e
        rw [if_pos rfl] at hcp
        rw [if_neg (fun e' => hpq e'.symm)]
        rw [if_neg hpq] at h2
        exact hou q oq h2 c hcp
      · rw [if_neg (fun e' => e e'.symm)] at h1
        rw [if_neg e] at hcp
        by_cases e2 : q = j
        · subst e2
          rw [if_pos rfl]
          exact fun h => hou p op h1 c h hcp
        · rw [if_neg (fun e' => e2 e'.symm)] at h2
          rw [if_neg e2]
          exact he.apart p q op oq h1 h2 hpq c hcp
    pin := fun k ok hk hk2 => by
      rw [get_cons] at hk
      rw [hgo]
      by_cases e : k = j
      · subst e; rw [hp] at hk2; cases hk2
      · rw [if_neg (fun e' => e e'.symm)] at hk; rw [if_neg e]; exact he.pin k ok hk hk2
    pinb := fun k cs hk hk2 => by
      obtain ⟨c0, h0⟩ := Option.isSome_iff_exists.1 (show (get bx k).isSome = true by rw [← hbs k, hk]; rfl)
      exact he.pinb k c0 h0 hk2
    rs := by
      have hold : ∀ k R, get ((i, [A.rs (FamR (a ++ b))]) :: bx) k = some [.rs R] → (k = i ∧ R = FamR (a ++ b)) ∨ (k ≠ i ∧ get bx k = some [.rs R]) := fun k R hk => by
        rw [get_cons] at hk
        by_cases e : i = k
        · subst e; rw [if_pos rfl] at hk; injection hk with hk; injection hk with hk; injection hk with hk; exact .inl ⟨rfl, hk.symm⟩
        · rw [if_neg e] at hk; exact .inr ⟨fun e' => e e'.symm, hk⟩
      have hown : ∀ q oq, get ((j, o) :: ow) q = some oq → (q = j) ∨ (q ≠ j ∧ get ow q = some oq) := fun q oq hq => by
        rw [get_cons] at hq
        by_cases e : j = q
        · exact .inl e.symm
        · rw [if_neg e] at hq; exact .inr ⟨fun e' => e e'.symm, hq⟩
      refine ⟨fun k R hck hk => ?_, fun p q R R' hcp hcq h1 h2 hpq c hcc => ?_, fun k cs hck hk hk2 => ?_⟩
      · rcases hold k R hk with ⟨rfl, rfl⟩ | ⟨hne, hk⟩
        · refine ⟨⟨fun c hcs => ?_, fun q p hq => ?_, fun p q x y h1 h2 hpq => ?_⟩, fun c hcs => ?_⟩
          · rw [hsf, if_pos rfl, Bool.and_eq_true] at hcs
            exact f1 c hcs.1
          · obtain ⟨h5, h6⟩ := f2 (if q < a.length then q else q + 1) p (by rw [ins_get]; exact hq)
            refine ⟨h5, fun c hcu => ?_⟩
            rw [hsf, if_pos rfl, Bool.and_eq_true]
            refine ⟨h6 c hcu, noBlk_t ?_⟩
            intro hcu2
            have := f3 a.length (if q < a.length then q else q + 1) (u, o) p ins_at (by rw [ins_get]; exact hq) (by split <;> omega) c hcu2
            exact this hcu
          · exact f3 (if p < a.length then p else p + 1) (if q < a.length then q else q + 1) x y (by rw [ins_get]; exact h1) (by rw [ins_get]; exact h2) (by split <;> split <;> omega)
          · rw [hsf, if_pos rfl, Bool.and_eq_true] at hcs
            obtain ⟨e1, e2, e3, e4⟩ := hS c hcs.1
            refine ⟨e1, e2, fun q cs hq hcq => e3 q cs (hbx q cs hq hcq) hcq, fun q oq hq => ?_⟩
            rw [hgo]
            rcases hown q oq hq with rfl | ⟨hne, hq⟩
            · rw [if_pos rfl]; exact noBlk_s hcs.2
            · rw [if_neg hne]; exact e4 q oq hq
        · obtain ⟨e0, e5⟩ := r1 k R hck hk
          have hs : (g.openF i j u o.rows.length).sf k = g.sf k := by funext c; rw [hsf, if_neg hne]
          rw [hs]
          refine ⟨e0, fun c hcs => ?_⟩
          obtain ⟨e1, e2, e3, e4⟩ := e5 c hcs
          refine ⟨e1, e2, fun q cs hq hcq => e3 q cs (hbx q cs hq hcq) hcq, fun q oq hq => ?_⟩
          rw [hgo]
          rcases hown q oq hq with rfl | ⟨hne2, hq⟩
          · rw [if_pos rfl]
            intro hcu
            have := r2 k i R _ hck hc hk hb hne c hcs
            rw [k4 c hcu] at this; cases this
          · rw [if_neg hne2]; exact e4 q oq hq
      · have hss : ∀ k c, (g.openF i j u o.rows.length).sf k c = true → g.sf k c = true := fun k c h => by
          rw [hsf] at h
          split at h
          · rw [Bool.and_eq_true] at h; exact h.1
          · exact h
        have hgk : ∀ k R, chB k = true → get ((i, [A.rs (FamR (a ++ b))]) :: bx) k = some [.rs R] → ∃ R0, get bx k = some [.rs R0] := fun k R hck hk => by
          rcases hold k R hk with ⟨rfl, _⟩ | ⟨_, hk⟩
          · exact ⟨_, hb⟩
          · exact ⟨_, hk⟩
        obtain ⟨R0, h10⟩ := hgk p R hcp h1
        obtain ⟨R1, h20⟩ := hgk q R' hcq h2
        have := r2 p q R0 R1 hcp hcq h10 h20 hpq c (hss p c hcc)
        rw [hsf]
        split
        · rw [this]; rfl
        · exact this
      · obtain ⟨c0, h0⟩ := Option.isSome_iff_exists.1 (show (get bx k).isSome = true by rw [← hbs k, hk]; rfl)
        exact r3 k c0 hck h0 hk2 }
theorem ar_openF (he : EnvG C bx ow w m g) {i j : Nat} {u : Value} {n : Nat} (hj : get ow j = none) {x : A} {v : Value} (hx : AR m g x v) : AR m (g.openF i j u n) x v := hx.lift fun x v h => AR0.setO (m' := m) (v := u) (n := n) h (fun _ _ _ h => h) (i := j) (.inl (by rw [he.lw, hj]; rfl))
end
theorem weak_openF {N : Nat} {tm : List (Nat × A)} {bx : List (Nat × List A)} {ow : List (Nat × Own)} (s i j E : Nat) {a b : List (Value × Own)} {u : Value} {o : Own} (hs : get tm s = some (.t (.v u))) (hb : get bx i = some [.rs (FamR (a ++ (u, o) :: b))]) (hj : get ow j = none) (hc : chB i = true := by rfl) (hh : hid j = true := by rfl) (hp : Nat.ble 2000 j = false := by rfl) :
    Weak N ⟨tm, bx, ow⟩ ⟨(s, .own j o.rows.length) :: (E, .ev j o.rows.length u) :: tm, (i, [.rs (FamR (a ++ b))]) :: bx, (j, o) :: ow⟩ := .mk fun C ac w ⟨m, g, hr⟩ => by
  have he := hr.env
  have h1 := he.openF hc hb hj hh hp
  have hv : ac.eval (.tmp s) = u := tr_v (show TR m (.v u) _ from hr.tmps s _ hs)
  have hlw : (g.openF i j u o.rows.length).lw j = true := if_pos rfl
  have hln : (g.openF i j u o.rows.length).ln j = o.rows.length := if_pos rfl
  have hgo : (g.openF i j u o.rows.length).go j = u := if_pos rfl
  refine ⟨m, _, h1, hr.size, hr.defers, fun s' x hx => ?_⟩
  rw [get_cons] at hx
  by_cases e : s = s'
  · subst e
    rw [if_pos rfl] at hx; injection hx with hx; subst hx
    refine ⟨hlw, Nat.le_of_eq hln.symm, ?_, fun _ => by rw [hgo]; exact hv⟩
    rw [hv]
    obtain ⟨⟨_, f2, _⟩, _⟩ := he.rs.1 i _ hc hb
    obtain ⟨⟨vs, k1, _⟩, _⟩ := f2 a.length (u, o) ins_at
    rcases k1.2 with ⟨h5, h6⟩ | ⟨g5, cap, cur, h5, _⟩
    · dsimp only at h5 h6; exact ⟨none, 0, by rw [h5, h6]⟩
    · dsimp only at h5; exact ⟨some ⟨g5, 0, none⟩, cap, h5⟩
  · rw [if_neg e, get_cons] at hx
    by_cases e2 : E = s'
    · rw [if_pos e2] at hx; injection hx with hx; subst hx
      exact ⟨hlw, Nat.le_of_eq hln.symm, trivial, fun _ => hgo⟩
    · rw [if_neg e2] at hx
      exact ar_openF he hj (hr.tmps s' x hx)
end Go.Proofs.Ytabejnjnkpdjbaa.Sim
