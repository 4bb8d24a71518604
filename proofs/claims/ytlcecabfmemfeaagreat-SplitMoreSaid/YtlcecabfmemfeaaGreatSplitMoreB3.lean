/- Merged by bundle.py: SimY, SimSp9, SimV, SimW, SplitMore. -/
import Derived.Test.YtlcecabfmemfeaaGreatSplitMoreB2
import Derived.Test.YtlcecabfmemfeaaGreatSplitMoreB1
import Derived.Test.YtlcecabfmemfeaaGreatPlSplit4
/- A logic of states: operations that make and write boxes and rows, in a region that draws its order. -/
namespace Go.Proofs.YtlcecabfmemfeaaGreat.Sim
set_option linter.unusedVariables false
set_option linter.unusedSimpArgs false
open Go.RowKit Mem
section
variable {P : Program} {bx bx' : List (Nat × List A)} {ow ow' : List (Nat × Own)} {o : Oper} {ρ : Operand → Option A} {r : A}
theorem e_run (h : ∀ (C : Ctx) (m : Mm) (g : Gh) (w : World) (a : Act), EnvG C bx ow w m g → (∀ x ∈ o.op.operands.toList, ∀ y, ρ x = some y → AR m g y (a.eval x)) →
    ∃ v w' m' g', (execOp a.eval o).run P w = .ok (.value v) w' ∧ EnvG C bx' ow' w' m' g' ∧ AR m' g' r v ∧ ∀ x u, AR m g x u → AR m' g' x u) : EStep P bx ow o ρ r bx' ow' := .mk fun C m g w a Q he ho => by
  obtain ⟨v, w', m', g', h1, h2, h3, h4⟩ := h C m g w a he ho
  exact wp_of_run h1 ⟨v, m', g', rfl, h2, h3, h4⟩
/-- a literal of none: a row of the call's own -/
theorem e_build0 {t e sz by_ d : Nat} (ho : o.op = .buildSlice t 0 #[]) (hT : sliceE P t = some (e, sz, by_)) (hi : get ow d = none) (hp : Nat.ble 2000 d = false := by rfl) : EStep P bx ow o ρ (.own d 0) bx ((d, ⟨e, sz, []⟩) :: ow) := e_run fun C m g w a he _ => by
  obtain ⟨i', zv, hu, hi', _⟩ := sliceE_spec hT
  have hlw : g.lw d = false := by rw [he.lw, hi]; rfl
  obtain ⟨h8, h9⟩ := he.setO (hp := hp) (w' := w.alloc (.cells #[] e)) (i := d) (v := .slice (some ⟨w.heap.size, 0, none⟩) 0 0) (e := e) (sz := sz) (rows := []) (vs := []) (World.ownsRow_made w #[] 0 (Nat.zero_le _) (Nat.zero_le _) (by simp)) (fun r h => by cases h) ⟨rfl, fun j t v h => by simp at h⟩ (.inr hi) (.inr ⟨fun b hb => by injection hb with hb; subst hb; exact Nat.le_refl _, (Lo.refl w).alloc _⟩)
  refine ⟨.slice (some ⟨w.heap.size, 0, none⟩) 0 0, w.alloc (.cells #[] e), _, _, ?_, h8, ⟨by simp [Gh.setO], by simp [Gh.setO], ⟨_, _, rfl⟩, fun _ => by simp [Gh.setO]⟩, fun x u h => h.setO h9 (.inl hlw)⟩
  simp [execOp, ho, Instr.buildSlice, run_underlying hu, sizeOf, typeInfo, hi', Instr.fill, newRow]
  congr 2
  exact Array.eq_empty_of_size_eq_zero (by simp)
/-- an append to a row of the call's own -/
theorem e_append {t e sz by_ : Nat} {x z : Operand} {i n : Nat} {y' : A} {rows rows2 : List (List T)} (ho : o.op = .call { callee := .builtin .append, args := #[x, z], argTypes := #[t, t] })
    (hx : ρ x = some (.own i n)) (hi : get ow i = some ⟨e, sz, rows⟩) (hn : n = rows.length) (hz : ρ z = some y') (hz' : Vw ow y' (.sl sz rows2)) (hT : sliceE P t = some (e, sz, by_))
    (hb : (rows.length + rows2.length) * by_ ≤ 140737488355328) (hm : rows.length + rows2.length ≤ maxLen) (hp : Nat.ble 2000 i = false := by rfl) : EStep P bx ow o ρ (.own i (rows ++ rows2).length) bx ((i, ⟨e, sz, rows ++ rows2⟩) :: ow) := e_run fun C m g w a he hop => by
  obtain ⟨i', zv, hu, hi', hzz, h4, h5, h6, h7⟩ := sliceE_spec hT
  have hop1 := hop x (by simp [ho, Op.operands, Call.operands]) _ hx
  obtain ⟨hlw, _, hAx, hgo⟩ := hop1
  have hln := he.ln i _ hi
  have hvx := hgo (by rw [hln]; exact hn)
  have hvz : TR m (.sl sz rows2) (a.eval z) := hz'.ok he (hop z (by simp [ho, Op.operands, Call.operands]) _ hz)
  obtain ⟨vs, ho1, hrl, hc, hbk⟩ := he.owns i _ hi
  dsimp only at ho1 hrl hc hbk
  have hrl2 : ∀ r ∈ rows2, r.length = sz := by generalize a.eval z = vz at hvz; cases hvz with | sl _ _ A b off cap u hc hm' hA hr hu' ht => exact hr
  have hform : ∃ A cap, a.eval z = .slice A rows2.length cap := by generalize a.eval z = vz at hvz; cases hvz with | sl _ _ A b off cap => exact ⟨A, cap, rfl⟩
  obtain ⟨Az, capz, hvv⟩ := hform
  have hexec : ∀ v' w', (Builtin.append_ #[t, t] o.type #[a.eval x, a.eval z]).run P w = .ok v' w' → (execOp a.eval o).run P w = .ok (.value v') w' := fun v' w' hh => by
    simp only [execOp, ho, resolve, invoke, builtin, Sem.run_bind, Sem.run_pure, Result.andThen_ok, List.map_toArray, List.map_cons, List.map_nil, hh]
  rcases Nat.eq_zero_or_pos rows2.length with h0 | h0
  · have hr0 : rows2 = [] := List.eq_nil_of_length_eq_zero h0
    subst hr0
    obtain ⟨A, c, hA⟩ := hAx
    have hnc : n ≤ c := by
      obtain ⟨_, hcase⟩ := ho1
      rcases hcase with ⟨e1, e2⟩ | ⟨q, cap, cur, e1, _, _, e2, _⟩
      · omega
      · rw [← hvx, hA] at e1; injection e1 with e3 e4 e5; omega
    refine ⟨a.eval x, w, m, g, hexec _ _ (by rw [hvv, hA]; exact run_append_nothing (P := P) (w := w) t o.type e i' hu hi' A Az n c capz hnc), ?_, ?_, fun x u h => h⟩
    · rw [List.append_nil]
      refine he.same (fun j => rfl) fun j => ?_
      rw [get_cons]
      split
      · rename_i e'; subst e'; exact hi.symm
      · rfl
    · rw [List.append_nil, ← hn]
      exact hop x (by simp [ho, Op.operands, Call.operands]) _ hx
  · obtain ⟨b, off, us, rfl, hcu, hlu, hcell⟩ := TR.flat (hvv ▸ hvz) h0 h7
    obtain ⟨v', w', hrun, hown, hcase⟩ := run_append_own3 (P := P) w 0 t o.type e i' zv sz by_ hu hi' hzz h4 h5 h6 h7 (g.go i) rows.length vs ho1 ⟨b, off, none⟩ rows2.length capz us hlu (fun j u hj => by rw [addr_add]; exact he.sub _ _ _ (hcell j u hj)) hcu.one hm hb (Nat.zero_le _)
    obtain ⟨h8, h9⟩ := he.setO (hp := hp) (i := i) (v := v') (e := e) (sz := sz) (rows := rows ++ rows2) (vs := vs ++ us) (by rw [List.length_append]; exact hown) (fun r hr' => by
        rcases List.mem_append.1 hr' with hr' | hr'
        · exact hrl r hr'
        · exact hrl2 r hr') (by rw [List.flatten_append]; exact hc.app hcu) (.inl ⟨_, hi, by simp; omega⟩) (by
        rcases hcase with ⟨e1, e2⟩ | hf
        · exact .inl ⟨_, vis i vs, hi, e1, e2, vis_pre fun k u hk => by rw [List.getElem?_append_left (List.getElem?_eq_some_iff.1 hk).1]; exact hk, fun b hb k => (hbk b hb).1 k⟩
        · exact .inr hf)
    refine ⟨v', w', _, _, hexec _ _ (by rw [hvv, hvx]; exact hrun), h8, ?_, fun x u h => h.setO h9 (.inr (by rw [hln]; simp; omega))⟩
    refine ⟨by simp [Gh.setO], by simp [Gh.setO], ?_, fun _ => by simp [Gh.setO]⟩
    obtain ⟨_, hq⟩ := hown
    rcases hq with ⟨rfl, e2⟩ | ⟨q, cap, cur, rfl, _⟩
    · omega
    · exact ⟨some ⟨q, 0, none⟩, cap, by rw [List.length_append]⟩
/-- a struct's variable, its zero in it -/
theorem e_allocS {ty : TypeId} {d : Nat} {pl : List (Nat × Nat)} {zs : List Value} (hS : strI P ty = some (pl, zs)) (ho : o.op = .alloc ty) (hi : get bx d = none) (hp : Nat.ble 2000 d = false := by rfl) : EStep P bx ow o ρ (.bp d 0) ((d, zs.map fun v => A.t (T.v v)) :: bx) ow := e_run fun C m g w a he _ => by
  obtain ⟨it, z, h1, h2, h3, h4⟩ := strI_zero hS
  have hlb : g.lb d = false := by rw [he.lb, hi]; rfl
  refine ⟨.pointer (some ⟨w.heap.size, 0, none⟩), w.alloc (.cells z.cells ty), m, g.addB d w.heap.size, ?_, he.box hp hi (vs := z.cells) (ty := ty) ⟨by rw [h3]; simp, fun j x v hx hv => ?_⟩, ⟨by simp [Gh.addB], by simp [Gh.addB]⟩, fun x v h => h.addB hlb⟩
  · simp [execOp, ho, Instr.alloc, zeroValue, typeInfo, h1, h2, newVar, newRow]
  · rw [h3] at hv
    rw [List.getElem?_map, hv] at hx
    simp at hx; subst hx
    exact ⟨TR.v _, h4 v (List.mem_of_getElem? hv)⟩
/-- cells of a box written -/
theorem e_store {ty : TypeId} {x z : Operand} {y : A} {i off n : Nat} {ag : Bool} {cs : List A} (ho : o.op = .store ty x z) (hd : o.dst = none) (hx : ρ x = some (.bp i off)) (hz : ρ z = some y) (hk : y.okB = true)
    (hb : get bx i = some cs) (hT : tyI P ty = some (ag, n)) (hn : y.cells.length = n) (hf : Nat.ble (off + n) cs.length = true) : EStep P bx ow o ρ .any ((i, spl cs off y.cells) :: bx) ow := .mk fun C m g w a Q he hop => by
  obtain ⟨_, h1⟩ := hop x (by simp [ho, Op.operands]) _ hx
  have hv := acells_ok (hop z (by simp [ho, Op.operands]) _ hz) hk
  obtain ⟨vs, ty', hh, hs, hc, hw0, hm⟩ := he.boxes i cs hb
  obtain ⟨d', i', hu, hi', _, hsz⟩ := tyI_spec hT
  have hlen : (a.eval z).cells.toList.length = n := by rw [hv.1, hn]
  have hfit := Nat.le_of_ble_eq_true hf
  have hst := run_storeCells_at P (g.gb i) off ty' (a.eval z).cells.toList 0 vs w hh (by rw [hlen, Nat.add_zero, hs]; exact hfit) hv.one
  rw [Nat.add_zero] at hst
  have hca : ACells m g (spl cs off y.cells) (vs.toList.take off ++ (a.eval z).cells.toList ++ vs.toList.drop (off + (a.eval z).cells.toList.length)) := by
    have hc' : ACells m g cs vs.toList := ⟨by simpa using hs, fun j t v h2 h3 => hc j t v h2 (by simpa using h3)⟩
    rw [List.append_assoc]
    unfold spl
    rw [hv.1]
    exact (hc'.take off).app (hv.app (hc'.drop _))
  have hrun : (execOp a.eval o).run P w = .ok .skip (w.setRow (g.gb i) (vs.toList.take off ++ (a.eval z).cells.toList ++ vs.toList.drop (off + (a.eval z).cells.toList.length)).toArray) := by
    have hsz' : (a.eval z).cells.size = i'.size := by rw [hsz]; simpa using hlen
    have hsv : (storeVar ty ⟨g.gb i, off, none⟩ (a.eval z)).run P w = .ok () (w.setRow (g.gb i) (vs.toList.take off ++ (a.eval z).cells.toList ++ vs.toList.drop (off + (a.eval z).cells.toList.length)).toArray) := by
      generalize a.eval z = u at *
      simp [storeVar, sizeOf, typeInfo, hi', hsz']
      simpa [hsz'] using hst
    simp only [execOp, ho, h1, Instr.storeAt, Instr.sureAddr, Sem.run_bind, Sem.run_pure, Result.andThen_ok, hsv]
  unfold Oper.wp
  rw [hrun, Oper.upon_skip]
  refine ⟨undef, m, g, (by rw [hd]; try rfl), he.setB hb hh (by simpa using hca), trivial, fun x u h => h⟩
/-- an element's cells of a row that is the call's alone written -/
theorem e_store_own {ty e : TypeId} {x z : Operand} {y : A} {i nn sz k off n : Nat} {ag : Bool} {rows : List (List T)} {row ts : List T} {t : T} (hh : hid i = true) (ho : o.op = .store ty x z) (hd : o.dst = none) (hx : ρ x = some (.oe i nn sz k off)) (hi : get ow i = some ⟨e, sz, rows⟩) (hnn : nn = rows.length)
    (hz : ρ z = some y) (hv : Vw ow y t) (hk : t.okB = true) (hts : t.cells = ts) (hT : tyI P ty = some (ag, n)) (hn : ts.length = n) (hrow : rows[k]? = some row) (hf : Nat.ble (off + n) row.length = true) : EStep P bx ow o ρ .any bx ((i, ⟨e, sz, rows.set k (row.take off ++ (ts ++ row.drop (off + n)))⟩) :: ow) := .mk fun C m g w a Q he hop => by
  obtain ⟨h1, h2, _, h4⟩ := hop x (by simp [ho, Op.operands]) _ hx
  obtain ⟨b, h5, h6⟩ := h4 (by rw [he.ln i _ hi]; exact hnn)
  have hvt : TR m t (a.eval z) := hv.ok he (hop z (by simp [ho, Op.operands]) _ hz)
  have hca : ACells m g (ts.map A.t) (a.eval z).cells.toList := by
    have := acells_ok (m := m) (g := g) (y := .t t) hvt hk
    rw [← hts]; exact this
  obtain ⟨vs, hown, hrr, hc, _⟩ := he.owns i _ hi
  dsimp only at hown hrr hc
  have hfit := Nat.le_of_ble_eq_true hf
  have hkl : k < rows.length := (List.getElem?_eq_some_iff.1 hrow).1
  have hrl : row.length = sz := hrr row (List.mem_of_getElem? hrow)
  obtain ⟨b', cap, cur, e1, e2, e3, e4, e5, e6, e7⟩ := own_form hown (by omega)
  rw [e1] at h5; injection h5 with h5; subst h5
  have hus : (a.eval z).cells.toList.length = n := by rw [hca.1]; simp [hn]
  have hoff : k * sz + off + n ≤ cur.size := by
    have hks : k * sz + sz ≤ rows.length * sz := by rw [← Nat.succ_mul]; exact Nat.mul_le_mul_right _ hkl
    have : rows.length * sz ≤ cap * sz := Nat.mul_le_mul_right _ e4
    omega
  have hst := run_storeCells_at P b' (k * sz + off) e (a.eval z).cells.toList 0 cur w e3 (by rw [hus, Nat.add_zero]; exact hoff) hca.one
  rw [Nat.add_zero] at hst
  obtain ⟨d', i', hu, hi', _, hsz⟩ := tyI_spec hT
  have hrun : (execOp a.eval o).run P w = .ok .skip (w.setRow b' (cur.toList.take (k * sz + off) ++ (a.eval z).cells.toList ++ cur.toList.drop (k * sz + off + (a.eval z).cells.toList.length)).toArray) := by
    have hsz' : (a.eval z).cells.size = i'.size := by rw [hsz]; simpa using hus
    have hsv : (storeVar ty ⟨b', k * sz + off, none⟩ (a.eval z)).run P w = .ok () (w.setRow b' (cur.toList.take (k * sz + off) ++ (a.eval z).cells.toList ++ cur.toList.drop (k * sz + off + (a.eval z).cells.toList.length)).toArray) := by
      generalize a.eval z = u at *
      simp [storeVar, sizeOf, typeInfo, hi', hsz']
      simpa [hsz'] using hst
    simp only [execOp, ho, h6, Instr.storeAt, Instr.sureAddr, Sem.run_bind, Sem.run_pure, Result.andThen_ok, hsv]
  unfold Oper.wp
  rw [hrun, Oper.upon_skip]
  refine ⟨undef, m, g, (by rw [hd]; try rfl), he.setE (rows := rows) (rows' := rows.set k (row.take off ++ (ts ++ row.drop (off + n)))) (vs' := vs.take (k * sz + off) ++ ((a.eval z).cells.toList ++ vs.drop (k * sz + off + n))) hh hi (by simp) e1 e3 ?_ ?_ ?_ ?_, trivial, fun x u h => h⟩
  · intro r0 hr0
    rcases List.mem_or_eq_of_mem_set hr0 with h7 | h7
    · exact hrr r0 h7
    · subst h7; simp; omega
  · have hks : (k + 1) * sz ≤ rows.length * sz := Nat.mul_le_mul_right _ hkl
    rw [Nat.succ_mul] at hks
    have hfl := flat_len hrr
    have hF : rows.flatten = rows.flatten.take (k * sz) ++ (row ++ rows.flatten.drop (k * sz + sz)) := by
      conv => lhs; rw [← set_self hrow]
      exact flat_set hrr hrow hrl
    have hta : (rows.flatten.take (k * sz)).length = k * sz := by rw [List.length_take]; omega
    have h8 := take_mid (rows.flatten.take (k * sz)) row (rows.flatten.drop (k * sz + sz)) off (by omega)
    have h9 := drop_mid (rows.flatten.take (k * sz)) row (rows.flatten.drop (k * sz + sz)) (off + n) hfit
    rw [← hF, hta] at h8 h9
    rw [flat_set hrr hrow (by simp; omega)]
    rw [List.append_assoc, List.append_assoc, ← h9, ← List.append_assoc, ← h8]
    have hts2 : CellsAre m ts (a.eval z).cells.toList := ⟨by rw [hus, hn], fun j t v h10 h11 => hca.2 j (.t t) v (by rw [List.getElem?_map, h10]; rfl) h11⟩
    exact (hc.take _).app (hts2.app (by rw [show k * sz + off + n = k * sz + (off + n) by omega]; exact hc.drop _))
  · have hus' : (a.eval z).cells.size = n := by simpa using hus
    simp; omega
  · have hks : (k + 1) * sz ≤ rows.length * sz := Nat.mul_le_mul_right _ hkl
    rw [Nat.succ_mul] at hks
    have hL : rows.length * sz ≤ cur.size := by rw [e6]; exact Nat.mul_le_mul_right _ e4
    have hl1 : (cur.toList.take (k * sz + off)).length = k * sz + off := by simp; omega
    rw [← e7]
    simp only [List.append_assoc]
    rw [List.take_append, hl1, List.take_of_length_le (show (cur.toList.take (k * sz + off)).length ≤ rows.length * sz by omega), List.take_append, List.take_of_length_le (show (a.eval z).cells.toList.length ≤ rows.length * sz - (k * sz + off) by omega), hus, Nat.sub_sub]
    rw [List.take_take, Nat.min_eq_left (by omega), List.drop_take]
end
end Go.Proofs.YtlcecabfmemfeaaGreat.Sim

/- split.L4 whose row is the caller's own. -/
namespace Go.Proofs.YtlcecabfmemfeaaGreat.Pol
set_option linter.unusedVariables false
set_option linter.unusedSimpArgs false
open Go.RowKit Mem Sim Opn
abbrev OwT (D K : Nat) (xs : List Pl.Policy) : List (Nat × Own) := [(1005, ⟨50, 5, (xs.map (Pl.halfP D K)).map polT⟩)]
def MTL (fd fa : FuncId) (D K : Nat) (xs : List Pl.Policy) (t0 : T) (al : Int) (k : Nat) : St := ⟨[(1, CL3), (5, .own 1005 (((xs.take k).map (Pl.halfP D K)).map polT).length), (8, .t (.sl 5 (xs.map polT))), (9, .t (.v (.int .i64 (xs.length : Int)))), (10, .t (.v (.int .i64 (k : Int))))], TB fd fa t0 (alK xs al k), [(1005, ⟨50, 5, ((xs.take k).map (Pl.halfP D K)).map polT⟩)]⟩
set_option maxRecDepth 100000 in
set_option maxHeartbeats 2000000 in
theorem mapTableL (fd fa : FuncId) (D K : Nat) (hD : RulesL fd D) (hA : RulesL fa K) (xs : List Pl.Policy) (hp : ∀ p ∈ xs, FewP p) (hn : xs.length ≤ 1000) (t0 : T) (al : Int) :
    LCalls Tryz.prog 29 [.t (.sl 5 (xs.map polT)), CL3] (TB fd fa t0 al) [] (.own 1005 ((xs.map (Pl.halfP D K)).map polT).length) (TB fd fa t0 (alK xs al xs.length)) (OwT D K xs) := by
  have hm1 : (xs.map polT).length = xs.length := List.length_map _
  refine lcalls_of Tryz.func29 rfl rfl Tryz.ntmps29 rfl ?_
  repeat' (first
    | refine then_go ?_
    | refine swp_seq ?_
    | ((refine swp_region (id := 0) ?_) <;> (refine sops_pure (.free rfl rfl) rfl rfl (po_assign rfl rfl) ?_) <;> (refine sops_nil ?_))
    | ((refine swp_region (id := 1) ?_) <;> (refine sops_pure (.free rfl rfl) rfl rfl (po_assign rfl rfl) ?_) <;> (refine sops_nil ?_))
    | ((refine swp_region (id := 2) ?_) <;> (refine sops_pure (.free rfl rfl) rfl rfl (po_move rfl rfl) ?_) <;> (refine sops_pure (.free rfl rfl) rfl rfl (pln rfl (tyS rfl)) ?_) <;> (refine sops_pure (.free rfl rfl) rfl rfl (po_move rfl rfl) ?_) <;> (refine sops_nil ?_))
    | refine swp_ret ?_
    | refine swp_skip ?_
    | refine swp_block ?_
    | refine swp_exit ?_
    | refine block_go ?_
    | refine block_exit ?_
    | refine block_far rfl ?_
    | refine block_ret ?_
    | refine then_ret ?_
    | refine then_exit ?_
    | refine for_ret ?_
    | refine for_exit ?_
    | refine ct ?_
    | refine cf ?_
    | refine swp_cond rfl (fun hc => ?_) (fun hc => ?_)
    | refine retq (by first | exact .inr rfl | exact .inl rfl) rfl (.tmp rfl (by first | exact .t _ | exact .own rfl (by first | rfl | assumption | (simp; done) | (simp; omega)) | exact .nil _ | exact .emp _ | exact .fn _) .nil) ?_)
  refine swp_for (MTL fd fa D K xs t0 al) (fun _ => True) xs.length ?_ trivial ?_
  · refine Weak.trans (weak_own0 (i := 1005) 50 5 (s := 5) rfl rfl) ?_
    exact (weak_sub (.cons rfl (by first | rfl | (exact congrArg (fun n : Nat => A.t (.v (.int .i64 (n : Int)))) hm1)) rfl (.cons rfl (by first | rfl | (exact congrArg (fun n : Nat => A.t (.v (.int .i64 (n : Int)))) hm1)) rfl (.cons rfl (by first | rfl | (exact congrArg (fun n : Nat => A.t (.v (.int .i64 (n : Int)))) hm1)) rfl (.cons rfl (by first | rfl | (exact congrArg (fun n : Nat => A.t (.v (.int .i64 (n : Int)))) hm1)) rfl (.cons rfl (by first | rfl | (exact congrArg (fun n : Nat => A.t (.v (.int .i64 (n : Int)))) hm1)) rfl .nil))))) (.cons rfl (by first | rfl | (exact congrArg (fun n : Nat => A.t (.v (.int .i64 (n : Int)))) hm1)) rfl (.cons rfl (by first | rfl | (exact congrArg (fun n : Nat => A.t (.v (.int .i64 (n : Int)))) hm1)) rfl (.cons rfl (by first | rfl | (exact congrArg (fun n : Nat => A.t (.v (.int .i64 (n : Int)))) hm1)) rfl .nil))) (.cons rfl (by first | rfl | (exact congrArg (fun n : Nat => A.t (.v (.int .i64 (n : Int)))) hm1)) .nil))
  intro k hk _
  unfold MTL
  by_cases hlt : k < xs.length
  · have c1 := table1 fd fa D K hD hA _ (hp _ (List.getElem_mem hlt)) t0 (alK xs al k)
    rw [alK_succ hlt] at c1
    have hsn := mapmap_take_succ polT (Pl.halfP D K) hlt
    have g1 : ((((xs.take k).map (Pl.halfP D K)).map polT).length + 1) * 64 ≤ 140737488355328 := by rw [mmt_len]; have := Nat.min_le_right k xs.length; omega
    have g2 : (((xs.take k).map (Pl.halfP D K)).map polT).length + 1 ≤ maxLen := by rw [mmt_len]; have := Nat.min_le_right k xs.length; unfold maxLen; omega
    repeat' (first
      | refine then_go ?_
      | refine swp_seq ?_
      | refine for_next hlt (weak_sub (.cons rfl (by first | rfl | (rw [hsn]; try rfl)) rfl (.cons rfl (by first | rfl | (rw [hsn]; try rfl)) rfl (.cons rfl (by first | rfl | (rw [hsn]; try rfl)) rfl (.cons rfl (by first | rfl | (rw [hsn]; try rfl)) rfl (.cons rfl (by first | rfl | (rw [hsn]; try rfl)) rfl .nil))))) (.cons rfl (by first | rfl | (rw [hsn]; try rfl)) rfl (.cons rfl (by first | rfl | (rw [hsn]; try rfl)) rfl (.cons rfl (by first | rfl | (rw [hsn]; try rfl)) rfl .nil))) (.cons rfl (by first | rfl | (rw [hsn]; try rfl)) .nil)) trivial
      | ((refine swp_region (id := 3) ?_) <;> (refine sops_pure (.free rfl rfl) rfl rfl (po_cmp rfl rfl rfl rfl) ?_) <;> (refine sops_nil ?_))
      | ((refine swp_region (id := 4) ?_) <;> (first | refine sops_pure (.free rfl rfl) rfl rfl (po_index_own rfl rfl rfl (by first | rfl | assumption | omega | (simp; done) | (simp; omega) | (simp at *; omega)) rfl (tyS rfl) (by first | rfl | omega) (by first | assumption | omega)) ?_ | refine sops_pure (.free rfl rfl) rfl rfl (pix rfl (tyS rfl)) ?_) <;> (first | refine sops_pure (.free rfl rfl) rfl rfl (po_load_bx_agg rfl rfl (tyT rfl) rfl (vc (vc (vc (vc (vc .nil))))) rfl) ?_ | refine sops_pure (.free rfl rfl) rfl rfl (po_load_agg rfl rfl (tyT rfl) rfl rfl) ?_ | refine sops_pure (.free rfl rfl) rfl rfl (po_load_own_agg rfl rfl rfl (by first | rfl | assumption | omega | (simp; done) | (simp; omega) | (simp at *; omega)) (tyT rfl) (by first | rfl | assumption | exact map_at (by first | assumption | omega)) rfl rfl) ?_ | refine sops_pure (.free rfl rfl) rfl rfl (po_load_bx_ag rfl rfl (tyT rfl) rfl rfl rfl rfl) ?_) <;> (refine sops_allocS str50 (.free rfl rfl) rfl rfl rfl rfl ?_) <;> (first | refine sops_store (.free rfl rfl) rfl rfl rfl rfl rfl rfl (tyT rfl) rfl rfl ?_ | refine sops_store_own (by rfl) (.free rfl rfl) rfl rfl rfl rfl (by first | rfl | assumption | omega | (simp; done) | (simp; omega) | (simp at *; omega)) rfl (by first | exact .t _ | exact .own rfl (by first | rfl | assumption | (simp; done) | (simp; omega)) | exact .nil _ | exact .emp _ | exact .fn _) rfl rfl (tyT rfl) rfl (by first | rfl | assumption | exact map_at (by first | assumption | omega)) rfl ?_) <;> (refine sops_nil ?_))
      | ((refine swp_region (id := 5) ?_) <;> (refine sops_pure (.free rfl rfl) rfl rfl (po_move rfl rfl) ?_) <;> (refine sops_pure (.free rfl rfl) rfl rfl (po_move rfl rfl) ?_) <;> (first | refine sops_pure (.free rfl rfl) rfl rfl (po_load_bx_agg rfl rfl (tyT rfl) rfl (vc (vc (vc (vc (vc .nil))))) rfl) ?_ | refine sops_pure (.free rfl rfl) rfl rfl (po_load_agg rfl rfl (tyT rfl) rfl rfl) ?_ | refine sops_pure (.free rfl rfl) rfl rfl (po_load_own_agg rfl rfl rfl (by first | rfl | assumption | omega | (simp; done) | (simp; omega) | (simp at *; omega)) (tyT rfl) (by first | rfl | assumption | exact map_at (by first | assumption | omega)) rfl rfl) ?_ | refine sops_pure (.free rfl rfl) rfl rfl (po_load_bx_ag rfl rfl (tyT rfl) rfl rfl rfl rfl) ?_) <;> (first | refine sops_lcall_tclo (args := [_]) (caps := [_, _, _]) (c1) (fun i => i) (fun i => i) (fun _ => false) (.free rfl rfl) rfl rfl rfl rfl (by first | ((repeat' (first | exact .nil | refine .cons rfl rfl rfl ?_ | refine .vw rfl (by first | exact .t _ | exact .own rfl (by first | rfl | assumption | (simp; done) | (simp; omega)) | exact .nil _ | exact .emp _ | exact .fn _) ?_)) <;> fail) | fail) (.cons rfl rfl (.cons rfl rfl (.cons rfl rfl .nil))) .nil rfl rfl (fun _ h => Bool.noConfusion h) ?_ | refine sops_lcall_clo (args := [_]) (caps0 := [_, _, _]) (c1) (fun i => i) (fun i => i) (fun _ => false) (.free rfl rfl) rfl rfl rfl rfl rfl rfl (by first | ((repeat' (first | exact .nil | refine .cons rfl rfl rfl ?_ | refine .vw rfl (by first | exact .t _ | exact .own rfl (by first | rfl | assumption | (simp; done) | (simp; omega)) | exact .nil _ | exact .emp _ | exact .fn _) ?_)) <;> fail) | fail) (.cons rfl rfl (.cons rfl rfl (.cons rfl rfl .nil))) .nil rfl rfl (fun _ h => Bool.noConfusion h) ?_) <;> (refine sops_pure (.free rfl rfl) rfl rfl (po_buildSlice rfl (tyE rfl) (dc (.nil _)) rfl rfl rfl) ?_) <;> (first | refine sap rfl (tyE rfl) ?_ | refine san rfl (tyE rfl) ?_) <;> (refine sops_pure (.free rfl rfl) rfl rfl (po_assign rfl rfl) ?_) <;> (refine sops_nil ?_))
      | ((refine swp_region (id := 6) ?_) <;> (first | refine sops_pure (.free rfl rfl) rfl rfl (po_inc rfl rfl rfl (by omega)) ?_ | refine sops_pure (.free rfl rfl) rfl rfl (po_arith rfl rfl rfl (ar_add (by first | rfl | (refine wrap_i64 ?_; omega)) rfl)) ?_) <;> (refine sops_pure (.free rfl rfl) rfl rfl (po_move rfl rfl) ?_) <;> (refine sops_nil ?_))
      | refine swp_ret ?_
      | refine swp_skip ?_
      | refine swp_block ?_
      | refine swp_exit ?_
      | refine block_go ?_
      | refine block_exit ?_
      | refine block_far rfl ?_
      | refine block_ret ?_
      | refine then_ret ?_
      | refine then_exit ?_
      | refine for_ret ?_
      | refine for_exit ?_
      | refine ct ?_
      | refine cf ?_
      | refine swp_cond rfl (fun hc => ?_) (fun hc => ?_)
      | refine retq (by first | exact .inr rfl | exact .inl rfl) rfl (.tmp rfl (by first | exact .t _ | exact .own rfl (by first | rfl | assumption | (simp; done) | (simp; omega)) | exact .nil _ | exact .emp _ | exact .fn _) .nil) ?_)
  · obtain rfl : k = xs.length := by omega
    rw [List.take_length]
    repeat' (first
      | refine then_go ?_
      | refine swp_seq ?_
      | ((refine swp_region (id := 3) ?_) <;> (refine sops_pure (.free rfl rfl) rfl rfl (po_cmp rfl rfl rfl rfl) ?_) <;> (refine sops_nil ?_))
      | ((refine swp_region (id := 7) ?_) <;> (refine sops_pure (.free rfl rfl) rfl rfl (po_move rfl rfl) ?_) <;> (refine sops_pure (.free rfl rfl) rfl rfl (po_assign rfl rfl) ?_) <;> (refine sops_nil ?_))
      | refine swp_ret ?_
      | refine swp_skip ?_
      | refine swp_block ?_
      | refine swp_exit ?_
      | refine block_go ?_
      | refine block_exit ?_
      | refine block_far rfl ?_
      | refine block_ret ?_
      | refine then_ret ?_
      | refine then_exit ?_
      | refine for_ret ?_
      | refine for_exit ?_
      | refine ct ?_
      | refine cf ?_
      | refine swp_cond rfl (fun hc => ?_) (fun hc => ?_)
      | exact retl1 (by first | exact .inr rfl | exact .inl rfl) rfl (.tmp rfl rfl .nil) rfl (.cons rfl (by first | rfl | assumption | (symm; assumption)) rfl (.cons rfl (by first | rfl | assumption | (symm; assumption)) rfl (.cons rfl (by first | rfl | assumption | (symm; assumption)) rfl .nil))) (.cons rfl (by first | rfl | assumption | (symm; assumption)) .nil)
      | refine retl (by first | exact .inr rfl | exact .inl rfl) rfl (.tmp rfl rfl .nil) ?_ rfl (.cons rfl (by first | rfl | assumption | (symm; assumption)) rfl (.cons rfl (by first | rfl | assumption | (symm; assumption)) rfl (.cons rfl (by first | rfl | assumption | (symm; assumption)) rfl .nil))) (.cons rfl (by first | rfl | assumption | (symm; assumption)) .nil))
set_option maxRecDepth 100000 in
set_option maxHeartbeats 2000000 in
theorem tableL (fd fa : FuncId) (D K : Nat) (hD : RulesL fd D) (hA : RulesL fa K) (xs : List Pl.Policy) (hp : ∀ p ∈ xs, FewP p) (hn : xs.length ≤ 1000) :
    LCalls Tryz.prog 38 [.t (.sl 5 (xs.map polT)), .t (.clo fd []), .t (.clo fa [])] [] [] (.ag [.own 1005 ((xs.map (Pl.halfP D K)).map polT).length, .t (.v (.int .i64 (Pl.allowsP xs)))]) [] (OwT D K xs) := by
  have c1 := mapTableL fd fa D K hD hA xs hp hn (.v (.slice none 0 0)) 0
  rw [alK_all] at c1
  refine lcalls_of Tryz.func38 rfl rfl Tryz.ntmps38 rfl ?_
  repeat' (first
    | refine then_go ?_
    | refine swp_seq ?_
    | ((refine swp_region (id := 0) ?_) <;> (refine sops_box (.free rfl rfl) rfl rfl rfl rfl rfl rfl ?_) <;> (refine sops_box (.free rfl rfl) rfl rfl rfl rfl rfl rfl ?_) <;> (refine sops_allocS str24 (.free rfl rfl) rfl rfl rfl rfl ?_) <;> (refine sops_nil ?_))
    | ((refine swp_region (id := 1) ?_) <;> (refine sops_pure (.free rfl rfl) rfl rfl (po_move rfl rfl) ?_) <;> (first | refine sops_pure (.free rfl rfl) rfl rfl (po_func rfl (ac (ac (ac .nil)))) ?_ | refine sops_pure (.free rfl rfl) rfl rfl (po_func_cl rfl (.cons rfl rfl (.cons rfl rfl (.cons rfl rfl .nil)))) ?_) <;> (refine sops_lcall (c1) (fbOf [(2000, 4), (2001, 5), (2002, 6)]) (fun i => i) (fun _ => false) (.free rfl rfl) rfl rfl rfl (by first | ((repeat' (first | exact .nil | refine .cons rfl rfl rfl ?_ | refine .vw rfl (by first | exact .t _ | exact .own rfl (by first | rfl | assumption | (simp; done) | (simp; omega)) | exact .nil _ | exact .emp _ | exact .fn _) ?_)) <;> fail) | fail) (.cons rfl rfl (.cons rfl rfl (.cons rfl rfl .nil))) .nil rfl rfl (fun _ h => Bool.noConfusion h) ?_) <;> (first | refine sops_pure (.free rfl rfl) rfl rfl (po_field_bx rfl rfl (tyF rfl)) ?_ | refine sops_pure (.free rfl rfl) rfl rfl (po_field rfl rfl (tyF rfl)) ?_ | refine sops_pure (.free rfl rfl) rfl rfl (po_field_own rfl rfl rfl (by first | rfl | assumption | omega | (simp; done) | (simp; omega) | (simp at *; omega)) (tyF rfl)) ?_) <;> (first | refine sops_store (.free rfl rfl) rfl rfl rfl rfl rfl rfl (tyT rfl) rfl rfl ?_ | refine sops_store_own (by rfl) (.free rfl rfl) rfl rfl rfl rfl (by first | rfl | assumption | omega | (simp; done) | (simp; omega) | (simp at *; omega)) rfl (by first | exact .t _ | exact .own rfl (by first | rfl | assumption | (simp; done) | (simp; omega)) | exact .nil _ | exact .emp _ | exact .fn _) rfl rfl (tyT rfl) rfl (by first | rfl | assumption | exact map_at (by first | assumption | omega)) rfl ?_) <;> (refine sops_nil ?_))
    | ((refine swp_region (id := 2) ?_) <;> (first | refine sops_pure (.free rfl rfl) rfl rfl (po_load_bx_agg rfl rfl (tyT rfl) rfl (vc (vc .nil)) rfl) ?_ | refine sops_pure (.free rfl rfl) rfl rfl (po_load_agg rfl rfl (tyT rfl) rfl rfl) ?_ | refine sops_pure (.free rfl rfl) rfl rfl (po_load_own_agg rfl rfl rfl (by first | rfl | assumption | omega | (simp; done) | (simp; omega) | (simp at *; omega)) (tyT rfl) (by first | rfl | assumption | exact map_at (by first | assumption | omega)) rfl rfl) ?_ | refine sops_pure (.free rfl rfl) rfl rfl (po_load_bx_ag rfl rfl (tyT rfl) rfl rfl rfl rfl) ?_) <;> (first | refine sops_store (.free rfl rfl) rfl rfl rfl rfl rfl rfl (tyT rfl) rfl rfl ?_ | refine sops_store_own (by rfl) (.free rfl rfl) rfl rfl rfl rfl (by first | rfl | assumption | omega | (simp; done) | (simp; omega) | (simp at *; omega)) rfl (by first | exact .t _ | exact .own rfl (by first | rfl | assumption | (simp; done) | (simp; omega)) | exact .nil _ | exact .emp _ | exact .fn _) rfl rfl (tyT rfl) rfl (by first | rfl | assumption | exact map_at (by first | assumption | omega)) rfl ?_) <;> (refine sops_nil ?_))
    | refine swp_ret ?_
    | refine swp_skip ?_
    | refine swp_block ?_
    | refine swp_exit ?_
    | refine block_go ?_
    | refine block_exit ?_
    | refine block_far rfl ?_
    | refine block_ret ?_
    | refine then_ret ?_
    | refine then_exit ?_
    | refine for_ret ?_
    | refine for_exit ?_
    | refine ct ?_
    | refine cf ?_
    | refine swp_cond rfl (fun hc => ?_) (fun hc => ?_)
    | exact retl1 (by first | exact .inr rfl | exact .inl rfl) rfl (.cell rfl rfl (tyT rfl) rfl rfl .nil) rfl .nil (.cons rfl (by first | rfl | assumption | (symm; assumption)) .nil)
    | refine retl (by first | exact .inr rfl | exact .inl rfl) rfl (.cell rfl rfl (tyT rfl) rfl rfl .nil) ?_ rfl .nil (.cons rfl (by first | rfl | assumption | (symm; assumption)) .nil))
set_option maxRecDepth 100000 in
set_option maxHeartbeats 1000000 in
theorem l4L (xs : List Pl.Policy) (hp : ∀ p ∈ xs, FewP p) (hn : xs.length ≤ 1000) : LCalls Tryz.prog 14 [.t (.sl 5 (xs.map polT))] [] [] (.ag [.own 1005 ((xs.map (Pl.halfP 0 1)).map polT).length, .t (.v (.int .i64 (Pl.allowsP xs)))]) [] (OwT 0 1 xs) := by
  have c1 := tableL 39 31 0 1 blindL halvedL xs hp hn
  refine lcalls_of Tryz.func14 rfl rfl Tryz.ntmps14 rfl ?_
  repeat' (first
    | refine then_go ?_
    | refine swp_seq ?_
    | ((refine swp_region (id := 0) ?_) <;> (refine sops_allocS str24 (.free rfl rfl) rfl rfl rfl rfl ?_) <;> (refine sops_nil ?_))
    | ((refine swp_region (id := 1) ?_) <;> (refine sops_pure (.free rfl rfl) rfl rfl (po_move rfl rfl) ?_) <;> (refine sops_lcall (c1) (fun i => i) (fun i => i) (fun _ => false) (.free rfl rfl) rfl rfl rfl (by first | ((repeat' (first | exact .nil | refine .cons rfl rfl rfl ?_ | refine .vw rfl (by first | exact .t _ | exact .own rfl (by first | rfl | assumption | (simp; done) | (simp; omega)) | exact .nil _ | exact .emp _ | exact .fn _) ?_)) <;> fail) | fail) .nil .nil rfl rfl (fun _ h => Bool.noConfusion h) ?_) <;> (refine sops_store (.free rfl rfl) rfl rfl rfl rfl rfl rfl (tyT rfl) rfl rfl ?_) <;> (refine sops_nil ?_))
    | refine swp_ret ?_
    | refine swp_skip ?_
    | refine swp_block ?_
    | refine swp_exit ?_
    | refine block_go ?_
    | refine block_exit ?_
    | refine block_far rfl ?_
    | refine block_ret ?_
    | refine then_ret ?_
    | refine then_exit ?_
    | refine for_ret ?_
    | refine for_exit ?_
    | refine ct ?_
    | refine cf ?_
    | refine swp_cond rfl (fun hc => ?_) (fun hc => ?_)
    | exact retl1 (by first | exact .inr rfl | exact .inl rfl) rfl (.cell rfl rfl (tyT rfl) rfl rfl .nil) rfl .nil (.cons rfl (by first | rfl | assumption | (symm; assumption)) .nil)
    | refine retl (by first | exact .inr rfl | exact .inl rfl) rfl (.cell rfl rfl (tyT rfl) rfl rfl .nil) ?_ rfl .nil (.cons rfl (by first | rfl | assumption | (symm; assumption)) .nil))
end Go.Proofs.YtlcecabfmemfeaaGreat.Pol

/- A logic of states: a struct value's field. -/
namespace Go.Proofs.YtlcecabfmemfeaaGreat.Sim
set_option linter.unusedVariables false
set_option linter.unusedSimpArgs false
open Go.RowKit Mem
/-- a field of one cell: its place -/
def field1 (P : Program) (s : TypeId) (f : Nat) : Option Nat := match P.underlying s with
  | some (.struct fs) => match fs[f]? with
    | some fd => match tyI P fd.type with
      | some (false, _) => some fd.offset
      | _ => none
    | none => none
  | _ => none
theorem field1_spec {P : Program} {s f k : Nat} (h : field1 P s f = some k) : ∃ fs fd n, P.underlying s = some (.struct fs) ∧ fs[f]? = some fd ∧ tyI P fd.type = some (false, n) ∧ fd.offset = k := by
  unfold field1 at h
  split at h
  · rename_i fs hu
    split at h
    · rename_i fd hf
      split at h
      · rename_i n ht; injection h with h; exact ⟨fs, fd, n, hu, hf, ht, h⟩
      · cases h
    · cases h
  · cases h
section
variable {P : Program} {bx : List (Nat × List A)} {ow : List (Nat × Own)} {o : Oper} {ρ : Operand → Option A} {r : A}
theorem po_fieldv {s f k : Nat} {x : Operand} {cs : List T} {t : T} (ho : o.op = .field s x f) (hx : ρ x = some (.t (.agg cs))) (hk : field1 P s f = some k) (ht : cs[k]? = some t) : PureOp P bx ow o ρ (.t t) := pure_run fun C m g w a he h => by
  have h1 : TR m (.agg cs) (a.eval x) := h x (by simp [ho, Op.operands]) _ hx
  obtain ⟨fs, fd, n, hu, hf, hT, hoff⟩ := field1_spec hk
  obtain ⟨d, i, hu', hi, hd, hs⟩ := tyI_spec hT
  generalize hv : a.eval x = v at h1
  cases h1 with
  | agg _ vs hl h2 h3 =>
    have hlt : k < vs.size := by rw [hl]; exact (List.getElem?_eq_some_iff.1 ht).1
    have hagg : (isAgg fd.type).run P w = .ok false w := by
      unfold isAgg
      rw [Sem.run_bind, run_underlying hu' w]
      cases d <;> simp_all
    refine ⟨vs[k], ?_, h3 k t _ ht (by simp [hlt])⟩
    simp [execOp, ho, hv, Instr.field, run_underlying hu, hf, asAgg, part, hagg, hoff, hlt]
end
end Go.Proofs.YtlcecabfmemfeaaGreat.Sim

/- A logic of states: the greater, the smaller one of two numbers. -/
namespace Go.Proofs.YtlcecabfmemfeaaGreat.Sim
set_option linter.unusedVariables false
set_option linter.unusedSimpArgs false
open Go.RowKit Mem
section
variable {P : Program} {bx : List (Nat × List A)} {ow : List (Nat × Own)} {o : Oper} {ρ : Operand → Option A} {r : A}
theorem po_max {x y : Operand} {ts : Array TypeId} {k : IntKind} {i j : Int} (ho : o.op = .call { callee := .builtin .max, args := #[x, y], argTypes := ts }) (hx : ρ x = some (.t (.v (.int k i)))) (hy : ρ y = some (.t (.v (.int k j)))) : PureOp P bx ow o ρ (.t (.v (.int k (max i j)))) := pure_run fun C m g w a he h => by
  have h1 := tr_v (h x (by simp [ho, Op.operands, Call.operands]) _ hx)
  have h2 := tr_v (h y (by simp [ho, Op.operands, Call.operands]) _ hy)
  have e : (if j > i then j else i) = max i j := by
    rw [Int.max_def]
    split <;> split <;> omega
  refine ⟨_, ?_, .v _⟩
  simp [execOp, ho, resolve, invoke, builtin, h1, h2, Builtin.max_, Builtin.max2, e]
theorem po_min {x y : Operand} {ts : Array TypeId} {k : IntKind} {i j : Int} (ho : o.op = .call { callee := .builtin .min, args := #[x, y], argTypes := ts }) (hx : ρ x = some (.t (.v (.int k i)))) (hy : ρ y = some (.t (.v (.int k j)))) : PureOp P bx ow o ρ (.t (.v (.int k (min i j)))) := pure_run fun C m g w a he h => by
  have h1 := tr_v (h x (by simp [ho, Op.operands, Call.operands]) _ hx)
  have h2 := tr_v (h y (by simp [ho, Op.operands, Call.operands]) _ hy)
  have e : (if j < i then j else i) = min i j := by
    rw [Int.min_def]
    split <;> split <;> omega
  refine ⟨_, ?_, .v _⟩
  simp [execOp, ho, resolve, invoke, builtin, h1, h2, Builtin.min_, Builtin.min2, e]
end
end Go.Proofs.YtlcecabfmemfeaaGreat.Sim

/- For every two rows of policies, policy, asker and port, the law SplitMore returns true. -/
namespace Go.Proofs.YtlcecabfmemfeaaGreat.SplitMore
set_option linter.unusedVariables false
set_option linter.unusedSimpArgs false
open Go.RowKit Mem Sim Opn WAddr WName WMatch WAuth Pol
theorem p_longPol (p : Pl.Policy) (hp : okPolicy p) : PCalls Tryz.prog 26 [.agg (polT p)] (.v (.bool (longPol p))) where
  ent := ent_of Tryz.func26 rfl rfl
  run := fun m w vals hm hvl hv => by
    obtain ⟨x0, rfl, h0⟩ := args1 hvl hv
    obtain ⟨vs, rfl, hc⟩ := agg_inv h0
    have hrr := policy_fwd hm p vs hp hc
    obtain ⟨c0, c1, c2, c3, c4, rfl⟩ : ∃ c0 c1 c2 c3 c4, vs = [c0, c1, c2, c3, c4] := by obtain ⟨c0, c1, c2, c3, c4, h, _⟩ := hrr; exact ⟨c0, c1, c2, c3, c4, h⟩
    refine (long12 p c0 c1 c2 c3 c4 w (Nat.le_refl _) hrr).mono fun e w' ⟨he, hlo⟩ => ?_
    rw [he]
    exact post_ex hm hlo (.v _)
set_option maxRecDepth 100000 in
set_option maxHeartbeats 4000000 in
theorem law_ (l m : List Pl.Policy) (hl : ∀ p ∈ l, okPolicy p) (hm : ∀ p ∈ m, okPolicy p) (p : Pl.Policy) (hp : okPolicy p) (a : Pl.Asker) (ha : OkAsk a) (port : Int) : PCalls Tryz.prog 6 [.sl 5 (l.map polT), .sl 5 (m.map polT), .agg (polT p), .agg (askT a), .v (.int .i64 port)] (.v (.bool true)) := by
  have k1 := p_long l hl a ha req0 okReq0_0 ⟨#[]⟩ ⟨#[]⟩ (.slice none 0 0)
  have k2 := p_long m hm a ha req0 okReq0_0 ⟨#[]⟩ ⟨#[]⟩ (.slice none 0 0)
  have k3 := p_longPol p hp
  have haw := awake14
  cases hlo : long13 l a req0 with
  | true =>
    rw [hlo] at k1
    refine pcalls_of Tryz.func6 rfl rfl Tryz.ntmps6 rfl ?_
    repeat' (first
      | refine then_go ?_
      | refine swp_seq ?_
      | ((refine swp_region (id := 0) ?_) <;> (first | refine sops_pure (.free rfl rfl) rfl rfl (po_call (k1) rfl (.cons rfl (.t _) (.cons rfl (.t _) (.cons rfl (.le req_le) .nil)))) ?_ | refine sops_box (.free rfl rfl) rfl rfl rfl rfl rfl rfl ?_) <;> (first | refine sops_pure (.free rfl rfl) rfl rfl (po_call (k1) rfl (.cons rfl (.t _) (.cons rfl (.t _) (.cons rfl (.le req_le) .nil)))) ?_ | refine sops_box (.free rfl rfl) rfl rfl rfl rfl rfl rfl ?_) <;> (first | refine sops_pure (.free rfl rfl) rfl rfl (po_call (k1) rfl (.cons rfl (.t _) (.cons rfl (.t _) (.cons rfl (.le req_le) .nil)))) ?_ | refine sops_pure (.free rfl rfl) rfl rfl (po_assign rfl rfl) ?_) <;> (refine sops_nil ?_))
      | ((refine swp_region (id := 1) ?_) <;> (first | refine sops_pure (.free rfl rfl) rfl rfl (po_call (k1) rfl (.cons rfl (.t _) (.cons rfl (.t _) (.cons rfl (.le req_le) .nil)))) ?_ | refine sops_pure (.free rfl rfl) rfl rfl (po_move rfl rfl) ?_) <;> (first | refine sops_pure (.free rfl rfl) rfl rfl (po_call (k1) rfl (.cons rfl (.t _) (.cons rfl (.t _) (.cons rfl (.le req_le) .nil)))) ?_ | refine sops_pure (.free rfl rfl) rfl rfl (po_load_bx_agg rfl rfl (tyT rfl) rfl (vc (vc (vc .nil))) rfl) ?_ | refine sops_pure (.free rfl rfl) rfl rfl (po_load_agg rfl rfl (tyT rfl) rfl rfl) ?_) <;> (first | refine sops_pure (.free rfl rfl) rfl rfl (po_call (k1) rfl (.cons rfl (.t _) (.cons rfl (.t _) (.cons rfl (.le req_le) .nil)))) ?_ | refine sops_pure (.free rfl rfl) rfl rfl (po_buildS str33 rfl .nil rfl) ?_) <;> (first | refine sops_pure (.free rfl rfl) rfl rfl (po_call (k1) rfl (.cons rfl (.t _) (.cons rfl (.t _) (.cons rfl (.le req_le) .nil)))) ?_ | refine sops_pure (.free rfl rfl) rfl rfl (po_call (haw) rfl (ac (ac (ac .nil)))) ?_) <;> (first | refine sops_pure (.free rfl rfl) rfl rfl (po_call (k1) rfl (.cons rfl (.t _) (.cons rfl (.t _) (.cons rfl (.le req_le) .nil)))) ?_ | refine sops_pure (.free rfl rfl) rfl rfl (po_move rfl rfl) ?_) <;> (first | refine sops_pure gy rfl rfl (po_call (k1) rfl (.cons rfl (.t _) (.cons rfl (.t _) (.cons rfl (.le req_le) .nil)))) ?_ | refine sops_pure gy rfl rfl (po_move rfl rfl) ?_ | refine sops_skip gn0 rfl rfl ?_ | ((refine sops_split rfl rfl rfl (fun hc => ?_) (fun hc => ?_)) <;> (first | refine sops_pure gy rfl rfl (po_call (k1) rfl (.cons rfl (.t _) (.cons rfl (.t _) (.cons rfl (.le req_le) .nil)))) ?_ | refine sops_pure gy rfl rfl (po_move rfl rfl) ?_ | refine sops_skip gn0 rfl rfl ?_))) <;> (first | refine sops_pure gy rfl rfl (po_call (k1) rfl (.cons rfl (.t _) (.cons rfl (.t _) (.cons rfl (.le req_le) .nil)))) ?_ | refine sops_pure gy rfl rfl (po_load_bx_agg rfl rfl (tyT rfl) rfl (vc (vc (vc .nil))) rfl) ?_ | refine sops_pure gy rfl rfl (po_load_agg rfl rfl (tyT rfl) rfl rfl) ?_ | refine sops_skip gn0 rfl rfl ?_) <;> (first | refine sops_pure gy rfl rfl (po_call (k1) rfl (.cons rfl (.t _) (.cons rfl (.t _) (.cons rfl (.le req_le) .nil)))) ?_ | refine sops_pure gy rfl rfl (po_buildS str33 rfl .nil rfl) ?_ | refine sops_skip gn0 rfl rfl ?_) <;> (first | refine sops_pure gy rfl rfl (po_call (k1) rfl (.cons rfl (.t _) (.cons rfl (.t _) (.cons rfl (.le req_le) .nil)))) ?_ | refine sops_pure gy rfl rfl (po_call (haw) rfl (ac (ac (ac .nil)))) ?_ | refine sops_skip gn0 rfl rfl ?_) <;> (first | refine sops_pure (.free rfl rfl) rfl rfl (po_call (k1) rfl (.cons rfl (.t _) (.cons rfl (.t _) (.cons rfl (.le req_le) .nil)))) ?_ | refine sops_pure (.free rfl rfl) rfl rfl (pkt rfl) ?_ | refine sops_pure (.free rfl rfl) rfl rfl (pkf rfl) ?_) <;> (first | refine sops_pure (.free rfl rfl) rfl rfl (po_call (k1) rfl (.cons rfl (.t _) (.cons rfl (.t _) (.cons rfl (.le req_le) .nil)))) ?_ | refine sops_pure (.free rfl rfl) rfl rfl (po_move rfl rfl) ?_) <;> (first | refine sops_pure gy rfl rfl (po_call (k1) rfl (.cons rfl (.t _) (.cons rfl (.t _) (.cons rfl (.le req_le) .nil)))) ?_ | refine sops_pure gy rfl rfl (po_load_bx_agg rfl rfl (tyT rfl) rfl (vc (vc (vc (vc (vc .nil))))) rfl) ?_ | refine sops_pure gy rfl rfl (po_load_agg rfl rfl (tyT rfl) rfl rfl) ?_ | refine sops_skip gn0 rfl rfl ?_ | ((refine sops_split rfl rfl rfl (fun hc => ?_) (fun hc => ?_)) <;> (first | refine sops_pure gy rfl rfl (po_call (k1) rfl (.cons rfl (.t _) (.cons rfl (.t _) (.cons rfl (.le req_le) .nil)))) ?_ | refine sops_pure gy rfl rfl (po_load_bx_agg rfl rfl (tyT rfl) rfl (vc (vc (vc (vc (vc .nil))))) rfl) ?_ | refine sops_pure gy rfl rfl (po_load_agg rfl rfl (tyT rfl) rfl rfl) ?_ | refine sops_skip gn0 rfl rfl ?_))) <;> (first | refine sops_pure gy rfl rfl (po_call (k1) rfl (.cons rfl (.t _) (.cons rfl (.t _) (.cons rfl (.le req_le) .nil)))) ?_ | refine sops_pure gy rfl rfl (po_call (haw) rfl (ac .nil)) ?_ | refine sops_skip gn0 rfl rfl ?_) <;> (first | refine sops_pure (.free rfl rfl) rfl rfl (po_call (k1) rfl (.cons rfl (.t _) (.cons rfl (.t _) (.cons rfl (.le req_le) .nil)))) ?_ | refine sops_pure (.free rfl rfl) rfl rfl (pkt rfl) ?_ | refine sops_pure (.free rfl rfl) rfl rfl (pkf rfl) ?_) <;> (refine sops_nil ?_))
      | ((refine swp_region (id := 2) ?_) <;> (first | refine sops_pure (.free rfl rfl) rfl rfl (po_call (k1) rfl (.cons rfl (.t _) (.cons rfl (.t _) (.cons rfl (.le req_le) .nil)))) ?_ | refine sops_pure (.free rfl rfl) rfl rfl (po_call (haw) rfl .nil) ?_) <;> (first | refine sops_pure (.free rfl rfl) rfl rfl (po_call (k1) rfl (.cons rfl (.t _) (.cons rfl (.t _) (.cons rfl (.le req_le) .nil)))) ?_ | refine sops_pure (.free rfl rfl) rfl rfl (po_assign rfl rfl) ?_) <;> (refine sops_nil ?_))
      | refine swp_ret ?_
      | refine swp_skip ?_
      | refine swp_block ?_
      | refine swp_exit ?_
      | refine block_go ?_
      | refine block_exit ?_
      | refine block_far rfl ?_
      | refine block_ret ?_
      | refine then_ret ?_
      | refine then_exit ?_
      | refine for_ret ?_
      | refine for_exit ?_
      | refine ct ?_
      | refine cf ?_
      | refine swp_cond rfl (fun hc => ?_) (fun hc => ?_)
      | refine retq (by first | exact .inr rfl | exact .inl rfl) rfl (.tmp rfl (by first | exact .t _ | exact .own rfl (by first | rfl | assumption | (simp; done) | (simp; omega)) | exact .nil _ | exact .emp _ | exact .fn _) .nil) ?_)
    rfl
  | false =>
  rw [hlo] at k1
  cases hlo2 : long13 m a req0 with
  | true =>
    rw [hlo2] at k2
    refine pcalls_of Tryz.func6 rfl rfl Tryz.ntmps6 rfl ?_
    repeat' (first
      | refine then_go ?_
      | refine swp_seq ?_
      | ((refine swp_region (id := 0) ?_) <;> (first | refine sops_pure (.free rfl rfl) rfl rfl (po_call (k1) rfl (.cons rfl (.t _) (.cons rfl (.t _) (.cons rfl (.le req_le) .nil)))) ?_ | refine sops_pure (.free rfl rfl) rfl rfl (po_call (k2) rfl (.cons rfl (.t _) (.cons rfl (.t _) (.cons rfl (.le req_le) .nil)))) ?_ | refine sops_box (.free rfl rfl) rfl rfl rfl rfl rfl rfl ?_) <;> (first | refine sops_pure (.free rfl rfl) rfl rfl (po_call (k1) rfl (.cons rfl (.t _) (.cons rfl (.t _) (.cons rfl (.le req_le) .nil)))) ?_ | refine sops_pure (.free rfl rfl) rfl rfl (po_call (k2) rfl (.cons rfl (.t _) (.cons rfl (.t _) (.cons rfl (.le req_le) .nil)))) ?_ | refine sops_box (.free rfl rfl) rfl rfl rfl rfl rfl rfl ?_) <;> (first | refine sops_pure (.free rfl rfl) rfl rfl (po_call (k1) rfl (.cons rfl (.t _) (.cons rfl (.t _) (.cons rfl (.le req_le) .nil)))) ?_ | refine sops_pure (.free rfl rfl) rfl rfl (po_call (k2) rfl (.cons rfl (.t _) (.cons rfl (.t _) (.cons rfl (.le req_le) .nil)))) ?_ | refine sops_pure (.free rfl rfl) rfl rfl (po_assign rfl rfl) ?_) <;> (refine sops_nil ?_))
      | ((refine swp_region (id := 1) ?_) <;> (first | refine sops_pure (.free rfl rfl) rfl rfl (po_call (k1) rfl (.cons rfl (.t _) (.cons rfl (.t _) (.cons rfl (.le req_le) .nil)))) ?_ | refine sops_pure (.free rfl rfl) rfl rfl (po_call (k2) rfl (.cons rfl (.t _) (.cons rfl (.t _) (.cons rfl (.le req_le) .nil)))) ?_ | refine sops_pure (.free rfl rfl) rfl rfl (po_move rfl rfl) ?_) <;> (first | refine sops_pure (.free rfl rfl) rfl rfl (po_call (k1) rfl (.cons rfl (.t _) (.cons rfl (.t _) (.cons rfl (.le req_le) .nil)))) ?_ | refine sops_pure (.free rfl rfl) rfl rfl (po_call (k2) rfl (.cons rfl (.t _) (.cons rfl (.t _) (.cons rfl (.le req_le) .nil)))) ?_ | refine sops_pure (.free rfl rfl) rfl rfl (po_load_bx_agg rfl rfl (tyT rfl) rfl (vc (vc (vc .nil))) rfl) ?_ | refine sops_pure (.free rfl rfl) rfl rfl (po_load_agg rfl rfl (tyT rfl) rfl rfl) ?_) <;> (first | refine sops_pure (.free rfl rfl) rfl rfl (po_call (k1) rfl (.cons rfl (.t _) (.cons rfl (.t _) (.cons rfl (.le req_le) .nil)))) ?_ | refine sops_pure (.free rfl rfl) rfl rfl (po_call (k2) rfl (.cons rfl (.t _) (.cons rfl (.t _) (.cons rfl (.le req_le) .nil)))) ?_ | refine sops_pure (.free rfl rfl) rfl rfl (po_buildS str33 rfl .nil rfl) ?_) <;> (first | refine sops_pure (.free rfl rfl) rfl rfl (po_call (k1) rfl (.cons rfl (.t _) (.cons rfl (.t _) (.cons rfl (.le req_le) .nil)))) ?_ | refine sops_pure (.free rfl rfl) rfl rfl (po_call (k2) rfl (.cons rfl (.t _) (.cons rfl (.t _) (.cons rfl (.le req_le) .nil)))) ?_ | refine sops_pure (.free rfl rfl) rfl rfl (po_call (haw) rfl (ac (ac (ac .nil)))) ?_) <;> (first | refine sops_pure (.free rfl rfl) rfl rfl (po_call (k1) rfl (.cons rfl (.t _) (.cons rfl (.t _) (.cons rfl (.le req_le) .nil)))) ?_ | refine sops_pure (.free rfl rfl) rfl rfl (po_call (k2) rfl (.cons rfl (.t _) (.cons rfl (.t _) (.cons rfl (.le req_le) .nil)))) ?_ | refine sops_pure (.free rfl rfl) rfl rfl (po_move rfl rfl) ?_) <;> (first | refine sops_pure gy rfl rfl (po_call (k1) rfl (.cons rfl (.t _) (.cons rfl (.t _) (.cons rfl (.le req_le) .nil)))) ?_ | refine sops_pure gy rfl rfl (po_call (k2) rfl (.cons rfl (.t _) (.cons rfl (.t _) (.cons rfl (.le req_le) .nil)))) ?_ | refine sops_pure gy rfl rfl (po_move rfl rfl) ?_ | refine sops_skip gn0 rfl rfl ?_ | ((refine sops_split rfl rfl rfl (fun hc => ?_) (fun hc => ?_)) <;> (first | refine sops_pure gy rfl rfl (po_call (k1) rfl (.cons rfl (.t _) (.cons rfl (.t _) (.cons rfl (.le req_le) .nil)))) ?_ | refine sops_pure gy rfl rfl (po_call (k2) rfl (.cons rfl (.t _) (.cons rfl (.t _) (.cons rfl (.le req_le) .nil)))) ?_ | refine sops_pure gy rfl rfl (po_move rfl rfl) ?_ | refine sops_skip gn0 rfl rfl ?_))) <;> (first | refine sops_pure gy rfl rfl (po_call (k1) rfl (.cons rfl (.t _) (.cons rfl (.t _) (.cons rfl (.le req_le) .nil)))) ?_ | refine sops_pure gy rfl rfl (po_call (k2) rfl (.cons rfl (.t _) (.cons rfl (.t _) (.cons rfl (.le req_le) .nil)))) ?_ | refine sops_pure gy rfl rfl (po_load_bx_agg rfl rfl (tyT rfl) rfl (vc (vc (vc .nil))) rfl) ?_ | refine sops_pure gy rfl rfl (po_load_agg rfl rfl (tyT rfl) rfl rfl) ?_ | refine sops_skip gn0 rfl rfl ?_) <;> (first | refine sops_pure gy rfl rfl (po_call (k1) rfl (.cons rfl (.t _) (.cons rfl (.t _) (.cons rfl (.le req_le) .nil)))) ?_ | refine sops_pure gy rfl rfl (po_call (k2) rfl (.cons rfl (.t _) (.cons rfl (.t _) (.cons rfl (.le req_le) .nil)))) ?_ | refine sops_pure gy rfl rfl (po_buildS str33 rfl .nil rfl) ?_ | refine sops_skip gn0 rfl rfl ?_) <;> (first | refine sops_pure gy rfl rfl (po_call (k1) rfl (.cons rfl (.t _) (.cons rfl (.t _) (.cons rfl (.le req_le) .nil)))) ?_ | refine sops_pure gy rfl rfl (po_call (k2) rfl (.cons rfl (.t _) (.cons rfl (.t _) (.cons rfl (.le req_le) .nil)))) ?_ | refine sops_pure gy rfl rfl (po_call (haw) rfl (ac (ac (ac .nil)))) ?_ | refine sops_skip gn0 rfl rfl ?_) <;> (first | refine sops_pure (.free rfl rfl) rfl rfl (po_call (k1) rfl (.cons rfl (.t _) (.cons rfl (.t _) (.cons rfl (.le req_le) .nil)))) ?_ | refine sops_pure (.free rfl rfl) rfl rfl (po_call (k2) rfl (.cons rfl (.t _) (.cons rfl (.t _) (.cons rfl (.le req_le) .nil)))) ?_ | refine sops_pure (.free rfl rfl) rfl rfl (pkt rfl) ?_ | refine sops_pure (.free rfl rfl) rfl rfl (pkf rfl) ?_) <;> (first | refine sops_pure (.free rfl rfl) rfl rfl (po_call (k1) rfl (.cons rfl (.t _) (.cons rfl (.t _) (.cons rfl (.le req_le) .nil)))) ?_ | refine sops_pure (.free rfl rfl) rfl rfl (po_call (k2) rfl (.cons rfl (.t _) (.cons rfl (.t _) (.cons rfl (.le req_le) .nil)))) ?_ | refine sops_pure (.free rfl rfl) rfl rfl (po_move rfl rfl) ?_) <;> (first | refine sops_pure gy rfl rfl (po_call (k1) rfl (.cons rfl (.t _) (.cons rfl (.t _) (.cons rfl (.le req_le) .nil)))) ?_ | refine sops_pure gy rfl rfl (po_call (k2) rfl (.cons rfl (.t _) (.cons rfl (.t _) (.cons rfl (.le req_le) .nil)))) ?_ | refine sops_pure gy rfl rfl (po_load_bx_agg rfl rfl (tyT rfl) rfl (vc (vc (vc (vc (vc .nil))))) rfl) ?_ | refine sops_pure gy rfl rfl (po_load_agg rfl rfl (tyT rfl) rfl rfl) ?_ | refine sops_skip gn0 rfl rfl ?_ | ((refine sops_split rfl rfl rfl (fun hc => ?_) (fun hc => ?_)) <;> (first | refine sops_pure gy rfl rfl (po_call (k1) rfl (.cons rfl (.t _) (.cons rfl (.t _) (.cons rfl (.le req_le) .nil)))) ?_ | refine sops_pure gy rfl rfl (po_call (k2) rfl (.cons rfl (.t _) (.cons rfl (.t _) (.cons rfl (.le req_le) .nil)))) ?_ | refine sops_pure gy rfl rfl (po_load_bx_agg rfl rfl (tyT rfl) rfl (vc (vc (vc (vc (vc .nil))))) rfl) ?_ | refine sops_pure gy rfl rfl (po_load_agg rfl rfl (tyT rfl) rfl rfl) ?_ | refine sops_skip gn0 rfl rfl ?_))) <;> (first | refine sops_pure gy rfl rfl (po_call (k1) rfl (.cons rfl (.t _) (.cons rfl (.t _) (.cons rfl (.le req_le) .nil)))) ?_ | refine sops_pure gy rfl rfl (po_call (k2) rfl (.cons rfl (.t _) (.cons rfl (.t _) (.cons rfl (.le req_le) .nil)))) ?_ | refine sops_pure gy rfl rfl (po_call (haw) rfl (ac .nil)) ?_ | refine sops_skip gn0 rfl rfl ?_) <;> (first | refine sops_pure (.free rfl rfl) rfl rfl (po_call (k1) rfl (.cons rfl (.t _) (.cons rfl (.t _) (.cons rfl (.le req_le) .nil)))) ?_ | refine sops_pure (.free rfl rfl) rfl rfl (po_call (k2) rfl (.cons rfl (.t _) (.cons rfl (.t _) (.cons rfl (.le req_le) .nil)))) ?_ | refine sops_pure (.free rfl rfl) rfl rfl (pkt rfl) ?_ | refine sops_pure (.free rfl rfl) rfl rfl (pkf rfl) ?_) <;> (refine sops_nil ?_))
      | ((refine swp_region (id := 2) ?_) <;> (first | refine sops_pure (.free rfl rfl) rfl rfl (po_call (k1) rfl (.cons rfl (.t _) (.cons rfl (.t _) (.cons rfl (.le req_le) .nil)))) ?_ | refine sops_pure (.free rfl rfl) rfl rfl (po_call (k2) rfl (.cons rfl (.t _) (.cons rfl (.t _) (.cons rfl (.le req_le) .nil)))) ?_ | refine sops_pure (.free rfl rfl) rfl rfl (po_call (haw) rfl .nil) ?_) <;> (first | refine sops_pure (.free rfl rfl) rfl rfl (po_call (k1) rfl (.cons rfl (.t _) (.cons rfl (.t _) (.cons rfl (.le req_le) .nil)))) ?_ | refine sops_pure (.free rfl rfl) rfl rfl (po_call (k2) rfl (.cons rfl (.t _) (.cons rfl (.t _) (.cons rfl (.le req_le) .nil)))) ?_ | refine sops_pure (.free rfl rfl) rfl rfl (po_assign rfl rfl) ?_) <;> (refine sops_nil ?_))
      | refine swp_ret ?_
      | refine swp_skip ?_
      | refine swp_block ?_
      | refine swp_exit ?_
      | refine block_go ?_
      | refine block_exit ?_
      | refine block_far rfl ?_
      | refine block_ret ?_
      | refine then_ret ?_
      | refine then_exit ?_
      | refine for_ret ?_
      | refine for_exit ?_
      | refine ct ?_
      | refine cf ?_
      | refine swp_cond rfl (fun hc => ?_) (fun hc => ?_)
      | refine retq (by first | exact .inr rfl | exact .inl rfl) rfl (.tmp rfl (by first | exact .t _ | exact .own rfl (by first | rfl | assumption | (simp; done) | (simp; omega)) | exact .nil _ | exact .emp _ | exact .fn _) .nil) ?_)
    rfl
  | false =>
  rw [hlo2] at k2
  cases hlo3 : longPol p with
  | true =>
    rw [hlo3] at k3
    refine pcalls_of Tryz.func6 rfl rfl Tryz.ntmps6 rfl ?_
    repeat' (first
      | refine then_go ?_
      | refine swp_seq ?_
      | ((refine swp_region (id := 0) ?_) <;> (first | refine sops_pure (.free rfl rfl) rfl rfl (po_call (k1) rfl (.cons rfl (.t _) (.cons rfl (.t _) (.cons rfl (.le req_le) .nil)))) ?_ | refine sops_pure (.free rfl rfl) rfl rfl (po_call (k2) rfl (.cons rfl (.t _) (.cons rfl (.t _) (.cons rfl (.le req_le) .nil)))) ?_ | refine sops_box (.free rfl rfl) rfl rfl rfl rfl rfl rfl ?_) <;> (first | refine sops_pure (.free rfl rfl) rfl rfl (po_call (k1) rfl (.cons rfl (.t _) (.cons rfl (.t _) (.cons rfl (.le req_le) .nil)))) ?_ | refine sops_pure (.free rfl rfl) rfl rfl (po_call (k2) rfl (.cons rfl (.t _) (.cons rfl (.t _) (.cons rfl (.le req_le) .nil)))) ?_ | refine sops_box (.free rfl rfl) rfl rfl rfl rfl rfl rfl ?_) <;> (first | refine sops_pure (.free rfl rfl) rfl rfl (po_call (k1) rfl (.cons rfl (.t _) (.cons rfl (.t _) (.cons rfl (.le req_le) .nil)))) ?_ | refine sops_pure (.free rfl rfl) rfl rfl (po_call (k2) rfl (.cons rfl (.t _) (.cons rfl (.t _) (.cons rfl (.le req_le) .nil)))) ?_ | refine sops_pure (.free rfl rfl) rfl rfl (po_assign rfl rfl) ?_) <;> (refine sops_nil ?_))
      | ((refine swp_region (id := 1) ?_) <;> (first | refine sops_pure (.free rfl rfl) rfl rfl (po_call (k1) rfl (.cons rfl (.t _) (.cons rfl (.t _) (.cons rfl (.le req_le) .nil)))) ?_ | refine sops_pure (.free rfl rfl) rfl rfl (po_call (k2) rfl (.cons rfl (.t _) (.cons rfl (.t _) (.cons rfl (.le req_le) .nil)))) ?_ | refine sops_pure (.free rfl rfl) rfl rfl (po_move rfl rfl) ?_) <;> (first | refine sops_pure (.free rfl rfl) rfl rfl (po_call (k1) rfl (.cons rfl (.t _) (.cons rfl (.t _) (.cons rfl (.le req_le) .nil)))) ?_ | refine sops_pure (.free rfl rfl) rfl rfl (po_call (k2) rfl (.cons rfl (.t _) (.cons rfl (.t _) (.cons rfl (.le req_le) .nil)))) ?_ | refine sops_pure (.free rfl rfl) rfl rfl (po_load_bx_agg rfl rfl (tyT rfl) rfl (vc (vc (vc .nil))) rfl) ?_ | refine sops_pure (.free rfl rfl) rfl rfl (po_load_agg rfl rfl (tyT rfl) rfl rfl) ?_) <;> (first | refine sops_pure (.free rfl rfl) rfl rfl (po_call (k1) rfl (.cons rfl (.t _) (.cons rfl (.t _) (.cons rfl (.le req_le) .nil)))) ?_ | refine sops_pure (.free rfl rfl) rfl rfl (po_call (k2) rfl (.cons rfl (.t _) (.cons rfl (.t _) (.cons rfl (.le req_le) .nil)))) ?_ | refine sops_pure (.free rfl rfl) rfl rfl (po_buildS str33 rfl .nil rfl) ?_) <;> (first | refine sops_pure (.free rfl rfl) rfl rfl (po_call (k1) rfl (.cons rfl (.t _) (.cons rfl (.t _) (.cons rfl (.le req_le) .nil)))) ?_ | refine sops_pure (.free rfl rfl) rfl rfl (po_call (k2) rfl (.cons rfl (.t _) (.cons rfl (.t _) (.cons rfl (.le req_le) .nil)))) ?_ | refine sops_pure (.free rfl rfl) rfl rfl (po_call (k3) rfl (ac (ac (ac .nil)))) ?_ | refine sops_pure (.free rfl rfl) rfl rfl (po_call (haw) rfl (ac (ac (ac .nil)))) ?_) <;> (first | refine sops_pure (.free rfl rfl) rfl rfl (po_call (k1) rfl (.cons rfl (.t _) (.cons rfl (.t _) (.cons rfl (.le req_le) .nil)))) ?_ | refine sops_pure (.free rfl rfl) rfl rfl (po_call (k2) rfl (.cons rfl (.t _) (.cons rfl (.t _) (.cons rfl (.le req_le) .nil)))) ?_ | refine sops_pure (.free rfl rfl) rfl rfl (po_move rfl rfl) ?_) <;> (first | refine sops_pure gy rfl rfl (po_call (k1) rfl (.cons rfl (.t _) (.cons rfl (.t _) (.cons rfl (.le req_le) .nil)))) ?_ | refine sops_pure gy rfl rfl (po_call (k2) rfl (.cons rfl (.t _) (.cons rfl (.t _) (.cons rfl (.le req_le) .nil)))) ?_ | refine sops_pure gy rfl rfl (po_move rfl rfl) ?_ | refine sops_skip gn0 rfl rfl ?_ | ((refine sops_split rfl rfl rfl (fun hc => ?_) (fun hc => ?_)) <;> (first | refine sops_pure gy rfl rfl (po_call (k1) rfl (.cons rfl (.t _) (.cons rfl (.t _) (.cons rfl (.le req_le) .nil)))) ?_ | refine sops_pure gy rfl rfl (po_call (k2) rfl (.cons rfl (.t _) (.cons rfl (.t _) (.cons rfl (.le req_le) .nil)))) ?_ | refine sops_pure gy rfl rfl (po_move rfl rfl) ?_ | refine sops_skip gn0 rfl rfl ?_))) <;> (first | refine sops_pure gy rfl rfl (po_call (k1) rfl (.cons rfl (.t _) (.cons rfl (.t _) (.cons rfl (.le req_le) .nil)))) ?_ | refine sops_pure gy rfl rfl (po_call (k2) rfl (.cons rfl (.t _) (.cons rfl (.t _) (.cons rfl (.le req_le) .nil)))) ?_ | refine sops_pure gy rfl rfl (po_load_bx_agg rfl rfl (tyT rfl) rfl (vc (vc (vc .nil))) rfl) ?_ | refine sops_pure gy rfl rfl (po_load_agg rfl rfl (tyT rfl) rfl rfl) ?_ | refine sops_skip gn0 rfl rfl ?_) <;> (first | refine sops_pure gy rfl rfl (po_call (k1) rfl (.cons rfl (.t _) (.cons rfl (.t _) (.cons rfl (.le req_le) .nil)))) ?_ | refine sops_pure gy rfl rfl (po_call (k2) rfl (.cons rfl (.t _) (.cons rfl (.t _) (.cons rfl (.le req_le) .nil)))) ?_ | refine sops_pure gy rfl rfl (po_buildS str33 rfl .nil rfl) ?_ | refine sops_skip gn0 rfl rfl ?_) <;> (first | refine sops_pure gy rfl rfl (po_call (k1) rfl (.cons rfl (.t _) (.cons rfl (.t _) (.cons rfl (.le req_le) .nil)))) ?_ | refine sops_pure gy rfl rfl (po_call (k2) rfl (.cons rfl (.t _) (.cons rfl (.t _) (.cons rfl (.le req_le) .nil)))) ?_ | refine sops_pure gy rfl rfl (po_call (k3) rfl (ac (ac (ac .nil)))) ?_ | refine sops_pure gy rfl rfl (po_call (haw) rfl (ac (ac (ac .nil)))) ?_ | refine sops_skip gn0 rfl rfl ?_) <;> (first | refine sops_pure (.free rfl rfl) rfl rfl (po_call (k1) rfl (.cons rfl (.t _) (.cons rfl (.t _) (.cons rfl (.le req_le) .nil)))) ?_ | refine sops_pure (.free rfl rfl) rfl rfl (po_call (k2) rfl (.cons rfl (.t _) (.cons rfl (.t _) (.cons rfl (.le req_le) .nil)))) ?_ | refine sops_pure (.free rfl rfl) rfl rfl (pkt rfl) ?_ | refine sops_pure (.free rfl rfl) rfl rfl (pkf rfl) ?_) <;> (first | refine sops_pure (.free rfl rfl) rfl rfl (po_call (k1) rfl (.cons rfl (.t _) (.cons rfl (.t _) (.cons rfl (.le req_le) .nil)))) ?_ | refine sops_pure (.free rfl rfl) rfl rfl (po_call (k2) rfl (.cons rfl (.t _) (.cons rfl (.t _) (.cons rfl (.le req_le) .nil)))) ?_ | refine sops_pure (.free rfl rfl) rfl rfl (po_move rfl rfl) ?_) <;> (first | refine sops_pure gy rfl rfl (po_call (k1) rfl (.cons rfl (.t _) (.cons rfl (.t _) (.cons rfl (.le req_le) .nil)))) ?_ | refine sops_pure gy rfl rfl (po_call (k2) rfl (.cons rfl (.t _) (.cons rfl (.t _) (.cons rfl (.le req_le) .nil)))) ?_ | refine sops_pure gy rfl rfl (po_load_bx_agg rfl rfl (tyT rfl) rfl (vc (vc (vc (vc (vc .nil))))) rfl) ?_ | refine sops_pure gy rfl rfl (po_load_agg rfl rfl (tyT rfl) rfl rfl) ?_ | refine sops_skip gn0 rfl rfl ?_ | ((refine sops_split rfl rfl rfl (fun hc => ?_) (fun hc => ?_)) <;> (first | refine sops_pure gy rfl rfl (po_call (k1) rfl (.cons rfl (.t _) (.cons rfl (.t _) (.cons rfl (.le req_le) .nil)))) ?_ | refine sops_pure gy rfl rfl (po_call (k2) rfl (.cons rfl (.t _) (.cons rfl (.t _) (.cons rfl (.le req_le) .nil)))) ?_ | refine sops_pure gy rfl rfl (po_load_bx_agg rfl rfl (tyT rfl) rfl (vc (vc (vc (vc (vc .nil))))) rfl) ?_ | refine sops_pure gy rfl rfl (po_load_agg rfl rfl (tyT rfl) rfl rfl) ?_ | refine sops_skip gn0 rfl rfl ?_))) <;> (first | refine sops_pure gy rfl rfl (po_call (k1) rfl (.cons rfl (.t _) (.cons rfl (.t _) (.cons rfl (.le req_le) .nil)))) ?_ | refine sops_pure gy rfl rfl (po_call (k2) rfl (.cons rfl (.t _) (.cons rfl (.t _) (.cons rfl (.le req_le) .nil)))) ?_ | refine sops_pure gy rfl rfl (po_call (k3) rfl (ac .nil)) ?_ | refine sops_pure gy rfl rfl (po_call (haw) rfl (ac .nil)) ?_ | refine sops_skip gn0 rfl rfl ?_) <;> (first | refine sops_pure (.free rfl rfl) rfl rfl (po_call (k1) rfl (.cons rfl (.t _) (.cons rfl (.t _) (.cons rfl (.le req_le) .nil)))) ?_ | refine sops_pure (.free rfl rfl) rfl rfl (po_call (k2) rfl (.cons rfl (.t _) (.cons rfl (.t _) (.cons rfl (.le req_le) .nil)))) ?_ | refine sops_pure (.free rfl rfl) rfl rfl (pkt rfl) ?_ | refine sops_pure (.free rfl rfl) rfl rfl (pkf rfl) ?_) <;> (refine sops_nil ?_))
      | ((refine swp_region (id := 2) ?_) <;> (first | refine sops_pure (.free rfl rfl) rfl rfl (po_call (k1) rfl (.cons rfl (.t _) (.cons rfl (.t _) (.cons rfl (.le req_le) .nil)))) ?_ | refine sops_pure (.free rfl rfl) rfl rfl (po_call (k2) rfl (.cons rfl (.t _) (.cons rfl (.t _) (.cons rfl (.le req_le) .nil)))) ?_ | refine sops_pure (.free rfl rfl) rfl rfl (po_call (k3) rfl .nil) ?_ | refine sops_pure (.free rfl rfl) rfl rfl (po_call (haw) rfl .nil) ?_) <;> (first | refine sops_pure (.free rfl rfl) rfl rfl (po_call (k1) rfl (.cons rfl (.t _) (.cons rfl (.t _) (.cons rfl (.le req_le) .nil)))) ?_ | refine sops_pure (.free rfl rfl) rfl rfl (po_call (k2) rfl (.cons rfl (.t _) (.cons rfl (.t _) (.cons rfl (.le req_le) .nil)))) ?_ | refine sops_pure (.free rfl rfl) rfl rfl (po_assign rfl rfl) ?_) <;> (refine sops_nil ?_))
      | refine swp_ret ?_
      | refine swp_skip ?_
      | refine swp_block ?_
      | refine swp_exit ?_
      | refine block_go ?_
      | refine block_exit ?_
      | refine block_far rfl ?_
      | refine block_ret ?_
      | refine then_ret ?_
      | refine then_exit ?_
      | refine for_ret ?_
      | refine for_exit ?_
      | refine ct ?_
      | refine cf ?_
      | refine swp_cond rfl (fun hc => ?_) (fun hc => ?_)
      | refine retq (by first | exact .inr rfl | exact .inl rfl) rfl (.tmp rfl (by first | exact .t _ | exact .own rfl (by first | rfl | assumption | (simp; done) | (simp; omega)) | exact .nil _ | exact .emp _ | exact .fn _) .nil) ?_)
    rfl
  | false =>
  rw [hlo3] at k3
  obtain ⟨_, n1, _, fl⟩ := few_long hlo
  obtain ⟨_, n2, _, fm⟩ := few_long hlo2
  have fp := few_pol hlo3
  let p1 : Pl.Policy := { p with deny := 1 }
  have fp1 : FewP p1 := ⟨fp.n, fp.r⟩
  have hp1 : okPolicy p1 := ⟨hp.1, hp.2.1, hp.2.2.1, (by decide : (Lit.int .i64 1).wf = true), hp.2.2.2.2⟩
  have n1' : l.length ≤ 1000 := by omega
  have n2' : m.length ≤ 1000 := by omega
  have nlp : (l ++ [p1]).length ≤ 1000 := by rw [List.length_append]; simp; omega
  have nlm : (l ++ m).length ≤ 1000 := by rw [List.length_append]; omega
  have flp : ∀ x ∈ l ++ [p1], FewP x := fun x hx => by
    rcases List.mem_append.1 hx with h | h
    · exact fl x h
    · simp at h; subst h; exact fp1
  have olp : ∀ x ∈ l ++ [p1], okPolicy x := fun x hx => by
    rcases List.mem_append.1 hx with h | h
    · exact hl x h
    · simp at h; subst h; exact hp1
  have flm : ∀ x ∈ l ++ m, FewP x := fun x hx => (List.mem_append.1 hx).elim (fl x) (fm x)
  have mlen : ∀ (D K : Nat) (xs : List Pl.Policy), xs.length ≤ 1000 → (xs.map (Pl.halfP D K)).length ≤ 1000 := fun D K xs h => by rw [List.length_map]; exact h
  have c4l := l4_ l fl n1'
  have cal := alone_ l fl n1'
  have c4p := l4_ _ flp nlp
  have cap := alone_ _ flp nlp
  have f4l := fourS_ _ (ok_halves hl 0 1) (few_halves fl 0 1) (mlen 0 1 l n1') (Pl.allowsP l) a ha port
  have fal := fourS_ _ (ok_halves hl 1 0) (few_halves fl 1 0) (mlen 1 0 l n1') (Pl.allowsP l) a ha port
  have f4p := fourS_ _ (ok_halves olp 0 1) (few_halves flp 0 1) (mlen 0 1 _ nlp) (Pl.allowsP (l ++ [p1])) a ha port
  have fap := fourS_ _ (ok_halves olp 1 0) (few_halves flp 1 0) (mlen 1 0 _ nlp) (Pl.allowsP (l ++ [p1])) a ha port
  have xl := l4L l fl n1'
  unfold OwT at xl
  have c4m := l4_ m fm n2'
  have c4z := l4_ _ flm nlm
  have hsame := sameTab_ _ (mlen 0 1 _ nlm) (few_halves flm 0 1) (Pl.allowsP (l ++ m))
  have y1 := Pl.y4_more a port req0 l p1 rfl
  have y2 := Pl.yAl_more a port req0 l p1 rfl
  unfold Pl.y4 at y1
  unfold Pl.yAl at y2
  generalize Pl.judgeP (matchP a port req0) (Pl.saysL ((l.map (Pl.halfP 0 1)).map Pl.four4) (Pl.allowsP l)) = J1 at *
  generalize Pl.judgeP (matchP a port req0) (Pl.saysL ((l.map (Pl.halfP 1 0)).map Pl.four4) (Pl.allowsP l)) = J2 at *
  generalize Pl.judgeP (matchP a port req0) (Pl.saysL (((l ++ [p1]).map (Pl.halfP 0 1)).map Pl.four4) (Pl.allowsP (l ++ [p1]))) = J3 at *
  generalize Pl.judgeP (matchP a port req0) (Pl.saysL (((l ++ [p1]).map (Pl.halfP 1 0)).map Pl.four4) (Pl.allowsP (l ++ [p1]))) = J4 at *
  rw [Pl.allows_max, List.map_append, List.map_append] at hsame
  rw [Pl.allows_max, List.map_append, List.map_append, List.map_append] at c4z
  generalize (l ++ [p1]).map (Pl.halfP 0 1) = H3 at *
  generalize (l ++ [p1]).map (Pl.halfP 1 0) = H4 at *
  generalize Pl.allowsP (l ++ [p1]) = alp at *
  rw [List.map_append] at c4p cap
  have hlen1 : (l.map polT).length = l.length := List.length_map _
  have hlen2 : (m.map polT).length = m.length := List.length_map _
  have hlen3 : ((l.map (Pl.halfP 0 1)).map polT).length = l.length := by rw [List.length_map, List.length_map]
  have hlen4 : ((m.map (Pl.halfP 0 1)).map polT).length = m.length := by rw [List.length_map, List.length_map]
  generalize l.map (Pl.halfP 0 1) = H1 at *
  generalize l.map (Pl.halfP 1 0) = H2 at *
  generalize m.map (Pl.halfP 0 1) = M1 at *
  generalize Pl.allowsP l = all at *
  generalize Pl.allowsP m = alm at *
  obtain ⟨b1, i1⟩ := J1
  obtain ⟨b2, i2⟩ := J2
  obtain ⟨b3, i3⟩ := J3
  obtain ⟨b4, i4⟩ := J4
  dsimp only at *
  have g0 : (([] : List (List T)).length + (l.map polT).length) * 64 ≤ 140737488355328 := by simp; omega
  have g1 : (([] : List (List T)).length + (l.map polT).length) ≤ maxLen := by unfold maxLen; simp; omega
  have g2 : ((([] : List (List T)) ++ l.map polT).length + 1) * 64 ≤ 140737488355328 := by simp; omega
  have g3 : ((([] : List (List T)) ++ l.map polT).length + 1) ≤ maxLen := by unfold maxLen; simp; omega
  have g4 : ((([] : List (List T)) ++ l.map polT).length + (m.map polT).length) * 64 ≤ 140737488355328 := by simp; omega
  have g5 : ((([] : List (List T)) ++ l.map polT).length + (m.map polT).length) ≤ maxLen := by unfold maxLen; simp; omega
  have g6 : ((H1.map polT).length + (M1.map polT).length) * 64 ≤ 140737488355328 := by omega
  have g7 : ((H1.map polT).length + (M1.map polT).length) ≤ maxLen := by unfold maxLen; omega
  have hb : (b3 = false ∨ b3 = true ∧ (!b1) = false) ∧ (b4 = false ∨ b4 = true ∧ (!b2) = false) := by
    cases b3 <;> cases b1 <;> cases b4 <;> cases b2 <;> simp_all
  clear y1 y2
  obtain ⟨hb1, hb2⟩ := hb
  refine pcalls_of Tryz.func6 rfl rfl Tryz.ntmps6 rfl ?_
  repeat' (first
    | refine then_go ?_
    | refine swp_seq ?_
    | ((refine swp_region (id := 0) ?_) <;> (first | refine sops_pure (.free rfl rfl) rfl rfl (po_call (k1) rfl (.cons rfl (.t _) (.cons rfl (.t _) (.cons rfl (.le req_le) .nil)))) ?_ | refine sops_pure (.free rfl rfl) rfl rfl (po_call (k2) rfl (.cons rfl (.t _) (.cons rfl (.t _) (.cons rfl (.le req_le) .nil)))) ?_ | refine sops_box (.free rfl rfl) rfl rfl rfl rfl rfl rfl ?_) <;> (first | refine sops_pure (.free rfl rfl) rfl rfl (po_call (k1) rfl (.cons rfl (.t _) (.cons rfl (.t _) (.cons rfl (.le req_le) .nil)))) ?_ | refine sops_pure (.free rfl rfl) rfl rfl (po_call (k2) rfl (.cons rfl (.t _) (.cons rfl (.t _) (.cons rfl (.le req_le) .nil)))) ?_ | refine sops_box (.free rfl rfl) rfl rfl rfl rfl rfl rfl ?_) <;> (first | refine sops_pure (.free rfl rfl) rfl rfl (po_call (k1) rfl (.cons rfl (.t _) (.cons rfl (.t _) (.cons rfl (.le req_le) .nil)))) ?_ | refine sops_pure (.free rfl rfl) rfl rfl (po_call (k2) rfl (.cons rfl (.t _) (.cons rfl (.t _) (.cons rfl (.le req_le) .nil)))) ?_ | refine sops_pure (.free rfl rfl) rfl rfl (po_assign rfl rfl) ?_) <;> (refine sops_nil ?_))
    | ((refine swp_region (id := 1) ?_) <;> (first | refine sops_pure (.free rfl rfl) rfl rfl (po_call (k1) rfl (.cons rfl (.t _) (.cons rfl (.t _) (.cons rfl (.le req_le) .nil)))) ?_ | refine sops_pure (.free rfl rfl) rfl rfl (po_call (k2) rfl (.cons rfl (.t _) (.cons rfl (.t _) (.cons rfl (.le req_le) .nil)))) ?_ | refine sops_pure (.free rfl rfl) rfl rfl (po_move rfl rfl) ?_) <;> (first | refine sops_pure (.free rfl rfl) rfl rfl (po_call (k1) rfl (.cons rfl (.t _) (.cons rfl (.t _) (.cons rfl (.le req_le) .nil)))) ?_ | refine sops_pure (.free rfl rfl) rfl rfl (po_call (k2) rfl (.cons rfl (.t _) (.cons rfl (.t _) (.cons rfl (.le req_le) .nil)))) ?_ | refine sops_pure (.free rfl rfl) rfl rfl (po_load_bx_agg rfl rfl (tyT rfl) rfl (vc (vc (vc .nil))) rfl) ?_ | refine sops_pure (.free rfl rfl) rfl rfl (po_load_agg rfl rfl (tyT rfl) rfl rfl) ?_) <;> (first | refine sops_pure (.free rfl rfl) rfl rfl (po_call (k1) rfl (.cons rfl (.t _) (.cons rfl (.t _) (.cons rfl (.le req_le) .nil)))) ?_ | refine sops_pure (.free rfl rfl) rfl rfl (po_call (k2) rfl (.cons rfl (.t _) (.cons rfl (.t _) (.cons rfl (.le req_le) .nil)))) ?_ | refine sops_pure (.free rfl rfl) rfl rfl (po_buildS str33 rfl .nil rfl) ?_) <;> (first | refine sops_pure (.free rfl rfl) rfl rfl (po_call (k1) rfl (.cons rfl (.t _) (.cons rfl (.t _) (.cons rfl (.le req_le) .nil)))) ?_ | refine sops_pure (.free rfl rfl) rfl rfl (po_call (k2) rfl (.cons rfl (.t _) (.cons rfl (.t _) (.cons rfl (.le req_le) .nil)))) ?_ | refine sops_pure (.free rfl rfl) rfl rfl (po_call (k3) rfl (ac (ac (ac .nil)))) ?_ | refine sops_pure (.free rfl rfl) rfl rfl (po_call (haw) rfl (ac (ac (ac .nil)))) ?_ | refine sops_pure (.free rfl rfl) rfl rfl (po_call (c4l) rfl (ac (ac (ac .nil)))) ?_ | refine sops_pure (.free rfl rfl) rfl rfl (po_call (cal) rfl (ac (ac (ac .nil)))) ?_ | refine sops_pure (.free rfl rfl) rfl rfl (po_call (c4p) rfl (ac (ac (ac .nil)))) ?_ | refine sops_pure (.free rfl rfl) rfl rfl (po_call (cap) rfl (ac (ac (ac .nil)))) ?_ | refine sops_pure (.free rfl rfl) rfl rfl (po_call (f4l) rfl (ac (ac (ac .nil)))) ?_ | refine sops_pure (.free rfl rfl) rfl rfl (po_call (fal) rfl (ac (ac (ac .nil)))) ?_ | refine sops_pure (.free rfl rfl) rfl rfl (po_call (f4p) rfl (ac (ac (ac .nil)))) ?_ | refine sops_pure (.free rfl rfl) rfl rfl (po_call (fap) rfl (ac (ac (ac .nil)))) ?_) <;> (first | refine sops_pure (.free rfl rfl) rfl rfl (po_call (k1) rfl (.cons rfl (.t _) (.cons rfl (.t _) (.cons rfl (.le req_le) .nil)))) ?_ | refine sops_pure (.free rfl rfl) rfl rfl (po_call (k2) rfl (.cons rfl (.t _) (.cons rfl (.t _) (.cons rfl (.le req_le) .nil)))) ?_ | refine sops_pure (.free rfl rfl) rfl rfl (po_move rfl rfl) ?_) <;> (first | refine sops_pure gy rfl rfl (po_call (k1) rfl (.cons rfl (.t _) (.cons rfl (.t _) (.cons rfl (.le req_le) .nil)))) ?_ | refine sops_pure gy rfl rfl (po_call (k2) rfl (.cons rfl (.t _) (.cons rfl (.t _) (.cons rfl (.le req_le) .nil)))) ?_ | refine sops_pure gy rfl rfl (po_move rfl rfl) ?_ | refine sops_skip gn0 rfl rfl ?_ | ((refine sops_split rfl rfl rfl (fun hc => ?_) (fun hc => ?_)) <;> (first | refine sops_pure gy rfl rfl (po_call (k1) rfl (.cons rfl (.t _) (.cons rfl (.t _) (.cons rfl (.le req_le) .nil)))) ?_ | refine sops_pure gy rfl rfl (po_call (k2) rfl (.cons rfl (.t _) (.cons rfl (.t _) (.cons rfl (.le req_le) .nil)))) ?_ | refine sops_pure gy rfl rfl (po_move rfl rfl) ?_ | refine sops_skip gn0 rfl rfl ?_))) <;> (first | refine sops_pure gy rfl rfl (po_call (k1) rfl (.cons rfl (.t _) (.cons rfl (.t _) (.cons rfl (.le req_le) .nil)))) ?_ | refine sops_pure gy rfl rfl (po_call (k2) rfl (.cons rfl (.t _) (.cons rfl (.t _) (.cons rfl (.le req_le) .nil)))) ?_ | refine sops_pure gy rfl rfl (po_load_bx_agg rfl rfl (tyT rfl) rfl (vc (vc (vc .nil))) rfl) ?_ | refine sops_pure gy rfl rfl (po_load_agg rfl rfl (tyT rfl) rfl rfl) ?_ | refine sops_skip gn0 rfl rfl ?_) <;> (first | refine sops_pure gy rfl rfl (po_call (k1) rfl (.cons rfl (.t _) (.cons rfl (.t _) (.cons rfl (.le req_le) .nil)))) ?_ | refine sops_pure gy rfl rfl (po_call (k2) rfl (.cons rfl (.t _) (.cons rfl (.t _) (.cons rfl (.le req_le) .nil)))) ?_ | refine sops_pure gy rfl rfl (po_buildS str33 rfl .nil rfl) ?_ | refine sops_skip gn0 rfl rfl ?_) <;> (first | refine sops_pure gy rfl rfl (po_call (k1) rfl (.cons rfl (.t _) (.cons rfl (.t _) (.cons rfl (.le req_le) .nil)))) ?_ | refine sops_pure gy rfl rfl (po_call (k2) rfl (.cons rfl (.t _) (.cons rfl (.t _) (.cons rfl (.le req_le) .nil)))) ?_ | refine sops_pure gy rfl rfl (po_call (k3) rfl (ac (ac (ac .nil)))) ?_ | refine sops_pure gy rfl rfl (po_call (haw) rfl (ac (ac (ac .nil)))) ?_ | refine sops_pure gy rfl rfl (po_call (c4l) rfl (ac (ac (ac .nil)))) ?_ | refine sops_pure gy rfl rfl (po_call (cal) rfl (ac (ac (ac .nil)))) ?_ | refine sops_pure gy rfl rfl (po_call (c4p) rfl (ac (ac (ac .nil)))) ?_ | refine sops_pure gy rfl rfl (po_call (cap) rfl (ac (ac (ac .nil)))) ?_ | refine sops_pure gy rfl rfl (po_call (f4l) rfl (ac (ac (ac .nil)))) ?_ | refine sops_pure gy rfl rfl (po_call (fal) rfl (ac (ac (ac .nil)))) ?_ | refine sops_pure gy rfl rfl (po_call (f4p) rfl (ac (ac (ac .nil)))) ?_ | refine sops_pure gy rfl rfl (po_call (fap) rfl (ac (ac (ac .nil)))) ?_ | refine sops_skip gn0 rfl rfl ?_) <;> (first | refine sops_pure (.free rfl rfl) rfl rfl (po_call (k1) rfl (.cons rfl (.t _) (.cons rfl (.t _) (.cons rfl (.le req_le) .nil)))) ?_ | refine sops_pure (.free rfl rfl) rfl rfl (po_call (k2) rfl (.cons rfl (.t _) (.cons rfl (.t _) (.cons rfl (.le req_le) .nil)))) ?_ | refine sops_pure (.free rfl rfl) rfl rfl (pkt rfl) ?_ | refine sops_pure (.free rfl rfl) rfl rfl (pkf rfl) ?_) <;> (first | refine sops_pure (.free rfl rfl) rfl rfl (po_call (k1) rfl (.cons rfl (.t _) (.cons rfl (.t _) (.cons rfl (.le req_le) .nil)))) ?_ | refine sops_pure (.free rfl rfl) rfl rfl (po_call (k2) rfl (.cons rfl (.t _) (.cons rfl (.t _) (.cons rfl (.le req_le) .nil)))) ?_ | refine sops_pure (.free rfl rfl) rfl rfl (po_move rfl rfl) ?_) <;> (first | refine sops_pure gy rfl rfl (po_call (k1) rfl (.cons rfl (.t _) (.cons rfl (.t _) (.cons rfl (.le req_le) .nil)))) ?_ | refine sops_pure gy rfl rfl (po_call (k2) rfl (.cons rfl (.t _) (.cons rfl (.t _) (.cons rfl (.le req_le) .nil)))) ?_ | refine sops_pure gy rfl rfl (po_load_bx_agg rfl rfl (tyT rfl) rfl (vc (vc (vc (vc (vc .nil))))) rfl) ?_ | refine sops_pure gy rfl rfl (po_load_agg rfl rfl (tyT rfl) rfl rfl) ?_ | refine sops_skip gn0 rfl rfl ?_ | ((refine sops_split rfl rfl rfl (fun hc => ?_) (fun hc => ?_)) <;> (first | refine sops_pure gy rfl rfl (po_call (k1) rfl (.cons rfl (.t _) (.cons rfl (.t _) (.cons rfl (.le req_le) .nil)))) ?_ | refine sops_pure gy rfl rfl (po_call (k2) rfl (.cons rfl (.t _) (.cons rfl (.t _) (.cons rfl (.le req_le) .nil)))) ?_ | refine sops_pure gy rfl rfl (po_load_bx_agg rfl rfl (tyT rfl) rfl (vc (vc (vc (vc (vc .nil))))) rfl) ?_ | refine sops_pure gy rfl rfl (po_load_agg rfl rfl (tyT rfl) rfl rfl) ?_ | refine sops_skip gn0 rfl rfl ?_))) <;> (first | refine sops_pure gy rfl rfl (po_call (k1) rfl (.cons rfl (.t _) (.cons rfl (.t _) (.cons rfl (.le req_le) .nil)))) ?_ | refine sops_pure gy rfl rfl (po_call (k2) rfl (.cons rfl (.t _) (.cons rfl (.t _) (.cons rfl (.le req_le) .nil)))) ?_ | refine sops_pure gy rfl rfl (po_call (k3) rfl (ac .nil)) ?_ | refine sops_pure gy rfl rfl (po_call (haw) rfl (ac .nil)) ?_ | refine sops_pure gy rfl rfl (po_call (c4l) rfl (ac .nil)) ?_ | refine sops_pure gy rfl rfl (po_call (cal) rfl (ac .nil)) ?_ | refine sops_pure gy rfl rfl (po_call (c4p) rfl (ac .nil)) ?_ | refine sops_pure gy rfl rfl (po_call (cap) rfl (ac .nil)) ?_ | refine sops_pure gy rfl rfl (po_call (f4l) rfl (ac .nil)) ?_ | refine sops_pure gy rfl rfl (po_call (fal) rfl (ac .nil)) ?_ | refine sops_pure gy rfl rfl (po_call (f4p) rfl (ac .nil)) ?_ | refine sops_pure gy rfl rfl (po_call (fap) rfl (ac .nil)) ?_ | refine sops_skip gn0 rfl rfl ?_) <;> (first | refine sops_pure (.free rfl rfl) rfl rfl (po_call (k1) rfl (.cons rfl (.t _) (.cons rfl (.t _) (.cons rfl (.le req_le) .nil)))) ?_ | refine sops_pure (.free rfl rfl) rfl rfl (po_call (k2) rfl (.cons rfl (.t _) (.cons rfl (.t _) (.cons rfl (.le req_le) .nil)))) ?_ | refine sops_pure (.free rfl rfl) rfl rfl (pkt rfl) ?_ | refine sops_pure (.free rfl rfl) rfl rfl (pkf rfl) ?_) <;> (refine sops_nil ?_))
    | ((refine swp_region (id := 3) ?_) <;> (first | refine sops_pure (.free rfl rfl) rfl rfl (po_call (k1) rfl (.cons rfl (.t _) (.cons rfl (.t _) (.cons rfl (.le req_le) .nil)))) ?_ | refine sops_pure (.free rfl rfl) rfl rfl (po_call (k2) rfl (.cons rfl (.t _) (.cons rfl (.t _) (.cons rfl (.le req_le) .nil)))) ?_ | refine sops_pure (.free rfl rfl) rfl rfl (po_field_bx rfl rfl (tyF rfl)) ?_ | refine sops_pure (.free rfl rfl) rfl rfl (po_field rfl rfl (tyF rfl)) ?_) <;> (first | refine sops_pure_none (.free rfl rfl) rfl (po_call (k1) rfl (.cons rfl (.t _) (.cons rfl (.t _) (.cons rfl (.le req_le) .nil)))) ?_ | refine sops_pure_none (.free rfl rfl) rfl (po_call (k2) rfl (.cons rfl (.t _) (.cons rfl (.t _) (.cons rfl (.le req_le) .nil)))) ?_ | refine sops_store (.free rfl rfl) rfl rfl rfl rfl rfl rfl (tyT rfl) rfl rfl ?_) <;> (refine sops_nil ?_))
    | ((refine swp_any (id := 4) [[39], [], [39], [], [], [39], []] [[], [39], [], [39], [39], [], []] mixed (by kernel_rfl) ?_) <;> (refine sany_eff [] [(39, ⟨_, _, []⟩)] (.free rfl rfl) rfl rfl (fun _ _ _ ho => e_build0 rfl (tyE rfl) (ho 39 rfl rfl)) ?_) <;> (first | refine sany_pure (.free rfl rfl) rfl rfl (fun _ _ => po_call (k1) rfl (.cons rfl (.t _) (.cons rfl (.t _) (.cons rfl (.le req_le) .nil)))) ?_ | refine sany_pure (.free rfl rfl) rfl rfl (fun _ _ => po_call (k2) rfl (.cons rfl (.t _) (.cons rfl (.t _) (.cons rfl (.le req_le) .nil)))) ?_ | refine sany_pure (.free rfl rfl) rfl rfl (fun _ _ => po_move rfl rfl) ?_) <;> (refine sany_eff [] [(39, _)] (.free rfl rfl) rfl rfl (fun _ _ _ _ => e_append rfl rfl rfl (by first | rfl | simp) rfl (by first | exact .t _ | exact .own rfl (by first | rfl | assumption | (simp; done) | (simp; omega)) | exact .nil _ | exact .emp _ | exact .fn _) (tyE rfl) (by first | assumption | (simp at *; omega)) (by first | assumption | (simp [maxLen] at *; omega))) ?_) <;> (first | refine sany_pure (.free rfl rfl) rfl rfl (fun _ _ => po_call (k1) rfl (.cons rfl (.t _) (.cons rfl (.t _) (.cons rfl (.le req_le) .nil)))) ?_ | refine sany_pure (.free rfl rfl) rfl rfl (fun _ _ => po_call (k2) rfl (.cons rfl (.t _) (.cons rfl (.t _) (.cons rfl (.le req_le) .nil)))) ?_ | refine sany_pure (.free rfl rfl) rfl rfl (fun _ _ => po_load_bx_agg rfl rfl (tyT rfl) rfl (vc (vc (vc (vc (vc .nil))))) rfl) ?_ | refine sany_pure (.free rfl rfl) rfl rfl (fun _ _ => po_load_agg rfl rfl (tyT rfl) rfl rfl) ?_) <;> (first | refine sany_pure (.free rfl rfl) rfl rfl (fun _ _ => po_call (k1) rfl (.cons rfl (.t _) (.cons rfl (.t _) (.cons rfl (.le req_le) .nil)))) ?_ | refine sany_pure (.free rfl rfl) rfl rfl (fun _ _ => po_call (k2) rfl (.cons rfl (.t _) (.cons rfl (.t _) (.cons rfl (.le req_le) .nil)))) ?_ | refine sany_pure (.free rfl rfl) rfl rfl (fun _ _ => po_buildSlice rfl (tyE rfl) (dc (.nil _)) rfl rfl rfl) ?_) <;> (refine sany_eff [] [(39, _)] (.free rfl rfl) rfl rfl (fun _ _ _ _ => e_append rfl rfl rfl (by first | rfl | simp) rfl (by first | exact .t _ | exact .own rfl (by first | rfl | assumption | (simp; done) | (simp; omega)) | exact .nil _ | exact .emp _ | exact .fn _) (tyE rfl) (by first | assumption | (simp at *; omega)) (by first | assumption | (simp [maxLen] at *; omega))) ?_) <;> (first | refine sany_pure (.free rfl rfl) rfl rfl (fun _ _ => po_call (k1) rfl (.cons rfl (.t _) (.cons rfl (.t _) (.cons rfl (.le req_le) .nil)))) ?_ | refine sany_pure (.free rfl rfl) rfl rfl (fun _ _ => po_call (k2) rfl (.cons rfl (.t _) (.cons rfl (.t _) (.cons rfl (.le req_le) .nil)))) ?_ | refine sany_pure (.free rfl rfl) rfl rfl (fun _ _ => po_assign rfl rfl) ?_) <;> (refine sany_nil ?_))
    | ((refine swp_draw_all (id := 5) mixed (by kernel_rfl) (by kernel_rfl) ?_) <;> (first | refine sdraw_pure (.free rfl rfl) rfl (po_call (k1) rfl (.cons rfl (.t _) (.cons rfl (.t _) (.cons rfl (.le req_le) .nil)))) ?_ | refine sdraw_pure (.free rfl rfl) rfl (po_call (k2) rfl (.cons rfl (.t _) (.cons rfl (.t _) (.cons rfl (.le req_le) .nil)))) ?_ | refine sdraw_pure (.free rfl rfl) rfl (po_move rfl rfl) ?_) <;> (first | refine sdraw_pure (.free rfl rfl) rfl (po_call (k1) rfl (.cons rfl (.t _) (.cons rfl (.t _) (.cons rfl (.le req_le) .nil)))) ?_ | refine sdraw_pure (.free rfl rfl) rfl (po_call (k2) rfl (.cons rfl (.t _) (.cons rfl (.t _) (.cons rfl (.le req_le) .nil)))) ?_ | refine sdraw_pure (.free rfl rfl) rfl (po_call (k3) rfl (ac .nil)) ?_ | refine sdraw_pure (.free rfl rfl) rfl (po_call (haw) rfl (ac .nil)) ?_ | refine sdraw_pure (.free rfl rfl) rfl (po_call (c4l) rfl (ac .nil)) ?_ | refine sdraw_pure (.free rfl rfl) rfl (po_call (cal) rfl (ac .nil)) ?_ | refine sdraw_pure (.free rfl rfl) rfl (po_call (c4p) rfl (ac .nil)) ?_ | refine sdraw_pure (.free rfl rfl) rfl (po_call (cap) rfl (ac .nil)) ?_ | refine sdraw_pure (.free rfl rfl) rfl (po_call (f4l) rfl (ac .nil)) ?_ | refine sdraw_pure (.free rfl rfl) rfl (po_call (fal) rfl (ac .nil)) ?_ | refine sdraw_pure (.free rfl rfl) rfl (po_call (f4p) rfl (ac .nil)) ?_ | refine sdraw_pure (.free rfl rfl) rfl (po_call (fap) rfl (ac .nil)) ?_) <;> (first | refine sdraw_pure (.free rfl rfl) rfl (po_call (k1) rfl (.cons rfl (.t _) (.cons rfl (.t _) (.cons rfl (.le req_le) .nil)))) ?_ | refine sdraw_pure (.free rfl rfl) rfl (po_call (k2) rfl (.cons rfl (.t _) (.cons rfl (.t _) (.cons rfl (.le req_le) .nil)))) ?_ | refine sdraw_pure (.free rfl rfl) rfl (po_load_bx_agg rfl rfl (tyT rfl) rfl (vc (vc (vc .nil))) rfl) ?_ | refine sdraw_pure (.free rfl rfl) rfl (po_load_agg rfl rfl (tyT rfl) rfl rfl) ?_) <;> (first | refine sdraw_pure (.free rfl rfl) rfl (po_call (k1) rfl (.cons rfl (.t _) (.cons rfl (.t _) (.cons rfl (.le req_le) .nil)))) ?_ | refine sdraw_pure (.free rfl rfl) rfl (po_call (k2) rfl (.cons rfl (.t _) (.cons rfl (.t _) (.cons rfl (.le req_le) .nil)))) ?_ | refine sdraw_pure (.free rfl rfl) rfl (po_move rfl rfl) ?_) <;> (first | refine sdraw_pure (.free rfl rfl) rfl (po_call (k1) rfl (.cons rfl (.t _) (.cons rfl (.t _) (.cons rfl (.le req_le) .nil)))) ?_ | refine sdraw_pure (.free rfl rfl) rfl (po_call (k2) rfl (.cons rfl (.t _) (.cons rfl (.t _) (.cons rfl (.le req_le) .nil)))) ?_ | refine sdraw_pure (.free rfl rfl) rfl (po_call (k3) rfl (ac (ac (ac .nil)))) ?_ | refine sdraw_pure (.free rfl rfl) rfl (po_call (haw) rfl (ac (ac (ac .nil)))) ?_ | refine sdraw_pure (.free rfl rfl) rfl (po_call (c4l) rfl (ac (ac (ac .nil)))) ?_ | refine sdraw_pure (.free rfl rfl) rfl (po_call (cal) rfl (ac (ac (ac .nil)))) ?_ | refine sdraw_pure (.free rfl rfl) rfl (po_call (c4p) rfl (ac (ac (ac .nil)))) ?_ | refine sdraw_pure (.free rfl rfl) rfl (po_call (cap) rfl (ac (ac (ac .nil)))) ?_ | refine sdraw_pure (.free rfl rfl) rfl (po_call (f4l) rfl (ac (ac (ac .nil)))) ?_ | refine sdraw_pure (.free rfl rfl) rfl (po_call (fal) rfl (ac (ac (ac .nil)))) ?_ | refine sdraw_pure (.free rfl rfl) rfl (po_call (f4p) rfl (ac (ac (ac .nil)))) ?_ | refine sdraw_pure (.free rfl rfl) rfl (po_call (fap) rfl (ac (ac (ac .nil)))) ?_) <;> (first | refine sdraw_pure (.free rfl rfl) rfl (po_call (k1) rfl (.cons rfl (.t _) (.cons rfl (.t _) (.cons rfl (.le req_le) .nil)))) ?_ | refine sdraw_pure (.free rfl rfl) rfl (po_call (k2) rfl (.cons rfl (.t _) (.cons rfl (.t _) (.cons rfl (.le req_le) .nil)))) ?_ | refine sdraw_pure (.free rfl rfl) rfl (po_move rfl rfl) ?_) <;> (first | refine sdraw_pure (.free rfl rfl) rfl (po_call (k1) rfl (.cons rfl (.t _) (.cons rfl (.t _) (.cons rfl (.le req_le) .nil)))) ?_ | refine sdraw_pure (.free rfl rfl) rfl (po_call (k2) rfl (.cons rfl (.t _) (.cons rfl (.t _) (.cons rfl (.le req_le) .nil)))) ?_ | refine sdraw_pure (.free rfl rfl) rfl (po_extract rfl rfl rfl) ?_) <;> (first | refine sdraw_pure (.free rfl rfl) rfl (po_call (k1) rfl (.cons rfl (.t _) (.cons rfl (.t _) (.cons rfl (.le req_le) .nil)))) ?_ | refine sdraw_pure (.free rfl rfl) rfl (po_call (k2) rfl (.cons rfl (.t _) (.cons rfl (.t _) (.cons rfl (.le req_le) .nil)))) ?_ | refine sdraw_pure (.free rfl rfl) rfl (po_extract rfl rfl rfl) ?_) <;> (first | refine sdraw_pure (.free rfl rfl) rfl (po_call (k1) rfl (.cons rfl (.t _) (.cons rfl (.t _) (.cons rfl (.le req_le) .nil)))) ?_ | refine sdraw_pure (.free rfl rfl) rfl (po_call (k2) rfl (.cons rfl (.t _) (.cons rfl (.t _) (.cons rfl (.le req_le) .nil)))) ?_ | refine sdraw_pure (.free rfl rfl) rfl (po_assign rfl rfl) ?_) <;> (first | refine sdraw_pure (.free rfl rfl) rfl (po_call (k1) rfl (.cons rfl (.t _) (.cons rfl (.t _) (.cons rfl (.le req_le) .nil)))) ?_ | refine sdraw_pure (.free rfl rfl) rfl (po_call (k2) rfl (.cons rfl (.t _) (.cons rfl (.t _) (.cons rfl (.le req_le) .nil)))) ?_ | refine sdraw_pure (.free rfl rfl) rfl (po_assign rfl rfl) ?_) <;> (refine sdraw_nil ?_) <;> (refine sops_nil ?_))
    | ((refine swp_draw_all (id := 6) mixed (by kernel_rfl) (by kernel_rfl) ?_) <;> (first | refine sdraw_pure (.free rfl rfl) rfl (po_call (k1) rfl (.cons rfl (.t _) (.cons rfl (.t _) (.cons rfl (.le req_le) .nil)))) ?_ | refine sdraw_pure (.free rfl rfl) rfl (po_call (k2) rfl (.cons rfl (.t _) (.cons rfl (.t _) (.cons rfl (.le req_le) .nil)))) ?_ | refine sdraw_pure (.free rfl rfl) rfl (po_move rfl rfl) ?_) <;> (first | refine sdraw_pure (.free rfl rfl) rfl (po_call (k1) rfl (.cons rfl (.t _) (.cons rfl (.t _) (.cons rfl (.le req_le) .nil)))) ?_ | refine sdraw_pure (.free rfl rfl) rfl (po_call (k2) rfl (.cons rfl (.t _) (.cons rfl (.t _) (.cons rfl (.le req_le) .nil)))) ?_ | refine sdraw_pure (.free rfl rfl) rfl (po_call (k3) rfl (ac .nil)) ?_ | refine sdraw_pure (.free rfl rfl) rfl (po_call (haw) rfl (ac .nil)) ?_ | refine sdraw_pure (.free rfl rfl) rfl (po_call (c4l) rfl (ac .nil)) ?_ | refine sdraw_pure (.free rfl rfl) rfl (po_call (cal) rfl (ac .nil)) ?_ | refine sdraw_pure (.free rfl rfl) rfl (po_call (c4p) rfl (ac .nil)) ?_ | refine sdraw_pure (.free rfl rfl) rfl (po_call (cap) rfl (ac .nil)) ?_ | refine sdraw_pure (.free rfl rfl) rfl (po_call (f4l) rfl (ac .nil)) ?_ | refine sdraw_pure (.free rfl rfl) rfl (po_call (fal) rfl (ac .nil)) ?_ | refine sdraw_pure (.free rfl rfl) rfl (po_call (f4p) rfl (ac .nil)) ?_ | refine sdraw_pure (.free rfl rfl) rfl (po_call (fap) rfl (ac .nil)) ?_) <;> (first | refine sdraw_pure (.free rfl rfl) rfl (po_call (k1) rfl (.cons rfl (.t _) (.cons rfl (.t _) (.cons rfl (.le req_le) .nil)))) ?_ | refine sdraw_pure (.free rfl rfl) rfl (po_call (k2) rfl (.cons rfl (.t _) (.cons rfl (.t _) (.cons rfl (.le req_le) .nil)))) ?_ | refine sdraw_pure (.free rfl rfl) rfl (po_load_bx_agg rfl rfl (tyT rfl) rfl (vc (vc (vc .nil))) rfl) ?_ | refine sdraw_pure (.free rfl rfl) rfl (po_load_agg rfl rfl (tyT rfl) rfl rfl) ?_) <;> (first | refine sdraw_pure (.free rfl rfl) rfl (po_call (k1) rfl (.cons rfl (.t _) (.cons rfl (.t _) (.cons rfl (.le req_le) .nil)))) ?_ | refine sdraw_pure (.free rfl rfl) rfl (po_call (k2) rfl (.cons rfl (.t _) (.cons rfl (.t _) (.cons rfl (.le req_le) .nil)))) ?_ | refine sdraw_pure (.free rfl rfl) rfl (po_move rfl rfl) ?_) <;> (first | refine sdraw_pure (.free rfl rfl) rfl (po_call (k1) rfl (.cons rfl (.t _) (.cons rfl (.t _) (.cons rfl (.le req_le) .nil)))) ?_ | refine sdraw_pure (.free rfl rfl) rfl (po_call (k2) rfl (.cons rfl (.t _) (.cons rfl (.t _) (.cons rfl (.le req_le) .nil)))) ?_ | refine sdraw_pure (.free rfl rfl) rfl (po_call (k3) rfl (ac (ac (ac .nil)))) ?_ | refine sdraw_pure (.free rfl rfl) rfl (po_call (haw) rfl (ac (ac (ac .nil)))) ?_ | refine sdraw_pure (.free rfl rfl) rfl (po_call (c4l) rfl (ac (ac (ac .nil)))) ?_ | refine sdraw_pure (.free rfl rfl) rfl (po_call (cal) rfl (ac (ac (ac .nil)))) ?_ | refine sdraw_pure (.free rfl rfl) rfl (po_call (c4p) rfl (ac (ac (ac .nil)))) ?_ | refine sdraw_pure (.free rfl rfl) rfl (po_call (cap) rfl (ac (ac (ac .nil)))) ?_ | refine sdraw_pure (.free rfl rfl) rfl (po_call (f4l) rfl (ac (ac (ac .nil)))) ?_ | refine sdraw_pure (.free rfl rfl) rfl (po_call (fal) rfl (ac (ac (ac .nil)))) ?_ | refine sdraw_pure (.free rfl rfl) rfl (po_call (f4p) rfl (ac (ac (ac .nil)))) ?_ | refine sdraw_pure (.free rfl rfl) rfl (po_call (fap) rfl (ac (ac (ac .nil)))) ?_) <;> (first | refine sdraw_pure (.free rfl rfl) rfl (po_call (k1) rfl (.cons rfl (.t _) (.cons rfl (.t _) (.cons rfl (.le req_le) .nil)))) ?_ | refine sdraw_pure (.free rfl rfl) rfl (po_call (k2) rfl (.cons rfl (.t _) (.cons rfl (.t _) (.cons rfl (.le req_le) .nil)))) ?_ | refine sdraw_pure (.free rfl rfl) rfl (po_move rfl rfl) ?_) <;> (first | refine sdraw_pure (.free rfl rfl) rfl (po_call (k1) rfl (.cons rfl (.t _) (.cons rfl (.t _) (.cons rfl (.le req_le) .nil)))) ?_ | refine sdraw_pure (.free rfl rfl) rfl (po_call (k2) rfl (.cons rfl (.t _) (.cons rfl (.t _) (.cons rfl (.le req_le) .nil)))) ?_ | refine sdraw_pure (.free rfl rfl) rfl (po_extract rfl rfl rfl) ?_) <;> (first | refine sdraw_pure (.free rfl rfl) rfl (po_call (k1) rfl (.cons rfl (.t _) (.cons rfl (.t _) (.cons rfl (.le req_le) .nil)))) ?_ | refine sdraw_pure (.free rfl rfl) rfl (po_call (k2) rfl (.cons rfl (.t _) (.cons rfl (.t _) (.cons rfl (.le req_le) .nil)))) ?_ | refine sdraw_pure (.free rfl rfl) rfl (po_extract rfl rfl rfl) ?_) <;> (first | refine sdraw_pure (.free rfl rfl) rfl (po_call (k1) rfl (.cons rfl (.t _) (.cons rfl (.t _) (.cons rfl (.le req_le) .nil)))) ?_ | refine sdraw_pure (.free rfl rfl) rfl (po_call (k2) rfl (.cons rfl (.t _) (.cons rfl (.t _) (.cons rfl (.le req_le) .nil)))) ?_ | refine sdraw_pure (.free rfl rfl) rfl (po_assign rfl rfl) ?_) <;> (first | refine sdraw_pure (.free rfl rfl) rfl (po_call (k1) rfl (.cons rfl (.t _) (.cons rfl (.t _) (.cons rfl (.le req_le) .nil)))) ?_ | refine sdraw_pure (.free rfl rfl) rfl (po_call (k2) rfl (.cons rfl (.t _) (.cons rfl (.t _) (.cons rfl (.le req_le) .nil)))) ?_ | refine sdraw_pure (.free rfl rfl) rfl (po_assign rfl rfl) ?_) <;> (refine sdraw_nil ?_) <;> (refine sops_nil ?_))
    | ((refine swp_draw_all (id := 7) mixed (by kernel_rfl) (by kernel_rfl) ?_) <;> (first | refine sdraw_pure (.free rfl rfl) rfl (po_call (k1) rfl (.cons rfl (.t _) (.cons rfl (.t _) (.cons rfl (.le req_le) .nil)))) ?_ | refine sdraw_pure (.free rfl rfl) rfl (po_call (k2) rfl (.cons rfl (.t _) (.cons rfl (.t _) (.cons rfl (.le req_le) .nil)))) ?_ | refine sdraw_pure (.free rfl rfl) rfl (po_move rfl rfl) ?_) <;> (first | refine sdraw_pure (.free rfl rfl) rfl (po_call (k1) rfl (.cons rfl (.t _) (.cons rfl (.t _) (.cons rfl (.le req_le) .nil)))) ?_ | refine sdraw_pure (.free rfl rfl) rfl (po_call (k2) rfl (.cons rfl (.t _) (.cons rfl (.t _) (.cons rfl (.le req_le) .nil)))) ?_ | refine sdraw_pure (.free rfl rfl) rfl (po_call (k3) rfl (ac .nil)) ?_ | refine sdraw_pure (.free rfl rfl) rfl (po_call (haw) rfl (ac .nil)) ?_ | refine sdraw_pure (.free rfl rfl) rfl (po_call (c4l) rfl (ac .nil)) ?_ | refine sdraw_pure (.free rfl rfl) rfl (po_call (cal) rfl (ac .nil)) ?_ | refine sdraw_pure (.free rfl rfl) rfl (po_call (c4p) rfl (ac .nil)) ?_ | refine sdraw_pure (.free rfl rfl) rfl (po_call (cap) rfl (ac .nil)) ?_ | refine sdraw_pure (.free rfl rfl) rfl (po_call (f4l) rfl (ac .nil)) ?_ | refine sdraw_pure (.free rfl rfl) rfl (po_call (fal) rfl (ac .nil)) ?_ | refine sdraw_pure (.free rfl rfl) rfl (po_call (f4p) rfl (ac .nil)) ?_ | refine sdraw_pure (.free rfl rfl) rfl (po_call (fap) rfl (ac .nil)) ?_) <;> (first | refine sdraw_pure (.free rfl rfl) rfl (po_call (k1) rfl (.cons rfl (.t _) (.cons rfl (.t _) (.cons rfl (.le req_le) .nil)))) ?_ | refine sdraw_pure (.free rfl rfl) rfl (po_call (k2) rfl (.cons rfl (.t _) (.cons rfl (.t _) (.cons rfl (.le req_le) .nil)))) ?_ | refine sdraw_pure (.free rfl rfl) rfl (po_load_bx_agg rfl rfl (tyT rfl) rfl (vc (vc (vc .nil))) rfl) ?_ | refine sdraw_pure (.free rfl rfl) rfl (po_load_agg rfl rfl (tyT rfl) rfl rfl) ?_) <;> (first | refine sdraw_pure (.free rfl rfl) rfl (po_call (k1) rfl (.cons rfl (.t _) (.cons rfl (.t _) (.cons rfl (.le req_le) .nil)))) ?_ | refine sdraw_pure (.free rfl rfl) rfl (po_call (k2) rfl (.cons rfl (.t _) (.cons rfl (.t _) (.cons rfl (.le req_le) .nil)))) ?_ | refine sdraw_pure (.free rfl rfl) rfl (po_move rfl rfl) ?_) <;> (first | refine sdraw_pure (.free rfl rfl) rfl (po_call (k1) rfl (.cons rfl (.t _) (.cons rfl (.t _) (.cons rfl (.le req_le) .nil)))) ?_ | refine sdraw_pure (.free rfl rfl) rfl (po_call (k2) rfl (.cons rfl (.t _) (.cons rfl (.t _) (.cons rfl (.le req_le) .nil)))) ?_ | refine sdraw_pure (.free rfl rfl) rfl (po_call (k3) rfl (ac (ac (ac .nil)))) ?_ | refine sdraw_pure (.free rfl rfl) rfl (po_call (haw) rfl (ac (ac (ac .nil)))) ?_ | refine sdraw_pure (.free rfl rfl) rfl (po_call (c4l) rfl (ac (ac (ac .nil)))) ?_ | refine sdraw_pure (.free rfl rfl) rfl (po_call (cal) rfl (ac (ac (ac .nil)))) ?_ | refine sdraw_pure (.free rfl rfl) rfl (po_call (c4p) rfl (ac (ac (ac .nil)))) ?_ | refine sdraw_pure (.free rfl rfl) rfl (po_call (cap) rfl (ac (ac (ac .nil)))) ?_ | refine sdraw_pure (.free rfl rfl) rfl (po_call (f4l) rfl (ac (ac (ac .nil)))) ?_ | refine sdraw_pure (.free rfl rfl) rfl (po_call (fal) rfl (ac (ac (ac .nil)))) ?_ | refine sdraw_pure (.free rfl rfl) rfl (po_call (f4p) rfl (ac (ac (ac .nil)))) ?_ | refine sdraw_pure (.free rfl rfl) rfl (po_call (fap) rfl (ac (ac (ac .nil)))) ?_) <;> (first | refine sdraw_pure (.free rfl rfl) rfl (po_call (k1) rfl (.cons rfl (.t _) (.cons rfl (.t _) (.cons rfl (.le req_le) .nil)))) ?_ | refine sdraw_pure (.free rfl rfl) rfl (po_call (k2) rfl (.cons rfl (.t _) (.cons rfl (.t _) (.cons rfl (.le req_le) .nil)))) ?_ | refine sdraw_pure (.free rfl rfl) rfl (po_move rfl rfl) ?_) <;> (first | refine sdraw_pure (.free rfl rfl) rfl (po_call (k1) rfl (.cons rfl (.t _) (.cons rfl (.t _) (.cons rfl (.le req_le) .nil)))) ?_ | refine sdraw_pure (.free rfl rfl) rfl (po_call (k2) rfl (.cons rfl (.t _) (.cons rfl (.t _) (.cons rfl (.le req_le) .nil)))) ?_ | refine sdraw_pure (.free rfl rfl) rfl (po_extract rfl rfl rfl) ?_) <;> (first | refine sdraw_pure (.free rfl rfl) rfl (po_call (k1) rfl (.cons rfl (.t _) (.cons rfl (.t _) (.cons rfl (.le req_le) .nil)))) ?_ | refine sdraw_pure (.free rfl rfl) rfl (po_call (k2) rfl (.cons rfl (.t _) (.cons rfl (.t _) (.cons rfl (.le req_le) .nil)))) ?_ | refine sdraw_pure (.free rfl rfl) rfl (po_extract rfl rfl rfl) ?_) <;> (first | refine sdraw_pure (.free rfl rfl) rfl (po_call (k1) rfl (.cons rfl (.t _) (.cons rfl (.t _) (.cons rfl (.le req_le) .nil)))) ?_ | refine sdraw_pure (.free rfl rfl) rfl (po_call (k2) rfl (.cons rfl (.t _) (.cons rfl (.t _) (.cons rfl (.le req_le) .nil)))) ?_ | refine sdraw_pure (.free rfl rfl) rfl (po_assign rfl rfl) ?_) <;> (first | refine sdraw_pure (.free rfl rfl) rfl (po_call (k1) rfl (.cons rfl (.t _) (.cons rfl (.t _) (.cons rfl (.le req_le) .nil)))) ?_ | refine sdraw_pure (.free rfl rfl) rfl (po_call (k2) rfl (.cons rfl (.t _) (.cons rfl (.t _) (.cons rfl (.le req_le) .nil)))) ?_ | refine sdraw_pure (.free rfl rfl) rfl (po_assign rfl rfl) ?_) <;> (refine sdraw_nil ?_) <;> (refine sops_nil ?_))
    | ((refine swp_draw_all (id := 8) mixed (by kernel_rfl) (by kernel_rfl) ?_) <;> (first | refine sdraw_pure (.free rfl rfl) rfl (po_call (k1) rfl (.cons rfl (.t _) (.cons rfl (.t _) (.cons rfl (.le req_le) .nil)))) ?_ | refine sdraw_pure (.free rfl rfl) rfl (po_call (k2) rfl (.cons rfl (.t _) (.cons rfl (.t _) (.cons rfl (.le req_le) .nil)))) ?_ | refine sdraw_pure (.free rfl rfl) rfl (po_move rfl rfl) ?_) <;> (first | refine sdraw_pure (.free rfl rfl) rfl (po_call (k1) rfl (.cons rfl (.t _) (.cons rfl (.t _) (.cons rfl (.le req_le) .nil)))) ?_ | refine sdraw_pure (.free rfl rfl) rfl (po_call (k2) rfl (.cons rfl (.t _) (.cons rfl (.t _) (.cons rfl (.le req_le) .nil)))) ?_ | refine sdraw_pure (.free rfl rfl) rfl (po_call (k3) rfl (ac .nil)) ?_ | refine sdraw_pure (.free rfl rfl) rfl (po_call (haw) rfl (ac .nil)) ?_ | refine sdraw_pure (.free rfl rfl) rfl (po_call (c4l) rfl (ac .nil)) ?_ | refine sdraw_pure (.free rfl rfl) rfl (po_call (cal) rfl (ac .nil)) ?_ | refine sdraw_pure (.free rfl rfl) rfl (po_call (c4p) rfl (ac .nil)) ?_ | refine sdraw_pure (.free rfl rfl) rfl (po_call (cap) rfl (ac .nil)) ?_ | refine sdraw_pure (.free rfl rfl) rfl (po_call (f4l) rfl (ac .nil)) ?_ | refine sdraw_pure (.free rfl rfl) rfl (po_call (fal) rfl (ac .nil)) ?_ | refine sdraw_pure (.free rfl rfl) rfl (po_call (f4p) rfl (ac .nil)) ?_ | refine sdraw_pure (.free rfl rfl) rfl (po_call (fap) rfl (ac .nil)) ?_) <;> (first | refine sdraw_pure (.free rfl rfl) rfl (po_call (k1) rfl (.cons rfl (.t _) (.cons rfl (.t _) (.cons rfl (.le req_le) .nil)))) ?_ | refine sdraw_pure (.free rfl rfl) rfl (po_call (k2) rfl (.cons rfl (.t _) (.cons rfl (.t _) (.cons rfl (.le req_le) .nil)))) ?_ | refine sdraw_pure (.free rfl rfl) rfl (po_load_bx_agg rfl rfl (tyT rfl) rfl (vc (vc (vc .nil))) rfl) ?_ | refine sdraw_pure (.free rfl rfl) rfl (po_load_agg rfl rfl (tyT rfl) rfl rfl) ?_) <;> (first | refine sdraw_pure (.free rfl rfl) rfl (po_call (k1) rfl (.cons rfl (.t _) (.cons rfl (.t _) (.cons rfl (.le req_le) .nil)))) ?_ | refine sdraw_pure (.free rfl rfl) rfl (po_call (k2) rfl (.cons rfl (.t _) (.cons rfl (.t _) (.cons rfl (.le req_le) .nil)))) ?_ | refine sdraw_pure (.free rfl rfl) rfl (po_move rfl rfl) ?_) <;> (first | refine sdraw_pure (.free rfl rfl) rfl (po_call (k1) rfl (.cons rfl (.t _) (.cons rfl (.t _) (.cons rfl (.le req_le) .nil)))) ?_ | refine sdraw_pure (.free rfl rfl) rfl (po_call (k2) rfl (.cons rfl (.t _) (.cons rfl (.t _) (.cons rfl (.le req_le) .nil)))) ?_ | refine sdraw_pure (.free rfl rfl) rfl (po_call (k3) rfl (ac (ac (ac .nil)))) ?_ | refine sdraw_pure (.free rfl rfl) rfl (po_call (haw) rfl (ac (ac (ac .nil)))) ?_ | refine sdraw_pure (.free rfl rfl) rfl (po_call (c4l) rfl (ac (ac (ac .nil)))) ?_ | refine sdraw_pure (.free rfl rfl) rfl (po_call (cal) rfl (ac (ac (ac .nil)))) ?_ | refine sdraw_pure (.free rfl rfl) rfl (po_call (c4p) rfl (ac (ac (ac .nil)))) ?_ | refine sdraw_pure (.free rfl rfl) rfl (po_call (cap) rfl (ac (ac (ac .nil)))) ?_ | refine sdraw_pure (.free rfl rfl) rfl (po_call (f4l) rfl (ac (ac (ac .nil)))) ?_ | refine sdraw_pure (.free rfl rfl) rfl (po_call (fal) rfl (ac (ac (ac .nil)))) ?_ | refine sdraw_pure (.free rfl rfl) rfl (po_call (f4p) rfl (ac (ac (ac .nil)))) ?_ | refine sdraw_pure (.free rfl rfl) rfl (po_call (fap) rfl (ac (ac (ac .nil)))) ?_) <;> (first | refine sdraw_pure (.free rfl rfl) rfl (po_call (k1) rfl (.cons rfl (.t _) (.cons rfl (.t _) (.cons rfl (.le req_le) .nil)))) ?_ | refine sdraw_pure (.free rfl rfl) rfl (po_call (k2) rfl (.cons rfl (.t _) (.cons rfl (.t _) (.cons rfl (.le req_le) .nil)))) ?_ | refine sdraw_pure (.free rfl rfl) rfl (po_move rfl rfl) ?_) <;> (first | refine sdraw_pure (.free rfl rfl) rfl (po_call (k1) rfl (.cons rfl (.t _) (.cons rfl (.t _) (.cons rfl (.le req_le) .nil)))) ?_ | refine sdraw_pure (.free rfl rfl) rfl (po_call (k2) rfl (.cons rfl (.t _) (.cons rfl (.t _) (.cons rfl (.le req_le) .nil)))) ?_ | refine sdraw_pure (.free rfl rfl) rfl (po_extract rfl rfl rfl) ?_) <;> (first | refine sdraw_pure (.free rfl rfl) rfl (po_call (k1) rfl (.cons rfl (.t _) (.cons rfl (.t _) (.cons rfl (.le req_le) .nil)))) ?_ | refine sdraw_pure (.free rfl rfl) rfl (po_call (k2) rfl (.cons rfl (.t _) (.cons rfl (.t _) (.cons rfl (.le req_le) .nil)))) ?_ | refine sdraw_pure (.free rfl rfl) rfl (po_extract rfl rfl rfl) ?_) <;> (first | refine sdraw_pure (.free rfl rfl) rfl (po_call (k1) rfl (.cons rfl (.t _) (.cons rfl (.t _) (.cons rfl (.le req_le) .nil)))) ?_ | refine sdraw_pure (.free rfl rfl) rfl (po_call (k2) rfl (.cons rfl (.t _) (.cons rfl (.t _) (.cons rfl (.le req_le) .nil)))) ?_ | refine sdraw_pure (.free rfl rfl) rfl (po_assign rfl rfl) ?_) <;> (first | refine sdraw_pure (.free rfl rfl) rfl (po_call (k1) rfl (.cons rfl (.t _) (.cons rfl (.t _) (.cons rfl (.le req_le) .nil)))) ?_ | refine sdraw_pure (.free rfl rfl) rfl (po_call (k2) rfl (.cons rfl (.t _) (.cons rfl (.t _) (.cons rfl (.le req_le) .nil)))) ?_ | refine sdraw_pure (.free rfl rfl) rfl (po_assign rfl rfl) ?_) <;> (refine sdraw_nil ?_) <;> (refine sops_nil ?_))
    | refine swp_ret ?_
    | refine swp_skip ?_
    | refine swp_block ?_
    | refine swp_exit ?_
    | refine block_go ?_
    | refine block_exit ?_
    | refine block_far rfl ?_
    | refine block_ret ?_
    | refine then_ret ?_
    | refine then_exit ?_
    | refine for_ret ?_
    | refine for_exit ?_
    | refine ct ?_
    | refine cf ?_
    | refine swp_cond rfl (fun hc => ?_) (fun hc => ?_)
    | refine retq (by first | exact .inr rfl | exact .inl rfl) rfl (.tmp rfl (by first | exact .t _ | exact .own rfl (by first | rfl | assumption | (simp; done) | (simp; omega)) | exact .nil _ | exact .emp _ | exact .fn _) .nil) ?_)
  have hq : (if b3 = true then (!b1) else false) = false ∧ True := by
    refine ⟨?_, trivial⟩
    rcases hb1 with h | ⟨h, h'⟩ <;> simp_all
  clear hq
  rcases hb1 with h1 | ⟨h1, h1'⟩ <;> rcases hb2 with h2 | ⟨h2, h2'⟩
  all_goals
    repeat' (first
      | refine then_go ?_
      | refine swp_seq ?_
      | refine swp_weak (weak_show 1005 105 rfl rfl rfl rfl) ?_
      | ((refine swp_region (id := 9) ?_) <;> (refine sops_pure (.free rfl rfl) rfl rfl (po_move rfl rfl) ?_) <;> (refine sops_pure (.free rfl rfl) rfl rfl (po_move rfl rfl) ?_) <;> (first | refine sops_pure gy rfl rfl (po_move rfl rfl) ?_ | refine sops_skip gn1 rfl rfl ?_ | ((refine sops_split rfl rfl rfl (fun hc => ?_) (fun hc => ?_)) <;> (first | refine sops_pure gy rfl rfl (po_move rfl rfl) ?_ | refine sops_skip gn1 rfl rfl ?_))) <;> (first | refine sops_pure gy rfl rfl (po_not rfl rfl) ?_ | refine sops_skip gn1 rfl rfl ?_) <;> (first | refine sops_pure (.free rfl rfl) rfl rfl (pkt rfl) ?_ | refine sops_pure (.free rfl rfl) rfl rfl (pkf rfl) ?_) <;> (refine sops_pure (.free rfl rfl) rfl rfl (po_move rfl rfl) ?_) <;> (first | refine sops_pure gy rfl rfl (po_move rfl rfl) ?_ | refine sops_skip gn0 rfl rfl ?_ | ((refine sops_split rfl rfl rfl (fun hc => ?_) (fun hc => ?_)) <;> (first | refine sops_pure gy rfl rfl (po_move rfl rfl) ?_ | refine sops_skip gn0 rfl rfl ?_))) <;> (first | refine sops_pure gy rfl rfl (po_move rfl rfl) ?_ | refine sops_skip gn0 rfl rfl ?_) <;> (first | refine sops_pure gy rfl rfl (po_move rfl rfl) ?_ | refine sops_skip gn1 rfl rfl ?_ | refine sops_skip (.nou rfl rfl rfl) rfl rfl ?_ | ((refine sops_split rfl rfl rfl (fun hc => ?_) (fun hc => ?_)) <;> (first | refine sops_pure gy rfl rfl (po_move rfl rfl) ?_ | refine sops_skip gn1 rfl rfl ?_ | refine sops_skip (.nou rfl rfl rfl) rfl rfl ?_))) <;> (first | refine sops_pure gy rfl rfl (po_not rfl rfl) ?_ | refine sops_skip gn1 rfl rfl ?_ | refine sops_skip (.nou rfl rfl rfl) rfl rfl ?_) <;> (first | refine sops_pure gy rfl rfl (pkt rfl) ?_ | refine sops_pure gy rfl rfl (pkf rfl) ?_ | refine sops_skip gn0 rfl rfl ?_) <;> (first | refine sops_pure (.free rfl rfl) rfl rfl (pkt rfl) ?_ | refine sops_pure (.free rfl rfl) rfl rfl (pkf rfl) ?_) <;> (refine sops_nil ?_))
      | ((refine swp_region (id := 11) ?_) <;> (refine sops_pure (.free rfl rfl) rfl rfl (po_move rfl rfl) ?_) <;> (first | refine sops_lcall (xl) (fun i => i) (fun i => i) (fun _ => false) (.free rfl rfl) rfl rfl rfl (by first | ((repeat' (first | exact .nil | refine .cons rfl rfl rfl ?_ | refine .vw rfl (by first | exact .t _ | exact .own rfl (by first | rfl | assumption | (simp; done) | (simp; omega)) | exact .nil _ | exact .emp _ | exact .fn _) ?_)) <;> fail) | fail) .nil .nil rfl rfl (fun _ h => Bool.noConfusion h) ?_ | refine sops_pure (.free rfl rfl) rfl rfl (po_call (haw) rfl (ac .nil)) ?_ | refine sops_pure (.free rfl rfl) rfl rfl (po_call (c4m) rfl (ac .nil)) ?_ | refine sops_pure (.free rfl rfl) rfl rfl (po_call (c4z) rfl (ac .nil)) ?_ | refine sops_pure (.free rfl rfl) rfl rfl (po_call (hsame) rfl (ac .nil)) ?_) <;> (refine sops_pure (.free rfl rfl) rfl rfl (po_move rfl rfl) ?_) <;> (first | refine sops_lcall (xl) (fun i => i) (fun i => i) (fun _ => false) (.free rfl rfl) rfl rfl rfl (by first | ((repeat' (first | exact .nil | refine .cons rfl rfl rfl ?_ | refine .vw rfl (by first | exact .t _ | exact .own rfl (by first | rfl | assumption | (simp; done) | (simp; omega)) | exact .nil _ | exact .emp _ | exact .fn _) ?_)) <;> fail) | fail) .nil .nil rfl rfl (fun _ h => Bool.noConfusion h) ?_ | refine sops_pure (.free rfl rfl) rfl rfl (po_call (haw) rfl (ac .nil)) ?_ | refine sops_pure (.free rfl rfl) rfl rfl (po_call (c4m) rfl (ac .nil)) ?_ | refine sops_pure (.free rfl rfl) rfl rfl (po_call (c4z) rfl (ac .nil)) ?_ | refine sops_pure (.free rfl rfl) rfl rfl (po_call (hsame) rfl (ac .nil)) ?_) <;> (refine sops_allocS str24 (.free rfl rfl) rfl rfl rfl rfl ?_) <;> (refine sops_allocS str24 (.free rfl rfl) rfl rfl rfl rfl ?_) <;> (first | refine sops_store (.free rfl rfl) rfl rfl rfl rfl rfl rfl (tyT rfl) rfl rfl ?_ | refine sops_store_own (by rfl) (.free rfl rfl) rfl rfl rfl rfl (by first | rfl | assumption | omega | (simp; done) | (simp; omega) | (simp at *; omega)) rfl (by first | exact .t _ | exact .own rfl (by first | rfl | assumption | (simp; done) | (simp; omega)) | exact .nil _ | exact .emp _ | exact .fn _) rfl rfl (tyT rfl) rfl (by first | rfl | assumption | exact map_at (by first | assumption | omega)) rfl ?_) <;> (first | refine sops_store (.free rfl rfl) rfl rfl rfl rfl rfl rfl (tyT rfl) rfl rfl ?_ | refine sops_store_own (by rfl) (.free rfl rfl) rfl rfl rfl rfl (by first | rfl | assumption | omega | (simp; done) | (simp; omega) | (simp at *; omega)) rfl (by first | exact .t _ | exact .own rfl (by first | rfl | assumption | (simp; done) | (simp; omega)) | exact .nil _ | exact .emp _ | exact .fn _) rfl rfl (tyT rfl) rfl (by first | rfl | assumption | exact map_at (by first | assumption | omega)) rfl ?_) <;> (refine sops_nil ?_))
      | ((refine swp_region (id := 12) ?_) <;> (refine sops_build0 (.free rfl rfl) rfl rfl rfl (tyE rfl) rfl ?_) <;> (refine sops_pure (.free rfl rfl) rfl rfl (po_move rfl rfl) ?_) <;> (first | refine sap rfl (tyE rfl) ?_ | refine san rfl (tyE rfl) ?_) <;> (refine sops_pure (.free rfl rfl) rfl rfl (po_move rfl rfl) ?_) <;> (first | refine sap rfl (tyE rfl) ?_ | refine san rfl (tyE rfl) ?_) <;> (first | refine sops_lcall (xl) (fun i => i) (fun i => i) (fun _ => false) (.free rfl rfl) rfl rfl rfl (by first | ((repeat' (first | exact .nil | refine .cons rfl rfl rfl ?_ | refine .vw rfl (by first | exact .t _ | exact .own rfl (by first | rfl | assumption | (simp; done) | (simp; omega)) | exact .nil _ | exact .emp _ | exact .fn _) ?_)) <;> fail) | fail) .nil .nil rfl rfl (fun _ h => Bool.noConfusion h) ?_ | refine sops_pure (.free rfl rfl) rfl rfl (po_call (haw) rfl (ac .nil)) ?_ | refine sops_pure (.free rfl rfl) rfl rfl (po_call (c4m) rfl (ac .nil)) ?_ | refine sops_pure (.free rfl rfl) rfl rfl (po_call (c4z) rfl (ac .nil)) ?_ | refine sops_pure (.free rfl rfl) rfl rfl (po_call (hsame) rfl (ac .nil)) ?_) <;> (refine sops_allocS str24 (.free rfl rfl) rfl rfl rfl rfl ?_) <;> (first | refine sops_store (.free rfl rfl) rfl rfl rfl rfl rfl rfl (tyT rfl) rfl rfl ?_ | refine sops_store_own (by rfl) (.free rfl rfl) rfl rfl rfl rfl (by first | rfl | assumption | omega | (simp; done) | (simp; omega) | (simp at *; omega)) rfl (by first | exact .t _ | exact .own rfl (by first | rfl | assumption | (simp; done) | (simp; omega)) | exact .nil _ | exact .emp _ | exact .fn _) rfl rfl (tyT rfl) rfl (by first | rfl | assumption | exact map_at (by first | assumption | omega)) rfl ?_) <;> (refine sops_nil ?_))
      | ((refine swp_any (id := 13) [[], [], [], [], [], [105], [], [], [], [], [], [], [], [], [], [], []] [[105], [], [], [], [], [], [105], [105], [105], [105], [105], [], [], [], [], [], []] mixed (by kernel_rfl) ?_) <;> (first | refine sany_pure (.free rfl rfl) rfl rfl (fun _ _ => po_load_bx_agg rfl rfl (tyT rfl) rfl (vc (vc .nil)) rfl) ?_ | refine sany_pure (.free rfl rfl) rfl rfl (fun _ _ => po_load_agg rfl rfl (tyT rfl) rfl rfl) ?_ | refine sany_pure (.free rfl rfl) rfl rfl (fun _ _ => po_load_own_agg rfl rfl rfl (by first | rfl | assumption | omega | (simp; done) | (simp; omega) | (simp at *; omega)) (tyT rfl) (by first | rfl | assumption | exact map_at (by first | assumption | omega)) rfl rfl) ?_ | refine sany_pure (.free rfl rfl) rfl rfl (fun _ _ => po_load_bx_ag rfl rfl (tyT rfl) rfl rfl rfl rfl) ?_) <;> (first | refine sany_pure (.free rfl rfl) rfl rfl (fun _ _ => po_field_bx rfl rfl (tyF rfl)) ?_ | refine sany_pure (.free rfl rfl) rfl rfl (fun _ _ => po_field rfl rfl (tyF rfl)) ?_ | refine sany_pure (.free rfl rfl) rfl rfl (fun _ _ => po_field_own rfl rfl rfl (by first | rfl | assumption | omega | (simp; done) | (simp; omega) | (simp at *; omega)) (tyF rfl)) ?_) <;> (first | refine sany_pure (.free rfl rfl) rfl rfl (fun _ _ => po_load_bx rfl rfl (tyT rfl) rfl rfl) ?_ | refine sany_pure (.free rfl rfl) rfl rfl (fun _ _ => po_load rfl rfl (tyT rfl) rfl) ?_ | refine sany_pure (.free rfl rfl) rfl rfl (fun _ _ => po_load_own rfl rfl rfl (by first | rfl | assumption | omega | (simp; done) | (simp; omega) | (simp at *; omega)) (tyT rfl) (by first | rfl | assumption | exact map_at (by first | assumption | omega)) rfl) ?_) <;> (first | refine sany_pure (.free rfl rfl) rfl rfl (fun _ _ => po_field_bx rfl rfl (tyF rfl)) ?_ | refine sany_pure (.free rfl rfl) rfl rfl (fun _ _ => po_field rfl rfl (tyF rfl)) ?_ | refine sany_pure (.free rfl rfl) rfl rfl (fun _ _ => po_field_own rfl rfl rfl (by first | rfl | assumption | omega | (simp; done) | (simp; omega) | (simp at *; omega)) (tyF rfl)) ?_) <;> (first | refine sany_pure (.free rfl rfl) rfl rfl (fun _ _ => po_load_bx rfl rfl (tyT rfl) rfl rfl) ?_ | refine sany_pure (.free rfl rfl) rfl rfl (fun _ _ => po_load rfl rfl (tyT rfl) rfl) ?_ | refine sany_pure (.free rfl rfl) rfl rfl (fun _ _ => po_load_own rfl rfl rfl (by first | rfl | assumption | omega | (simp; done) | (simp; omega) | (simp at *; omega)) (tyT rfl) (by first | rfl | assumption | exact map_at (by first | assumption | omega)) rfl) ?_) <;> (refine sany_eff [] [(105, _)] (.free rfl rfl) rfl rfl (fun _ _ _ _ => e_append rfl rfl rfl (by first | rfl | simp) rfl (by first | exact .t _ | exact .own rfl (by first | rfl | assumption | (simp; done) | (simp; omega)) | exact .nil _ | exact .emp _ | exact .fn _) (tyE rfl) (by first | assumption | (simp at *; omega)) (by first | assumption | (simp [maxLen] at *; omega))) ?_) <;> (first | refine sany_pure (.free rfl rfl) rfl rfl (fun _ _ => po_field_bx rfl rfl (tyF rfl)) ?_ | refine sany_pure (.free rfl rfl) rfl rfl (fun _ _ => po_field rfl rfl (tyF rfl)) ?_ | refine sany_pure (.free rfl rfl) rfl rfl (fun _ _ => po_field_own rfl rfl rfl (by first | rfl | assumption | omega | (simp; done) | (simp; omega) | (simp at *; omega)) (tyF rfl)) ?_) <;> (first | refine sany_pure (.free rfl rfl) rfl rfl (fun _ _ => po_load_bx rfl rfl (tyT rfl) rfl rfl) ?_ | refine sany_pure (.free rfl rfl) rfl rfl (fun _ _ => po_load rfl rfl (tyT rfl) rfl) ?_ | refine sany_pure (.free rfl rfl) rfl rfl (fun _ _ => po_load_own rfl rfl rfl (by first | rfl | assumption | omega | (simp; done) | (simp; omega) | (simp at *; omega)) (tyT rfl) (by first | rfl | assumption | exact map_at (by first | assumption | omega)) rfl) ?_) <;> (first | refine sany_pure (.free rfl rfl) rfl rfl (fun _ _ => po_field_bx rfl rfl (tyF rfl)) ?_ | refine sany_pure (.free rfl rfl) rfl rfl (fun _ _ => po_field rfl rfl (tyF rfl)) ?_ | refine sany_pure (.free rfl rfl) rfl rfl (fun _ _ => po_field_own rfl rfl rfl (by first | rfl | assumption | omega | (simp; done) | (simp; omega) | (simp at *; omega)) (tyF rfl)) ?_) <;> (first | refine sany_pure (.free rfl rfl) rfl rfl (fun _ _ => po_load_bx rfl rfl (tyT rfl) rfl rfl) ?_ | refine sany_pure (.free rfl rfl) rfl rfl (fun _ _ => po_load rfl rfl (tyT rfl) rfl) ?_ | refine sany_pure (.free rfl rfl) rfl rfl (fun _ _ => po_load_own rfl rfl rfl (by first | rfl | assumption | omega | (simp; done) | (simp; omega) | (simp at *; omega)) (tyT rfl) (by first | rfl | assumption | exact map_at (by first | assumption | omega)) rfl) ?_) <;> (refine sany_pure (.free rfl rfl) rfl rfl (fun _ _ => po_max rfl rfl rfl) ?_) <;> (refine sany_pure (.free rfl rfl) rfl rfl (fun _ _ => po_buildS str24 rfl (pc (pc .nil)) rfl) ?_) <;> (first | refine sany_pure (.free rfl rfl) rfl rfl (fun _ _ => po_call (haw) rfl (ac (ac .nil))) ?_ | refine sany_pure (.free rfl rfl) rfl rfl (fun _ _ => po_call (c4m) rfl (ac (ac .nil))) ?_ | refine sany_pure (.free rfl rfl) rfl rfl (fun _ _ => po_call (c4z) rfl (ac (ac .nil))) ?_ | refine sany_pure (.free rfl rfl) rfl rfl (fun _ _ => po_call (hsame) rfl (ac (ac .nil))) ?_) <;> (refine sany_pure (.free rfl rfl) rfl rfl (fun _ _ => po_move rfl rfl) ?_) <;> (first | refine sany_pure gy rfl rfl (fun _ _ => po_call (haw) rfl .nil) ?_ | refine sany_pure gy rfl rfl (fun _ _ => po_call (c4m) rfl .nil) ?_ | refine sany_pure gy rfl rfl (fun _ _ => po_call (c4z) rfl .nil) ?_ | refine sany_pure gy rfl rfl (fun _ _ => po_call (hsame) rfl .nil) ?_ | refine sany_skip gn1 rfl rfl ?_ | ((refine sany_split rfl rfl rfl (fun hc => ?_) (fun hc => ?_)) <;> (first | refine sany_pure gy rfl rfl (fun _ _ => po_call (haw) rfl .nil) ?_ | refine sany_pure gy rfl rfl (fun _ _ => po_call (c4m) rfl .nil) ?_ | refine sany_pure gy rfl rfl (fun _ _ => po_call (c4z) rfl .nil) ?_ | refine sany_pure gy rfl rfl (fun _ _ => po_call (hsame) rfl .nil) ?_ | refine sany_skip gn1 rfl rfl ?_))) <;> (first | refine sany_pure (.free rfl rfl) rfl rfl (fun _ _ => pkt rfl) ?_ | refine sany_pure (.free rfl rfl) rfl rfl (fun _ _ => pkf rfl) ?_) <;> (refine sany_pure (.free rfl rfl) rfl rfl (fun _ _ => po_assign rfl rfl) ?_) <;> (refine sany_nil ?_))
      | refine swp_ret ?_
      | refine swp_skip ?_
      | refine swp_block ?_
      | refine swp_exit ?_
      | refine block_go ?_
      | refine block_exit ?_
      | refine block_far rfl ?_
      | refine block_ret ?_
      | refine then_ret ?_
      | refine then_exit ?_
      | refine for_ret ?_
      | refine for_exit ?_
      | refine ct ?_
      | refine cf ?_
      | refine swp_cond rfl (fun hc => ?_) (fun hc => ?_)
      | refine retq (by first | exact .inr rfl | exact .inl rfl) rfl (.tmp rfl (by first | exact .t _ | exact .own rfl (by first | rfl | assumption | (simp; done) | (simp; omega)) | exact .nil _ | exact .emp _ | exact .fn _) .nil) ?_)
    rfl
theorem walk (l : List Pl.Policy) (A0 : Option Addr) (cap0 : Nat) (m : List Pl.Policy) (A1 : Option Addr) (cap1 : Nat) (p : Pl.Policy) (pcs : Array Value) (a : Pl.Asker) (port : Int) (w : World) (hA : SliceAt PolicyR 5 w.heap.size w A0 l) (hl1 : l.length ≤ cap0) (hl2 : cap0 ≤ maxLen)
    (hB : SliceAt PolicyR 5 w.heap.size w A1 m) (hm1 : m.length ≤ cap1) (hm2 : cap1 ≤ maxLen) (hp : PolicyR w.heap.size w p pcs.toList) (hns : a.ns.size ≤ maxLen) (hsa : a.sa.size ≤ maxLen) (hadr : (Lit.int .u32 a.addr).wf = true) :
    Calls Tryz.prog 6 #[.slice A0 l.length cap0, .slice A1 m.length cap1, .agg pcs, .agg #[.string a.ns, .string a.sa, .int .u32 a.addr], .int .i64 port] w fun e w' => e = .returned (.bool true) ∧ Lo w w' := by
  have hpol : SliceC PolicyR 5 w.heap.size w l [.slice A0 l.length cap0] := ⟨A0, cap0, rfl, hA, hl1, hl2⟩
  have hpom : SliceC PolicyR 5 w.heap.size w m [.slice A1 m.length cap1] := ⟨A1, cap1, rfl, hB, hm1, hm2⟩
  obtain ⟨tl⟩ := pcs
  have h := law_ l m (sl_ok policy_ok hpol) (sl_ok policy_ok hpom) p (policy_ok _ _ _ _ hp) a ⟨hns, hsa, hadr⟩ port
  exact h.law w _ rfl fun i t v h1 h2 => by
    match i, h1, h2 with
    | 0, h1, h2 => simp at h1 h2; subst h1 h2; exact (sl_bwd (enc := polT) (fun _ => rfl) policy_bwd hpol).1
    | 1, h1, h2 => simp at h1 h2; subst h1 h2; exact (sl_bwd (enc := polT) (fun _ => rfl) policy_bwd hpom).1
    | 2, h1, h2 => simp at h1 h2; subst h1 h2; exact agg_bwd (policy_bwd p _ hp)
    | 3, h1, h2 => simp at h1 h2; subst h1 h2; exact agg_bwd (vs := [_, _, _]) (cellsAre_cons (.v _) rfl (cellsAre_cons (.v _) rfl (cellsAre_cons (.v _) rfl (cellsAre_nil _))))
    | 4, h1, h2 => simp at h1 h2; subst h1 h2; exact .v _
end Go.Proofs.YtlcecabfmemfeaaGreat.SplitMore
