/- Merged by bundlec.py: SimM, SimN, SimO, SimP, SimQ, SimR, SimS, SimU, SimV, SimX, SimY, SimW, SimZ, SimIt, SimBy, SimExt, SimArr, Rel09, SimHd1, SimHd3. -/
import Derived.Test.YtcpbdcamfhoiaaaDoorSimJ
import Derived.Test.YtcpbdcamfhoiaaaDoorOwn
import Derived.Lib.SliceRun
import Derived.Laws.RangeAny
import Derived.Lib.ConvBytes
import Derived.Laws.BytesString
import Derived.Lib.Bytealg
import Derived.Test.YtcpbdcamfhoiaaaDoorOpen0
import Derived.Test.YtcpbdcamfhoiaaaDoorSimTab
/- A logic of states: rows that may be written; rows lent to a call. -/
namespace Go.Proofs.YtcpbdcamfhoiaaaDoor.Sim
set_option linter.unusedVariables false
set_option linter.unusedSimpArgs false
open Go.RowKit Mem
section
variable {P : Program} {bx : List (Nat × List A)} {ow : List (Nat × Own)} {o : Oper} {ρ : Operand → Option A} {r : A}
theorem own_form {w : World} {base : Nat} {e : TypeId} {sz : Nat} {v : Value} {n : Nat} {vs : List Value} (h : RowM w base e sz v n vs) (hn : 0 < n) : ∃ b cap cur, v = .slice (some ⟨b, 0, none⟩) n cap ∧ base ≤ b ∧ (∃ fz, w.heap[b]? = some (.cells cur e fz) ∧ FzOk fz cur.size) ∧ n ≤ cap ∧ cap ≤ maxLen ∧ cur.size = cap * sz ∧ cur.toList.take (n * sz) = vs := by
  obtain ⟨_, ⟨_, h0⟩ | ⟨b, cap, cur, h1⟩⟩ := h
  · omega
  · exact ⟨b, cap, cur, h1⟩
/-- a place in a row of the call's own -/
theorem po_index_own {t e : TypeId} {x ix : Operand} {i nn sz k : Nat} {rows : List (List T)} {n : Int} {ik : IntKind} (ho : o.op = .indexAddr t x ix) (hx : ρ x = some (.own i nn)) (hi : get ow i = some ⟨e, sz, rows⟩) (hnn : nn = rows.length) (hix : ρ ix = some (.t (.v (.int ik n)))) (hT : sliceSz P t = some sz) (hn : n = (k : Int)) (hk : k < nn) : PureOp P bx ow o ρ (.oe i nn sz k 0) := pure_run fun C m g w a he h => by
  obtain ⟨h1, h2, _, h4⟩ := h x (by simp [ho, Op.operands]) _ hx
  have h5 := tr_v (h ix (by simp [ho, Op.operands]) _ hix)
  have hln := he.ln i _ hi
  have hv := h4 (by rw [hln]; exact hnn)
  obtain ⟨e', ii, hu, hie, hs⟩ := sliceSz_spec hT
  obtain ⟨vs, hown, _⟩ := he.owns i _ hi
  dsimp only at hown
  obtain ⟨b, cap, cur, e1, _⟩ := own_form hown (by omega)
  rw [e1] at hv
  subst hn hnn
  have hlt : (k : Int) < (rows.length : Int) := by omega
  refine ⟨.pointer (some ⟨b, k * sz, none⟩), ?_, h1, h2, ⟨_, rfl⟩, fun _ => ⟨b, by rw [e1]; rfl, by simp⟩⟩
  simp [execOp, ho, hv, h5, Instr.indexAt, asIntOf, run_underlying hu, sizeOf, typeInfo, hie, hs, hk, addr_add]
theorem po_field_own {s : TypeId} {x : Operand} {f q i nn sz k off : Nat} {o' : Own} (ho : o.op = .fieldAddr s x f) (hx : ρ x = some (.oe i nn sz k off)) (hi : get ow i = some o') (hnn : nn = o'.rows.length) (hq : fieldOff P s f = some q) : PureOp P bx ow o ρ (.oe i nn sz k (off + q)) := pure_run fun C m g w a he h => by
  obtain ⟨h1, h2, _, h4⟩ := h x (by simp [ho, Op.operands]) _ hx
  have hln := he.ln i _ hi
  obtain ⟨b, h5, h6⟩ := h4 (by rw [hln]; exact hnn)
  refine ⟨.pointer (some ⟨b, k * sz + off + q, none⟩), by simp only [execOp, ho, h6, Sem.run_bind, run_field hq]; rfl, h1, h2, ⟨_, rfl⟩, fun _ => ⟨b, h5, by rw [Nat.add_assoc]⟩⟩
/-- an element's cell -/
theorem own_cell {C : Ctx} {w : World} {m : Mm} {g : Gh} (he : EnvG C bx ow w m g) {i b k j : Nat} {e : TypeId} {sz : Nat} {rows : List (List T)} {row : List T} {t : T} (hi : get ow i = some ⟨e, sz, rows⟩) (hb : (g.go i).ownBlock = some b) (hk : rows[k]? = some row) (hj : row[j]? = some t) : ∃ u, w.cell? ⟨b, k * sz + j, none⟩ = some u ∧ TR m t u ∧ u.oneCell' = true := by
  obtain ⟨vs, hown, hr, hc, _⟩ := he.owns i _ hi
  dsimp only at hown hr hc
  have h1 := flat_get hr hk hj
  have h2 : k * sz + j < vs.length := by rw [hc.1]; exact (List.getElem?_eq_some_iff.1 h1).1
  have h3 := hown.cells hb (k * sz + j) _ (List.getElem?_eq_getElem h2)
  rw [addr_add, Nat.zero_add] at h3
  exact ⟨_, h3, hc.2 _ t _ h1 (List.getElem?_eq_getElem h2)⟩
theorem po_load_own {ty e : TypeId} {x : Operand} {i nn sz k off n : Nat} {rows : List (List T)} {row : List T} {t : T} (ho : o.op = .load ty x) (hx : ρ x = some (.oe i nn sz k off)) (hi : get ow i = some ⟨e, sz, rows⟩) (hnn : nn = rows.length) (hT : tyI P ty = some (false, n)) (hk : rows[k]? = some row) (ht : row[off]? = some t) : PureOp P bx ow o ρ (.t t) := pure_run fun C m g w a he h => by
  obtain ⟨h1, h2, _, h4⟩ := h x (by simp [ho, Op.operands]) _ hx
  obtain ⟨b, h5, h6⟩ := h4 (by rw [he.ln i _ hi]; exact hnn)
  obtain ⟨u, h7, h8, _⟩ := own_cell he hi h5 hk ht
  exact ⟨u, by simp [execOp, ho, h6, run_load_scalar hT h7], h8⟩
theorem po_load_own_agg {ty e : TypeId} {x : Operand} {i nn sz k off n : Nat} {rows : List (List T)} {row ts : List T} (ho : o.op = .load ty x) (hx : ρ x = some (.oe i nn sz k off)) (hi : get ow i = some ⟨e, sz, rows⟩) (hnn : nn = rows.length) (hT : tyI P ty = some (true, n)) (hk : rows[k]? = some row) (hn : ts.length = n) (ht : (row.drop off).take n = ts) : PureOp P bx ow o ρ (.t (.agg ts)) := pure_run fun C m g w a he h => by
  obtain ⟨h1, h2, _, h4⟩ := h x (by simp [ho, Op.operands]) _ hx
  obtain ⟨b, h5, h6⟩ := h4 (by rw [he.ln i _ hi]; exact hnn)
  have hts : ∀ (j : Nat) t, ts[j]? = some t → row[off + j]? = some t := fun j t hj => by
    have hjn : j < n := by rw [← hn]; exact (List.getElem?_eq_some_iff.1 hj).1
    rw [← ht, List.getElem?_take_of_lt hjn, List.getElem?_drop] at hj; exact hj
  have hcell : ∀ j, j < n → ∃ u t, w.cell? ⟨b, k * sz + off + j, none⟩ = some u ∧ ts[j]? = some t ∧ TR m t u ∧ u.oneCell' = true := fun j hj => by
    have h7 := List.getElem?_eq_getElem (show j < ts.length by omega)
    obtain ⟨u, h8, h9⟩ := own_cell he hi h5 hk (hts j _ h7)
    rw [← Nat.add_assoc] at h8
    exact ⟨u, _, h8, h7, h9⟩
  have hf : ∃ us : List Value, us.length = n ∧ ∀ j, j < n → ∃ u t, us[j]? = some u ∧ w.cell? ⟨b, k * sz + off + j, none⟩ = some u ∧ ts[j]? = some t ∧ TR m t u ∧ u.oneCell' = true := by
    refine ⟨(List.range n).map fun j => (w.cell? ⟨b, k * sz + off + j, none⟩).getD undef, by simp, fun j hj => ?_⟩
    obtain ⟨u, t, h8, h9, h10⟩ := hcell j hj
    exact ⟨u, t, by simp [hj, h8], h8, h9, h10⟩
  obtain ⟨us, hul, hus⟩ := hf
  have hat : ∀ (j : Nat) v, us[j]? = some v → ∃ t, w.cell? ⟨b, k * sz + off + j, none⟩ = some v ∧ ts[j]? = some t ∧ TR m t v ∧ v.oneCell' = true := fun j v hj => by
    have hjn : j < n := by rw [← hul]; exact (List.getElem?_eq_some_iff.1 hj).1
    obtain ⟨u, t, h8, h9, h10⟩ := hus j hjn
    rw [hj] at h8; injection h8 with h8; subst h8
    exact ⟨t, h9, h10⟩
  refine ⟨.agg us.toArray, by simp only [execOp, ho, h6, Sem.run_bind, run_load_agg hT hul (fun j v hj => (hat j v hj).choose_spec.1)]; rfl, .agg ts _ (by simp [hn, hul]) ?_ ?_⟩
  · intro v hv'
    obtain ⟨j, hj⟩ := List.getElem?_of_mem hv'
    obtain ⟨t, _, _, _, h11⟩ := hat j v (by simpa using hj)
    exact h11
  · intro j t v h3 h4'
    obtain ⟨t', _, h9, h10, _⟩ := hat j v (by simpa using h4')
    rw [h3] at h9; injection h9 with h9; subst h9
    exact h10
end
theorem flat_set {sz : Nat} {rows : List (List T)} (hr : ∀ r ∈ rows, r.length = sz) {k : Nat} {row row' : List T} (hk : rows[k]? = some row) (hl : row'.length = sz) : (rows.set k row').flatten = rows.flatten.take (k * sz) ++ (row' ++ rows.flatten.drop (k * sz + sz)) := by
  induction rows generalizing k with
  | nil => simp at hk
  | cons q rs ih =>
    have hq := hr q (by simp)
    cases k with
    | zero =>
      simp only [List.set_cons_zero, List.flatten_cons, Nat.zero_mul, Nat.zero_add, List.take_zero, List.nil_append]
      rw [List.drop_append_of_le_length (by omega), List.drop_eq_nil_of_le (by omega), List.nil_append]
    | succ k =>
      simp at hk
      simp only [List.set_cons_succ, List.flatten_cons]
      rw [ih (fun x hx => hr x (by simp [hx])) hk, Nat.succ_mul]
      have h1 : (q ++ rs.flatten).take (k * sz + sz) = q ++ rs.flatten.take (k * sz) := by
        rw [List.take_append, List.take_of_length_le (l := q) (by omega)]; congr 2; omega
      have h2 : (q ++ rs.flatten).drop (k * sz + sz + sz) = rs.flatten.drop (k * sz + sz) := by
        rw [List.drop_append, List.drop_eq_nil_of_le (show q.length ≤ k * sz + sz + sz by omega), List.nil_append]; congr 1; omega
      rw [h1, h2, List.append_assoc]
theorem set_self {α : Type} {l : List α} {k : Nat} {x : α} (h : l[k]? = some x) : l.set k x = l := by
  obtain ⟨hk, rfl⟩ := List.getElem?_eq_some_iff.1 h
  exact List.set_getElem_self hk
theorem take_mid {α : Type} (a b c : List α) (n : Nat) (h : n ≤ b.length) : (a ++ (b ++ c)).take (a.length + n) = a ++ b.take n := by
  rw [List.take_append, List.take_of_length_le (by omega), show a.length + n - a.length = n by omega, List.take_append_of_le_length h]
theorem drop_mid {α : Type} (a b c : List α) (n : Nat) (h : n ≤ b.length) : (a ++ (b ++ c)).drop (a.length + n) = b.drop n ++ c := by
  rw [List.drop_append, List.drop_eq_nil_of_le (by omega), show a.length + n - a.length = n by omega, List.drop_append_of_le_length h, List.nil_append]
section
variable {C : Ctx} {bx : List (Nat × List A)} {ow : List (Nat × Own)} {w : World} {m : Mm} {g : Gh}
/-- a row's elements written -/
theorem EnvG.setE (he : EnvG C bx ow w m g) {i b cap : Nat} {e : TypeId} {sz : Nat} {rows rows' : List (List T)} {cur cur' : Array Value} {vs' : List Value} (hh : hid i = true) (hi : get ow i = some ⟨e, sz, rows⟩) (hl : rows'.length = rows.length)
    (hgo : g.go i = .slice (some ⟨b, 0, none⟩) rows.length cap) {fz : Nat × Nat} (hcells : w.heap[b]? = some (.cells cur e fz)) (hfz : FzOk fz cur.size) (hr : ∀ r ∈ rows', r.length = sz) (hc : CellsAre m rows'.flatten vs') (hcs : cur'.size = cur.size) (htk : cur'.toList.take (rows.length * sz) = vs') :
    EnvG C bx ((i, ⟨e, sz, rows'⟩) :: ow) (w.setRow b cur') m g := by
  obtain ⟨vs, hown, hr0, hc0, hb0⟩ := he.owns i _ hi
  dsimp only at hown hr0 hc0 hb0
  have hblk : (g.go i).ownBlock = some b := by rw [hgo]; rfl
  obtain ⟨hmb, hbx, hmi⟩ := hb0 b hblk
  have hlt := hown.lt b hblk
  have hmn : ∀ k, m b k = none := fun k => by rw [hmb k, vis_hid hh]; rfl
  have hsame := setRow_heap w b cur cur' e fz hcells
  have hother : ∀ k, k ≠ b → (w.setRow b cur').heap[k]? = w.heap[k]? := fun k hk => setRow_other w b k cur' hk
  have hgr : w.grownBy (w.setRow b cur') (some b) := EnvG.setB.grown_setRow' w b cur'
  have hown' : RowM (w.setRow b cur') 0 e sz (g.go i) rows'.length vs' := by
    refine ⟨by rw [hc.1, flat_len hr], ?_⟩
    obtain ⟨_, ⟨h1, _⟩ | ⟨b2, cap2, cur2, h1, h2, ⟨fz2, h3, _⟩, h4, h5, h6, h7⟩⟩ := hown
    · rw [hgo] at h1; cases h1
    · rw [hgo] at h1
      injection h1 with h1 h8 h9
      injection h1 with h1; injection h1 with h1
      subst h1 h9
      rw [hcells] at h3; injection h3 with h3; injection h3 with h3
      subst h3
      exact .inr ⟨b, cap, cur', by rw [hl]; exact hgo, h2, ⟨fz, hsame, by rw [hcs]; exact hfz⟩, by rw [hl]; exact h4, h5, by rw [hcs]; exact h6, by rw [hl]; exact htk⟩
  exact {
    lo := he.lo.grown hgr (fun k hk => by injection hk with hk; subst hk; exact hmi)
    gm := he.gm
    sub := fun b' o' v' hv' => by
      have hb' : b' ≠ b := fun e => by rw [e, hmn o'] at hv'; cases hv'
      rw [World.cell?_of_block (a := ⟨b', o', none⟩) (hother b' hb')]; exact he.sub b' o' v' hv'
    ext := he.ext, lb := he.lb
    lw := fun j => by
      rw [get_cons, he.lw j]
      by_cases hji : i = j
      · subst hji; rw [if_pos rfl, hi]; rfl
      · rw [if_neg hji]
    ln := fun j o hj => by
      rw [get_cons] at hj
      by_cases hji : i = j
      · subst hji; rw [if_pos rfl] at hj; injection hj with hj; subst hj; rw [he.ln i _ hi]; exact hl.symm
      · rw [if_neg hji] at hj; exact he.ln j o hj
    boxes := fun j cs hj => by
      obtain ⟨vs2, ty, h1, h2, h3, h4, h5⟩ := he.boxes j cs hj
      exact ⟨vs2, ty, by rw [hother _ (hbx j cs hj)]; exact h1, h2, h3, h4, h5⟩
    inj := he.inj
    owns := fun j o hj => by
      rw [get_cons] at hj
      by_cases hji : i = j
      · subst hji
        rw [if_pos rfl] at hj; injection hj with hj; subst hj
        refine ⟨vs', hown', hr, hc, fun b2 hb2 => ?_⟩
        rw [hblk] at hb2; injection hb2 with hb2; subst hb2
        exact ⟨fun k => by rw [hmn k, vis_hid hh]; rfl, hbx, hmi⟩
      · rw [if_neg hji] at hj
        obtain ⟨vs2, h1, h2, h3, h4⟩ := he.owns j o hj
        refine ⟨vs2, h1.kept hgr ?_, h2, h3, h4⟩
        cases hb2 : (g.go j).ownBlock with
        | none => exact .inl rfl
        | some b2 => exact .inr fun e => he.apart j i o _ hj hi (fun e => hji e.symm) b2 hb2 (by rw [hblk]; exact e.symm)
    apart := fun j k oj ok hj hk hjk => by
      have h1 : ∃ o, get ow j = some o := by
        rw [get_cons] at hj
        by_cases hji : i = j
        · subst hji; exact ⟨_, hi⟩
        · rw [if_neg hji] at hj; exact ⟨_, hj⟩
      have h2 : ∃ o, get ow k = some o := by
        rw [get_cons] at hk
        by_cases hki : i = k
        · subst hki; exact ⟨_, hi⟩
        · rw [if_neg hki] at hk; exact ⟨_, hk⟩
      exact he.apart j k _ _ h1.choose_spec h2.choose_spec hjk
    pin := fun j o hj hj2 => by
      rw [get_cons] at hj
      by_cases hji : i = j
      · subst hji; exact he.pin i _ hi hj2
      · rw [if_neg hji] at hj; exact he.pin j o hj hj2
    pinb := he.pinb }
end
section
variable {P : Program} {N : Nat} {Q : Exit → St → Prop} {ops : Array Oper} {rest : List Oper} {o : Oper} {tm : List (Nat × A)} {bx : List (Nat × List A)} {ow : List (Nat × Own)}
/-- an element's cells written -/
theorem sops_store_own {ty e : TypeId} {x z : Operand} {y : A} {i nn sz k off n : Nat} {ag : Bool} {rows : List (List T)} {row ts : List T} {t : T} (hh : hid i = true) (hg : GuardIs ops tm o true) (ho : o.op = .store ty x z) (hd : o.dst = none) (hx : evA tm x = some (.oe i nn sz k off)) (hi : get ow i = some ⟨e, sz, rows⟩) (hnn : nn = rows.length)
    (hz : evA tm z = some y) (hv : Vw ow y t) (hk : t.okB = true) (hts : t.cells = ts) (hT : tyI P ty = some (ag, n)) (hn : ts.length = n) (hrow : rows[k]? = some row) (hf : Nat.ble (off + n) row.length = true)
    (h : SOps P N ops Q rest ⟨tm, bx, (i, ⟨e, sz, rows.set k (row.take off ++ (ts ++ row.drop (off + n)))⟩) :: ow⟩) : SOps P N ops Q (o :: rest) ⟨tm, bx, ow⟩ := by
  refine .mk fun C a w ⟨m, g, hr⟩ => ?_
  obtain ⟨h1, h2, _, h4⟩ := hr.ev hx
  have he := hr.env
  obtain ⟨b, h5, h6⟩ := h4 (by rw [he.ln i _ hi]; exact hnn)
  have hvt : TR m t (a.eval z) := hv.ok he (hr.ev hz)
  have hca : ACells m g (ts.map A.t) (a.eval z).cells.toList := by
    have := acells_ok (m := m) (g := g) (y := .t t) hvt hk
    rw [← hts]; exact this
  obtain ⟨vs, hown, hrr, hc, _⟩ := he.owns i _ hi
  dsimp only at hown hrr hc
  have hfit := Nat.le_of_ble_eq_true hf
  have hkl : k < rows.length := (List.getElem?_eq_some_iff.1 hrow).1
  have hrl : row.length = sz := hrr row (List.mem_of_getElem? hrow)
  obtain ⟨b', cap, cur, e1, e2, ⟨fz, e3, e3f⟩, e4, e5, e6, e7⟩ := own_form hown (by omega)
  rw [e1] at h5; injection h5 with h5; subst h5
  have hus : (a.eval z).cells.toList.length = n := by rw [hca.1]; simp [hn]
  have hoff : k * sz + off + n ≤ cur.size := by
    have hks : k * sz + sz ≤ rows.length * sz := by rw [← Nat.succ_mul]; exact Nat.mul_le_mul_right _ hkl
    have : rows.length * sz ≤ cap * sz := Nat.mul_le_mul_right _ e4
    omega
  have hst := run_storeCells_atM P b' (k * sz + off) e fz (a.eval z).cells.toList 0 cur w e3 e3f (by rw [hus, Nat.add_zero]; exact hoff) hca.one
  rw [Nat.add_zero] at hst
  obtain ⟨d', i', hu, hi', _, hsz⟩ := tyI_spec hT
  have hrun : (execOp a.eval o).run P w = .ok .skip (w.setRow b' (cur.toList.take (k * sz + off) ++ (a.eval z).cells.toList ++ cur.toList.drop (k * sz + off + (a.eval z).cells.toList.length)).toArray) := by
    have hsz' : (a.eval z).cells.size = i'.size := by rw [hsz]; simpa using hus
    have hsv : (storeVar ty ⟨b', k * sz + off, none⟩ (a.eval z)).run P w = .ok () (w.setRow b' (cur.toList.take (k * sz + off) ++ (a.eval z).cells.toList ++ cur.toList.drop (k * sz + off + (a.eval z).cells.toList.length)).toArray) := by
      generalize a.eval z = u at *
      simp [storeVar, sizeOf, typeInfo, hi', hsz']
      simpa [hsz'] using hst
    simp only [execOp, ho, h6, Instr.storeAt, Instr.sureAddr, Sem.run_bind, Sem.run_pure, Result.andThen_ok, hsv]
  refine wpList_step fun K hK => ?_
  rw [if_pos (hg.wanted (m := m) (g := g) fun j want e _ _ y hy => hr.tmps e y hy)]
  unfold Oper.wp
  rw [hrun, Oper.upon_skip]
  refine hK _ _ (h.go C _ _ ⟨m, g, ?_⟩)
  rw [hd]
  refine hr.put_none (he.setE (rows := rows) (rows' := rows.set k (row.take off ++ (ts ++ row.drop (off + n)))) (vs' := vs.take (k * sz + off) ++ ((a.eval z).cells.toList ++ vs.drop (k * sz + off + n))) hh hi (by simp) e1 e3 e3f ?_ ?_ ?_ ?_) (fun x v h => h)
  · intro r0 hr0
    rcases List.mem_or_eq_of_mem_set hr0 with h7 | h7
    · exact hrr r0 h7
    · subst h7; simp; omega
  · have hks : (k + 1) * sz ≤ rows.length * sz := Nat.mul_le_mul_right _ hkl
    rw [Nat.succ_mul] at hks
    have hfl := flat_len hrr
    have hF : rows.flatten = rows.flatten.take (k * sz) ++ (row ++ rows.flatten.drop (k * sz + sz)) := by
      conv => lhs; rw [← set_self hrow]
      exact flat_set hrr hrow hrl
    have hta : (rows.flatten.take (k * sz)).length = k * sz := by rw [List.length_take]; omega
    have h8 := take_mid (rows.flatten.take (k * sz)) row (rows.flatten.drop (k * sz + sz)) off (by omega)
    have h9 := drop_mid (rows.flatten.take (k * sz)) row (rows.flatten.drop (k * sz + sz)) (off + n) hfit
    rw [← hF, hta] at h8 h9
    rw [flat_set hrr hrow (by simp; omega)]
    rw [List.append_assoc, List.append_assoc, ← h9, ← List.append_assoc, ← h8]
    have hts2 : CellsAre m ts (a.eval z).cells.toList := ⟨by rw [hus, hn], fun j t v h10 h11 => hca.2 j (.t t) v (by rw [List.getElem?_map, h10]; rfl) h11⟩
    exact (hc.take _).app (hts2.app (by rw [show k * sz + off + n = k * sz + (off + n) by omega]; exact hc.drop _))
  · have hus' : (a.eval z).cells.size = n := by simpa using hus
    simp; omega
  · have hks : (k + 1) * sz ≤ rows.length * sz := Nat.mul_le_mul_right _ hkl
    rw [Nat.succ_mul] at hks
    have hL : rows.length * sz ≤ cur.size := by rw [e6]; exact Nat.mul_le_mul_right _ e4
    have hl1 : (cur.toList.take (k * sz + off)).length = k * sz + off := by simp; omega
    rw [← e7]
    simp only [List.append_assoc]
    rw [List.take_append, hl1, List.take_of_length_le (show (cur.toList.take (k * sz + off)).length ≤ rows.length * sz by omega), List.take_append, List.take_of_length_le (show (a.eval z).cells.toList.length ≤ rows.length * sz - (k * sz + off) by omega), hus, Nat.sub_sub]
    rw [List.take_take, Nat.min_eq_left (by omega), List.drop_take]
end
end Go.Proofs.YtcpbdcamfhoiaaaDoor.Sim

/- A logic of states: arrays. -/
namespace Go.Proofs.YtcpbdcamfhoiaaaDoor.Sim
set_option linter.unusedVariables false
set_option linter.unusedSimpArgs false
open Go.RowKit Mem
/-- an array type: how many, an element's cells -/
def arrI (P : Program) (t : TypeId) : Option (Nat × Nat) := match P.underlying t with
  | some (.array n e) => (P.info? e).map fun i => (n, i.size)
  | _ => none
theorem arrI_spec {P : Program} {t n sz : Nat} (h : arrI P t = some (n, sz)) : ∃ e i, P.underlying t = some (.array n e) ∧ P.info? e = some i ∧ i.size = sz := by
  unfold arrI at h
  split at h
  · rename_i n' e hu
    cases hi : P.info? e with
    | none => rw [hi] at h; cases h
    | some i => rw [hi] at h; simp at h; obtain ⟨rfl, h⟩ := h; exact ⟨e, i, hu, hi, h⟩
  · cases h
section
variable {P : Program} {bx : List (Nat × List A)} {ow : List (Nat × Own)} {o : Oper} {ρ : Operand → Option A} {r : A}
theorem po_index_arr {t : TypeId} {x ix : Operand} {i off n sz k : Nat} {j : Int} {ik : IntKind} (ho : o.op = .indexAddr t x ix) (hx : ρ x = some (.bp i off)) (hi : ρ ix = some (.t (.v (.int ik j)))) (hT : arrI P t = some (n, sz)) (hj : j = (k : Int)) (hk : k < n) : PureOp P bx ow o ρ (.bp i (off + k * sz)) := pure_run fun C m g w a he h => by
  obtain ⟨h0, h1⟩ := h x (by simp [ho, Op.operands]) _ hx
  have h2 := tr_v (h ix (by simp [ho, Op.operands]) _ hi)
  obtain ⟨e, ii, hu, hie, hs⟩ := arrI_spec hT
  subst hj
  have hlt : (k : Int) < (n : Int) := by omega
  refine ⟨.pointer (some ⟨g.gb i, off + k * sz, none⟩), ?_, h0, rfl⟩
  simp [execOp, ho, h1, h2, Instr.indexAt, asIntOf, run_underlying hu, Instr.sureAddr, sizeOf, typeInfo, hie, hs, hlt, hk, add_mid]
end
section
variable {P : Program} {N : Nat} {Q : Exit → St → Prop} {ops : Array Oper} {rest : List Oper} {o : Oper} {tm : List (Nat × A)} {bx : List (Nat × List A)} {ow : List (Nat × Own)}
/-- an array's variable, its zero in it -/
theorem sops_alloc_arr {ty : TypeId} {z v : Value} {d n : Nat} (hg : GuardIs ops tm o true) (ho : o.op = .alloc ty) (hd : o.dst = some d) (hN : Nat.blt d N = true) (hz : (P.info? ty).bind (·.zero) = some z) (hc : z.cells.toList = List.replicate n v) (h1 : v.oneCell' = true) (hi : get bx d = none)
    (h : SOps P N ops Q rest ⟨(d, .bp d 0) :: tm, (d, List.replicate n (.t (.v v))) :: bx, ow⟩) (hp : Nat.ble 2000 d = false := by rfl) (hqc : cellB d = true := by rfl) : SOps P N ops Q (o :: rest) ⟨tm, bx, ow⟩ := by
  refine sops_run hg (fun C a w m g hr => ?_) h
  have hlb : g.lb d = false := by rw [hr.env.lb, hi]; rfl
  refine ⟨.pointer (some ⟨w.heap.size, 0, none⟩), w.alloc (.cells z.cells ty), ?_, m, g.addB d w.heap.size, ?_⟩
  · cases hq : P.info? ty with
    | none => rw [hq] at hz; cases hz
    | some i => rw [hq] at hz; simp at hz; simp [execOp, ho, Instr.alloc, zeroValue, typeInfo, hq, hz, newVar, newRow]
  · rw [hd]
    refine hr.put (hr.env.box hp hqc hi (vs := z.cells) (ty := ty) ⟨by rw [hc]; simp, fun j x u hx hu => ?_⟩) (fun x v h => h.addB hlb) (Nat.lt_of_succ_le (Nat.le_of_ble_eq_true hN)) ⟨by simp [Gh.addB], by simp [Gh.addB]⟩
    rw [hc] at hu
    have e1 := List.eq_of_mem_replicate (List.mem_of_getElem? hx)
    have e2 := List.eq_of_mem_replicate (List.mem_of_getElem? hu)
    subst e1 e2
    exact ⟨.v _, h1⟩
end
end Go.Proofs.YtcpbdcamfhoiaaaDoor.Sim

/- A logic of states: calls that are lent rows and boxes, or hand back rows of the caller's own. -/
namespace Go.Proofs.YtcpbdcamfhoiaaaDoor.Sim
set_option linter.unusedVariables false
set_option linter.unusedSimpArgs false
open Go.RowKit Mem

/-- the memory of the moment, all of it -/
def allw (w : World) : Mm := fun b o => w.cell? ⟨b, o, none⟩
theorem sub_allw (w : World) : Sub (allw w) w := fun _ _ _ h => h
theorem allw_of {m : Mm} {w : World} (h : Sub m w) : ∀ b o v, m b o = some v → allw w b o = some v := h
/-- what a slot reads as while nothing turns: hidden rows, too -/
inductive VwS (ow : List (Nat × Own)) : A → T → Prop
  | t (x : T) : VwS ow (.t x) x
  | nil (sz : Nat) : VwS ow (.t (.v (.slice none 0 0))) (.sl sz [])
  | emp (sz : Nat) : VwS ow .emp (.sl sz [])
  | own {i n : Nat} {e : TypeId} {sz : Nat} {rows : List (List T)} (h : get ow i = some ⟨e, sz, rows⟩) (hn : n = rows.length) : VwS ow (.own i n) (.sl sz rows)
  | fn (f : FuncId) : VwS ow (.t (.v (.func (.func f) #[] #[]))) (.clo f [])
  | agn : VwS ow (.ag []) (.agg [])
  | agc {x : A} {t : T} {cs : List A} {ts : List T} (h : VwS ow x t) (hl : VwS ow (.ag cs) (.agg ts)) : VwS ow (.ag (x :: cs)) (.agg (t :: ts))
section
variable {P : Program} {bx : List (Nat × List A)} {ow : List (Nat × Own)} {o : Oper} {ρ : Operand → Option A} {r : A}
theorem VwS.ok {C : Ctx} {w : World} {m : Mm} {g : Gh} {x : A} {t : T} {v : Value} (h : VwS ow x t) (he : EnvG C bx ow w m g) (hx : AR m g x v) : TR (allw w) t v := by
  induction h generalizing v with
  | t x => exact TR.mono (allw_of he.sub) hx
  | nil sz =>
    have hx' : TR m (.v (.slice none 0 0)) v := hx
    cases hx'
    exact tr_nil _ sz (Nat.zero_le _)
  | emp sz =>
    obtain ⟨A, rfl⟩ := hx
    exact tr_nil _ sz (Nat.zero_le _)
  | @own i n e sz rows h hn =>
    obtain ⟨_, _, _, hvg⟩ := hx
    obtain rfl := hvg (by rw [he.ln i _ h]; exact hn)
    obtain ⟨vs, ho, hr, hc, hb⟩ := he.owns i _ h
    exact tr_owns ho hr (hc.mono (allw_of he.sub)) fun b hb' k u hu => by
      have := ho.cells hb' k u hu
      rwa [addr_add, Nat.zero_add] at this
  | fn f =>
    have hx' : TR m (.v (.func (.func f) #[] #[])) v := hx
    cases hx'
    exact .clo f [] #[] rfl (fun j t v h => by simp at h)
  | agn =>
    obtain ⟨vs, rfl, h1, _⟩ := hx
    have : vs = #[] := Array.eq_empty_of_size_eq_zero (by simpa using h1)
    subst this
    exact .agg [] #[] rfl (fun v hv => by simp at hv) (fun j t v h => by simp at h)
  | @agc x t cs ts h hl ih1 ih2 =>
    obtain ⟨u, us, rfl, h1, h2, h3⟩ := ag_cons hx
    exact tr_agg_cons (ih1 h1.two) h2 (ih2 h3)
inductive ArgsS (ow : List (Nat × Own)) (ρ : Operand → Option A) : List Operand → List T → Prop
  | nil : ArgsS ow ρ [] []
  | cons {x : Operand} {y : A} {t : T} {xs : List Operand} {ts : List T} (h : ρ x = some y) (hv : VwS ow y t) (hl : ArgsS ow ρ xs ts) : ArgsS ow ρ (x :: xs) (t :: ts)
theorem ArgsS.ok {C : Ctx} {w : World} {m : Mm} {g : Gh} {xs : List Operand} {ts : List T} (h : ArgsS ow ρ xs ts) (he : EnvG C bx ow w m g) {a : Act} (ha : ∀ x ∈ xs, ∀ y, ρ x = some y → AR m g y (a.eval x)) : xs.length = ts.length ∧ ∀ (i : Nat) t v, ts[i]? = some t → (xs.map a.eval)[i]? = some v → TR (allw w) t v := by
  induction h with
  | nil => exact ⟨rfl, fun i t v h => by simp at h⟩
  | @cons x y t xs ts h hv hl ih =>
    obtain ⟨h1, h2⟩ := ih fun x hx => ha x (by simp [hx])
    refine ⟨by simp [h1], fun i t' v h3 h4 => ?_⟩
    cases i with
    | zero => simp at h3 h4; subst h3 h4; exact hv.ok he (ha x (by simp) y h)
    | succ i => simp at h3; exact h2 i t' v h3 (by simpa using h4)
/-- data that hangs on no memory -/
def T.scB : T → Bool
  | .v _ => true
  | _ => false
def T.sc : T → Bool
  | .v _ => true
  | .tup cs => cs.all T.scB
  | .agg cs => cs.all T.scB
  | _ => false
theorem sc1 {m m' : Mm} {t : T} {v : Value} (h : t.scB = true) (hv : TR m t v) : TR m' t v := by
  cases t with
  | v x => cases hv; exact .v _
  | _ => cases h
theorem sc_any {m m' : Mm} {t : T} {v : Value} (h : t.sc = true) (hv : TR m t v) : TR m' t v := by
  cases hv with
  | v => exact .v _
  | tup cs vs hl ht => exact .tup cs vs hl fun j t v h1 h2 => sc1 ((List.all_eq_true.1 h) t (List.mem_of_getElem? h1)) (ht j t v h1 h2)
  | agg cs vs hl h1 ht => exact .agg cs vs hl h1 fun j t v h2 h3 => sc1 ((List.all_eq_true.1 h) t (List.mem_of_getElem? h2)) (ht j t v h2 h3)
  | _ => cases h
/-- a call that sees hidden rows, too, and answers data that hangs on no memory -/
theorem po_call_see {f : FuncId} {xs : List Operand} {at_ : Array TypeId} {ts : List T} {t : T} (hc : PCalls P f ts t) (ho : o.op = .call { callee := .value (.func f), args := xs.toArray, argTypes := at_ }) (ha : ArgsS ow ρ xs ts) (hs : t.sc = true) : PureOp P bx ow o ρ (.t t) := by
  refine .mk fun C m g w a Q he h => ?_
  obtain ⟨hl, hv⟩ := ha.ok he (a := a) (fun x hx y hy => h x (by simp [ho, Op.operands, Call.operands, hx]) y hy)
  have hrun : (execOp a.eval o).run P w = .ok (.enter f (xs.map a.eval).toArray) w := by
    have := hc.ent (xs.map a.eval).toArray w
    simp only [execOp, ho, resolve, Deferred.ofValue, Act.eval, invoke, Sem.run_bind, Sem.run_pure, Result.andThen_ok, List.map_toArray, Array.append_empty, Array.empty_append, Array.append_eq_append, List.append_nil, List.nil_append] at this ⊢
    simpa using this
  exact wp_call_of hrun (hc.run (allw w) w _ (sub_allw w) (by simp [hl]) (fun i t v h1 h2 => hv i t v h1 (by simpa using h2))) fun e w' ⟨v, m', h1, h2, h3, h4, h5⟩ => ⟨v, h1, v, m, rfl, h2, Ext.refl _ _, he.sub.lo h2, sc_any hs h5⟩
def A.isLf : A → Bool
  | .ag _ => false
  | .tu _ => false
  | .cl _ _ => false
  | _ => true
theorem lf0 {m : Mm} {g : Gh} {x : A} {v : Value} (h : x.isLf = true) (hx : AR m g x v) : AR0 m g x v := by
  cases x <;> first | exact hx | cases h
def A.is1 : A → Bool
  | .tu _ => false
  | _ => true
theorem is1 {m : Mm} {g : Gh} {x : A} {v : Value} (h : x.is1 = true) (hx : AR m g x v) : AR1 m g x v := by
  cases x <;> first | exact hx | cases h
/-- a box's cells, rows of the call's own among them -/
theorem po_load_bx_ag {ty : TypeId} {x : Operand} {i off n : Nat} {cs ds : List A} (ho : o.op = .load ty x) (hx : ρ x = some (.bp i off)) (hT : tyI P ty = some (true, n)) (hb : get bx i = some cs) (hd : (cs.drop off).take n = ds) (hn : ds.length = n) (hlf : ds.all A.isLf = true) (hq : cellB i = true := by rfl) : PureOp P bx ow o ρ (.ag ds) := pure_run fun C m g w a he h => by
  obtain ⟨_, h1⟩ := h x (by simp [ho, Op.operands]) _ hx
  obtain ⟨vs, ty', hh, hs, hc, _, _⟩ := he.boxes i cs hb
  rw [ob_cells hq] at hh
  have hlen : off + n ≤ vs.size ∨ n = 0 := by
    rw [hs]; rw [← hd] at hn; simp at hn; omega
  have hat : ∀ (j : Nat) v, ((vs.toList.drop off).take n)[j]? = some v → j < n ∧ vs[off + j]? = some v := fun j v hj => by
    have hjn : j < n := by have := (List.getElem?_eq_some_iff.1 hj).1; simp at this; omega
    rw [List.getElem?_take_of_lt hjn, List.getElem?_drop] at hj
    exact ⟨hjn, by simpa using hj⟩
  have hcell : ∀ (j : Nat) v, ((vs.toList.drop off).take n)[j]? = some v → w.cell? ⟨g.gb i, off + j, none⟩ = some v := fun j v hj => by
    simp [World.cell?, hh, (hat j v hj).2]
  refine ⟨_, by simp only [execOp, ho, h1, Sem.run_bind, run_load_agg hT (show ((vs.toList.drop off).take n).length = n by simp; omega) hcell]; rfl, _, rfl, by simp [hn]; omega, fun j x u h3 h4 => ?_⟩
  obtain ⟨hjn, h5⟩ := hat j u (by simpa using h4)
  have h6 : cs[off + j]? = some x := by rw [← hd, List.getElem?_take_of_lt hjn, List.getElem?_drop] at h3; exact h3
  have h7 := hc _ x u h6 h5
  exact ⟨lf0 ((List.all_eq_true.1 hlf) x (List.mem_of_getElem? h3)) h7.1, h7.2⟩
theorem po_extract_tu {x : Operand} {i : Nat} {cs : List A} (ho : o.op = .extract x i) (hx : ρ x = some (.tu cs)) (ht : cs[i]? = some r) : PureOp P bx ow o ρ r := pure_run fun C m g w a he h => by
  obtain ⟨vs, h1, h2, h3⟩ := h x (by simp [ho, Op.operands]) _ hx
  have hlt : i < vs.size := by rw [h2]; exact (List.getElem?_eq_some_iff.1 ht).1
  exact ⟨vs[i], by simp [execOp, ho, h1, Instr.extract, hlt], (h3 i r _ ht (by simp [hlt])).two⟩
/-- a function that captured boxes -/
inductive CapsA (ρ : Operand → Option A) : List Operand → List A → Prop
  | nil : CapsA ρ [] []
  | cons {x : Operand} {y : A} {xs : List Operand} {ys : List A} (h : ρ x = some y) (hv : y.isLf = true) (hl : CapsA ρ xs ys) : CapsA ρ (x :: xs) (y :: ys)
theorem CapsA.at {xs : List Operand} {ys : List A} (h : CapsA ρ xs ys) : xs.length = ys.length ∧ ∀ (j : Nat) y, ys[j]? = some y → ∃ x, xs[j]? = some x ∧ ρ x = some y ∧ y.isLf = true := by
  induction h with
  | nil => exact ⟨rfl, fun j y h => by simp at h⟩
  | cons h hv hl ih =>
    refine ⟨by simp [ih.1], fun j y hy => ?_⟩
    cases j with
    | zero => simp at hy; subst hy; exact ⟨_, rfl, h, hv⟩
    | succ j => simp at hy; simpa using ih.2 j y hy
theorem po_func_cl {f : FuncId} {xs : List Operand} {ys : List A} (ho : o.op = .makeFunc (.func f) #[] xs.toArray) (ha : CapsA ρ xs ys) : PureOp P bx ow o ρ (.cl f ys) := pure_run fun C m g w a he h => by
  obtain ⟨hl, hv⟩ := ha.at
  refine ⟨.func (.func f) #[] (xs.map a.eval).toArray, ?_, _, rfl, by simpa using hl, fun j y u h1 h2 => ?_⟩
  · simp only [execOp, ho, Instr.makeFunc, List.map_toArray, List.map_nil, Sem.run_bind, Sem.run_pure, Result.andThen_ok]
  · obtain ⟨x, h3, h4, h5⟩ := hv j y h1
    have h6 : u = a.eval x := by simpa [h3] using h2.symm
    rw [h6]
    exact lf0 h5 (h x (by simp [ho, Op.operands]; exact List.mem_of_getElem? h3) y h4)
end

/-- a function's results, rows of the call's own among them -/
inductive ResA (P : Program) (st : St) : List ResultVar → List A → Prop
  | nil : ResA P st [] []
  | tmp {s : Nat} {y : A} {l : List ResultVar} {ys : List A} (h : get st.tm s = some y) (h1 : y.is1 = true) (hl : ResA P st l ys) : ResA P st (.tmp s :: l) (y :: ys)
  | cell {s i : Nat} {ty : TypeId} {n : Nat} {cs : List A} {ys : List A} {l : List ResultVar} (h : get st.tm s = some (.bp i 0)) (hb : get st.bx i = some cs) (hT : tyI P ty = some (true, n)) (hn : cs.length = n) (hlf : cs.all A.isLf = true) (hl : ResA P st l ys) (hq : cellB i = true := by rfl) : ResA P st (.cell s ty :: l) (.ag cs :: ys)
  | cell1 {s i : Nat} {ty : TypeId} {n : Nat} {c : A} {ys : List A} {l : List ResultVar} (h : get st.tm s = some (.bp i 0)) (hb : get st.bx i = some [c]) (hT : tyI P ty = some (false, n)) (h1 : c.is1 = true) (hl : ResA P st l ys) (hq : cellB i = true := by rfl) : ResA P st (.cell s ty :: l) (c :: ys)
  | tmpT {s : Nat} {y : A} {t : T} {l : List ResultVar} {ys : List A} (h : get st.tm s = some y) (hv : Vw st.ow y t) (hl : ResA P st l ys) : ResA P st (.tmp s :: l) (.t t :: ys)
  | cellT {s i : Nat} {ty : TypeId} {n : Nat} {cs : List A} {us : List T} {ys : List A} {l : List ResultVar} (h : get st.tm s = some (.bp i 0)) (hb : get st.bx i = some cs) (hT : tyI P ty = some (true, n)) (hv : VwL st.ow cs us) (hn : us.length = n) (hl : ResA P st l ys) (hq : cellB i = true := by rfl) : ResA P st (.cell s ty :: l) (.t (.agg us) :: ys)
def resA : List A → A
  | [t] => t
  | ts => .tu ts
theorem resA_ok {P : Program} {C : Ctx} {N : Nat} {st : St} {a : Act} {w : World} {m : Mm} {g : Gh} (hr : RelG C N st a w m g) {l : List ResultVar} {ts : List A} (h : ResA P st l ts) :
    ∃ vs : List Value, (l.mapM (resF a)).run P w = .ok vs w ∧ vs.length = ts.length ∧ ∀ (i : Nat) t v, ts[i]? = some t → vs[i]? = some v → AR1 m g t v := by
  induction h with
  | nil => exact ⟨[], by simp, rfl, fun i t v h => by simp at h⟩
  | @tmp s y l ys h h1 _ ih =>
    obtain ⟨vs, h2, h3, h4⟩ := ih
    refine ⟨a.tmps.getD s undef :: vs, ?_, by simp [h3], fun i t' v h5 h6 => ?_⟩
    · simp only [List.mapM_cons, resF, Sem.run_bind, Sem.run_pure, Result.andThen_ok, h2]
    · cases i with
      | zero => simp at h5 h6; subst h5; rw [← h6]; exact is1 h1 (by have := hr.tmps s y h; simpa [Act.eval] using this)
      | succ i => simp at h5; exact h4 i t' v h5 (by simpa using h6)
  | @cell s i ty n cs ys l h hb hT hn hlf _ hq ih =>
    obtain ⟨vs, h1, h2, h3⟩ := ih
    obtain ⟨_, hp⟩ := hr.tmps s _ h
    have hp' : a.tmps.getD s undef = .pointer (some ⟨g.gb i, 0, none⟩) := hp
    obtain ⟨xs, ty', hh, hs, hc, _⟩ := hr.env.boxes i cs hb
    rw [ob_cells hq] at hh
    have hcell : ∀ (j : Nat) v, xs.toList[j]? = some v → w.cell? ⟨g.gb i, 0 + j, none⟩ = some v := fun j v hj => by
      simp only [World.cell?, hh, Nat.zero_add]; simpa using hj
    have hld := run_load_agg (P := P) hT (w := w) (b := g.gb i) (off := 0) (cs := xs.toList) (by simp; omega) hcell
    refine ⟨.agg xs.toList.toArray :: vs, ?_, by simp [h2], fun q t' v h4 h5 => ?_⟩
    · simp only [Instr.loadAt, Instr.sureAddr, Sem.run_bind, Sem.run_pure, Result.andThen_ok] at hld
      simp only [List.mapM_cons, resF, Sem.run_bind, Sem.run_pure, Result.andThen_ok, hp', asAddr, hld, h1]
    · cases q with
      | zero =>
        simp at h4 h5; subst h4 h5
        exact ⟨xs, rfl, hs, fun j x u h6 h7 => ⟨lf0 ((List.all_eq_true.1 hlf) x (List.mem_of_getElem? h6)) (hc j x u h6 h7).1, (hc j x u h6 h7).2⟩⟩
      | succ q => simp at h4; exact h3 q t' v h4 (by simpa using h5)
  | @cell1 s i ty n c ys l h hb hT h1 _ hq ih =>
    obtain ⟨vs, h2, h3, h4⟩ := ih
    obtain ⟨_, hp⟩ := hr.tmps s _ h
    have hp' : a.tmps.getD s undef = .pointer (some ⟨g.gb i, 0, none⟩) := hp
    obtain ⟨xs, ty', hh, hs, hc, _⟩ := hr.env.boxes i _ hb
    rw [ob_cells hq] at hh
    have hlt : 0 < xs.size := by rw [hs]; simp
    have hcell : w.cell? ⟨g.gb i, 0, none⟩ = some xs[0] := by simp [World.cell?, hh, hlt]
    have hld := run_load_scalar (P := P) hT (w := w) hcell
    refine ⟨xs[0] :: vs, ?_, by simp [h3], fun q t' v h5 h6 => ?_⟩
    · simp only [Instr.loadAt, Instr.sureAddr, Sem.run_bind, Sem.run_pure, Result.andThen_ok] at hld
      simp only [List.mapM_cons, resF, Sem.run_bind, Sem.run_pure, Result.andThen_ok, hp', asAddr, hld, h2]
    · cases q with
      | zero => simp at h5 h6; subst h5 h6; exact is1 h1 (hc 0 c _ rfl (by simp [hlt])).1
      | succ q => simp at h5; exact h4 q t' v h5 (by simpa using h6)
  | @tmpT s y t l ys h hv _ ih =>
    obtain ⟨vs, h2, h3, h4⟩ := ih
    refine ⟨a.tmps.getD s undef :: vs, ?_, by simp [h3], fun i t' v h5 h6 => ?_⟩
    · simp only [List.mapM_cons, resF, Sem.run_bind, Sem.run_pure, Result.andThen_ok, h2]
    · cases i with
      | zero =>
        simp at h5 h6; subst h5; rw [← h6]
        exact hv.ok hr.env (by have := hr.tmps s y h; simpa [Act.eval] using this)
      | succ i => simp at h5; exact h4 i t' v h5 (by simpa using h6)
  | @cellT s i ty n cs us ys l h hb hT hv hn _ hq ih =>
    obtain ⟨vs, h1, h2, h3⟩ := ih
    obtain ⟨_, hp⟩ := hr.tmps s _ h
    have hp' : a.tmps.getD s undef = .pointer (some ⟨g.gb i, 0, none⟩) := hp
    obtain ⟨xs, ty', hh, hs, hc, _⟩ := hr.env.boxes i cs hb
    rw [ob_cells hq] at hh
    obtain ⟨e1, e2⟩ := hv.at
    have hcell : ∀ (j : Nat) v, xs.toList[j]? = some v → w.cell? ⟨g.gb i, 0 + j, none⟩ = some v := fun j v hj => by
      simp only [World.cell?, hh, Nat.zero_add]; simpa using hj
    have hld := run_load_agg (P := P) hT (w := w) (b := g.gb i) (off := 0) (cs := xs.toList) (by simp; omega) hcell
    refine ⟨.agg xs.toList.toArray :: vs, ?_, by simp [h2], fun q t' v h4 h5 => ?_⟩
    · simp only [Instr.loadAt, Instr.sureAddr, Sem.run_bind, Sem.run_pure, Result.andThen_ok] at hld
      simp only [List.mapM_cons, resF, Sem.run_bind, Sem.run_pure, Result.andThen_ok, hp', asAddr, hld, h1]
    · cases q with
      | zero =>
        simp at h4 h5; subst h4 h5
        refine TR.agg us xs (by omega) (fun v hv' => ?_) (fun j t v h6 h7 => ?_)
        · obtain ⟨j, hj⟩ := List.getElem?_of_mem hv'
          have hlt : j < cs.length := by rw [← hs]; simpa using (List.getElem?_eq_some_iff.1 hj).1
          exact (hc j _ v (List.getElem?_eq_getElem hlt) (by simpa using hj)).2
        · obtain ⟨x, h8, h9⟩ := e2 j t h6
          exact h9.ok hr.env (hc j x v h8 h7).1
      | succ q => simp at h4; exact h3 q t' v h4 (by simpa using h5)
theorem resultsA_ok {P : Program} {C : Ctx} {N : Nat} {st : St} {a : Act} {w : World} {m : Mm} {g : Gh} (hr : RelG C N st a w m g) {fn : Func} {ts : List A} (h : ResA P st fn.results.toList ts) : ∃ v, (results fn a.tmps).run P w = .ok v w ∧ AR m g (resA ts) v := by
  obtain ⟨vs, h1, h2, h3⟩ := resA_ok hr h
  refine ⟨if h : vs.toArray.size = 1 then vs.toArray[0] else .tuple vs.toArray, ?_, ?_⟩
  · have hm : (fn.results.mapM (resF a)).run P w = .ok vs.toArray w := by
      rw [← Array.toArray_toList (xs := fn.results), List.mapM_toArray, map_eq_pure_bind, Sem.run_bind, h1]; rfl
    show ((fn.results.mapM (resF a) >>= fun vs => pure (if h : vs.size = 1 then vs[0] else .tuple vs)) : Sem Value).run P w = _
    rw [Sem.run_bind, hm]; rfl
  · match ts, vs, h2 with
    | [], [], _ => exact ⟨#[], rfl, rfl, fun j t v h => by simp at h⟩
    | [t], [v], _ => exact (h3 0 t v rfl rfl).two
    | t :: t' :: ts, v :: v' :: vs, h2 => exact ⟨_, rfl, by simpa using h2, fun j t v h4 h5 => h3 j t v h4 (by simpa using h5)⟩

/-- blocks that are lent -/
def lentB (g : Gh) (bx : List (Nat × List A)) (ow : List (Nat × Own)) (b : Nat) : Bool := (bx.any fun p => Nat.beq (g.gb p.1) b) || (ow.any fun p => match (g.go p.1).ownBlock with | some c => Nat.beq c b | none => false)
def lentC (w : World) (m : Mm) (g : Gh) (bx : List (Nat × List A)) (ow : List (Nat × Own)) : Ctx := ⟨w, m, lentB g bx ow, g.go, g.gb⟩
theorem get_mem {β : Type} {l : List (Nat × β)} {i : Nat} {x : β} (h : get l i = some x) : (i, x) ∈ l := by
  induction l with
  | nil => cases h
  | cons p l ih =>
    obtain ⟨j, y⟩ := p
    rw [get_cons] at h
    split at h
    · rename_i e; subst e; injection h with h; subst h; simp
    · exact List.mem_cons_of_mem _ (ih h)
theorem mem_get {β : Type} {l : List (Nat × β)} {p : Nat × β} (h : p ∈ l) : ∃ x, get l p.1 = some x := by
  induction l with
  | nil => cases h
  | cons q l ih =>
    obtain ⟨j, y⟩ := q
    rw [get_cons]
    by_cases e : j = p.1
    · exact ⟨y, by rw [if_pos e]⟩
    · rw [if_neg e]
      rcases List.mem_cons.1 h with h | h
      · subst h; exact absurd rfl e
      · exact ih h
theorem lent_spec {g : Gh} {bx : List (Nat × List A)} {ow : List (Nat × Own)} {b : Nat} (h : lentB g bx ow b = true) : (∃ i cs, get bx i = some cs ∧ g.gb i = b) ∨ (∃ i o, get ow i = some o ∧ (g.go i).ownBlock = some b) := by
  unfold lentB at h
  rw [Bool.or_eq_true] at h
  rcases h with h | h
  · obtain ⟨p, h1, h2⟩ := List.any_eq_true.1 h
    obtain ⟨x, h3⟩ := mem_get h1
    exact .inl ⟨p.1, x, h3, Nat.eq_of_beq_eq_true h2⟩
  · obtain ⟨p, h1, h2⟩ := List.any_eq_true.1 h
    obtain ⟨x, h3⟩ := mem_get h1
    refine .inr ⟨p.1, x, h3, ?_⟩
    split at h2
    · rename_i c hc; rw [hc, Nat.eq_of_beq_eq_true h2]
    · cases h2
theorem lent_bx {g : Gh} {bx : List (Nat × List A)} {ow : List (Nat × Own)} {i : Nat} {cs : List A} (h : get bx i = some cs) : lentB g bx ow (g.gb i) = true := by
  unfold lentB
  rw [Bool.or_eq_true]
  exact .inl (List.any_eq_true.2 ⟨_, get_mem h, Nat.beq_refl _⟩)
theorem lent_ow {g : Gh} {bx : List (Nat × List A)} {ow : List (Nat × Own)} {i b : Nat} {o : Own} (h : get ow i = some o) (hb : (g.go i).ownBlock = some b) : lentB g bx ow b = true := by
  unfold lentB
  rw [Bool.or_eq_true]
  exact .inr (List.any_eq_true.2 ⟨_, get_mem h, by simp only [hb]; exact Nat.beq_refl _⟩)
structure LCalls (P : Program) (f : FuncId) (args : List A) (bx0 : List (Nat × List A)) (ow0 : List (Nat × Own)) (r : A) (bx1 : List (Nat × List A)) (ow1 : List (Nat × Own)) : Prop where
  ent : ∀ (args : Array Value) (w : World), (callFunc f args).run P w = .ok (.enter f args) w
  run : ∀ (m : Mm) (w : World) (g : Gh) (vals : Array Value), EnvG (lentC w m g bx0 ow0) bx0 ow0 w m g → vals.size = args.length → (∀ (i : Nat) x v, args[i]? = some x → vals[i]? = some v → AR m g x v) →
    Calls P f vals w fun e w' => ∃ v m' g', e = .returned v ∧ EnvG (lentC w m g bx0 ow0) bx1 ow1 w' m' g' ∧ AR m' g' r v
theorem envg_sub {C : Ctx} {bx bx' : List (Nat × List A)} {ow ow' : List (Nat × Own)} {w : World} {m : Mm} {g : Gh} (he : EnvG C bx ow w m g) (h2 : SubX bx bx' ow' bx') (h3 : SubW ow ow') :
    EnvG C bx' ow' w m { g with lb := fun i => (get bx' i).isSome, lw := fun i => (get ow' i).isSome } ∧ ∀ {x : A} {v : Value}, AR m g x v → x.live bx' ow' = true → AR m { g with lb := fun i => (get bx' i).isSome, lw := fun i => (get ow' i).isSome } x v := by
  have har : ∀ {x : A} {v : Value}, AR m g x v → x.live bx' ow' = true → AR m { g with lb := fun i => (get bx' i).isSome, lw := fun i => (get ow' i).isSome } x v := by
    intro x v h hl
    refine h.liftP (A.live0 bx' ow') (fun x v hl h => ?_) hl
    cases x with
    | bp i off => exact ⟨hl, h.2⟩
    | own i n => exact ⟨hl, h.2⟩
    | oe i n sz k off => exact ⟨hl, h.2⟩
    | sfx i n sz k => exact ⟨hl, h.2⟩
    | _ => exact h
  refine ⟨{
      lo := he.lo, gm := he.gm, sub := he.sub, ext := he.ext, lb := fun i => rfl, lw := fun i => rfl
      ln := fun i o hi => he.ln i o (h3.get hi)
      boxes := fun i cs hi => by
        obtain ⟨h4, h5⟩ := h2.get hi
        obtain ⟨vs, ty, h6, h7, h8, h9⟩ := he.boxes i cs h4
        exact ⟨vs, ty, h6, h7, fun j x v hx hv => ⟨har (h8 j x v hx hv).1 ((List.all_eq_true.1 h5) x (List.mem_of_getElem? hx)), (h8 j x v hx hv).2⟩, h9⟩
      inj := fun i j ci cj hi hj h => he.inj i j ci cj (h2.get hi).1 (h2.get hj).1 h
      owns := fun i o hi => by
        obtain ⟨vs, h6, h7, h8, h9⟩ := he.owns i o (h3.get hi)
        exact ⟨vs, h6, h7, h8, fun b hb => ⟨(h9 b hb).1, fun j cs hj => (h9 b hb).2.1 j cs (h2.get hj).1, (h9 b hb).2.2⟩⟩
      apart := fun i j oi oj hi hj => he.apart i j oi oj (h3.get hi) (h3.get hj)
      pin := fun i o hi => he.pin i o (h3.get hi)
      pinb := fun i cs hi => he.pinb i cs (h2.get hi).1 }, har⟩
def argTmA : Nat → List A → List (Nat × A)
  | _, [] => []
  | i, t :: ts => (i, t) :: argTmA (i + 1) ts
theorem argTmA_get : ∀ (ts : List A) (i s : Nat) (x : A), get (argTmA i ts) s = some x → i ≤ s ∧ ts[s - i]? = some x
  | [], i, s, x, h => by cases h
  | t :: ts, i, s, x, h => by
    unfold argTmA at h
    rw [get_cons] at h
    split at h
    · rename_i e; subst e; injection h with h; exact ⟨Nat.le_refl _, by simp [h]⟩
    · obtain ⟨h1, h2⟩ := argTmA_get ts (i + 1) s x h
      refine ⟨by omega, ?_⟩
      rw [show s - i = (s - (i + 1)) + 1 by omega]; simpa using h2
structure RetL (P : Program) (fn : Func) (r : A) (bx1 : List (Nat × List A)) (ow1 : List (Nat × Own)) (e : Exit) (st : St) : Prop where
  go : (e = .normal ∨ e = .ret) ∧ ∃ ts, ResA P st fn.results.toList ts ∧ r = resA ts ∧ r.live bx1 ow1 = true ∧ SubX st.bx bx1 ow1 bx1 ∧ SubW st.ow ow1
theorem retl {P : Program} {fn : Func} {r : A} {bx1 : List (Nat × List A)} {ow1 : List (Nat × Own)} {e : Exit} {st : St} {l : List ResultVar} {ts : List A} (he : e = .normal ∨ e = .ret) (hl : fn.results.toList = l) (h : ResA P st l ts) (hr : r = resA ts) (hv : r.live bx1 ow1 = true) (h1 : SubX st.bx bx1 ow1 bx1) (h2 : SubW st.ow ow1) : RetL P fn r bx1 ow1 e st := ⟨⟨he, ts, by rw [hl]; exact h, hr, hv, h1, h2⟩⟩
theorem retl1 {P : Program} {fn : Func} {r : A} {bx1 : List (Nat × List A)} {ow1 : List (Nat × Own)} {e : Exit} {st : St} {l : List ResultVar} (he : e = .normal ∨ e = .ret) (hl : fn.results.toList = l) (h : ResA P st l [r]) (hv : r.live bx1 ow1 = true) (h1 : SubX st.bx bx1 ow1 bx1) (h2 : SubW st.ow ow1) : RetL P fn r bx1 ow1 e st := retl he hl h rfl hv h1 h2
theorem lcalls_of {P : Program} {f : FuncId} {fn : Func} {c : Code} {args : List A} {bx0 bx1 : List (Nat × List A)} {ow0 ow1 : List (Nat × Own)} {r : A} {N : Nat} (hf : P.funcs[f]? = some fn) (hb : fn.body = some c) (hname : (fn.name == "runtime.NumGoroutine") = false) (hN : fn.ntmps = N) (hargs : Nat.ble args.length N = true)
    (h : SWp P N c (RetL P fn r bx1 ow1) ⟨argTmA 0 args, bx0, ow0⟩) : LCalls P f args bx0 ow0 r bx1 ow1 where
  ent := fun vals w => by
    have hname' : ¬ fn.name = "runtime.NumGoroutine" := by simpa using hname
    simp [callFunc, hf, hname', hb]
  run := fun m w g vals he hl hv => by
    refine calls_of_wp hf hb ?_
    have hal := Nat.le_of_ble_eq_true hargs
    have hrel : Rel (lentC w m g bx0 ow0) N ⟨argTmA 0 args, bx0, ow0⟩ { tmps := vals ++ Array.replicate (fn.ntmps - vals.size) undef, defers := [] } w := by
      refine ⟨m, g, he, by simp [hN]; omega, rfl, fun s x hx => ?_⟩
      obtain ⟨_, h2⟩ := argTmA_get args 0 s x hx
      rw [Nat.sub_zero] at h2
      have hlt : s < vals.size := by rw [hl]; exact (List.getElem?_eq_some_iff.1 h2).1
      have : (Act.eval { tmps := vals ++ Array.replicate (fn.ntmps - vals.size) undef, defers := [] } (.tmp s)) = vals[s] := by
        show (vals ++ Array.replicate (fn.ntmps - vals.size) undef).getD s undef = _
        rw [Array.getD_eq_getD_getElem?, Array.getElem?_append_left hlt, Array.getElem?_eq_getElem hlt]; rfl
      rw [this]
      exact hv s x _ h2 (Array.getElem?_eq_getElem hlt)
    refine Code.wp_mono ?_ (h.go _ _ w hrel)
    rintro e a' w' ⟨st, ⟨m', g', hr⟩, ⟨he, ts, hres, rfl, hlv, hx, hw⟩⟩
    obtain ⟨v, h1, h2⟩ := resultsA_ok hr hres
    obtain ⟨h3, h4⟩ := envg_sub hr.env hx hw
    rcases he with rfl | rfl <;> exact ⟨hr.defers, v, h1, v, m', _, rfl, h3, h4 h2 hlv⟩
end Go.Proofs.YtcpbdcamfhoiaaaDoor.Sim

/- A logic of states: the calls themselves. -/
namespace Go.Proofs.YtcpbdcamfhoiaaaDoor.Sim
set_option linter.unusedVariables false
set_option linter.unusedSimpArgs false
open Go.RowKit Mem

def ren0 (fb fw : Nat → Nat) : A → A
  | .bp i off => .bp (fb i) off
  | .own i n => .own (fw i) n
  | .oe i n sz k off => .oe (fw i) n sz k off
  | .sfx i n sz k => .sfx (fw i) n sz k
  | x => x
def A.ren (fb fw : Nat → Nat) (x : A) : A := x.mapA (ren0 fb fw)
def clr0 (p : Nat → Bool) : A → A
  | .own i n => bif p i then .any else .own i n
  | .oe i n sz k off => bif p i then .any else .oe i n sz k off
  | .sfx i n sz k => bif p i then .any else .sfx i n sz k
  | x => x
def A.clr (p : Nat → Bool) (x : A) : A := x.mapA (clr0 p)
theorem owns_block {w w' : World} {base : Nat} {e : TypeId} {sz : Nat} {v : Value} {n : Nat} {vs : List Value} (h : RowM w base e sz v n vs) (hk : ∀ b, v.ownBlock = some b → w'.heap[b]? = w.heap[b]?) : RowM w' base e sz v n vs := by
  obtain ⟨h1, h2 | ⟨b, cap, cur, h3, h4, ⟨fz, h5, hf⟩, h6⟩⟩ := h
  · exact ⟨h1, .inl h2⟩
  · exact ⟨h1, .inr ⟨b, cap, cur, h3, h4, ⟨fz, by rw [hk b (by rw [h3]; rfl)]; exact h5, hf⟩, h6⟩⟩
theorem ar_one {m : Mm} {g : Gh} {x : A} {v : Value} (h : AR m g x v) (h1 : v.oneCell' = true) : x.isLf = true ∨ ∃ f cs, x = .cl f cs := by
  cases x with
  | ag cs => obtain ⟨vs, rfl, _⟩ := h; cases h1
  | tu cs => obtain ⟨vs, rfl, _⟩ := h; cases h1
  | cl f cs => exact .inr ⟨f, cs, rfl⟩
  | _ => exact .inl rfl

/-- the callee's view -/
def Gh.sub (g : Gh) (fb fw : Nat → Nat) (bx0 : List (Nat × List A)) (ow0 : List (Nat × Own)) : Gh := { gb := fun i => g.gb (fb i), go := fun i => g.go (fw i), ln := fun i => g.ln (fw i), lb := fun i => (get bx0 i).isSome, lw := fun i => (get ow0 i).isSome }
/-- what a call asks of its caller, in names and numbers -/
structure Lend (fb fw : Nat → Nat) (kp q : Nat → Bool) (bx : List (Nat × List A)) (ow : List (Nat × Own)) (bx0 : List (Nat × List A)) (ow0 : List (Nat × Own)) (bx1 : List (Nat × List A)) (ow1 : List (Nat × Own)) (bx' : List (Nat × List A)) (ow' : List (Nat × Own)) : Prop where
  hx0 : ∀ i cs, get bx0 i = some cs → get bx (fb i) = some (cs.map (A.ren fb fw))
  hw0 : ∀ i o, get ow0 i = some o → get ow (fw i) = some o ∧ hid i = true ∧ hid (fw i) = true
  hl0 : ∀ i cs, get bx0 i = some cs → ∀ x ∈ cs, x.live bx0 ow0 = true
  hkd : ∀ i cs, (get bx0 i = some cs ∨ get bx1 i = some cs) → itB (fb i) = itB i ∧ chB (fb i) = chB i
  hx1 : ∀ i cs, get bx0 i = some cs → Nat.ble 2000 i = true ∧ ∃ cs', get bx1 i = some cs'
  hxn : ∀ i cs, get bx1 i = some cs → get bx0 i = none → get bx (fb i) = none ∧ Nat.ble 2000 (fb i) = false
  hwn : ∀ i o, get ow1 i = some o → get ow0 i = none → get ow (fw i) = none ∧ Nat.ble 2000 (fw i) = false
  hwh : ∀ i o, get ow1 i = some o → hid (fw i) = hid i
  hwp : ∀ i o, get ow1 i = some o → Nat.ble 2000 (fw i) = true → Nat.ble 2000 i = true
  hbi : ∀ i j ci cj, get bx1 i = some ci → get bx1 j = some cj → fb i = fb j → i = j
  hwi : ∀ i j oi oj, (get ow0 i = some oi ∨ get ow1 i = some oi) → (get ow0 j = some oj ∨ get ow1 j = some oj) → fw i = fw j → i = j
  hkp : ∀ i, kp i = true → Nat.ble 2000 i = true ∧ ∃ o0 o1, get ow0 i = some o0 ∧ get ow1 i = some o1 ∧ o1.rows.length = o0.rows.length
  hq : ∀ i o, get ow0 i = some o → kp i = false → q (fw i) = true
  b1 : ∀ i cs, get bx1 i = some cs → get bx' (fb i) = some (cs.map (A.ren fb fw))
  b2 : ∀ j, (∀ i cs, get bx1 i = some cs → fb i ≠ j) → get bx' j = (get bx j).map fun cs => cs.map (A.clr q)
  o1 : ∀ i o, get ow1 i = some o → get ow' (fw i) = some o
  o2 : ∀ j, (∀ i o, get ow1 i = some o → fw i ≠ j) → (∀ i o, get ow0 i = some o → fw i ≠ j) → get ow' j = get ow j
  o3 : ∀ j i o, get ow0 i = some o → fw i = j → (∀ i o, get ow1 i = some o → fw i ≠ j) → get ow' j = none
section
variable {fb fw : Nat → Nat} {kp q : Nat → Bool} {bx bx0 bx1 bx' : List (Nat × List A)} {ow ow0 ow1 ow' : List (Nat × Own)} {C : Ctx} {w : World} {m : Mm} {g : Gh}
theorem Lend.ren_in (h : Lend fb fw kp q bx ow bx0 ow0 bx1 ow1 bx' ow') (he : EnvG C bx ow w m g) {x : A} {v : Value} (hl : x.live bx0 ow0 = true) (hx : AR m g (x.ren fb fw) v) : AR m (g.sub fb fw bx0 ow0) x v := by
  have key0 : ∀ (x : A) (v : Value), A.live0 bx0 ow0 x = true → AR0 m g (ren0 fb fw x) v → AR0 m (g.sub fb fw bx0 ow0) x v := by
    intro x v hl hx
    cases x with
    | bp i off => exact ⟨hl, hx.2⟩
    | own i n => exact ⟨hl, hx.2⟩
    | oe i n sz k off => exact ⟨hl, hx.2⟩
    | sfx i n sz k => exact ⟨hl, hx.2⟩
    | _ => exact hx
  have key1 : ∀ (x : A) (v : Value), x.all1 (A.live0 bx0 ow0) = true → AR1 m g (x.map1 (ren0 fb fw)) v → AR1 m (g.sub fb fw bx0 ow0) x v := by
    intro x v hl hx
    cases x with
    | ag cs =>
      obtain ⟨vs, e, h1, h2⟩ := hx
      refine ⟨vs, e, by simpa using h1, fun j x u hj hu => ?_⟩
      have := h2 j _ u (by rw [List.getElem?_map, hj]; rfl) hu
      exact ⟨key0 x u ((List.all_eq_true.1 hl) x (List.mem_of_getElem? hj)) this.1, this.2⟩
    | cl f cs =>
      obtain ⟨vs, e, h1, h2⟩ := hx
      refine ⟨vs, e, by simpa using h1, fun j x u hj hu => ?_⟩
      exact key0 x u ((List.all_eq_true.1 hl) x (List.mem_of_getElem? hj)) (h2 j _ u (by rw [List.getElem?_map, hj]; rfl) hu)
    | tu cs => exact absurd hx id
    | t x => exact hx
    | emp => exact hx
    | any => exact hx
    | bp i off => exact key0 (.bp i off) v hl hx
    | own i n => exact key0 (.own i n) v hl hx
    | oe i n sz k off => exact key0 (.oe i n sz k off) v hl hx
    | sfx i n sz k => exact key0 (.sfx i n sz k) v hl hx
  cases x with
  | tu cs =>
    obtain ⟨vs, e, h1, h2⟩ := hx
    refine ⟨vs, e, by simpa using h1, fun j x u hj hu => ?_⟩
    exact key1 x u ((List.all_eq_true.1 hl) x (List.mem_of_getElem? hj)) (h2 j _ u (by rw [List.getElem?_map, hj]; rfl) hu)
  | ag cs => exact (key1 (.ag cs) v hl hx).two
  | cl f cs => exact (key1 (.cl f cs) v hl hx).two
  | t x => exact hx
  | emp => exact hx
  | any => exact hx
  | bp i off => exact (key0 (.bp i off) v hl hx).two
  | own i n => exact (key0 (.own i n) v hl hx).two
  | oe i n sz k off => exact (key0 (.oe i n sz k off) v hl hx).two
  | sfx i n sz k => exact (key0 (.sfx i n sz k) v hl hx).two
theorem Lend.env_in (h : Lend fb fw kp q bx ow bx0 ow0 bx1 ow1 bx' ow') (he : EnvG C bx ow w m g) : EnvG (lentC w m (g.sub fb fw bx0 ow0) bx0 ow0) bx0 ow0 w m (g.sub fb fw bx0 ow0) where
  lo := .of_lo (Lo.refl _)
  gm := fun b o hb => by
    rcases lent_spec hb with ⟨i, cs, h1, h2⟩ | ⟨i, o', h1, h2⟩
    · obtain ⟨_, _, _, _, _, _, h3⟩ := he.boxes _ _ (h.hx0 i cs h1)
      subst h2; exact h3 o
    · obtain ⟨h3, _, h4⟩ := h.hw0 i o' h1
      obtain ⟨vs, _, _, _, h5⟩ := he.owns _ _ h3
      show m b o = none
      rw [(h5 b h2).1 o, vis_hid h4]; rfl
  sub := he.sub
  ext := ExtX.refl _ _ _
  lb := fun i => rfl
  lw := fun i => rfl
  ln := fun i o hi => he.ln _ _ (h.hw0 i o hi).1
  boxes := fun i cs hi => by
    obtain ⟨vs, ty, h1, h2, h3, _, h5⟩ := he.boxes _ _ (h.hx0 i cs hi)
    obtain ⟨k1, k2⟩ := h.hkd i cs (.inl hi)
    rw [ob_kd k1 k2] at h1
    refine ⟨vs, ty, h1, by simpa using h2, fun j x v hx hv => ?_, .inr (lent_bx (g := g.sub fb fw bx0 ow0) hi), h5⟩
    have h6 := h3 j _ v (by rw [List.getElem?_map, hx]; rfl) hv
    exact ⟨h.ren_in he (h.hl0 i cs hi x (List.mem_of_getElem? hx)) h6.1, h6.2⟩
  inj := fun i j ci cj hi hj e => by
    obtain ⟨_, hi'⟩ := (h.hx1 i ci hi).2
    obtain ⟨_, hj'⟩ := (h.hx1 j cj hj).2
    exact h.hbi i j _ _ hi' hj' (he.inj _ _ _ _ (h.hx0 i ci hi) (h.hx0 j cj hj) e)
  owns := fun i o hi => by
    obtain ⟨h1, h2, h3⟩ := h.hw0 i o hi
    obtain ⟨vs, h4, h5, h6, h7⟩ := he.owns _ _ h1
    refine ⟨vs, h4, h5, h6, fun b hb => ⟨fun k => ?_, fun j cs hj => (h7 b hb).2.1 _ _ (h.hx0 j cs hj), .inr (lent_ow (g := g.sub fb fw bx0 ow0) hi hb)⟩⟩
    rw [(h7 b hb).1 k, vis_hid h2, vis_hid h3]
  apart := fun i j oi oj hi hj hij => he.apart _ _ oi oj (h.hw0 i oi hi).1 (h.hw0 j oj hj).1 (fun e => hij (h.hwi i j oi oj (.inl hi) (.inl hj) e))
  pin := fun i o hi _ => rfl
  pinb := fun i cs hi _ => rfl
open Classical in
theorem Lend.env_out (h : Lend fb fw kp q bx ow bx0 ow0 bx1 ow1 bx' ow') (he : EnvG C bx ow w m g) {w' : World} {m' : Mm} {g' : Gh} (hc : EnvG (lentC w m (g.sub fb fw bx0 ow0) bx0 ow0) bx1 ow1 w' m' g') :
    ∃ g'', EnvG C bx' ow' w' m' g'' ∧ (∀ x v, AR m g x v → AR m' g'' (x.clr q) v) ∧ (∀ x v, AR m' g' x v → AR m' g'' (x.ren fb fw) v) := by
  have hlt : w.heap.size ≤ w'.heap.size := hc.lo.size
  have F1 : ∀ b, lentB (g.sub fb fw bx0 ow0) bx0 ow0 b = true → C.mine b := fun b hb => by
    rcases lent_spec hb with ⟨i, cs, h1, h2⟩ | ⟨i, o', h1, h2⟩
    · obtain ⟨_, _, _, _, _, h3, _⟩ := he.boxes _ _ (h.hx0 i cs h1)
      subst h2; exact h3
    · obtain ⟨vs, _, _, _, h5⟩ := he.owns _ _ (h.hw0 i o' h1).1
      exact (h5 b h2).2.2
  have F2 : ∀ j cs, get bx j = some cs → (∀ i cs, get bx1 i = some cs → fb i ≠ j) → g.gb j < w.heap.size ∧ lentB (g.sub fb fw bx0 ow0) bx0 ow0 (g.gb j) = false := fun j cs hj hn => by
    obtain ⟨vs, ty, h1, _⟩ := he.boxes j cs hj
    refine ⟨block_lt h1, ?_⟩
    cases hb : lentB (g.sub fb fw bx0 ow0) bx0 ow0 (g.gb j) with
    | false => rfl
    | true =>
      rcases lent_spec hb with ⟨i, c0, h1, h2⟩ | ⟨i, o', h1, h2⟩
      · obtain ⟨c1, h3⟩ := (h.hx1 i c0 h1).2
        exact absurd (he.inj _ _ _ _ (h.hx0 i c0 h1) hj h2) (hn i c1 h3)
      · obtain ⟨vs, _, _, _, h5⟩ := he.owns _ _ (h.hw0 i o' h1).1
        exact absurd rfl ((h5 _ h2).2.1 j cs hj)
  have F3 : ∀ j o, get ow j = some o → (∀ i o, get ow0 i = some o → fw i ≠ j) → ∀ b, (g.go j).ownBlock = some b → b < w.heap.size ∧ lentB (g.sub fb fw bx0 ow0) bx0 ow0 b = false := fun j o hj hn b hb => by
    obtain ⟨vs, h1, _, _, h5⟩ := he.owns j o hj
    refine ⟨(h1.lt b hb).2, ?_⟩
    cases hbl : lentB (g.sub fb fw bx0 ow0) bx0 ow0 b with
    | false => rfl
    | true =>
      rcases lent_spec hbl with ⟨i, c0, h2, h3⟩ | ⟨i, o', h2, h3⟩
      · exact absurd h3 ((h5 b hb).2.1 _ _ (h.hx0 i c0 h2))
      · exact absurd h3 (he.apart _ _ _ _ hj (h.hw0 i o' h2).1 (fun e => hn i o' h2 e.symm) b hb)
  have F4 : ∀ b, b < w.heap.size → lentB (g.sub fb fw bx0 ow0) bx0 ow0 b = false → w'.heap[b]? = w.heap[b]? ∧ ∀ o, m' b o = m b o := fun b h1 h2 => ⟨hc.lo.block b h1 h2, fun o => hc.ext.old b o h1 h2⟩
  have F5 : ∀ i cs, get bx1 i = some cs → w.heap.size ≤ g'.gb i ∨ lentB (g.sub fb fw bx0 ow0) bx0 ow0 (g'.gb i) = true := fun i cs hi => by
    obtain ⟨_, _, _, _, _, h4, _⟩ := hc.boxes i cs hi
    exact h4
  have F6 : ∀ i o, get ow1 i = some o → ∀ b, (g'.go i).ownBlock = some b → w.heap.size ≤ b ∨ lentB (g.sub fb fw bx0 ow0) bx0 ow0 b = true := fun i o hi b hb => by
    obtain ⟨_, _, _, _, h4⟩ := hc.owns i o hi
    exact (h4 b hb).2.2
  let inB : Nat → Prop := fun j => ∃ i cs, get bx1 i = some cs ∧ fb i = j
  let inO : Nat → Prop := fun j => ∃ i o, get ow1 i = some o ∧ fw i = j
  let g'' : Gh := { gb := fun j => if hj : inB j then g'.gb hj.choose else g.gb j, go := fun j => if hj : inO j then g'.go hj.choose else g.go j, ln := fun j => if hj : inO j then g'.ln hj.choose else g.ln j, lb := fun j => (get bx' j).isSome, lw := fun j => (get ow' j).isSome }
  have G1 : ∀ i cs, get bx1 i = some cs → g''.gb (fb i) = g'.gb i := fun i cs hi => by
    have hj : inB (fb i) := ⟨i, cs, hi, rfl⟩
    show (if hj : inB (fb i) then g'.gb hj.choose else g.gb (fb i)) = _
    rw [dif_pos hj]
    obtain ⟨c, h1, h2⟩ := hj.choose_spec
    rw [h.hbi _ _ _ _ h1 hi h2]
  have G2 : ∀ j, (∀ i cs, get bx1 i = some cs → fb i ≠ j) → g''.gb j = g.gb j := fun j hj => by
    show (if hj : inB j then g'.gb hj.choose else g.gb j) = _
    rw [dif_neg fun ⟨i, cs, h1, h2⟩ => hj i cs h1 h2]
  have G3 : ∀ i o, get ow1 i = some o → g''.go (fw i) = g'.go i ∧ g''.ln (fw i) = g'.ln i := fun i o hi => by
    have hj : inO (fw i) := ⟨i, o, hi, rfl⟩
    obtain ⟨c, h1, h2⟩ := hj.choose_spec
    have e := h.hwi _ _ _ _ (.inr h1) (.inr hi) h2
    constructor
    · show (if hj : inO (fw i) then g'.go hj.choose else g.go (fw i)) = _
      rw [dif_pos hj, e]
    · show (if hj : inO (fw i) then g'.ln hj.choose else g.ln (fw i)) = _
      rw [dif_pos hj, e]
  have G4 : ∀ j, (∀ i o, get ow1 i = some o → fw i ≠ j) → g''.go j = g.go j ∧ g''.ln j = g.ln j := fun j hj => by
    have hn : ¬ inO j := fun ⟨i, o, h1, h2⟩ => hj i o h1 h2
    constructor
    · show (if hj : inO j then g'.go hj.choose else g.go j) = _
      rw [dif_neg hn]
    · show (if hj : inO j then g'.ln hj.choose else g.ln j) = _
      rw [dif_neg hn]
  have L1 : ∀ x v, AR0 m' g' x v → AR0 m' g'' (ren0 fb fw x) v := by
    intro x v hx
    have hlw : ∀ i, g'.lw i = true → ∃ o, get ow1 i = some o := fun i hi => by rw [hc.lw] at hi; exact Option.isSome_iff_exists.1 hi
    have hw' : ∀ i o, get ow1 i = some o → g''.lw (fw i) = true := fun i o hi => by show (get ow' (fw i)).isSome = true; rw [h.o1 i o hi]; rfl
    cases x with
    | bp i off =>
      obtain ⟨h1, h2⟩ := hx
      rw [hc.lb] at h1
      obtain ⟨cs, hi⟩ := Option.isSome_iff_exists.1 h1
      exact ⟨by show (get bx' (fb i)).isSome = true; rw [h.b1 i cs hi]; rfl, by rw [G1 i cs hi]; exact h2⟩
    | own i n =>
      obtain ⟨h1, h2, h3, h4⟩ := hx
      obtain ⟨o, hi⟩ := hlw i h1
      exact ⟨hw' i o hi, by rw [(G3 i o hi).2]; exact h2, h3, by rw [(G3 i o hi).1, (G3 i o hi).2]; exact h4⟩
    | oe i n sz k off =>
      obtain ⟨h1, h2, h3, h4⟩ := hx
      obtain ⟨o, hi⟩ := hlw i h1
      exact ⟨hw' i o hi, by rw [(G3 i o hi).2]; exact h2, h3, by rw [(G3 i o hi).1, (G3 i o hi).2]; exact h4⟩
    | sfx i n sz k =>
      obtain ⟨h1, h2, h3, h4⟩ := hx
      obtain ⟨o, hi⟩ := hlw i h1
      exact ⟨hw' i o hi, by rw [(G3 i o hi).2]; exact h2, h3, by rw [(G3 i o hi).1, (G3 i o hi).2]; exact h4⟩
    | _ => exact hx
  have hold : ∀ j o, get ow j = some o → q j = false → get ow' j ≠ none ∧ g''.go j = g.go j ∧ g''.ln j = g.ln j := by
    intro j o hj hqj
    by_cases hin : inO j
    · obtain ⟨i, o1, h1, rfl⟩ := hin
      cases h0 : get ow0 i with
      | none => rw [(h.hwn i o1 h1 h0).1] at hj; cases hj
      | some o0 =>
        have hk : kp i = true := by
          cases hk : kp i with
          | true => rfl
          | false => rw [h.hq i o0 h0 hk] at hqj; cases hqj
        obtain ⟨h2, o0', o1', h3, h4, h5⟩ := h.hkp i hk
        rw [h0] at h3; injection h3 with h3; subst h3
        rw [h1] at h4; injection h4 with h4; subst h4
        refine ⟨by rw [h.o1 i _ h1]; simp, ?_, ?_⟩
        · rw [(G3 i _ h1).1, hc.pin i _ h1 h2]; rfl
        · rw [(G3 i _ h1).2, hc.ln i _ h1, h5, he.ln _ _ (h.hw0 i _ h0).1]
    · have hno : ∀ i o, get ow1 i = some o → fw i ≠ j := fun i o h1 h2 => hin ⟨i, o, h1, h2⟩
      have hnw : ∀ i o, get ow0 i = some o → fw i ≠ j := fun i o h1 h2 => by
        subst h2
        have hk : kp i = true := by
          cases hk : kp i with
          | true => rfl
          | false => rw [h.hq i o h1 hk] at hqj; cases hqj
        obtain ⟨_, _, o1', _, h4, _⟩ := h.hkp i hk
        exact hno i o1' h4 rfl
      exact ⟨by rw [h.o2 j hno hnw, hj]; simp, G4 j hno⟩
  have L2 : ∀ x v, AR0 m g x v → AR0 m' g'' (clr0 q x) v := by
    intro x v hx
    have hget : ∀ j, g.lw j = true → ∃ o, get ow j = some o := fun j hj => by rw [he.lw] at hj; exact Option.isSome_iff_exists.1 hj
    have hlw' : ∀ j, get ow' j ≠ none → g''.lw j = true := fun j hj => by
      show (get ow' j).isSome = true
      cases h1 : get ow' j with
      | none => exact absurd h1 hj
      | some o => rfl
    cases x with
    | t x => exact TR.mono hc.ext.keep hx
    | bp j off =>
      obtain ⟨h1, h2⟩ := hx
      rw [he.lb] at h1
      obtain ⟨cs, hj⟩ := Option.isSome_iff_exists.1 h1
      by_cases hin : inB j
      · obtain ⟨i, c1, h3, rfl⟩ := hin
        cases h0 : get bx0 i with
        | none => rw [(h.hxn i c1 h3 h0).1] at hj; cases hj
        | some c0 =>
          refine ⟨by show (get bx' (fb i)).isSome = true; rw [h.b1 i c1 h3]; rfl, ?_⟩
          rw [G1 i c1 h3, hc.pinb i c1 h3 (h.hx1 i c0 h0).1]; exact h2
      · have hno : ∀ i cs, get bx1 i = some cs → fb i ≠ j := fun i cs h3 h4 => hin ⟨i, cs, h3, h4⟩
        refine ⟨by show (get bx' j).isSome = true; rw [h.b2 j hno, hj]; rfl, by rw [G2 j hno]; exact h2⟩
    | own j n =>
      obtain ⟨h1, h2, h3, h4⟩ := hx
      obtain ⟨o, hj⟩ := hget j h1
      show AR0 m' g'' (bif q j then .any else .own j n) v
      cases hqj : q j with
      | true => trivial
      | false =>
        obtain ⟨h5, h6, h7⟩ := hold j o hj hqj
        exact ⟨hlw' j h5, by rw [h7]; exact h2, h3, by rw [h6, h7]; exact h4⟩
    | oe j n sz k off =>
      obtain ⟨h1, h2, h3, h4⟩ := hx
      obtain ⟨o, hj⟩ := hget j h1
      show AR0 m' g'' (bif q j then .any else .oe j n sz k off) v
      cases hqj : q j with
      | true => trivial
      | false =>
        obtain ⟨h5, h6, h7⟩ := hold j o hj hqj
        exact ⟨hlw' j h5, by rw [h7]; exact h2, h3, by rw [h6, h7]; exact h4⟩
    | sfx j n sz k =>
      obtain ⟨h1, h2, h3, h4⟩ := hx
      obtain ⟨o, hj⟩ := hget j h1
      show AR0 m' g'' (bif q j then .any else .sfx j n sz k) v
      cases hqj : q j with
      | true => trivial
      | false =>
        obtain ⟨h5, h6, h7⟩ := hold j o hj hqj
        exact ⟨hlw' j h5, by rw [h7]; exact h2, h3, by rw [h6, h7]; exact h4⟩
    | _ => exact hx
  have htt : ∀ x : A, x.allP (fun _ => true) = true := fun x => by
    cases x <;> simp [A.allP, A.all1]
    intro y _; cases y <;> simp [A.all1]
  have K1 : ∀ x v, AR m' g' x v → AR m' g'' (x.ren fb fw) v := fun x v hx => hx.mp _ (fun _ => true) (fun x v _ => L1 x v) (htt x)
  have K2 : ∀ x v, AR m g x v → AR m' g'' (x.clr q) v := fun x v hx => hx.mp _ (fun _ => true) (fun x v _ => L2 x v) (htt x)
  have hbc : ∀ j cs, get bx' j = some cs → (∃ i c1, get bx1 i = some c1 ∧ fb i = j ∧ cs = c1.map (A.ren fb fw)) ∨ ((∀ i c1, get bx1 i = some c1 → fb i ≠ j) ∧ ∃ c0, get bx j = some c0 ∧ cs = c0.map (A.clr q)) := fun j cs hj => by
    by_cases hin : inB j
    · obtain ⟨i, c1, h1, rfl⟩ := hin
      rw [h.b1 i c1 h1] at hj; injection hj with hj
      exact .inl ⟨i, c1, h1, rfl, hj.symm⟩
    · have hno : ∀ i cs, get bx1 i = some cs → fb i ≠ j := fun i cs h3 h4 => hin ⟨i, cs, h3, h4⟩
      rw [h.b2 j hno] at hj
      cases h0 : get bx j with
      | none => rw [h0] at hj; cases hj
      | some c0 => rw [h0] at hj; injection hj with hj; exact .inr ⟨hno, c0, rfl, hj.symm⟩
  have hoc : ∀ j o, get ow' j = some o → (∃ i, get ow1 i = some o ∧ fw i = j) ∨ ((∀ i o1, get ow1 i = some o1 → fw i ≠ j) ∧ (∀ i o0, get ow0 i = some o0 → fw i ≠ j) ∧ get ow j = some o) := fun j o hj => by
    by_cases hin : inO j
    · obtain ⟨i, o1, h1, rfl⟩ := hin
      rw [h.o1 i o1 h1] at hj; injection hj with hj; subst hj
      exact .inl ⟨i, h1, rfl⟩
    · have hno : ∀ i o, get ow1 i = some o → fw i ≠ j := fun i cs h3 h4 => hin ⟨i, cs, h3, h4⟩
      have hnw : ∀ i o, get ow0 i = some o → fw i ≠ j := fun i o0 h3 h4 => by rw [h.o3 j i o0 h3 h4 hno] at hj; cases hj
      rw [h.o2 j hno hnw] at hj
      exact .inr ⟨hno, hnw, hj⟩
  refine ⟨g'', {
    lo := ⟨hc.lo.os.trans he.lo.os, hc.lo.tape.trans he.lo.tape, hc.lo.output.trans he.lo.output, Nat.le_trans he.lo.size hc.lo.size, fun i hi hgv => by
      have h1 : i < w.heap.size := Nat.lt_of_lt_of_le hi he.lo.size
      have h2 : lentB (g.sub fb fw bx0 ow0) bx0 ow0 i = false := by
        cases hb : lentB (g.sub fb fw bx0 ow0) bx0 ow0 i with
        | false => rfl
        | true =>
          rcases F1 i hb with h3 | h3
          · omega
          · rw [hgv] at h3; cases h3
      rw [(F4 i h1 h2).1]; exact he.lo.block i hi hgv⟩
    gm := he.gm
    sub := hc.sub
    ext := ⟨fun b o v hv => hc.ext.keep b o v (he.ext.keep b o v hv), fun b o hb hgv => by
      have h1 : b < w.heap.size := Nat.lt_of_lt_of_le hb he.lo.size
      have h2 : lentB (g.sub fb fw bx0 ow0) bx0 ow0 b = false := by
        cases hbl : lentB (g.sub fb fw bx0 ow0) bx0 ow0 b with
        | false => rfl
        | true =>
          rcases F1 b hbl with h3 | h3
          · omega
          · rw [hgv] at h3; cases h3
      rw [(F4 b h1 h2).2 o]; exact he.ext.old b o hb hgv⟩
    lb := fun j => rfl
    lw := fun j => rfl
    ln := fun j o hj => by
      rcases hoc j o hj with ⟨i, h1, rfl⟩ | ⟨h1, _, h3⟩
      · rw [(G3 i o h1).2]; exact hc.ln i o h1
      · rw [(G4 j h1).2]; exact he.ln j o h3
    boxes := fun j cs hj => by
      rcases hbc j cs hj with ⟨i, c1, h1, rfl, rfl⟩ | ⟨h1, c0, h2, rfl⟩
      · obtain ⟨vs, ty, h3, h4, h5, h6, h7⟩ := hc.boxes i c1 h1
        obtain ⟨k1, k2⟩ := h.hkd i c1 (.inr h1)
        rw [← ob_kd k1 k2] at h3
        rw [G1 i c1 h1]
        refine ⟨vs, ty, h3, by simpa using h4, fun k x v hx hv => ?_, ?_, h7⟩
        · rw [List.getElem?_map] at hx
          cases hk : c1[k]? with
          | none => rw [hk] at hx; cases hx
          | some y => rw [hk] at hx; injection hx with hx; subst hx; exact ⟨K1 y v (h5 k y v hk hv).1, (h5 k y v hk hv).2⟩
        · rcases F5 i c1 h1 with h8 | h8
          · exact .inl (Nat.le_trans he.lo.size h8)
          · exact F1 _ h8
      · obtain ⟨vs, ty, h3, h4, h5, h6, h7⟩ := he.boxes j c0 h2
        obtain ⟨h8, h9⟩ := F2 j c0 h2 h1
        obtain ⟨h10, h11⟩ := F4 _ h8 h9
        rw [G2 j h1]
        refine ⟨vs, ty, h10.trans h3, by simpa using h4, fun k x v hx hv => ?_, h6, fun o => by rw [h11]; exact h7 o⟩
        rw [List.getElem?_map] at hx
        cases hk : c0[k]? with
        | none => rw [hk] at hx; cases hx
        | some y => rw [hk] at hx; injection hx with hx; subst hx; exact ⟨K2 y v (h5 k y v hk hv).1, (h5 k y v hk hv).2⟩
    inj := fun j k cj ck hj hk e => by
      rcases hbc j cj hj with ⟨i1, c1, h1, rfl, rfl⟩ | ⟨h1, c0, h2, rfl⟩
      · rcases hbc k ck hk with ⟨i2, c2, h3, rfl, rfl⟩ | ⟨h3, c2, h4, rfl⟩
        · rw [G1 i1 c1 h1, G1 i2 c2 h3] at e
          rw [hc.inj i1 i2 c1 c2 h1 h3 e]
        · rw [G1 i1 c1 h1, G2 k h3] at e
          obtain ⟨h5, h6⟩ := F2 k c2 h4 h3
          rcases F5 i1 c1 h1 with h7 | h7
          · omega
          · rw [e, h6] at h7; cases h7
      · rcases hbc k ck hk with ⟨i2, c2, h3, rfl, rfl⟩ | ⟨h3, c2, h4, rfl⟩
        · rw [G1 i2 c2 h3, G2 j h1] at e
          obtain ⟨h5, h6⟩ := F2 j c0 h2 h1
          rcases F5 i2 c2 h3 with h7 | h7
          · omega
          · rw [← e, h6] at h7; cases h7
        · rw [G2 j h1, G2 k h3] at e
          exact he.inj j k c0 c2 h2 h4 e
    owns := fun j o hj => by
      rcases hoc j o hj with ⟨i, h1, rfl⟩ | ⟨h1, h2, h3⟩
      · obtain ⟨vs, h4, h5, h6, h7⟩ := hc.owns i o h1
        rw [(G3 i o h1).1]
        refine ⟨vs, h4, h5, h6, fun b hb => ⟨fun k => ?_, fun k ck hk => ?_, ?_⟩⟩
        · rw [(h7 b hb).1 k]; unfold vis; rw [h.hwh i o h1]
        · rcases hbc k ck hk with ⟨i2, c2, h8, rfl, rfl⟩ | ⟨h8, c2, h9, rfl⟩
          · rw [G1 i2 c2 h8]; exact (h7 b hb).2.1 i2 c2 h8
          · rw [G2 k h8]
            obtain ⟨h10, h11⟩ := F2 k c2 h9 h8
            intro e
            rcases F6 i o h1 b hb with h12 | h12
            · omega
            · rw [← e, h11] at h12; cases h12
        · rcases (h7 b hb).2.2 with h8 | h8
          · exact .inl (Nat.le_trans he.lo.size h8)
          · exact F1 b h8
      · obtain ⟨vs, h4, h5, h6, h7⟩ := he.owns j o h3
        rw [(G4 j h1).1]
        refine ⟨vs, owns_block h4 fun b hb => ?_, h5, h6.mono hc.ext.keep, fun b hb => ?_⟩
        · obtain ⟨h8, h9⟩ := F3 j o h3 h2 b hb
          exact (F4 b h8 h9).1
        · obtain ⟨h8, h9⟩ := F3 j o h3 h2 b hb
          refine ⟨fun k => by rw [(F4 b h8 h9).2]; exact (h7 b hb).1 k, fun k ck hk => ?_, (h7 b hb).2.2⟩
          rcases hbc k ck hk with ⟨i2, c2, h10, rfl, rfl⟩ | ⟨h10, c2, h11, rfl⟩
          · rw [G1 i2 c2 h10]
            intro e
            rcases F5 i2 c2 h10 with h12 | h12
            · omega
            · rw [e, h9] at h12; cases h12
          · rw [G2 k h10]; exact (h7 b hb).2.1 k c2 h11
    apart := fun j k oj ok hj hk hjk b hb => by
      rcases hoc j oj hj with ⟨i1, h1, rfl⟩ | ⟨h1, h2, h3⟩
      · rw [(G3 i1 oj h1).1] at hb
        rcases hoc k ok hk with ⟨i2, h4, rfl⟩ | ⟨h4, h5, h6⟩
        · rw [(G3 i2 ok h4).1]
          exact hc.apart i1 i2 oj ok h1 h4 (fun e => hjk (by rw [e])) b hb
        · rw [(G4 k h4).1]
          intro hb2
          obtain ⟨h8, h9⟩ := F3 k ok h6 h5 b hb2
          rcases F6 i1 oj h1 b hb with h12 | h12
          · omega
          · rw [h9] at h12; cases h12
      · rw [(G4 j h1).1] at hb
        obtain ⟨h8, h9⟩ := F3 j oj h3 h2 b hb
        rcases hoc k ok hk with ⟨i2, h4, rfl⟩ | ⟨h4, h5, h6⟩
        · rw [(G3 i2 ok h4).1]
          intro hb2
          rcases F6 i2 ok h4 b hb2 with h12 | h12
          · omega
          · rw [h9] at h12; cases h12
        · rw [(G4 k h4).1]
          exact he.apart j k oj ok h3 h6 hjk b hb
    pin := fun j o hj hj2 => by
      rcases hoc j o hj with ⟨i, h1, rfl⟩ | ⟨h1, h2, h3⟩
      · rw [(G3 i o h1).1, hc.pin i o h1 (h.hwp i o h1 hj2)]
        cases h0 : get ow0 i with
        | none => rw [(h.hwn i o h1 h0).2] at hj2; cases hj2
        | some o0 => exact he.pin _ o0 (h.hw0 i o0 h0).1 hj2
      · rw [(G4 j h1).1]; exact he.pin j o h3 hj2
    pinb := fun j cs hj hj2 => by
      rcases hbc j cs hj with ⟨i, c1, h1, rfl, rfl⟩ | ⟨h1, c0, h2, rfl⟩
      · cases h0 : get bx0 i with
        | none => rw [(h.hxn i c1 h1 h0).2] at hj2; cases hj2
        | some c0 =>
          rw [G1 i c1 h1, hc.pinb i c1 h1 (h.hx1 i c0 h0).1]
          exact he.pinb _ _ (h.hx0 i c0 h0) hj2
      · rw [G2 j h1]; exact he.pinb j c0 h2 hj2 }, K2, K1⟩
end
end Go.Proofs.YtcpbdcamfhoiaaaDoor.Sim

/- A logic of states: calls that are lent rows and boxes, or hand back rows of the caller's own: at their places. -/
namespace Go.Proofs.YtcpbdcamfhoiaaaDoor.Sim
set_option linter.unusedVariables false
set_option linter.unusedSimpArgs false
open Go.RowKit Mem

def chgOf (fw : Nat → Nat) (kp : Nat → Bool) (ow0 : List (Nat × Own)) (j : Nat) : Bool := ow0.any fun r => Nat.beq (fw r.1) j && !(kp r.1)
def bxAft (fb fw : Nat → Nat) (q : Nat → Bool) (bx1 bx : List (Nat × List A)) : List (Nat × List A) := bx1.map (fun p => (fb p.1, p.2.map (A.ren fb fw))) ++ bx.map (fun p => (p.1, p.2.map (A.clr q)))
def owAft (fw : Nat → Nat) (ow0 ow1 ow : List (Nat × Own)) : List (Nat × Own) := ow1.map (fun p => (fw p.1, p.2)) ++ ow.filter (fun p => !(ow0.any fun r => Nat.beq (fw r.1) p.1))
theorem get_append {β : Type} (l1 l2 : List (Nat × β)) (i : Nat) : get (l1 ++ l2) i = match get l1 i with | some x => some x | none => get l2 i := by
  induction l1 with
  | nil => rfl
  | cons p l1 ih =>
    obtain ⟨k, x⟩ := p
    rw [List.cons_append, get_cons, get_cons]
    split
    · rfl
    · exact ih
theorem get_mapv {β γ : Type} (f : β → γ) (l : List (Nat × β)) (i : Nat) : get (l.map fun p => (p.1, f p.2)) i = (get l i).map f := by
  induction l with
  | nil => rfl
  | cons p l ih =>
    obtain ⟨k, x⟩ := p
    rw [List.map_cons, get_cons, get_cons]
    split
    · rfl
    · exact ih
theorem get_filter {β : Type} (f : Nat → Bool) (l : List (Nat × β)) (i : Nat) : get (l.filter fun p => f p.1) i = if f i then get l i else none := by
  induction l with
  | nil => simp [get]
  | cons p l ih =>
    obtain ⟨k, x⟩ := p
    rw [List.filter_cons]
    by_cases hk : k = i
    · subst hk
      cases hf : f k with
      | true => simp [get_cons]
      | false => simp only [hf, Bool.false_eq_true, if_false]; rw [ih, hf]; rfl
    · split
      · rw [get_cons, get_cons, if_neg hk, if_neg hk, ih]
      · rw [get_cons, if_neg hk, ih]
theorem get_ren {β γ : Type} {f : Nat → Nat} (g : β → γ) {l : List (Nat × β)} (hf : ∀ p ∈ l, ∀ r ∈ l, f p.1 = f r.1 → p.1 = r.1) {i : Nat} {x : β} (hi : get l i = some x) : get (l.map fun p => (f p.1, g p.2)) (f i) = some (g x) := by
  induction l with
  | nil => cases hi
  | cons p l ih =>
    obtain ⟨k, y⟩ := p
    rw [get_cons] at hi
    rw [List.map_cons, get_cons]
    by_cases hk : k = i
    · subst hk; rw [if_pos rfl] at hi ⊢; injection hi with hi; rw [hi]
    · rw [if_neg hk] at hi
      rw [if_neg fun e => hk (hf (k, y) (by simp) (i, x) (List.mem_cons_of_mem _ (get_mem hi)) e)]
      exact ih (fun p hp r hr => hf p (List.mem_cons_of_mem _ hp) r (List.mem_cons_of_mem _ hr)) hi
theorem get_ren_none {β γ : Type} {f : Nat → Nat} (g : β → γ) {l : List (Nat × β)} {j : Nat} (h : ∀ i x, get l i = some x → f i ≠ j) : get (l.map fun p => (f p.1, g p.2)) j = none := by
  cases hg : get (l.map fun p => (f p.1, g p.2)) j with
  | none => rfl
  | some y =>
    obtain ⟨p, hp, he⟩ := List.mem_map.1 (get_mem hg)
    obtain ⟨x, hx⟩ := mem_get hp
    injection he with e1 _
    exact absurd e1 (h p.1 x hx)
def injB (f : Nat → Nat) (l : List Nat) : Bool := l.all fun a => l.all fun b => Nat.beq a b || !(Nat.beq (f a) (f b))
theorem injB_spec {f : Nat → Nat} {l : List Nat} (h : injB f l = true) {a b : Nat} (ha : a ∈ l) (hb : b ∈ l) (e : f a = f b) : a = b := by
  have := (List.all_eq_true.1 ((List.all_eq_true.1 h) a ha)) b hb
  rw [Bool.or_eq_true] at this
  rcases this with h1 | h1
  · exact Nat.eq_of_beq_eq_true h1
  · rw [e, show Nat.beq (f b) (f b) = true from Nat.beq_refl _] at h1; cases h1
inductive LentX (fb fw : Nat → Nat) (bx : List (Nat × List A)) : List (Nat × List A) → Prop
  | nil : LentX fb fw bx []
  | cons {i : Nat} {cs cs' : List A} {l : List (Nat × List A)} (h : get bx (fb i) = some cs') (he : cs' = cs.map (A.ren fb fw)) (hl : LentX fb fw bx l) : LentX fb fw bx ((i, cs) :: l)
inductive LentW (fw : Nat → Nat) (ow : List (Nat × Own)) : List (Nat × Own) → Prop
  | nil : LentW fw ow []
  | cons {i : Nat} {o o' : Own} {l : List (Nat × Own)} (h : get ow (fw i) = some o') (he : o' = o) (hl : LentW fw ow l) : LentW fw ow ((i, o) :: l)
theorem LentX.get {fb fw : Nat → Nat} {bx l : List (Nat × List A)} (h : LentX fb fw bx l) {i : Nat} {cs : List A} (hi : get l i = some cs) : get bx (fb i) = some (cs.map (A.ren fb fw)) := by
  induction h with
  | nil => cases hi
  | cons h he _ ih =>
    rw [get_cons] at hi
    split at hi
    · rename_i e; subst e; injection hi with hi; subst hi he; exact h
    · exact ih hi
theorem LentW.get {fw : Nat → Nat} {ow l : List (Nat × Own)} (h : LentW fw ow l) {i : Nat} {o : Own} (hi : get l i = some o) : get ow (fw i) = some o := by
  induction h with
  | nil => cases hi
  | cons h he _ ih =>
    rw [get_cons] at hi
    split at hi
    · rename_i e; subst e; injection hi with hi; subst hi he; exact h
    · exact ih hi
def bnone {β : Type} : Option β → Bool
  | none => true
  | some _ => false
def kdB (f : Nat → Nat) (l : List Nat) : Bool := l.all fun i => (itB (f i) == itB i) && (chB (f i) == chB i)
theorem kdB_spec {f : Nat → Nat} {l : List Nat} (h : kdB f l = true) {i : Nat} (hi : i ∈ l) : itB (f i) = itB i ∧ chB (f i) = chB i := by
  have := (List.all_eq_true.1 h) i hi
  rw [Bool.and_eq_true] at this
  exact ⟨beq_iff_eq.1 this.1, beq_iff_eq.1 this.2⟩
def lendB (fb fw : Nat → Nat) (bx bx0 bx1 : List (Nat × List A)) (ow ow0 ow1 : List (Nat × Own)) : Bool :=
  (bx0.all fun p => Nat.ble 2000 p.1 && (get bx1 p.1).isSome) && (bx1.all fun p => (get bx0 p.1).isSome || (bnone (get bx (fb p.1)) && !(Nat.ble 2000 (fb p.1)))) &&
  (ow1.all fun p => (get ow0 p.1).isSome || (bnone (get ow (fw p.1)) && !(Nat.ble 2000 (fw p.1)))) && (ow1.all fun p => (hid (fw p.1) == hid p.1) && (!(Nat.ble 2000 (fw p.1)) || Nat.ble 2000 p.1)) &&
  (ow0.all fun p => hid p.1 && hid (fw p.1)) && (injB fb (bx1.map (·.1)) && kdB fb (bx0.map (·.1) ++ bx1.map (·.1))) && injB fw (ow0.map (·.1) ++ ow1.map (·.1))
theorem bnone_spec {β : Type} {x : Option β} (h : bnone x = true) : x = none := by cases x with | none => rfl | some y => cases h
theorem lend_of {fb fw : Nat → Nat} {kp : Nat → Bool} {bx bx0 bx1 : List (Nat × List A)} {ow ow0 ow1 : List (Nat × Own)} (hx : LentX fb fw bx bx0) (hw : LentW fw ow ow0) (hl : (bx0.all fun p => p.2.all fun x => x.live bx0 ow0) = true) (hB : lendB fb fw bx bx0 bx1 ow ow0 ow1 = true)
    (hkp : ∀ i, kp i = true → Nat.ble 2000 i = true ∧ ∃ o0 o1, get ow0 i = some o0 ∧ get ow1 i = some o1 ∧ o1.rows.length = o0.rows.length) : Lend fb fw kp (chgOf fw kp ow0) bx ow bx0 ow0 bx1 ow1 (bxAft fb fw (chgOf fw kp ow0) bx1 bx) (owAft fw ow0 ow1 ow) := by
  unfold lendB at hB
  simp only [Bool.and_eq_true] at hB
  obtain ⟨⟨⟨⟨⟨⟨h1, h2⟩, h3⟩, h4⟩, h5⟩, h6, hkd⟩, h7⟩ := hB
  have inB : ∀ p ∈ bx1, ∀ r ∈ bx1, fb p.1 = fb r.1 → p.1 = r.1 := fun p hp r hr e => injB_spec h6 (List.mem_map.2 ⟨p, hp, rfl⟩) (List.mem_map.2 ⟨r, hr, rfl⟩) e
  have inO : ∀ p ∈ ow1, ∀ r ∈ ow1, fw p.1 = fw r.1 → p.1 = r.1 := fun p hp r hr e => injB_spec h7 (List.mem_append.2 (.inr (List.mem_map.2 ⟨p, hp, rfl⟩))) (List.mem_append.2 (.inr (List.mem_map.2 ⟨r, hr, rfl⟩))) e
  have hin : ∀ i o, (get ow0 i = some o ∨ get ow1 i = some o) → i ∈ ow0.map (·.1) ++ ow1.map (·.1) := fun i o h => by
    rcases h with h | h
    · exact List.mem_append.2 (.inl (List.mem_map.2 ⟨_, get_mem h, rfl⟩))
    · exact List.mem_append.2 (.inr (List.mem_map.2 ⟨_, get_mem h, rfl⟩))
  exact {
    hx0 := fun i cs hi => hx.get hi
    hw0 := fun i o hi => by
      have := (List.all_eq_true.1 h5) _ (get_mem hi)
      rw [Bool.and_eq_true] at this
      exact ⟨hw.get hi, this.1, this.2⟩
    hl0 := fun i cs hi x hx => (List.all_eq_true.1 ((List.all_eq_true.1 hl) _ (get_mem hi))) x hx
    hkd := fun i cs hi => by
      rcases hi with hi | hi
      · exact kdB_spec hkd (List.mem_append.2 (.inl (List.mem_map.2 ⟨_, get_mem hi, rfl⟩)))
      · exact kdB_spec hkd (List.mem_append.2 (.inr (List.mem_map.2 ⟨_, get_mem hi, rfl⟩)))
    hx1 := fun i cs hi => by
      have := (List.all_eq_true.1 h1) _ (get_mem hi)
      rw [Bool.and_eq_true] at this
      exact ⟨this.1, Option.isSome_iff_exists.1 this.2⟩
    hxn := fun i cs hi h0 => by
      have := (List.all_eq_true.1 h2) _ (get_mem hi)
      rw [Bool.or_eq_true, Bool.and_eq_true] at this
      rcases this with h8 | ⟨h8, h9⟩
      · dsimp only at h8; rw [h0] at h8; cases h8
      · exact ⟨bnone_spec h8, by simpa using h9⟩
    hwn := fun i cs hi h0 => by
      have := (List.all_eq_true.1 h3) _ (get_mem hi)
      rw [Bool.or_eq_true, Bool.and_eq_true] at this
      rcases this with h8 | ⟨h8, h9⟩
      · dsimp only at h8; rw [h0] at h8; cases h8
      · exact ⟨bnone_spec h8, by simpa using h9⟩
    hwh := fun i o hi => by
      have := (List.all_eq_true.1 h4) _ (get_mem hi)
      rw [Bool.and_eq_true] at this
      exact beq_iff_eq.1 this.1
    hwp := fun i o hi h0 => by
      have := (List.all_eq_true.1 h4) _ (get_mem hi)
      rw [Bool.and_eq_true, Bool.or_eq_true] at this
      rcases this.2 with h8 | h8
      · dsimp only at h8; rw [h0] at h8; cases h8
      · exact h8
    hbi := fun i j ci cj hi hj e => inB _ (get_mem hi) _ (get_mem hj) e
    hwi := fun i j oi oj hi hj e => injB_spec h7 (hin i oi hi) (hin j oj hj) e
    hkp := hkp
    hq := fun i o hi hk => List.any_eq_true.2 ⟨_, get_mem hi, by rw [Bool.and_eq_true]; exact ⟨Nat.beq_refl _, by simp [hk]⟩⟩
    b1 := fun i cs hi => by unfold bxAft; rw [get_append, get_ren (f := fb) (List.map (A.ren fb fw)) inB hi]
    b2 := fun j hj => by unfold bxAft; rw [get_append, get_ren_none (f := fb) (List.map (A.ren fb fw)) hj]; exact get_mapv _ _ _
    o1 := fun i o hi => by
      unfold owAft
      rw [get_append, get_ren (f := fw) (fun x : Own => x) inO hi]
    o2 := fun j hj hn => by
      unfold owAft
      rw [get_append, get_ren_none (f := fw) (fun x : Own => x) hj]
      refine (get_filter (fun k => !(ow0.any fun r => Nat.beq (fw r.1) k)) ow j).trans ?_
      rw [if_pos]
      cases ha : ow0.any fun r => Nat.beq (fw r.1) j with
      | false => rfl
      | true =>
        obtain ⟨p, hp, h8⟩ := List.any_eq_true.1 ha
        obtain ⟨x, hx⟩ := mem_get hp
        exact absurd (Nat.eq_of_beq_eq_true h8) (hn _ _ hx)
    o3 := fun j i o hi he hj => by
      unfold owAft
      rw [get_append, get_ren_none (f := fw) (fun x : Own => x) hj]
      refine (get_filter (fun k => !(ow0.any fun r => Nat.beq (fw r.1) k)) ow j).trans ?_
      rw [if_neg]
      rw [Bool.not_eq_true, Bool.not_eq_false']
      exact List.any_eq_true.2 ⟨_, get_mem hi, by subst he; exact Nat.beq_refl _⟩ }
/-- what operands hold, in the callee's numbers -/
inductive ArgsL (fb fw : Nat → Nat) (ow : List (Nat × Own)) (bx0 : List (Nat × List A)) (ow0 : List (Nat × Own)) (ρ : Operand → Option A) : List Operand → List A → Prop
  | nil : ArgsL fb fw ow bx0 ow0 ρ [] []
  | cons {x : Operand} {y a : A} {xs : List Operand} {zs : List A} (h : ρ x = some y) (he : y = a.ren fb fw) (hv : a.live bx0 ow0 = true) (hl : ArgsL fb fw ow bx0 ow0 ρ xs zs) : ArgsL fb fw ow bx0 ow0 ρ (x :: xs) (a :: zs)
  | vw {x : Operand} {y : A} {t : T} {xs : List Operand} {zs : List A} (h : ρ x = some y) (ht : Vw ow y t) (hl : ArgsL fb fw ow bx0 ow0 ρ xs zs) : ArgsL fb fw ow bx0 ow0 ρ (x :: xs) (.t t :: zs)
section
variable {P : Program} {N : Nat} {Q : Exit → St → Prop} {ops : Array Oper} {rest : List Oper} {o : Oper} {tm : List (Nat × A)} {bx bx0 bx1 : List (Nat × List A)} {ow ow0 ow1 : List (Nat × Own)} {fb fw : Nat → Nat} {kp : Nat → Bool}
theorem ArgsL.ok {C : Ctx} {w : World} {m : Mm} {g : Gh} {q : Nat → Bool} {bx' : List (Nat × List A)} {ow' : List (Nat × Own)} {xs : List Operand} {zs : List A} {ρ : Operand → Option A} (h : ArgsL fb fw ow bx0 ow0 ρ xs zs) (hL : Lend fb fw kp q bx ow bx0 ow0 bx1 ow1 bx' ow') (he : EnvG C bx ow w m g) {a : Act} (ha : ∀ x ∈ xs, ∀ y, ρ x = some y → AR m g y (a.eval x)) :
    xs.length = zs.length ∧ ∀ (i : Nat) x v, zs[i]? = some x → (xs.map a.eval)[i]? = some v → AR m (g.sub fb fw bx0 ow0) x v := by
  induction h with
  | nil => exact ⟨rfl, fun i t v h => by simp at h⟩
  | @cons x y z xs zs h hy hv hl ih =>
    obtain ⟨h1, h2⟩ := ih fun x hx => ha x (by simp [hx])
    refine ⟨by simp [h1], fun i t' v h3 h4 => ?_⟩
    cases i with
    | zero =>
      simp at h3 h4; subst h3 h4
      refine hL.ren_in he hv ?_
      rw [← hy]; exact ha x (by simp) y h
    | succ i => simp at h3; exact h2 i t' v h3 (by simpa using h4)
  | @vw x y t xs zs h ht hl ih =>
    obtain ⟨h1, h2⟩ := ih fun x hx => ha x (by simp [hx])
    refine ⟨by simp [h1], fun i t' v h3 h4 => ?_⟩
    cases i with
    | zero =>
      simp at h3 h4; subst h3 h4
      exact ht.ok he (ha x (by simp) _ h)
    | succ i => simp at h3; exact h2 i t' v h3 (by simpa using h4)
/-- a call with rows and boxes lent -/
theorem sops_lcall {f : FuncId} {xs : List Operand} {at_ : Array TypeId} {args : List A} {r : A} {d : Nat} (hc : LCalls P f args bx0 ow0 r bx1 ow1) (fb fw : Nat → Nat) (kp : Nat → Bool) (hg : GuardIs ops tm o true) (ho : o.op = .call { callee := .value (.func f), args := xs.toArray, argTypes := at_ }) (hd : o.dst = some d) (hN : Nat.blt d N = true)
    (ha : ArgsL fb fw ow bx0 ow0 (evA tm) xs args) (hx : LentX fb fw bx bx0) (hw : LentW fw ow ow0) (hl : (bx0.all fun p => p.2.all fun x => x.live bx0 ow0) = true) (hB : lendB fb fw bx bx0 bx1 ow ow0 ow1 = true)
    (hkp : ∀ i, kp i = true → Nat.ble 2000 i = true ∧ ∃ o0 o1, get ow0 i = some o0 ∧ get ow1 i = some o1 ∧ o1.rows.length = o0.rows.length)
    (h : SOps P N ops Q rest ⟨(d, r.ren fb fw) :: tm.map (fun p => (p.1, p.2.clr (chgOf fw kp ow0))), bxAft fb fw (chgOf fw kp ow0) bx1 bx, owAft fw ow0 ow1 ow⟩) : SOps P N ops Q (o :: rest) ⟨tm, bx, ow⟩ := by
  have hL := lend_of (kp := kp) hx hw hl hB hkp
  refine .mk fun C a w ⟨m, g, hr⟩ => ?_
  obtain ⟨h1, h2⟩ := ha.ok hL hr.env (a := a) (fun x _ y hy => hr.ev hy)
  have hrun : (execOp a.eval o).run P w = .ok (.enter f (xs.map a.eval).toArray) w := by
    have := hc.ent (xs.map a.eval).toArray w
    simp only [execOp, ho, resolve, Deferred.ofValue, Act.eval, invoke, Sem.run_bind, Sem.run_pure, Result.andThen_ok, List.map_toArray, Array.append_empty, Array.empty_append, Array.append_eq_append, List.append_nil, List.nil_append] at this ⊢
    simpa using this
  refine wpList_step fun K hK => ?_
  rw [if_pos (hg.wanted (m := m) (g := g) fun j want e _ _ y hy => hr.tmps e y hy)]
  refine wp_call_of hrun (hc.run m w _ _ (hL.env_in hr.env) (by simp [h1]) (fun i x v h3 h4 => h2 i x v h3 (by simpa using h4))) ?_
  rintro e w' ⟨v, m', g', rfl, henv, hv⟩
  obtain ⟨g'', e1, e2, e3⟩ := hL.env_out hr.env henv
  refine ⟨v, rfl, hK _ _ (h.go C _ _ ⟨m', g'', ?_⟩)⟩
  rw [hd]
  have hrel : RelG C N ⟨tm.map (fun p => (p.1, p.2.clr (chgOf fw kp ow0))), bxAft fb fw (chgOf fw kp ow0) bx1 bx, owAft fw ow0 ow1 ow⟩ a w' m' g'' := ⟨e1, hr.size, hr.defers, fun s x hx => by
    rw [show get (tm.map fun p => (p.1, p.2.clr (chgOf fw kp ow0))) s = _ from get_mapv _ _ _] at hx
    cases h5 : get tm s with
    | none => rw [h5] at hx; cases hx
    | some y => rw [h5] at hx; injection hx with hx; subst hx; exact e2 y _ (hr.tmps s y h5)⟩
  exact hrel.put e1 (fun x v h => h) (Nat.lt_of_succ_le (Nat.le_of_ble_eq_true hN)) (e3 r v hv)
/-- the same, through a value -/
theorem sops_lcall_clo {f : FuncId} {xz : Operand} {caps : List A} {xs : List Operand} {at_ : Array TypeId} {args caps0 : List A} {r : A} {d : Nat} (hc : LCalls P f (args ++ caps0) bx0 ow0 r bx1 ow1) (fb fw : Nat → Nat) (kp : Nat → Bool) (hg : GuardIs ops tm o true) (ho : o.op = .call { callee := .value xz, args := xs.toArray, argTypes := at_ }) (hd : o.dst = some d) (hN : Nat.blt d N = true)
    (hz : evA tm xz = some (.cl f caps)) (hcp : caps = caps0.map (A.ren fb fw)) (hcl : (caps0.all fun x => x.live bx0 ow0 && x.isLf) = true)
    (ha : ArgsL fb fw ow bx0 ow0 (evA tm) xs args) (hx : LentX fb fw bx bx0) (hw : LentW fw ow ow0) (hl : (bx0.all fun p => p.2.all fun x => x.live bx0 ow0) = true) (hB : lendB fb fw bx bx0 bx1 ow ow0 ow1 = true)
    (hkp : ∀ i, kp i = true → Nat.ble 2000 i = true ∧ ∃ o0 o1, get ow0 i = some o0 ∧ get ow1 i = some o1 ∧ o1.rows.length = o0.rows.length)
    (h : SOps P N ops Q rest ⟨(d, r.ren fb fw) :: tm.map (fun p => (p.1, p.2.clr (chgOf fw kp ow0))), bxAft fb fw (chgOf fw kp ow0) bx1 bx, owAft fw ow0 ow1 ow⟩) : SOps P N ops Q (o :: rest) ⟨tm, bx, ow⟩ := by
  have hL := lend_of (kp := kp) hx hw hl hB hkp
  refine .mk fun C a w ⟨m, g, hr⟩ => ?_
  obtain ⟨h1, h2⟩ := ha.ok hL hr.env (a := a) (fun x _ y hy => hr.ev hy)
  obtain ⟨vs, hvz, hvl, hvc⟩ := hr.ev hz
  subst hcp
  have hrun : (execOp a.eval o).run P w = .ok (.enter f ((xs.map a.eval).toArray ++ vs)) w := by
    have := hc.ent ((xs.map a.eval).toArray ++ vs) w
    simp only [execOp, ho, resolve, Deferred.ofValue, hvz, invoke, Sem.run_bind, Sem.run_pure, Result.andThen_ok, List.map_toArray, Array.append_empty, Array.empty_append] at this ⊢
    simpa using this
  refine wpList_step fun K hK => ?_
  rw [if_pos (hg.wanted (m := m) (g := g) fun j want e _ _ y hy => hr.tmps e y hy)]
  refine wp_call_of hrun (hc.run m w _ _ (hL.env_in hr.env) (by simp [h1, hvl]) (fun i x v h3 h4 => ?_)) ?_
  · rw [List.getElem?_append] at h3
    rw [Array.getElem?_append] at h4
    by_cases hi : i < args.length
    · rw [if_pos hi] at h3
      rw [if_pos (by simp; omega)] at h4
      exact h2 i x v h3 (by simpa using h4)
    · rw [if_neg hi] at h3
      rw [if_neg (by simp; omega)] at h4
      have h5 := (List.all_eq_true.1 hcl) x (List.mem_of_getElem? h3)
      rw [Bool.and_eq_true] at h5
      refine hL.ren_in hr.env h5.1 ?_
      have h6 := hvc (i - args.length) (x.ren fb fw) v (by rw [List.getElem?_map, h3]; rfl) (by rw [← h1]; simpa using h4)
      exact h6.two
  rintro e w' ⟨v, m', g', rfl, henv, hv⟩
  obtain ⟨g'', e1, e2, e3⟩ := hL.env_out hr.env henv
  refine ⟨v, rfl, hK _ _ (h.go C _ _ ⟨m', g'', ?_⟩)⟩
  rw [hd]
  have hrel : RelG C N ⟨tm.map (fun p => (p.1, p.2.clr (chgOf fw kp ow0))), bxAft fb fw (chgOf fw kp ow0) bx1 bx, owAft fw ow0 ow1 ow⟩ a w' m' g'' := ⟨e1, hr.size, hr.defers, fun s x hx => by
    rw [show get (tm.map fun p => (p.1, p.2.clr (chgOf fw kp ow0))) s = _ from get_mapv _ _ _] at hx
    cases h5 : get tm s with
    | none => rw [h5] at hx; cases hx
    | some y => rw [h5] at hx; injection hx with hx; subst hx; exact e2 y _ (hr.tmps s y h5)⟩
  exact hrel.put e1 (fun x v h => h) (Nat.lt_of_succ_le (Nat.le_of_ble_eq_true hN)) (e3 r v hv)
end
end Go.Proofs.YtcpbdcamfhoiaaaDoor.Sim

/- A logic of states: rows that are the call's alone: shown, shortened, cleared, counted. -/
namespace Go.Proofs.YtcpbdcamfhoiaaaDoor.Sim
set_option linter.unusedVariables false
set_option linter.unusedSimpArgs false
open Go.RowKit Mem
theorem run_clear_rowM {P : Program} {w : World} (t e ty : TypeId) (i : TypeInfo) (z : Value) (ht : P.underlying t = some (.slice e)) (hi : P.info? e = some i) (hz : i.zero = some z) (g o n c : Nat) (hn : 0 < n) (cur : Array Value) (t0 : TypeId) {fz : Nat × Nat} (hg : w.heap[g]? = some (.cells cur t0 fz)) (hf : FzOk fz cur.size)
    (hfit : o + n * z.cells.size ≤ cur.size) (h1 : ∀ u ∈ (Builtin.zeroCells z.cells n).toList, u.oneCell' = true) :
    (Builtin.clear_ #[t] ty #[.slice (some ⟨g, o, none⟩) n c]).run P w =
      .ok (.tuple #[]) (w.setRow g (cur.toList.take o ++ (Builtin.zeroCells z.cells n).toList ++ cur.toList.drop (o + (Builtin.zeroCells z.cells n).toList.length)).toArray) := by
  have hst := run_storeCells_atM P g o t0 fz (Builtin.zeroCells z.cells n).toList 0 cur w hg hf (by simpa [size_zeroCells] using hfit) h1
  obtain ⟨m, rfl⟩ : ∃ m, n = m + 1 := ⟨n - 1, by omega⟩
  simp only [Nat.add_zero] at hst
  simp [Builtin.clear_, run_underlying ht, zeroValue, typeInfo, hi, hz, hst]

def mv0 (i j : Nat) : A → A
  | .own k n => bif Nat.beq k i then .own j n else .own k n
  | .oe k n sz kk off => bif Nat.beq k i then .oe j n sz kk off else .oe k n sz kk off
  | .sfx k n sz kk => bif Nat.beq k i then .sfx j n sz kk else .sfx k n sz kk
  | x => x
def A.mv (i j : Nat) (x : A) : A := x.mapA (mv0 i j)
theorem get_map2 {l : List (Nat × List A)} (f : A → A) (i : Nat) : get (l.map fun p => (p.1, p.2.map f)) i = (get l i).map (List.map f) := get_mapv _ _ _
theorem allt (x : A) : x.allP (fun _ => true) = true := by
  cases x <;> simp [A.allP, A.all1]
  intro y _; cases y <;> simp [A.all1]
section
variable {C : Ctx} {bx : List (Nat × List A)} {ow : List (Nat × Own)} {w : World} {m : Mm} {g : Gh}
/-- a row under another number, seen from now on -/
theorem EnvG.show_ (he : EnvG C bx ow w m g) {i j : Nat} {o : Own} (hi : get ow i = some o) (hh : hid i = true) (h2 : Nat.ble 2000 j = false) (hj : get ow j = none) :
    ∃ m' g', EnvG C (bx.map fun p => (p.1, p.2.map (A.mv i j))) ((j, o) :: ow.filter (fun p => !(Nat.beq p.1 i))) w m' g' ∧ ∀ x v, AR m g x v → AR m' g' (x.mv i j) v := by
  obtain ⟨vs, hown, hrl, hca, hbk⟩ := he.owns i o hi
  have hij : j ≠ i := fun e => by subst e; rw [hi] at hj; cases hj
  have hmb : ∀ b, (g.go i).ownBlock = some b → ∀ k, m b k = none := fun b hb k => by rw [(hbk b hb).1 k, vis_hid hh]; rfl
  have hext : ∀ b k v, m b k = some v → rowm m (g.go i) (vis j vs) b k = some v := fun b k v hv => by
    unfold rowm
    split
    · rename_i hb; rw [hmb b hb k] at hv; cases hv
    · exact hv
  let g' : Gh := { g with go := fun k => if k = j then g.go i else g.go k, ln := fun k => if k = j then g.ln i else g.ln k, lw := fun k => if k = j then true else if k = i then false else g.lw k }
  have hgo : ∀ k, k ≠ j → g'.go k = g.go k ∧ g'.ln k = g.ln k := fun k hk => ⟨if_neg hk, if_neg hk⟩
  have hgj : g'.go j = g.go i ∧ g'.ln j = g.ln i := ⟨if_pos rfl, if_pos rfl⟩
  have hget : ∀ k, get ((j, o) :: ow.filter (fun p => !(Nat.beq p.1 i))) k = if j = k then some o else if k = i then none else get ow k := fun k => by
    rw [get_cons]
    split
    · rfl
    · refine (get_filter (fun k => !(Nat.beq k i)) ow k).trans ?_
      by_cases hk : k = i
      · subst hk; rw [if_pos rfl, if_neg]; rw [show Nat.beq k k = true from Nat.beq_refl _]; simp
      · rw [if_neg hk, if_pos]
        cases hb : Nat.beq k i with
        | true => exact absurd (Nat.eq_of_beq_eq_true hb) hk
        | false => rfl
  have hlj : ∀ k, g.lw k = true → k ≠ j := fun k hk e => by subst e; rw [he.lw, hj] at hk; cases hk
  have L0 : ∀ x v, AR0 m g x v → AR0 (rowm m (g.go i) (vis j vs)) g' (mv0 i j x) v := by
    intro x v hx
    cases x with
    | t x => exact TR.mono hext hx
    | own k n =>
      obtain ⟨h1, h2, h3, h4⟩ := hx
      show AR0 _ g' (bif Nat.beq k i then .own j n else .own k n) v
      cases hb : Nat.beq k i with
      | true =>
        obtain rfl := Nat.eq_of_beq_eq_true hb
        exact ⟨if_pos rfl, by rw [hgj.2]; exact h2, h3, by rw [hgj.1, hgj.2]; exact h4⟩
      | false =>
        have hk := hlj k h1
        exact ⟨by show (if k = j then true else if k = i then false else g.lw k) = true; rw [if_neg hk, if_neg (Nat.ne_of_beq_eq_false hb)]; exact h1, by rw [(hgo k hk).2]; exact h2, h3, by rw [(hgo k hk).1, (hgo k hk).2]; exact h4⟩
    | oe k n sz kk off =>
      obtain ⟨h1, h2, h3, h4⟩ := hx
      show AR0 _ g' (bif Nat.beq k i then .oe j n sz kk off else .oe k n sz kk off) v
      cases hb : Nat.beq k i with
      | true =>
        obtain rfl := Nat.eq_of_beq_eq_true hb
        exact ⟨if_pos rfl, by rw [hgj.2]; exact h2, h3, by rw [hgj.1, hgj.2]; exact h4⟩
      | false =>
        have hk := hlj k h1
        exact ⟨by show (if k = j then true else if k = i then false else g.lw k) = true; rw [if_neg hk, if_neg (Nat.ne_of_beq_eq_false hb)]; exact h1, by rw [(hgo k hk).2]; exact h2, h3, by rw [(hgo k hk).1, (hgo k hk).2]; exact h4⟩
    | sfx k n sz kk =>
      obtain ⟨h1, h2, h3, h4⟩ := hx
      show AR0 _ g' (bif Nat.beq k i then .sfx j n sz kk else .sfx k n sz kk) v
      cases hb : Nat.beq k i with
      | true =>
        obtain rfl := Nat.eq_of_beq_eq_true hb
        exact ⟨if_pos rfl, by rw [hgj.2]; exact h2, h3, by rw [hgj.1, hgj.2]; exact h4⟩
      | false =>
        have hk := hlj k h1
        exact ⟨by show (if k = j then true else if k = i then false else g.lw k) = true; rw [if_neg hk, if_neg (Nat.ne_of_beq_eq_false hb)]; exact h1, by rw [(hgo k hk).2]; exact h2, h3, by rw [(hgo k hk).1, (hgo k hk).2]; exact h4⟩
    | _ => exact hx
  have L : ∀ x v, AR m g x v → AR (rowm m (g.go i) (vis j vs)) g' (x.mv i j) v := fun x v hx => hx.mp _ (fun _ => true) (fun x v _ => L0 x v) (allt x)
  have hbx : ∀ k cs, get bx k = some cs → (g.go i).ownBlock ≠ some (g.gb k) := fun k cs hk e => (hbk _ e).2.1 k cs hk rfl
  refine ⟨rowm m (g.go i) (vis j vs), g', {
    lo := he.lo
    gm := he.gm
    sub := fun b k v hv => by
      unfold rowm at hv
      split at hv
      · rename_i hb
        have := hown.cells hb k v (vis_get hv)
        rwa [addr_add, Nat.zero_add] at this
      · exact he.sub b k v hv
    ext := ⟨fun b k v hv => hext b k v (he.ext.keep b k v hv), fun b k hb hg => by
      unfold rowm
      split
      · rename_i hbb
        rcases (hbk b hbb).2.2 with h | h
        · omega
        · rw [hg] at h; cases h
      · exact he.ext.old b k hb hg⟩
    lb := fun k => by rw [get_map2]; rw [show (Option.map (List.map (A.mv i j)) (get bx k)).isSome = (get bx k).isSome by cases get bx k <;> rfl]; exact he.lb k
    lw := fun k => by
      rw [hget]
      show (if k = j then true else if k = i then false else g.lw k) = _
      by_cases hk : k = j
      · subst hk; rw [if_pos rfl, if_pos rfl]; rfl
      · have hk' : ¬ j = k := fun e => hk e.symm
        rw [if_neg hk, if_neg hk']
        split
        · rfl
        · exact he.lw k
    ln := fun k o' hk => by
      rw [hget] at hk
      by_cases hkj : k = j
      · subst hkj; rw [if_pos rfl] at hk; injection hk with hk; subst hk; rw [hgj.2]; exact he.ln i _ hi
      · have hkj' : ¬ j = k := fun e => hkj e.symm
        rw [if_neg hkj'] at hk
        split at hk
        · cases hk
        · rw [(hgo k hkj).2]; exact he.ln k o' hk
    boxes := fun k cs hk => by
      rw [get_map2] at hk
      cases hc : get bx k with
      | none => rw [hc] at hk; cases hk
      | some c0 =>
        rw [hc] at hk; injection hk with hk; subst hk
        obtain ⟨us, ty, h1, h2, h3, h4, h5⟩ := he.boxes k c0 hc
        refine ⟨us, ty, h1, by simpa using h2, fun q x u hx hu => ?_, h4, fun o => ?_⟩
        · rw [List.getElem?_map] at hx
          cases hq : c0[q]? with
          | none => rw [hq] at hx; cases hx
          | some y => rw [hq] at hx; injection hx with hx; subst hx; exact ⟨L y u (h3 q y u hq hu).1, (h3 q y u hq hu).2⟩
        · show rowm m (g.go i) (vis j vs) (g.gb k) o = none
          unfold rowm
          rw [if_neg (hbx k c0 hc)]; exact h5 o
    inj := fun p q cp cq hp hq e => by
      rw [get_map2] at hp hq
      cases hc : get bx p with
      | none => rw [hc] at hp; cases hp
      | some c0 =>
        cases hc2 : get bx q with
        | none => rw [hc2] at hq; cases hq
        | some c2 => exact he.inj p q c0 c2 hc hc2 e
    owns := fun k o' hk => by
      have hbxx : ∀ b : Nat, ∀ q cs, get (bx.map fun p => (p.1, p.2.map (A.mv i j))) q = some cs → ∃ c0, get bx q = some c0 := fun b q cs hq => by
        rw [get_map2] at hq
        cases hc : get bx q with
        | none => rw [hc] at hq; cases hq
        | some c0 => exact ⟨c0, rfl⟩
      rw [hget] at hk
      by_cases hkj : k = j
      · subst hkj
        rw [if_pos rfl] at hk; injection hk with hk; subst hk
        rw [hgj.1]
        refine ⟨vs, hown, hrl, hca.mono hext, fun b hb => ⟨fun q => ?_, fun q cs hq => ?_, (hbk b hb).2.2⟩⟩
        · unfold rowm; rw [if_pos hb]
        · obtain ⟨c0, h1⟩ := hbxx b q cs hq
          exact (hbk b hb).2.1 q c0 h1
      · have hkj' : ¬ j = k := fun e => hkj e.symm
        rw [if_neg hkj'] at hk
        by_cases hki : k = i
        · rw [if_pos hki] at hk; cases hk
        · rw [if_neg hki] at hk
          rw [(hgo k hkj).1]
          obtain ⟨us, h1, h2, h3, h4⟩ := he.owns k o' hk
          refine ⟨us, h1, h2, h3.mono hext, fun b hb => ⟨fun q => ?_, fun q cs hq => ?_, (h4 b hb).2.2⟩⟩
          · unfold rowm
            rw [if_neg (fun e => he.apart i k o o' hi hk (fun e => hki e.symm) b e hb)]; exact (h4 b hb).1 q
          · obtain ⟨c0, h5⟩ := hbxx b q cs hq
            exact (h4 b hb).2.1 q c0 h5
    apart := fun p q op oq hp hq hpq b hb => by
      rw [hget] at hp hq
      by_cases hpj : p = j
      · subst hpj
        rw [hgj.1] at hb
        rw [if_neg hpq] at hq
        split at hq
        · cases hq
        · rename_i hqi
          rw [(hgo q (fun e => hpq e.symm)).1]
          exact he.apart i q o oq hi hq (fun e => hqi e.symm) b hb
      · rw [if_neg (fun e => hpj e.symm)] at hp
        split at hp
        · cases hp
        · rename_i hpi
          rw [(hgo p hpj).1] at hb
          by_cases hqj : q = j
          · subst hqj; rw [hgj.1]; exact he.apart p i op o hp hi hpi b hb
          · rw [if_neg (fun e => hqj e.symm)] at hq
            split at hq
            · cases hq
            · rw [(hgo q hqj).1]; exact he.apart p q op oq hp hq hpq b hb
    pin := fun k o' hk hk2 => by
      rw [hget] at hk
      by_cases hkj : k = j
      · subst hkj; rw [h2] at hk2; cases hk2
      · have hkj' : ¬ j = k := fun e => hkj e.symm
        rw [if_neg hkj'] at hk
        split at hk
        · cases hk
        · rw [(hgo k hkj).1]; exact he.pin k o' hk hk2
    pinb := fun k cs hk hk2 => by
      rw [get_map2] at hk
      cases hc : get bx k with
      | none => rw [hc] at hk; cases hk
      | some c0 => exact he.pinb k c0 hc hk2 }, L⟩
end
theorem weak_show {N : Nat} {tm : List (Nat × A)} {bx : List (Nat × List A)} {ow : List (Nat × Own)} (i j : Nat) {o : Own} (hi : get ow i = some o) (hh : hid i = true) (h2 : Nat.ble 2000 j = false) (hj : get ow j = none) :
    Weak N ⟨tm, bx, ow⟩ ⟨tm.map fun p => (p.1, p.2.mv i j), bx.map fun p => (p.1, p.2.map (A.mv i j)), (j, o) :: ow.filter (fun p => !(Nat.beq p.1 i))⟩ := .mk fun C a w ⟨m, g, hr⟩ => by
  obtain ⟨m', g', h3, h4⟩ := hr.env.show_ hi hh h2 hj
  refine ⟨m', g', h3, hr.size, hr.defers, fun s x hx => ?_⟩
  rw [show get (tm.map fun p => (p.1, p.2.mv i j)) s = _ from get_mapv _ _ _] at hx
  cases h5 : get tm s with
  | none => rw [h5] at hx; cases hx
  | some y => rw [h5] at hx; injection hx with hx; subst hx; exact h4 y _ (hr.tmps s y h5)

section
variable {P : Program} {N : Nat} {Q : Exit → St → Prop} {ops : Array Oper} {rest : List Oper} {o : Oper} {tm : List (Nat × A)} {bx : List (Nat × List A)} {ow : List (Nat × Own)} {ρ : Operand → Option A}
theorem po_len_own {x : Operand} {i n : Nat} {t : TypeId} (ho : o.op = .call { callee := .builtin .len, args := #[x], argTypes := #[t] }) (hx : ρ x = some (.own i n)) {sz : Nat} (hT : sliceSz P t = some sz) : PureOp P bx ow o ρ (.t (.v (.int .i64 (n : Int)))) := pure_run fun C m g w a he h => by
  obtain ⟨_, _, ⟨A, c, h1⟩, _⟩ := h x (by simp [ho, Op.operands, Call.operands]) _ hx
  obtain ⟨e, ii, hu, _⟩ := sliceSz_spec hT
  refine ⟨.int .i64 n, ?_, .v _⟩
  simp [execOp, ho, resolve, invoke, builtin, h1, Builtin.len_, Builtin.lenOf, run_underlying hu, goInt]
/-- what stands behind in a row of the call's own -/
theorem po_slice_sfx {t e sz l : Nat} {x q : Operand} {i n : Nat} {ik : IntKind} {rows : List (List T)} (ho : o.op = .slice t x (some q) none none) (hx : ρ x = some (.own i n)) (hi : get ow i = some ⟨e, sz, rows⟩) (hn : n = rows.length) (hT : sliceSz P t = some sz) (hq : ρ q = some (.t (.v (.int ik l)))) (hl : l ≤ n) (h0 : 0 < n) : PureOp P bx ow o ρ (.sfx i n sz l) := pure_run fun C m g w a he h => by
  obtain ⟨h1, h2, h3, h4⟩ := h x (by simp [ho, Op.operands]) _ hx
  have h5 := tr_v (h q (by simp [ho, Op.operands]) _ hq)
  have hln := he.ln i _ hi
  have hv := h4 (by rw [hln]; exact hn)
  obtain ⟨e', ii, hu, hie, hs⟩ := sliceSz_spec hT
  obtain ⟨vs, hown, _⟩ := he.owns i _ hi
  dsimp only at hown
  obtain ⟨b, cap, cur, e1, _, _, e4, _⟩ := own_form hown (by omega)
  rw [e1] at hv
  have c1 : (l : Int) ≤ (n : Int) := by omega
  have hrun : (execOp a.eval o).run P w = .ok (.value (.slice (if cap = l then some ⟨b, 0, none⟩ else some ⟨b, l * sz, none⟩) (n - l) (cap - l))) w := by
    subst hn
    by_cases hcl : cap = l <;> simp [execOp, ho, hv, h5, Instr.sliceAt, run_underlying hu, Instr.slice, Instr.sliceBounds, Instr.sliceBound, asIntOf, sizeOf, typeInfo, hie, hs, c1, hl, hcl, add_mid]
  exact ⟨_, hrun, h1, h2, ⟨_, _, rfl⟩, fun _ => ⟨b, cap, by rw [e1, hn], rfl⟩⟩
theorem zero_flat (z : Array Value) (n : Nat) (h0 : 0 < z.size) : (Builtin.zeroCells z n).toList = (List.replicate n z.toList).flatten := by
  have hr : ∀ r ∈ List.replicate n z.toList, r.length = z.size := fun r hr => by rw [List.eq_of_mem_replicate hr]; simp
  have key : ∀ (n j : Nat), j < n * z.size → (List.replicate n z.toList).flatten[j]? = z[j % z.size]? := by
    intro n
    induction n with
    | zero => intro j hj; omega
    | succ n ih =>
      intro j hj
      rw [List.replicate_succ, List.flatten_cons]
      by_cases hlt : j < z.size
      · rw [List.getElem?_append_left (by simpa using hlt), Nat.mod_eq_of_lt hlt]; simp
      · rw [List.getElem?_append_right (by simp; omega), show z.toList.length = z.size by simp, ih (j - z.size) (by rw [Nat.succ_mul] at hj; omega), ← Nat.mod_eq_sub_mod (show z.size ≤ j by omega)]
  refine List.ext_getElem? fun j => ?_
  by_cases hj : j < n * z.size
  · rw [key n j hj]
    have hm : j % z.size < z.size := Nat.mod_lt _ h0
    simp [Builtin.zeroCells, hj, hm]
  · have h1 : (Builtin.zeroCells z n).toList.length = n * z.size := by simp [size_zeroCells]
    rw [List.getElem?_eq_none (by omega), List.getElem?_eq_none]
    have : (List.replicate n z.toList).flatten.length = n * z.size := by simp
    omega
theorem flat_take {α : Type} {sz : Nat} {rows : List (List α)} (hr : ∀ r ∈ rows, r.length = sz) (k : Nat) : (rows.take k).flatten = rows.flatten.take (k * sz) := by
  induction rows generalizing k with
  | nil => simp
  | cons r rs ih =>
    cases k with
    | zero => simp
    | succ k =>
      have hq := hr r (by simp)
      rw [List.take_succ_cons, List.flatten_cons, List.flatten_cons, ih (fun x hx => hr x (by simp [hx])), Nat.succ_mul, List.take_append, List.take_of_length_le (show r.length ≤ k * sz + sz by omega)]
      congr 2; omega
/-- a row's end cleared -/
theorem sops_clear {t e sz by_ : Nat} {x : Operand} {i n k : Nat} {rows : List (List T)} {zs : List Value} (hh : hid i = true) (hg : GuardIs ops tm o true) (ho : o.op = .call { callee := .builtin .clear, args := #[x], argTypes := #[t] }) (hd : o.dst = none) (hx : evA tm x = some (.sfx i n sz k)) (hi : get ow i = some ⟨e, sz, rows⟩) (hn : n = rows.length) (hk : k < n)
    (hT : sliceE P t = some (e, sz, by_)) (hz : ((P.info? e).bind (·.zero)).map (fun z => z.cells.toList) = some zs) (h1 : (zs.all fun v => v.oneCell') = true)
    (h : SOps P N ops Q rest ⟨tm, bx, (i, ⟨e, sz, rows.take k ++ List.replicate (rows.length - k) (zs.map T.v)⟩) :: ow⟩) : SOps P N ops Q (o :: rest) ⟨tm, bx, ow⟩ := by
  refine .mk fun C a w ⟨m, g, hr⟩ => ?_
  obtain ⟨_, _, _, h4⟩ := hr.ev hx
  have he := hr.env
  obtain ⟨b, cap, h5, h6⟩ := h4 (by rw [he.ln i _ hi]; exact hn)
  obtain ⟨ii, z, hu, hie, hzz, hsz, _, hzs, hpos⟩ := sliceE_spec hT
  have hzl : z.cells.toList = zs := by rw [hie] at hz; simp [hzz] at hz; exact hz
  obtain ⟨vs, hown, hrr, hc, hbk⟩ := he.owns i _ hi
  dsimp only at hown hrr hc
  obtain ⟨b', cap', cur, e1, e2, ⟨fz, e3, e3f⟩, e4, e5, e6, e7⟩ := own_form hown (by omega)
  rw [h5] at e1; injection e1 with e1 _ e8; injection e1 with e1; injection e1 with e1; subst e1 e8
  have hkc : cap ≠ k := by omega
  rw [if_neg hkc] at h6
  have hks : k * sz + (n - k) * sz = n * sz := by rw [← Nat.add_mul]; congr 1; omega
  have hns : n * sz ≤ cur.size := by rw [e6]; exact Nat.mul_le_mul_right _ (by omega)
  have hzc : (Builtin.zeroCells z.cells (n - k)).toList = (List.replicate (n - k) zs).flatten := by rw [zero_flat _ _ (by omega), hzl]
  have hone : ∀ u ∈ (Builtin.zeroCells z.cells (n - k)).toList, u.oneCell' = true := fun u hu' => by
    rw [hzc] at hu'
    obtain ⟨r, h7, h8⟩ := List.mem_flatten.1 hu'
    rw [List.eq_of_mem_replicate h7] at h8
    exact (List.all_eq_true.1 h1) u h8
  have hrun := run_clear_rowM (P := P) (w := w) t e o.type ii z hu hie hzz b (k * sz) (n - k) (cap - k) (by omega) cur e e3 e3f (by rw [hzs]; omega) hone
  have hexec : (execOp a.eval o).run P w = .ok (.value (.tuple #[])) (w.setRow b (cur.toList.take (k * sz) ++ (Builtin.zeroCells z.cells (n - k)).toList ++ cur.toList.drop (k * sz + (Builtin.zeroCells z.cells (n - k)).toList.length)).toArray) := by
    simp only [execOp, ho, resolve, invoke, builtin, Sem.run_bind, Sem.run_pure, Result.andThen_ok, List.map_toArray, List.map_cons, List.map_nil, h6, hrun]
  refine wpList_step fun K hK => ?_
  rw [if_pos (hg.wanted (m := m) (g := g) fun j want e _ _ y hy => hr.tmps e y hy)]
  refine wp_of_run hexec (hK _ _ (h.go C _ _ ⟨m, g, ?_⟩))
  rw [hd]
  have hzll : (Builtin.zeroCells z.cells (n - k)).toList.length = (n - k) * sz := by simp [size_zeroCells, hzs]
  have hzsl : zs.length = sz := by rw [← hzl]; simpa using hzs
  have hrz : ∀ r ∈ List.replicate (rows.length - k) (zs.map T.v), r.length = sz := fun r hr' => by rw [List.eq_of_mem_replicate hr']; simp [hzsl]
  have hpl : (cur.toList.take (k * sz)).length = k * sz := by simp; omega
  have hcell : CellsAre m (rows.take k ++ List.replicate (rows.length - k) (zs.map T.v)).flatten (vs.take (k * sz) ++ (Builtin.zeroCells z.cells (n - k)).toList) := by
    rw [List.flatten_append, flat_take hrr]
    refine (hc.take _).app ?_
    rw [hzc, hn]
    have : (List.replicate (rows.length - k) (zs.map T.v)).flatten = ((List.replicate (rows.length - k) zs).flatten).map T.v := by rw [List.map_flatten, List.map_replicate]
    rw [this]
    refine ⟨by simp, fun j t v h7 h8 => ?_⟩
    rw [List.getElem?_map, h8] at h7
    simp at h7; subst h7
    exact ⟨.v _, hone v (by rw [hzc, hn]; exact List.mem_of_getElem? h8)⟩
  refine hr.put_none (he.setE (b := b) (cap := cap) (cur := cur) hh hi (by simp; omega) (by rw [h5, hn]) e3 e3f (fun r hr' => ?_) hcell ?_ ?_) (fun x v h => h)
  · rcases List.mem_append.1 hr' with hr' | hr'
    · exact hrr r (List.mem_of_mem_take hr')
    · exact hrz r hr'
  · have h9 : cur.toList.length = cur.size := by simp
    simp only [List.size_toArray, List.length_append, List.length_take, List.length_drop, hzll, h9]; omega
  · simp only []
    rw [List.append_assoc, ← hn, List.take_append, hpl, List.take_of_length_le (show (cur.toList.take (k * sz)).length ≤ n * sz by omega), List.take_append, List.take_of_length_le (show (Builtin.zeroCells z.cells (n - k)).toList.length ≤ n * sz - k * sz by omega), hzll, show n * sz - k * sz - (n - k) * sz = 0 by omega, List.take_zero, List.append_nil, ← e7, List.take_take, Nat.min_eq_left (by rw [← hn]; omega)]
end
end Go.Proofs.YtcpbdcamfhoiaaaDoor.Sim

/- A logic of states: rows that are the call's alone, shortened. -/
namespace Go.Proofs.YtcpbdcamfhoiaaaDoor.Sim
set_option linter.unusedVariables false
set_option linter.unusedSimpArgs false
open Go.RowKit Mem

section
variable {C : Ctx} {bx : List (Nat × List A)} {ow : List (Nat × Own)} {w : World} {m : Mm} {g : Gh}
theorem EnvG.shrink (he : EnvG C bx ow w m g) {i k cap b : Nat} {e : TypeId} {sz : Nat} {rows : List (List T)} {A0 : Option Addr} (hi : get ow i = some ⟨e, sz, rows⟩) (hh : hid i = true) (h2 : Nat.ble 2000 i = false) (hk : k ≤ rows.length)
    (hgo : (g.go i = .slice none 0 0 ∧ A0 = none ∧ cap = 0) ∨ (g.go i = .slice (some ⟨b, 0, none⟩) rows.length cap ∧ A0 = some ⟨b, 0, none⟩)) :
    EnvG C (bx.map fun p => (p.1, p.2.map (A.clr fun j => Nat.beq j i))) ((i, ⟨e, sz, rows.take k⟩) :: ow) w m (g.setO i (.slice A0 k cap) k) ∧ ∀ x v, AR m g x v → AR m (g.setO i (.slice A0 k cap) k) (x.clr fun j => Nat.beq j i) v := by
  obtain ⟨vs, hown, hrl, hca, hbk⟩ := he.owns i _ hi
  dsimp only at hown hrl hca hbk
  have hgj : ∀ q, q ≠ i → (g.setO i (.slice A0 k cap) k).go q = g.go q ∧ (g.setO i (.slice A0 k cap) k).ln q = g.ln q ∧ (g.setO i (.slice A0 k cap) k).lw q = g.lw q := fun q hq => ⟨if_neg hq, if_neg hq, if_neg hq⟩
  have hgi : (g.setO i (.slice A0 k cap) k).go i = .slice A0 k cap ∧ (g.setO i (.slice A0 k cap) k).ln i = k ∧ (g.setO i (.slice A0 k cap) k).lw i = true := ⟨if_pos rfl, if_pos rfl, if_pos rfl⟩
  have hblk : (Value.slice A0 k cap).ownBlock = (g.go i).ownBlock := by
    rcases hgo with ⟨h1, rfl, _⟩ | ⟨h1, rfl⟩ <;> rw [h1] <;> rfl
  have L0 : ∀ x v, AR0 m g x v → AR0 m (g.setO i (.slice A0 k cap) k) (clr0 (fun j => Nat.beq j i) x) v := by
    intro x v hx
    cases x with
    | own q n =>
      show AR0 m _ (bif Nat.beq q i then .any else .own q n) v
      cases hb : Nat.beq q i with
      | true => trivial
      | false =>
        obtain ⟨e1, e2, e3⟩ := hgj q (Nat.ne_of_beq_eq_false hb)
        exact ⟨e3.trans hx.1, by rw [e2]; exact hx.2.1, hx.2.2.1, by rw [e1, e2]; exact hx.2.2.2⟩
    | oe q n sz kk off =>
      show AR0 m _ (bif Nat.beq q i then .any else .oe q n sz kk off) v
      cases hb : Nat.beq q i with
      | true => trivial
      | false =>
        obtain ⟨e1, e2, e3⟩ := hgj q (Nat.ne_of_beq_eq_false hb)
        exact ⟨e3.trans hx.1, by rw [e2]; exact hx.2.1, hx.2.2.1, by rw [e1, e2]; exact hx.2.2.2⟩
    | sfx q n sz kk =>
      show AR0 m _ (bif Nat.beq q i then .any else .sfx q n sz kk) v
      cases hb : Nat.beq q i with
      | true => trivial
      | false =>
        obtain ⟨e1, e2, e3⟩ := hgj q (Nat.ne_of_beq_eq_false hb)
        exact ⟨e3.trans hx.1, by rw [e2]; exact hx.2.1, hx.2.2.1, by rw [e1, e2]; exact hx.2.2.2⟩
    | _ => exact hx
  have L : ∀ x v, AR m g x v → AR m (g.setO i (.slice A0 k cap) k) (x.clr fun j => Nat.beq j i) v := fun x v hx => hx.mp _ (fun _ => true) (fun x v _ => L0 x v) (allt x)
  have hbx : ∀ q cs, get (bx.map fun p => (p.1, p.2.map (A.clr fun j => Nat.beq j i))) q = some cs → ∃ c0, get bx q = some c0 ∧ cs = c0.map (A.clr fun j => Nat.beq j i) := fun q cs hq => by
    rw [get_map2] at hq
    cases hc : get bx q with
    | none => rw [hc] at hq; cases hq
    | some c0 => rw [hc] at hq; injection hq with hq; exact ⟨c0, rfl, hq.symm⟩
  have hlen : (rows.take k).length = k := by simp; omega
  refine ⟨{
    lo := he.lo, gm := he.gm, sub := he.sub, ext := he.ext
    lb := fun q => by rw [get_map2]; rw [show (Option.map (List.map (A.clr fun j => Nat.beq j i)) (get bx q)).isSome = (get bx q).isSome by cases get bx q <;> rfl]; exact he.lb q
    lw := fun q => by
      rw [get_cons]
      by_cases hq : i = q
      · subst hq; rw [if_pos rfl, hgi.2.2]; rfl
      · rw [if_neg hq, (hgj q (fun e => hq e.symm)).2.2]; exact he.lw q
    ln := fun q o' hq => by
      rw [get_cons] at hq
      by_cases hqi : i = q
      · subst hqi; rw [if_pos rfl] at hq; injection hq with hq; subst hq; rw [hgi.2.1]; exact hlen.symm
      · rw [if_neg hqi] at hq; rw [(hgj q (fun e => hqi e.symm)).2.1]; exact he.ln q o' hq
    boxes := fun q cs hq => by
      obtain ⟨c0, hc, rfl⟩ := hbx q cs hq
      obtain ⟨us, ty, h1, h2, h3, h4, h5⟩ := he.boxes q c0 hc
      refine ⟨us, ty, h1, by simpa using h2, fun p x u hx hu => ?_, h4, h5⟩
      rw [List.getElem?_map] at hx
      cases hp : c0[p]? with
      | none => rw [hp] at hx; cases hx
      | some y => rw [hp] at hx; injection hx with hx; subst hx; exact ⟨L y u (h3 p y u hp hu).1, (h3 p y u hp hu).2⟩
    inj := fun p q cp cq hp hq e => by
      obtain ⟨c0, h1, _⟩ := hbx p cp hp
      obtain ⟨c2, h3, _⟩ := hbx q cq hq
      exact he.inj p q c0 c2 h1 h3 e
    owns := fun q o' hq => by
      rw [get_cons] at hq
      by_cases hqi : i = q
      · subst hqi
        rw [if_pos rfl] at hq; injection hq with hq; subst hq
        rw [hgi.1]
        refine ⟨vs.take (k * sz), ?_, fun r hr => hrl r (List.mem_of_mem_take hr), ?_, fun b' hb' => ?_⟩
        · show RowM w 0 e sz (.slice A0 k cap) (rows.take k).length (vs.take (k * sz))
          rw [hlen]
          obtain ⟨h5, h6⟩ := hown
          have hks : k * sz ≤ rows.length * sz := Nat.mul_le_mul_right _ hk
          refine ⟨by simp; omega, ?_⟩
          rcases hgo with ⟨h1, rfl, rfl⟩ | ⟨h1, rfl⟩
          · rcases h6 with ⟨_, h7⟩ | ⟨b2, cap2, cur, h7, _⟩
            · exact .inl ⟨by rw [show k = 0 by omega], by omega⟩
            · rw [h1] at h7; cases h7
          · rcases h6 with ⟨h7, _⟩ | ⟨b2, cap2, cur, h7, h8, h9, h10, h11, h12, h13⟩
            · rw [h1] at h7; cases h7
            · rw [h1] at h7; injection h7 with h7 _ h14; injection h7 with h7; injection h7 with h7; subst h7 h14
              exact .inr ⟨b, cap, cur, rfl, h8, h9, by omega, h11, h12, by rw [← h13, List.take_take, Nat.min_eq_left hks]⟩
        · show CellsAre m (rows.take k).flatten _
          rw [flat_take hrl]; exact hca.take _
        · rw [hblk] at hb'
          refine ⟨fun p => by rw [(hbk b' hb').1 p, vis_hid hh, vis_hid hh], fun p cp hp => ?_, (hbk b' hb').2.2⟩
          obtain ⟨c0, h1, _⟩ := hbx p cp hp
          exact (hbk b' hb').2.1 p c0 h1
      · rw [if_neg hqi] at hq
        rw [(hgj q (fun e => hqi e.symm)).1]
        obtain ⟨us, h1, h2, h3, h4⟩ := he.owns q o' hq
        refine ⟨us, h1, h2, h3, fun b' hb' => ⟨(h4 b' hb').1, fun p cp hp => ?_, (h4 b' hb').2.2⟩⟩
        obtain ⟨c0, h5, _⟩ := hbx p cp hp
        exact (h4 b' hb').2.1 p c0 h5
    apart := fun p q op oq hp hq hpq b' hb' => by
      rw [get_cons] at hp hq
      by_cases hpi : i = p
      · subst hpi
        rw [hgi.1, hblk] at hb'
        rw [if_neg hpq] at hq
        rw [(hgj q (fun e => hpq e.symm)).1]
        exact he.apart i q _ oq hi hq hpq b' hb'
      · rw [if_neg hpi] at hp
        rw [(hgj p (fun e => hpi e.symm)).1] at hb'
        by_cases hqi : i = q
        · subst hqi; rw [hgi.1, hblk]; exact he.apart p i op _ hp hi hpq b' hb'
        · rw [if_neg hqi] at hq
          rw [(hgj q (fun e => hqi e.symm)).1]; exact he.apart p q op oq hp hq hpq b' hb'
    pin := fun q o' hq hq2 => by
      rw [get_cons] at hq
      by_cases hqi : i = q
      · subst hqi; rw [h2] at hq2; cases hq2
      · rw [if_neg hqi] at hq; rw [(hgj q (fun e => hqi e.symm)).1]; exact he.pin q o' hq hq2
    pinb := fun q cs hq hq2 => by
      obtain ⟨c0, hc, _⟩ := hbx q cs hq
      exact he.pinb q c0 hc hq2 }, L⟩
end
section
variable {P : Program} {N : Nat} {Q : Exit → St → Prop} {ops : Array Oper} {rest : List Oper} {o : Oper} {tm : List (Nat × A)} {bx : List (Nat × List A)} {ow : List (Nat × Own)} {ρ : Operand → Option A}
theorem sops_shrink {t e sz k d : Nat} {x q : Operand} {i n : Nat} {ik : IntKind} {rows : List (List T)} (hh : hid i = true) (h2 : Nat.ble 2000 i = false) (hg : GuardIs ops tm o true) (ho : o.op = .slice t x none (some q) none) (hd : o.dst = some d) (hN : Nat.blt d N = true) (hx : evA tm x = some (.own i n)) (hi : get ow i = some ⟨e, sz, rows⟩) (hn : n = rows.length) (hT : sliceSz P t = some sz) (hq : evA tm q = some (.t (.v (.int ik k)))) (hk : k ≤ n)
    (h : SOps P N ops Q rest ⟨(d, .own i k) :: tm.map (fun p => (p.1, p.2.clr fun j => Nat.beq j i)), bx.map (fun p => (p.1, p.2.map (A.clr fun j => Nat.beq j i))), (i, ⟨e, sz, rows.take k⟩) :: ow⟩) : SOps P N ops Q (o :: rest) ⟨tm, bx, ow⟩ := by
  refine sops_run hg (fun C a w m g hr => ?_) h
  have he := hr.env
  obtain ⟨h1, h3, _, h4⟩ := hr.ev hx
  have h5 := tr_v (show TR m (.v (.int ik k)) (a.eval q) from hr.ev hq)
  have hln := he.ln i _ hi
  have hv := h4 (by rw [hln]; exact hn)
  obtain ⟨e', ii, hu, hie, hs⟩ := sliceSz_spec hT
  obtain ⟨vs, hown, _⟩ := he.owns i _ hi
  dsimp only at hown
  subst hn
  have key : ∃ (A0 : Option Addr) (cap b : Nat), a.eval x = .slice A0 rows.length cap ∧ rows.length ≤ cap ∧ ((g.go i = .slice none 0 0 ∧ A0 = none ∧ cap = 0) ∨ (g.go i = .slice (some ⟨b, 0, none⟩) rows.length cap ∧ A0 = some ⟨b, 0, none⟩)) := by
    obtain ⟨_, ⟨h6, h7⟩ | ⟨b, cap, cur, h6, _, _, h7, _⟩⟩ := hown
    · exact ⟨none, 0, 0, by rw [hv, h6, h7], by omega, .inl ⟨h6, rfl, rfl⟩⟩
    · exact ⟨_, cap, b, by rw [hv, h6], h7, .inr ⟨h6, rfl⟩⟩
  obtain ⟨A0, cap, b, h6, h7, h8⟩ := key
  have c3 : k ≤ cap := by omega
  have hrun : (execOp a.eval o).run P w = .ok (.value (.slice A0 k cap)) w := by
    have hA : (if cap = 0 then A0 else A0.map (·.add (0 * sz))) = A0 := by
      split
      · rfl
      · rcases h8 with ⟨_, rfl, _⟩ | ⟨_, rfl⟩
        · rfl
        · simp [add_mid]
    have hA' : A0.map (fun x => x.add 0) = A0 := by
      rcases h8 with ⟨_, rfl, _⟩ | ⟨_, rfl⟩
      · rfl
      · simp [add_mid]
    simp [execOp, ho, h6, h5, Instr.sliceAt, run_underlying hu, Instr.slice, Instr.sliceBounds, Instr.sliceBound, asIntOf, sizeOf, typeInfo, hie, hs, c3]
    intro _; exact hA'
  obtain ⟨h9, h10⟩ := he.shrink (b := b) hi hh h2 hk h8
  refine ⟨_, w, hrun, ?_⟩
  rw [hd]
  have hrel : RelG C N ⟨tm.map (fun p => (p.1, p.2.clr fun j => Nat.beq j i)), _, _⟩ a w m _ := ⟨h9, hr.size, hr.defers, fun s x hx => by
    rw [show get (tm.map fun p => (p.1, p.2.clr fun j => Nat.beq j i)) s = _ from get_mapv _ _ _] at hx
    cases h5 : get tm s with
    | none => rw [h5] at hx; cases hx
    | some y => rw [h5] at hx; injection hx with hx; subst hx; exact h10 y _ (hr.tmps s y h5)⟩
  exact ⟨m, _, hrel.put h9 (fun x v h => h) (Nat.lt_of_succ_le (Nat.le_of_ble_eq_true hN)) ⟨by simp [Gh.setO], by simp [Gh.setO], ⟨_, _, rfl⟩, fun _ => by simp [Gh.setO]⟩⟩
end
end Go.Proofs.YtcpbdcamfhoiaaaDoor.Sim
namespace Go.Proofs.YtcpbdcamfhoiaaaDoor.Sim
set_option linter.unusedVariables false
set_option linter.unusedSimpArgs false
open Go.RowKit Mem
section
variable {P : Program} {N : Nat} {Q : Exit → St → Prop} {ops : Array Oper} {rest : List Oper} {o : Oper} {tm : List (Nat × A)} {bx bx0 bx1 : List (Nat × List A)} {ow ow0 ow1 : List (Nat × Own)}
theorem sops_clearS {t e sz by_ : Nat} {x : Operand} {i n k : Nat} {rows : List (List T)} {pl : List (Nat × Nat)} {zs : List Value} (hS : strI P e = some (pl, zs)) (hh : hid i = true) (hg : GuardIs ops tm o true) (ho : o.op = .call { callee := .builtin .clear, args := #[x], argTypes := #[t] }) (hd : o.dst = none) (hx : evA tm x = some (.sfx i n sz k)) (hi : get ow i = some ⟨e, sz, rows⟩) (hn : n = rows.length) (hk : k < n)
    (hT : sliceE P t = some (e, sz, by_)) (h : SOps P N ops Q rest ⟨tm, bx, (i, ⟨e, sz, rows.take k ++ List.replicate (rows.length - k) (zs.map T.v)⟩) :: ow⟩) : SOps P N ops Q (o :: rest) ⟨tm, bx, ow⟩ := by
  obtain ⟨it, z, h1, h2, h3, h4⟩ := strI_zero hS
  exact sops_clear hh hg ho hd hx hi hn hk hT (by rw [h1]; simp [h2, h3]) (List.all_eq_true.2 h4) h
/-- a call through a function's value that captured data alone -/
theorem sops_lcall_tclo {f : FuncId} {xz : Operand} {caps : List T} {xs : List Operand} {at_ : Array TypeId} {args : List A} {r : A} {d : Nat} (hc : LCalls P f (args ++ caps.map A.t) bx0 ow0 r bx1 ow1) (fb fw : Nat → Nat) (kp : Nat → Bool) (hg : GuardIs ops tm o true) (ho : o.op = .call { callee := .value xz, args := xs.toArray, argTypes := at_ }) (hd : o.dst = some d) (hN : Nat.blt d N = true)
    (hz : evA tm xz = some (.t (.clo f caps))) (ha : ArgsL fb fw ow bx0 ow0 (evA tm) xs args) (hx : LentX fb fw bx bx0) (hw : LentW fw ow ow0) (hl : (bx0.all fun p => p.2.all fun x => x.live bx0 ow0) = true) (hB : lendB fb fw bx bx0 bx1 ow ow0 ow1 = true)
    (hkp : ∀ i, kp i = true → Nat.ble 2000 i = true ∧ ∃ o0 o1, get ow0 i = some o0 ∧ get ow1 i = some o1 ∧ o1.rows.length = o0.rows.length)
    (h : SOps P N ops Q rest ⟨(d, r.ren fb fw) :: tm.map (fun p => (p.1, p.2.clr (chgOf fw kp ow0))), bxAft fb fw (chgOf fw kp ow0) bx1 bx, owAft fw ow0 ow1 ow⟩) : SOps P N ops Q (o :: rest) ⟨tm, bx, ow⟩ := by
  have hL := lend_of (kp := kp) hx hw hl hB hkp
  refine .mk fun C a w ⟨m, g, hr⟩ => ?_
  obtain ⟨h1, h2⟩ := ha.ok hL hr.env (a := a) (fun x _ y hy => hr.ev hy)
  have h0 : TR m (.clo f caps) (a.eval xz) := hr.ev hz
  generalize hvz : a.eval xz = vz at h0
  cases h0 with
  | clo f caps vs hvl hvc =>
    have hrun : (execOp a.eval o).run P w = .ok (.enter f ((xs.map a.eval).toArray ++ vs)) w := by
      have := hc.ent ((xs.map a.eval).toArray ++ vs) w
      simp only [execOp, ho, resolve, Deferred.ofValue, hvz, invoke, Sem.run_bind, Sem.run_pure, Result.andThen_ok, List.map_toArray, Array.append_empty, Array.empty_append] at this ⊢
      simpa using this
    refine wpList_step fun K hK => ?_
    rw [if_pos (hg.wanted (m := m) (g := g) fun j want e _ _ y hy => hr.tmps e y hy)]
    refine wp_call_of hrun (hc.run m w _ _ (hL.env_in hr.env) (by simp [h1, hvl]) (fun i x v h3 h4 => ?_)) ?_
    · rw [List.getElem?_append] at h3
      rw [Array.getElem?_append] at h4
      by_cases hi : i < args.length
      · rw [if_pos hi] at h3
        rw [if_pos (by simp; omega)] at h4
        exact h2 i x v h3 (by simpa using h4)
      · rw [if_neg hi] at h3
        rw [if_neg (by simp; omega)] at h4
        rw [List.getElem?_map] at h3
        cases hc' : caps[i - args.length]? with
        | none => rw [hc'] at h3; cases h3
        | some t =>
          rw [hc'] at h3; injection h3 with h3; subst h3
          exact hvc (i - args.length) t v hc' (by rw [← h1]; simpa using h4)
    rintro e w' ⟨v, m', g', rfl, henv, hv⟩
    obtain ⟨g'', e1, e2, e3⟩ := hL.env_out hr.env henv
    refine ⟨v, rfl, hK _ _ (h.go C _ _ ⟨m', g'', ?_⟩)⟩
    rw [hd]
    have hrel : RelG C N ⟨tm.map (fun p => (p.1, p.2.clr (chgOf fw kp ow0))), bxAft fb fw (chgOf fw kp ow0) bx1 bx, owAft fw ow0 ow1 ow⟩ a w' m' g'' := ⟨e1, hr.size, hr.defers, fun s x hx => by
      rw [show get (tm.map fun p => (p.1, p.2.clr (chgOf fw kp ow0))) s = _ from get_mapv _ _ _] at hx
      cases h5 : get tm s with
      | none => rw [h5] at hx; cases hx
      | some y => rw [h5] at hx; injection hx with hx; subst hx; exact e2 y _ (hr.tmps s y h5)⟩
    exact hrel.put e1 (fun x v h => h) (Nat.lt_of_succ_le (Nat.le_of_ble_eq_true hN)) (e3 r v hv)
end
end Go.Proofs.YtcpbdcamfhoiaaaDoor.Sim

/- A logic of states: is a slice nil; an empty row of the call's own, under any number. -/
namespace Go.Proofs.YtcpbdcamfhoiaaaDoor.Sim
set_option linter.unusedVariables false
set_option linter.unusedSimpArgs false
open Go.RowKit Mem
section
variable {P : Program} {N : Nat} {Q : Exit → St → Prop} {ops : Array Oper} {rest : List Oper} {o : Oper} {tm : List (Nat × A)} {bx : List (Nat × List A)} {ow : List (Nat × Own)}
theorem sops_isnil {t t2 sz d : Nat} {x : Operand} {y : A} {rows : List (List T)} (hg : GuardIs ops tm o true) (ho : o.op = .binOp .eql t x (.const (.slice none 0 0)) t2) (hd : o.dst = some d) (hN : Nat.blt d N = true) (hx : evA tm x = some y) (hv : Vw ow y (.sl sz rows)) (hT : sliceSz P t = some sz)
    (h : ∀ b, (b = true → rows = []) → SOps P N ops Q rest ⟨(d, .t (.v (.bool b))) :: tm, bx, ow⟩) : SOps P N ops Q (o :: rest) ⟨tm, bx, ow⟩ := by
  refine .mk fun C a w ⟨m, g, hr⟩ => ?_
  have hvt : TR m (.sl sz rows) (a.eval x) := hv.ok hr.env (hr.ev hx)
  obtain ⟨e, ii, hu, _⟩ := sliceSz_spec hT
  generalize hvx : a.eval x = v at hvt
  cases hvt with
  | sl _ _ A0 b off cap u hc hm hA hrl hu' ht =>
    have hrun : (execOp a.eval o).run P w = .ok (.value (.bool A0.isNone)) w := by
      have := Lib.run_eql_slice_nil (P := P) w t e A0 rows.length cap 0 0 hu
      have hc0 : a.eval (.const (.slice none 0 0)) = .slice none 0 0 := rfl
      have hgd : (eqGuard .eql t x (.const (.slice none 0 0)) (.slice A0 rows.length cap) (.slice none 0 0)).run P w = .ok () w := by simp [eqGuard]
      simp only [execOp, ho, hvx, hc0, Sem.run_bind, Sem.run_pure, Result.andThen_ok, this, hgd]
    have hb : A0.isNone = true → rows = [] := fun hn => by
      cases rows with
      | nil => rfl
      | cons r rs => rw [hA (by simp)] at hn; cases hn
    refine wpList_step fun K hK => ?_
    rw [if_pos (hg.wanted (m := m) (g := g) fun j want e _ _ y hy => hr.tmps e y hy)]
    refine wp_of_run hrun (hK _ _ ((h A0.isNone hb).go C _ _ ⟨m, g, ?_⟩))
    rw [hd]
    exact hr.put hr.env (fun x v h => h) (Nat.lt_of_succ_le (Nat.le_of_ble_eq_true hN)) (TR.v _)
theorem swp_ret_weak {st st' : St} (hw : Weak N st st') (h : Q .ret st') : SWp P N .ret Q st := .mk fun C a w hr => wp_ret ⟨st', hw.go C a w hr, h⟩
/-- a literal of none: a row of the call's own, under a number -/
theorem sops_build0i (i : Nat) {t e sz by_ d : Nat} (hg : GuardIs ops tm o true) (ho : o.op = .buildSlice t 0 #[]) (hd : o.dst = some d) (hN : Nat.blt d N = true) (hT : sliceE P t = some (e, sz, by_)) (hi : get ow i = none)
    (h : SOps P N ops Q rest ⟨(d, .own i 0) :: tm, bx, (i, ⟨e, sz, []⟩) :: ow⟩) (hp : Nat.ble 2000 i = false := by rfl) : SOps P N ops Q (o :: rest) ⟨tm, bx, ow⟩ := by
  refine sops_run hg (fun C a w m g hr => ?_) h
  have he := hr.env
  obtain ⟨i', zv, hu, hi', _⟩ := sliceE_spec hT
  have hlw : g.lw i = false := by rw [he.lw, hi]; rfl
  refine ⟨.slice (some ⟨w.heap.size, 0, none⟩) 0 0, w.alloc (.cells #[] e), ?_, ?_⟩
  · simp [execOp, ho, Instr.buildSlice, run_underlying hu, sizeOf, typeInfo, hi', Instr.fill, newRow]
    congr 2
    exact Array.eq_empty_of_size_eq_zero (by simp)
  · obtain ⟨h8, h9⟩ := he.setO (hp := hp) (w' := w.alloc (.cells #[] e)) (i := i) (v := .slice (some ⟨w.heap.size, 0, none⟩) 0 0) (e := e) (sz := sz) (rows := []) (vs := []) (.of (World.ownsRow_made w #[] 0 (Nat.zero_le _) (Nat.zero_le _) (by simp))) (fun r h => by cases h) ⟨rfl, fun j t v h => by simp at h⟩ (.inr hi) (.inr ⟨fun b hb => by injection hb with hb; subst hb; exact Nat.le_refl _, (Lo.refl w).alloc _⟩)
    rw [hd]
    exact ⟨_, _, hr.put h8 (fun x u h => h.setO h9 (.inl hlw)) (Nat.lt_of_succ_le (Nat.le_of_ble_eq_true hN)) ⟨by simp [Gh.setO], by simp [Gh.setO], ⟨_, _, rfl⟩, fun _ => by simp [Gh.setO]⟩⟩
end
end Go.Proofs.YtcpbdcamfhoiaaaDoor.Sim

/- A logic of states: a struct value's field. -/
namespace Go.Proofs.YtcpbdcamfhoiaaaDoor.Sim
set_option linter.unusedVariables false
set_option linter.unusedSimpArgs false
open Go.RowKit Mem
/-- a field of one cell: its place -/
def field1 (P : Program) (s : TypeId) (f : Nat) : Option Nat := match P.underlying s with
  | some (.struct fs) => match fs[f]? with
    | some fd => match tyI P fd.type with
      | some (false, _) => some fd.offset
      | _ => none
    | none => none
  | _ => none
theorem field1_spec {P : Program} {s f k : Nat} (h : field1 P s f = some k) : ∃ fs fd n, P.underlying s = some (.struct fs) ∧ fs[f]? = some fd ∧ tyI P fd.type = some (false, n) ∧ fd.offset = k := by
  unfold field1 at h
  split at h
  · rename_i fs hu
    split at h
    · rename_i fd hf
      split at h
      · rename_i n ht; injection h with h; exact ⟨fs, fd, n, hu, hf, ht, h⟩
      · cases h
    · cases h
  · cases h
section
variable {P : Program} {bx : List (Nat × List A)} {ow : List (Nat × Own)} {o : Oper} {ρ : Operand → Option A} {r : A}
theorem po_fieldv {s f k : Nat} {x : Operand} {cs : List T} {t : T} (ho : o.op = .field s x f) (hx : ρ x = some (.t (.agg cs))) (hk : field1 P s f = some k) (ht : cs[k]? = some t) : PureOp P bx ow o ρ (.t t) := pure_run fun C m g w a he h => by
  have h1 : TR m (.agg cs) (a.eval x) := h x (by simp [ho, Op.operands]) _ hx
  obtain ⟨fs, fd, n, hu, hf, hT, hoff⟩ := field1_spec hk
  obtain ⟨d, i, hu', hi, hd, hs⟩ := tyI_spec hT
  generalize hv : a.eval x = v at h1
  cases h1 with
  | agg _ vs hl h2 h3 =>
    have hlt : k < vs.size := by rw [hl]; exact (List.getElem?_eq_some_iff.1 ht).1
    have hagg : (isAgg fd.type).run P w = .ok false w := by
      unfold isAgg
      rw [Sem.run_bind, run_underlying hu' w]
      cases d <;> simp_all
    refine ⟨vs[k], ?_, h3 k t _ ht (by simp [hlt])⟩
    simp [execOp, ho, hv, Instr.field, run_underlying hu, hf, asAgg, part, hagg, hoff, hlt]
end
end Go.Proofs.YtcpbdcamfhoiaaaDoor.Sim

/- A logic of states: a region that draws its order, with operations that make and write boxes and rows among its operations. -/
namespace Go.Proofs.YtcpbdcamfhoiaaaDoor.Sim
set_option linter.unusedVariables false
set_option linter.unusedSimpArgs false
open Go.RowKit Mem

/-- what must have gone before each operation -/
def ancL (ops : Array Oper) : Nat → List (List Nat)
  | 0 => []
  | n + 1 => ancL ops n ++ [(deps ops n).foldl (fun acc j => bif acc.contains j then acc else j :: ((ancL ops n).getD j [] ++ acc)) []]
theorem ancL_len (ops : Array Oper) : ∀ n, (ancL ops n).length = n
  | 0 => rfl
  | n + 1 => by simp [ancL, ancL_len ops n]
theorem anc_fold {l : List (List Nat)} : ∀ (ds acc : List Nat) (x : Nat), x ∈ ds.foldl (fun acc j => bif acc.contains j then acc else j :: (l.getD j [] ++ acc)) acc → x ∈ acc ∨ ∃ j ∈ ds, x = j ∨ x ∈ l.getD j []
  | [], acc, x, h => .inl h
  | d :: ds, acc, x, h => by
    rw [List.foldl_cons] at h
    rcases anc_fold ds _ x h with h1 | ⟨j, h2, h3⟩
    · cases hc : acc.contains d with
      | true => rw [hc] at h1; exact .inl h1
      | false =>
        rw [hc] at h1
        simp only [cond_false, List.mem_cons, List.mem_append] at h1
        rcases h1 with h1 | h1 | h1
        · exact .inr ⟨d, by simp, .inl h1⟩
        · exact .inr ⟨d, by simp, .inr h1⟩
        · exact .inl h1
    · exact .inr ⟨j, by simp [h2], h3⟩
theorem ancL_get (ops : Array Oper) : ∀ (n k : Nat), k < n → (ancL ops n).getD k [] = (deps ops k).foldl (fun acc j => bif acc.contains j then acc else j :: ((ancL ops k).getD j [] ++ acc)) []
  | 0, k, h => by omega
  | n + 1, k, h => by
    rw [ancL]
    by_cases hk : k < n
    · rw [List.getD_eq_getElem?_getD, List.getElem?_append_left (by rw [ancL_len]; exact hk), ← List.getD_eq_getElem?_getD]
      exact ancL_get ops n k hk
    · obtain rfl : k = n := by omega
      rw [List.getD_eq_getElem?_getD, List.getElem?_append_right (by rw [ancL_len]; omega), ancL_len, Nat.sub_self]
      rfl
theorem anc_on {ops : Array Oper} {listed : Array Bool} (hcl : Closed ops listed) (hd : ∀ i, i < ops.size → ∀ j ∈ deps ops i, j < i) : ∀ (k : Nat), k < ops.size → (∀ j ∈ deps ops k, isOn listed j = true) → ∀ n, k < n → ∀ x, x ∈ (ancL ops n).getD k [] → isOn listed x = true ∧ x < k := by
  intro k
  induction k using Nat.strongRecOn with
  | ind k ih =>
    intro hk hon n hn x hx
    rw [ancL_get ops n k hn] at hx
    rcases anc_fold _ _ _ hx with h | ⟨j, h1, h2⟩
    · cases h
    · have hjk := hd k hk j h1
      rcases h2 with rfl | h2
      · exact ⟨hon _ h1, hjk⟩
      · have := ih j hjk (by omega) (fun y hy => hcl j y (hon j h1) hy) k hjk x h2
        exact ⟨this.1, by omega⟩
theorem anc_lt {ops : Array Oper} (hd : ∀ i, i < ops.size → ∀ j ∈ deps ops i, j < i) : ∀ (k : Nat), k < ops.size → ∀ n, k < n → ∀ x, x ∈ (ancL ops n).getD k [] → x < k := by
  intro k
  induction k using Nat.strongRecOn with
  | ind k ih =>
    intro hk n hn x hx
    rw [ancL_get ops n k hn] at hx
    rcases anc_fold _ _ _ hx with h | ⟨j, h1, h2⟩
    · cases h
    · have hjk := hd k hk j h1
      rcases h2 with rfl | h2
      · exact hjk
      · have := ih j hjk (by omega) k hjk x h2; omega
def ordB (A : List (List Nat)) (j k : Nat) : Bool := (A.getD k []).contains j || (A.getD j []).contains k
/-- the checks: of numbers written (W), and not looked at (X) -/
def anyB (ops : Array Oper) (M : Nat) (W X : List (List Nat)) : Bool :=
  ((List.range ops.size).all fun i => ((deps ops i).all fun j => decide (j < i)) && (match dstOf ops i with | some d => decide (writer ops d = some i) && decide (d < M) | none => true)) &&
  ((List.range ops.size).all fun i => match ops[i]? with
    | none => false
    | some o => ((slotsOf o).all fun s => match writer ops s with | none => true | some j => decide (j < i) && (deps ops i).contains j) && (match o.guard with | none => true | some (j, _) => decide (j < i) && (deps ops i).contains j)) &&
  ((List.range ops.size).all fun k => ((W.getD k []).all fun i => !((X.getD k []).contains i)) && (List.range ops.size).all fun j => Nat.beq j k || ordB (ancL ops ops.size) j k || ((W.getD j []).all fun i => (X.getD k []).contains i && !((W.getD k []).contains i)))
def rst {β : Type} (X : List Nat) (l : List (Nat × β)) : List (Nat × β) := l.filter fun p => !(X.contains p.1)
theorem get_rst {β : Type} (X : List Nat) (l : List (Nat × β)) (i : Nat) : get (rst X l) i = if X.contains i then none else get l i := by
  refine (get_filter (fun k => !(X.contains k)) l i).trans ?_
  cases X.contains i <;> rfl
def tput (d : Option Nat) (x : A) (tm : List (Nat × A)) : List (Nat × A) := match d with
  | some d => (d, x) :: tm
  | none => tm
/-- the operation hands back r; it leaves other boxes and rows -/
structure EStep (P : Program) (bx : List (Nat × List A)) (ow : List (Nat × Own)) (o : Oper) (ρ : Operand → Option A) (r : A) (bx' : List (Nat × List A)) (ow' : List (Nat × Own)) : Prop where
  go : ∀ (C : Ctx) (m : Mm) (g : Gh) (w : World) (a : Act) (Q : Exit → Act → World → Prop), EnvG C bx ow w m g → (∀ x ∈ o.op.operands.toList, ∀ y, ρ x = some y → AR m g y (a.eval x)) →
    o.wp P a w (fun a' w' => ∃ v m' g', a' = a.put o.dst v ∧ EnvG C bx' ow' w' m' g' ∧ AR m' g' r v ∧ ∀ x u, AR m g x u → AR m' g' x u) Q
inductive ERun (P : Program) (ops : Array Oper) (W X : List (List Nat)) : Nat → List Oper → List (Nat × A) → List (Nat × List A) → List (Nat × Own) → List (Nat × A) → List (Nat × List A) → List (Nat × Own) → Prop
  | nil (k : Nat) (tm : List (Nat × A)) (bx : List (Nat × List A)) (ow : List (Nat × Own)) : ERun P ops W X k [] tm bx ow tm bx ow
  | on {k : Nat} {o : Oper} {rest : List Oper} {tm tm' : List (Nat × A)} {bx bx' : List (Nat × List A)} {ow ow' : List (Nat × Own)} {r : A} (hg : GuardIs ops tm o true) (hW : W.getD k [] = []) (hp : ∀ bxr owr, PureOp P (rst (X.getD k []) bx ++ bxr) (rst (X.getD k []) ow ++ owr) o (evA tm) r) (h : ERun P ops W X (k + 1) rest (tput o.dst r tm) bx ow tm' bx' ow') : ERun P ops W X k (o :: rest) tm bx ow tm' bx' ow'
  | off {k : Nat} {o : Oper} {rest : List Oper} {tm tm' : List (Nat × A)} {bx bx' : List (Nat × List A)} {ow ow' : List (Nat × Own)} (hg : GuardIs ops tm o false) (hW : W.getD k [] = []) (h : ERun P ops W X (k + 1) rest (tput o.dst (.t (.v undef)) tm) bx ow tm' bx' ow') : ERun P ops W X k (o :: rest) tm bx ow tm' bx' ow'
  | eff {k : Nat} {o : Oper} {rest : List Oper} {tm tm' : List (Nat × A)} {bx bx' : List (Nat × List A)} {ow ow' : List (Nat × Own)} {r : A} (wb : List (Nat × List A)) (wo : List (Nat × Own)) (hg : GuardIs ops tm o true) (hW1 : (wb.all fun p => (W.getD k []).contains p.1) = true) (hW2 : (wo.all fun p => (W.getD k []).contains p.1) = true)
      (he : ∀ bxr owr, (∀ i, (X.getD k []).contains i = false → get bx i = none → get bxr i = none) → (∀ i, (X.getD k []).contains i = false → get ow i = none → get owr i = none) → EStep P (rst (X.getD k []) bx ++ bxr) (rst (X.getD k []) ow ++ owr) o (evA tm) r (wb ++ (rst (X.getD k []) bx ++ bxr)) (wo ++ (rst (X.getD k []) ow ++ owr)))
      (h : ERun P ops W X (k + 1) rest (tput o.dst r tm) (wb ++ bx) (wo ++ ow) tm' bx' ow') : ERun P ops W X k (o :: rest) tm bx ow tm' bx' ow'
/-- what one operation of such a run is -/
structure EAt (P : Program) (ops : Array Oper) (W X : List (List Nat)) (i : Nat) (o : Oper) (tm : List (Nat × A)) (bx bx' : List (Nat × List A)) (ow ow' : List (Nat × Own)) (x : A) : Prop where
  go : (GuardIs ops tm o true ∧ W.getD i [] = [] ∧ bx' = bx ∧ ow' = ow ∧ ∀ bxr owr, PureOp P (rst (X.getD i []) bx ++ bxr) (rst (X.getD i []) ow ++ owr) o (evA tm) x) ∨
    (GuardIs ops tm o false ∧ W.getD i [] = [] ∧ bx' = bx ∧ ow' = ow ∧ x = .t (.v undef)) ∨
    (GuardIs ops tm o true ∧ ∃ wb wo, (wb.all fun p => (W.getD i []).contains p.1) = true ∧ (wo.all fun p => (W.getD i []).contains p.1) = true ∧ bx' = wb ++ bx ∧ ow' = wo ++ ow ∧
      ∀ bxr owr, (∀ j, (X.getD i []).contains j = false → get bx j = none → get bxr j = none) → (∀ j, (X.getD i []).contains j = false → get ow j = none → get owr j = none) → EStep P (rst (X.getD i []) bx ++ bxr) (rst (X.getD i []) ow ++ owr) o (evA tm) x (wb ++ (rst (X.getD i []) bx ++ bxr)) (wo ++ (rst (X.getD i []) ow ++ owr)))
theorem erun_at {P : Program} {ops : Array Oper} {W X : List (List Nat)} {k : Nat} {l : List Oper} {tm tm' : List (Nat × A)} {bx bx' : List (Nat × List A)} {ow ow' : List (Nat × Own)} (h : ERun P ops W X k l tm bx ow tm' bx' ow') :
    ∃ (val : Nat → A) (tms : Nat → List (Nat × A)) (bxs : Nat → List (Nat × List A)) (ows : Nat → List (Nat × Own)), tms k = tm ∧ bxs k = bx ∧ ows k = ow ∧ tms (k + l.length) = tm' ∧ bxs (k + l.length) = bx' ∧ ows (k + l.length) = ow' ∧
      ∀ (i : Nat) o, l[i]? = some o → tms (k + i + 1) = tput o.dst (val (k + i)) (tms (k + i)) ∧ EAt P ops W X (k + i) o (tms (k + i)) (bxs (k + i)) (bxs (k + i + 1)) (ows (k + i)) (ows (k + i + 1)) (val (k + i)) := by
  have glue : ∀ {k : Nat} {o : Oper} {rest : List Oper} {tm tm' : List (Nat × A)} {bx bx1 bx' : List (Nat × List A)} {ow ow1 ow' : List (Nat × Own)} {r : A}, EAt P ops W X k o tm bx bx1 ow ow1 r →
      (∃ (val : Nat → A) (tms : Nat → List (Nat × A)) (bxs : Nat → List (Nat × List A)) (ows : Nat → List (Nat × Own)), tms (k + 1) = tput o.dst r tm ∧ bxs (k + 1) = bx1 ∧ ows (k + 1) = ow1 ∧ tms (k + 1 + rest.length) = tm' ∧ bxs (k + 1 + rest.length) = bx' ∧ ows (k + 1 + rest.length) = ow' ∧
        ∀ (i : Nat) o, rest[i]? = some o → tms (k + 1 + i + 1) = tput o.dst (val (k + 1 + i)) (tms (k + 1 + i)) ∧ EAt P ops W X (k + 1 + i) o (tms (k + 1 + i)) (bxs (k + 1 + i)) (bxs (k + 1 + i + 1)) (ows (k + 1 + i)) (ows (k + 1 + i + 1)) (val (k + 1 + i))) →
      ∃ (val : Nat → A) (tms : Nat → List (Nat × A)) (bxs : Nat → List (Nat × List A)) (ows : Nat → List (Nat × Own)), tms k = tm ∧ bxs k = bx ∧ ows k = ow ∧ tms (k + (o :: rest).length) = tm' ∧ bxs (k + (o :: rest).length) = bx' ∧ ows (k + (o :: rest).length) = ow' ∧
        ∀ (i : Nat) o', (o :: rest)[i]? = some o' → tms (k + i + 1) = tput o'.dst (val (k + i)) (tms (k + i)) ∧ EAt P ops W X (k + i) o' (tms (k + i)) (bxs (k + i)) (bxs (k + i + 1)) (ows (k + i)) (ows (k + i + 1)) (val (k + i)) := by
    rintro k o rest tm tm' bx bx1 bx' ow ow1 ow' r hat ⟨val, tms, bxs, ows, h1, h2, h3, h4, h5, h6, h7⟩
    have ne : ∀ q, k + 1 + q ≠ k := fun q => by omega
    refine ⟨fun j => if j = k then r else val j, fun j => if j = k then tm else tms j, fun j => if j = k then bx else bxs j, fun j => if j = k then ow else ows j, if_pos rfl, if_pos rfl, if_pos rfl, ?_, ?_, ?_, ?_⟩
    · show (if k + (o :: rest).length = k then tm else tms (k + (o :: rest).length)) = _
      rw [if_neg (by rw [List.length_cons]; omega), List.length_cons, show k + (rest.length + 1) = k + 1 + rest.length by omega]; exact h4
    · show (if k + (o :: rest).length = k then bx else bxs (k + (o :: rest).length)) = _
      rw [if_neg (by rw [List.length_cons]; omega), List.length_cons, show k + (rest.length + 1) = k + 1 + rest.length by omega]; exact h5
    · show (if k + (o :: rest).length = k then ow else ows (k + (o :: rest).length)) = _
      rw [if_neg (by rw [List.length_cons]; omega), List.length_cons, show k + (rest.length + 1) = k + 1 + rest.length by omega]; exact h6
    · intro i o' ho
      cases i with
      | zero =>
        simp at ho; subst ho
        simp only [Nat.add_zero, if_pos, if_neg (show ¬ (k + 1 = k) by omega)]
        rw [h1, h2, h3]
        exact ⟨rfl, hat⟩
      | succ i =>
        simp at ho
        have := h7 i o' ho
        rw [show k + (i + 1) = k + 1 + i by omega]
        simp only [if_neg (ne i), if_neg (show ¬ (k + 1 + i + 1 = k) by omega)]
        exact this
  induction h with
  | nil k tm bx ow => exact ⟨fun _ => default, fun _ => tm, fun _ => bx, fun _ => ow, rfl, rfl, rfl, rfl, rfl, rfl, fun i o h => by simp at h⟩
  | on hg hW hp _ ih => exact glue ⟨.inl ⟨hg, hW, rfl, rfl, hp⟩⟩ ih
  | off hg hW _ ih => exact glue ⟨.inr (.inl ⟨hg, hW, rfl, rfl, rfl⟩)⟩ ih
  | eff wb wo hg hW1 hW2 he _ ih => exact glue ⟨.inr (.inr ⟨hg, wb, wo, hW1, hW2, rfl, rfl, he⟩)⟩ ih
theorem tms_getE {ops : Array Oper} {val : Nat → A} {tms : Nat → List (Nat × A)} {n : Nat} (h : ∀ i, i < n → tms (i + 1) = tput (dstOf ops i) (val i) (tms i)) : ∀ i, i ≤ n → ∀ s x, get (tms i) s = some x → (∃ j, j < i ∧ dstOf ops j = some s ∧ x = val j) ∨ (get (tms 0) s = some x ∧ ∀ j, j < i → dstOf ops j ≠ some s)
  | 0, _, s, x, hx => .inr ⟨hx, fun j hj => by omega⟩
  | i + 1, hi, s, x, hx => by
    have ht := h i (by omega)
    have step : ∀ {y}, get (tms i) s = some y → dstOf ops i ≠ some s → (∃ j, j < i + 1 ∧ dstOf ops j = some s ∧ y = val j) ∨ (get (tms 0) s = some y ∧ ∀ j, j < i + 1 → dstOf ops j ≠ some s) := fun hy hn => by
      rcases tms_getE h i (by omega) s _ hy with ⟨j, h1, h2, h3⟩ | ⟨h1, h2⟩
      · exact .inl ⟨j, by omega, h2, h3⟩
      · refine .inr ⟨h1, fun j hj => ?_⟩
        rcases Nat.lt_or_ge j i with h3 | h3
        · exact h2 j h3
        · obtain rfl : j = i := by omega
          exact hn
    cases hd : dstOf ops i with
    | none => rw [ht, hd] at hx; exact step hx (by rw [hd]; simp)
    | some d =>
      rw [ht, hd] at hx
      change get ((d, val i) :: tms i) s = some x at hx
      rw [get_cons] at hx
      by_cases hds : d = s
      · rw [if_pos hds] at hx; injection hx with hx; subst hds
        exact .inl ⟨i, by omega, hd, hx.symm⟩
      · rw [if_neg hds] at hx
        exact step hx (by rw [hd]; simp [hds])
structure SAny (P : Program) (N : Nat) (ops : Array Oper) (W X : List (List Nat)) (Q : Exit → St → Prop) (k : Nat) (l : List Oper) (st : St) : Prop where
  go : ∃ tm' bx' ow', ERun P ops W X k l st.tm st.bx st.ow tm' bx' ow' ∧ Q .normal ⟨tm', bx', ow'⟩
section
variable {P : Program} {N : Nat} {Q : Exit → St → Prop} {ops : Array Oper} {W X : List (List Nat)} {k : Nat} {rest : List Oper} {o : Oper} {tm : List (Nat × A)} {bx : List (Nat × List A)} {ow : List (Nat × Own)}
theorem sany_nil {st : St} (h : Q .normal st) : SAny P N ops W X Q k [] st := ⟨⟨_, _, _, .nil k _ _ _, h⟩⟩
theorem sany_pure {d : Nat} {r : A} (hg : GuardIs ops tm o true) (hd : o.dst = some d) (hW : W.getD k [] = []) (hp : ∀ bxr owr, PureOp P (rst (X.getD k []) bx ++ bxr) (rst (X.getD k []) ow ++ owr) o (evA tm) r) (h : SAny P N ops W X Q (k + 1) rest ⟨(d, r) :: tm, bx, ow⟩) : SAny P N ops W X Q k (o :: rest) ⟨tm, bx, ow⟩ := by
  obtain ⟨tm', bx', ow', h1, h2⟩ := h
  exact ⟨⟨tm', bx', ow', .on hg hW hp (by rw [hd]; exact h1), h2⟩⟩
theorem sany_skip {d : Nat} (hg : GuardIs ops tm o false) (hd : o.dst = some d) (hW : W.getD k [] = []) (h : SAny P N ops W X Q (k + 1) rest ⟨(d, .t (.v undef)) :: tm, bx, ow⟩) : SAny P N ops W X Q k (o :: rest) ⟨tm, bx, ow⟩ := by
  obtain ⟨tm', bx', ow', h1, h2⟩ := h
  exact ⟨⟨tm', bx', ow', .off hg hW (by rw [hd]; exact h1), h2⟩⟩
theorem sany_split {j e : Nat} {want b : Bool} (hg : o.guard = some (j, want)) (hj : dstOf ops j = some e) (hs : get tm e = some (.t (.v (.bool b)))) (h1 : b = true → SAny P N ops W X Q k (o :: rest) ⟨tm, bx, ow⟩) (h0 : b = false → SAny P N ops W X Q k (o :: rest) ⟨tm, bx, ow⟩) : SAny P N ops W X Q k (o :: rest) ⟨tm, bx, ow⟩ := by
  cases b
  · exact h0 rfl
  · exact h1 rfl
theorem sany_eff {r : A} (wb : List (Nat × List A)) (wo : List (Nat × Own)) (hg : GuardIs ops tm o true) (hW1 : (wb.all fun p => (W.getD k []).contains p.1) = true) (hW2 : (wo.all fun p => (W.getD k []).contains p.1) = true)
    (he : ∀ bxr owr, (∀ i, (X.getD k []).contains i = false → get bx i = none → get bxr i = none) → (∀ i, (X.getD k []).contains i = false → get ow i = none → get owr i = none) → EStep P (rst (X.getD k []) bx ++ bxr) (rst (X.getD k []) ow ++ owr) o (evA tm) r (wb ++ (rst (X.getD k []) bx ++ bxr)) (wo ++ (rst (X.getD k []) ow ++ owr)))
    (h : SAny P N ops W X Q (k + 1) rest ⟨tput o.dst r tm, wb ++ bx, wo ++ ow⟩) : SAny P N ops W X Q k (o :: rest) ⟨tm, bx, ow⟩ := by
  obtain ⟨tm', bx', ow', h1, h2⟩ := h
  exact ⟨⟨tm', bx', ow', .eff wb wo hg hW1 hW2 he h1, h2⟩⟩
end
/-- what holds while such a region runs -/
structure AnyI (C : Ctx) (n : Nat) (W : List (List Nat)) (val : Nat → A) (bxs : Nat → List (Nat × List A)) (ows : Nat → List (Nat × Own)) (tm : List (Nat × A)) (a : Act) (vals : Nat → Option Value) (w' : World) (m' : Mm) (g' : Gh) (bxc : List (Nat × List A)) (owc : List (Nat × Own)) : Prop where
  env : EnvG C bxc owc w' m' g'
  vs : ∀ i v, vals i = some v → i < n → AR m' g' (val i) v
  old : ∀ s x, get tm s = some x → AR m' g' x (a.eval (.tmp s))
  pb : ∀ x, ∃ p, p ≤ n ∧ (∀ j, j < n → x ∈ W.getD j [] → ((vals j).isSome = true ↔ j < p)) ∧ get bxc x = get (bxs p) x
  po : ∀ x, ∃ p, p ≤ n ∧ (∀ j, j < n → x ∈ W.getD j [] → ((vals j).isSome = true ↔ j < p)) ∧ get owc x = get (ows p) x
theorem no_write {β : Type} {W : List (List Nat)} {f : Nat → List (Nat × β)} {n : Nat} (h : ∀ i, i < n → ∀ x, x ∉ W.getD i [] → get (f (i + 1)) x = get (f i) x) {x : Nat} : ∀ (d p : Nat), p + d ≤ n → (∀ j, p ≤ j → j < p + d → x ∉ W.getD j []) → get (f (p + d)) x = get (f p) x
  | 0, p, _, _ => rfl
  | d + 1, p, hn, hw => by
    rw [show p + (d + 1) = (p + d) + 1 by omega, h (p + d) (by omega) x (hw _ (by omega) (by omega))]
    exact no_write h d p (by omega) fun j h1 h2 => hw j h1 (by omega)
set_option maxHeartbeats 2000000 in
/-- a region that draws its order: whatever the order, what its operations leave in the text's order -/
theorem swp_any {P : Program} {N : Nat} {Q : Exit → St → Prop} {id : Nat} {l : List Oper} {tm : List (Nat × A)} {bx : List (Nat × List A)} {ow : List (Nat × Own)} (W X : List (List Nat)) (hm : P.follows .mixedOrders = true) (hB : anyB l.toArray N W X = true)
    (h : SAny P N l.toArray W X Q 0 l ⟨tm, bx, ow⟩) : SWp P N (.region id l.toArray true) Q ⟨tm, bx, ow⟩ := by
  obtain ⟨tm', bx', ow', hrun, hQ⟩ := h
  obtain ⟨val, tms, bxs, ows, ht0, hb0, ho0, htn, hbn, hon_, hstep⟩ := erun_at hrun
  rw [Nat.zero_add] at htn hbn hon_
  generalize hops' : l.toArray = ops at *
  have hlsz : l.length = ops.size := by rw [← hops']; simp
  rw [hlsz] at htn hbn hon_
  unfold anyB at hB
  simp only [Bool.and_eq_true] at hB
  obtain ⟨⟨hB1, hB2⟩, hB3⟩ := hB
  rw [List.all_eq_true] at hB1 hB2 hB3
  have hdl : ∀ i, i < ops.size → ∀ j ∈ deps ops i, j < i := fun i hi j hj => by
    have := hB1 i (by simpa using hi)
    simp only [Bool.and_eq_true] at this
    simpa using (List.all_eq_true.1 this.1) j hj
  have hwr : ∀ i d, i < ops.size → dstOf ops i = some d → writer ops d = some i ∧ d < N := fun i d hi hd => by
    have := hB1 i (by simpa using hi)
    simp only [Bool.and_eq_true] at this
    have h2 := this.2
    rw [hd] at h2
    simpa only [Bool.and_eq_true, decide_eq_true_eq] using h2
  have hops : ∀ i, i < ops.size → ∃ o, ops[i]? = some o ∧ l[i]? = some o := by
    intro i hi
    have hil : i < l.length := by omega
    refine ⟨l[i], ?_, List.getElem?_eq_getElem hil⟩
    have h0 : l.toArray[i]? = some l[i] := by simp [List.getElem?_eq_getElem hil]
    rwa [hops'] at h0
  have hat : ∀ i o, ops[i]? = some o → tms (i + 1) = tput o.dst (val i) (tms i) ∧ EAt P ops W X i o (tms i) (bxs i) (bxs (i + 1)) (ows i) (ows (i + 1)) (val i) := fun i o ho => by
    have hi : i < ops.size := by
      rcases Nat.lt_or_ge i ops.size with h | h
      · exact h
      · rw [Array.getElem?_eq_none h] at ho; cases ho
    obtain ⟨o', h1, h2⟩ := hops i hi
    rw [ho] at h1; injection h1 with h1; subst h1
    have := hstep i o h2
    rwa [Nat.zero_add] at this
  have htput : ∀ i, i < ops.size → tms (i + 1) = tput (dstOf ops i) (val i) (tms i) := fun i hi => by
    obtain ⟨o, h1, _⟩ := hops i hi
    have := (hat i o h1).1
    unfold dstOf; rw [h1]; exact this
  have hnwb : ∀ i, i < ops.size → ∀ x, x ∉ W.getD i [] → get (bxs (i + 1)) x = get (bxs i) x := fun i hi x hx => by
    obtain ⟨o, h1, _⟩ := hops i hi
    rcases (hat i o h1).2.go with ⟨_, _, h2, _⟩ | ⟨_, _, h2, _⟩ | ⟨_, wb, wo, h2, _, h3, _⟩
    · rw [h2]
    · rw [h2]
    · rw [h3, get_append]
      cases hg : get wb x with
      | none => rfl
      | some y => exact absurd (by simpa using (List.all_eq_true.1 h2) _ (get_mem hg)) hx
  have hnwo : ∀ i, i < ops.size → ∀ x, x ∉ W.getD i [] → get (ows (i + 1)) x = get (ows i) x := fun i hi x hx => by
    obtain ⟨o, h1, _⟩ := hops i hi
    rcases (hat i o h1).2.go with ⟨_, _, _, h2, _⟩ | ⟨_, _, _, h2, _⟩ | ⟨_, wb, wo, _, h2, _, h3, _⟩
    · rw [h2]
    · rw [h2]
    · rw [h3, get_append]
      cases hg : get wo x with
      | none => rfl
      | some y => exact absurd (by simpa using (List.all_eq_true.1 h2) _ (get_mem hg)) hx
  -- an operation's numbers, and the others'
  have hord : ∀ k j x, k < ops.size → j < ops.size → j ≠ k → x ∈ W.getD j [] → ((X.getD k []).contains x = false ∨ x ∈ W.getD k []) → ordB (ancL ops ops.size) j k = true := by
    intro k j x hk hj hjk hx hor
    have h1 := hB3 k (by simpa using hk)
    simp only [Bool.and_eq_true] at h1
    have h2 := (List.all_eq_true.1 h1.2) j (by simpa using hj)
    simp only [Bool.or_eq_true] at h2
    rcases h2 with (h2 | h2) | h2
    · exact absurd (Nat.eq_of_beq_eq_true h2) hjk
    · exact h2
    · have h3 := (List.all_eq_true.1 h2) x hx
      simp only [Bool.and_eq_true, Bool.not_eq_true'] at h3
      rcases hor with h4 | h4
      · rw [h4] at h3; exact absurd h3.1 (by simp)
      · have h5 : (W.getD k []).contains x = true := by simpa using h4
        rw [h5] at h3; exact absurd h3.2 (by simp)
  have hWX : ∀ k x, k < ops.size → x ∈ W.getD k [] → (X.getD k []).contains x = false := fun k x hk hx => by
    have h1 := hB3 k (by simpa using hk)
    simp only [Bool.and_eq_true] at h1
    simpa using (List.all_eq_true.1 h1.1) x hx
  refine .mk fun C a w ⟨m, g, hr⟩ => ?_
  have hfn := frame_none ops a
  have hev : ∀ {vals : Nat → Option Value} {i d v}, i < ops.size → dstOf ops i = some d → vals i = some v → (frame ops a vals).eval (.tmp d) = v := fun {vals i d v} hi hd hv => by
    obtain ⟨h1, h2⟩ := hwr i d hi hd
    exact frame_eval h1 hv (by rw [hr.size]; exact h2)
  have hslot : ∀ (vals : Nat → Option Value) (w' : World) (m' : Mm) (g' : Gh) (bxc : List (Nat × List A)) (owc : List (Nat × Own)), AnyI C ops.size W val bxs ows tm a vals w' m' g' bxc owc → ∀ i, i ≤ ops.size → ∀ s, (match writer ops s with | none => true | some j => (decide (j < i) && (vals j).isSome)) = true → ∀ y, get (tms i) s = some y → AR m' g' y ((frame ops a vals).eval (.tmp s)) := by
    intro vals w' m' g' bxc owc hI i hi s hs y hy
    rcases tms_getE htput i hi s y hy with ⟨j, hj1, hj2, rfl⟩ | ⟨hg0, hnone⟩
    · have hw := (hwr j s (by omega) hj2).1
      rw [hw] at hs
      simp only [Bool.and_eq_true, decide_eq_true_eq] at hs
      obtain ⟨v, hv⟩ := Option.isSome_iff_exists.1 hs.2
      rw [hev (by omega) hj2 hv]
      exact hI.vs j v hv (by omega)
    · rw [ht0] at hg0
      cases hw : writer ops s with
      | none => rw [frame_old hw]; exact hI.old s y hg0
      | some j =>
        rw [hw] at hs
        simp only [Bool.and_eq_true, decide_eq_true_eq] at hs
        exact absurd (writer_spec hw) (hnone j hs.1)
  have hput : ∀ (vals : Nat → Option Value) (i : Nat) (o : Oper) (v : Value), ops[i]? = some o → (frame ops a vals).put o.dst v = frame ops a (setV vals i v) := by
    intro vals i o v ho
    have hi : i < ops.size := by
      rcases Nat.lt_or_ge i ops.size with h | h
      · exact h
      · rw [Array.getElem?_eq_none h] at ho; cases ho
    cases hd : o.dst with
    | some d => exact frame_put (hwr i d hi (by unfold dstOf; rw [ho]; exact hd)).1 v
    | none =>
      refine frame_put_none (fun s hs => ?_) v v
      have := writer_spec hs
      rw [ho] at this
      simp only [Option.bind_some, hd] at this
      cases this
  have hd0 : Lo w w.drew := (Lo.refl w).drew
  refine wp_region_any hm (wpAny_inv (fun listed a' w' => listed.size = ops.size ∧ Closed ops listed ∧ ∃ vals m' g' bxc owc, a' = frame ops a vals ∧ (∀ i, isOn listed i = (vals i).isSome) ∧ AnyI C ops.size W val bxs ows tm a vals w' m' g' bxc owc) ?_ ?_ _ _ _ _ ⟨by simp, ?_, fun _ => none, m, g, bx, ow, hfn.symm, ?_, ⟨hr.env.step hd0 (Ext.refl _ _) (hr.env.sub.lo hd0), fun i v h => (by cases h), hr.tmps, fun x => ⟨0, Nat.zero_le _, fun j _ _ => by simp, by rw [hb0]⟩, fun x => ⟨0, Nat.zero_le _, fun j _ _ => by simp, by rw [ho0]⟩⟩⟩ (by simp) (by simp [List.countP_replicate]))
  · rintro listed a' w' i ⟨hsz, hcl, vals, m', g', bxc, owc, rfl, hon, hI⟩ _ hrd
    obtain ⟨hlt, hoff, hdeps⟩ := ready_spec hrd
    have hcl' : Closed ops (listed.setIfInBounds i true) := by
      intro x y hx hy
      rw [isOn_set (by omega)] at hx ⊢
      by_cases hxi : x = i
      · subst hxi; rw [hdeps y hy]; simp
      · simp [hxi] at hx
        rw [hcl x y hx hy]; simp
    have hon' : ∀ v x, isOn (listed.setIfInBounds i true) x = (setV vals i v x).isSome := by
      intro v x
      rw [isOn_set (by omega)]
      by_cases hx : x = i
      · subst hx; simp [setV]
      · simp [setV, hx, hon x]
    have hvi : vals i = none := by rw [hon i] at hoff; simpa using hoff
    have hfin : ∀ v w'' m'' g'' bx2 ow2, AnyI C ops.size W val bxs ows tm a (setV vals i v) w'' m'' g'' bx2 ow2 → (listed.setIfInBounds i true).size = ops.size ∧ Closed ops (listed.setIfInBounds i true) ∧ ∃ vals' m' g' bxc owc, frame ops a (setV vals i v) = frame ops a vals' ∧ (∀ x, isOn (listed.setIfInBounds i true) x = (vals' x).isSome) ∧ AnyI C ops.size W val bxs ows tm a vals' w'' m' g' bxc owc :=
      fun v w'' m'' g'' bx2 ow2 h => ⟨by simpa using hsz, hcl', _, m'', g'', bx2, ow2, rfl, hon' v, h⟩
    obtain ⟨o, ho⟩ : ∃ o, ops[i]? = some o := ⟨_, Array.getElem?_eq_getElem hlt⟩
    unfold wpOp
    rw [ho]
    simp only
    -- who writes what this one looks at has gone before, or comes behind
    have hpos : ∀ j x, j < ops.size → j ≠ i → x ∈ W.getD j [] → ((X.getD i []).contains x = false ∨ x ∈ W.getD i []) → ((vals j).isSome = true ↔ j < i) := by
      intro j x hj hji hx hor
      have h1 := hord i j x hlt hj hji hx hor
      unfold ordB at h1
      rw [Bool.or_eq_true] at h1
      rcases h1 with h1 | h1
      · have h2 := anc_on hcl hdl i hlt hdeps ops.size hlt j (by simpa using h1)
        exact ⟨fun _ => h2.2, fun _ => by rw [← hon j]; exact h2.1⟩
      · have h1' : i ∈ (ancL ops ops.size).getD j [] := by simpa using h1
        have h2 := anc_lt hdl j hj ops.size hj i h1'
        refine ⟨fun h3 => ?_, fun h3 => by omega⟩
        rw [← hon j] at h3
        have h4 := (anc_on hcl hdl j hj (fun y hy => hcl j y h3 hy) ops.size hj i h1').1
        rw [hoff] at h4; cases h4
    have hposB : ∀ x, (X.getD i []).contains x = false → get bxc x = get (bxs i) x := by
      intro x hx
      obtain ⟨p, hp, h1, h2⟩ := hI.pb x
      rw [h2]
      have hw : ∀ j, j < ops.size → x ∈ W.getD j [] → (j < p ↔ j < i) ∨ j = i := fun j hj hxj => by
        by_cases hji : j = i
        · exact .inr hji
        · exact .inl ((h1 j hj hxj).symm.trans (hpos j x hj hji hxj (.inl hx)))
      have hwi : x ∈ W.getD i [] → ¬ i < p := fun h3 h4 => by
        have := (h1 i hlt h3).2 h4
        rw [hvi] at this; cases this
      rcases Nat.le_total p i with hpi | hpi
      · obtain ⟨d, rfl⟩ : ∃ d, i = p + d := ⟨i - p, by omega⟩
        exact (no_write hnwb d p (by omega) fun j h3 h4 hxj => by
          rcases hw j (by omega) hxj with h5 | h5
          · have := h5.2 h4; omega
          · omega).symm
      · obtain ⟨d, rfl⟩ : ∃ d, p = i + d := ⟨p - i, by omega⟩
        exact no_write hnwb d i (by omega) fun j h3 h4 hxj => by
          rcases hw j (by omega) hxj with h5 | h5
          · have := h5.1 h4; omega
          · subst h5; exact hwi hxj h4
    have hposO : ∀ x, (X.getD i []).contains x = false → get owc x = get (ows i) x := by
      intro x hx
      obtain ⟨p, hp, h1, h2⟩ := hI.po x
      rw [h2]
      have hw : ∀ j, j < ops.size → x ∈ W.getD j [] → (j < p ↔ j < i) ∨ j = i := fun j hj hxj => by
        by_cases hji : j = i
        · exact .inr hji
        · exact .inl ((h1 j hj hxj).symm.trans (hpos j x hj hji hxj (.inl hx)))
      have hwi : x ∈ W.getD i [] → ¬ i < p := fun h3 h4 => by
        have := (h1 i hlt h3).2 h4
        rw [hvi] at this; cases this
      rcases Nat.le_total p i with hpi | hpi
      · obtain ⟨d, rfl⟩ : ∃ d, i = p + d := ⟨i - p, by omega⟩
        exact (no_write hnwo d p (by omega) fun j h3 h4 hxj => by
          rcases hw j (by omega) hxj with h5 | h5
          · have := h5.2 h4; omega
          · omega).symm
      · obtain ⟨d, rfl⟩ : ∃ d, p = i + d := ⟨p - i, by omega⟩
        exact no_write hnwo d i (by omega) fun j h3 h4 hxj => by
          rcases hw j (by omega) hxj with h5 | h5
          · have := h5.1 h4; omega
          · subst h5; exact hwi hxj h4
    have hgetB : ∀ x, get (rst (X.getD i []) (bxs i) ++ bxc) x = get bxc x := fun x => by
      rw [get_append, get_rst]
      cases hx : (X.getD i []).contains x with
      | true => rfl
      | false =>
        rw [hposB x hx]
        cases get (bxs i) x <;> rfl
    have hgetO : ∀ x, get (rst (X.getD i []) (ows i) ++ owc) x = get owc x := fun x => by
      rw [get_append, get_rst]
      cases hx : (X.getD i []).contains x with
      | true => rfl
      | false =>
        rw [hposO x hx]
        cases get (ows i) x <;> rfl
    have henv : EnvG C (rst (X.getD i []) (bxs i) ++ bxc) (rst (X.getD i []) (ows i) ++ owc) w' m' g' := hI.env.same hgetB hgetO
    have hB2' := hB2 i (by simpa using hlt)
    rw [ho] at hB2'
    simp only [Bool.and_eq_true] at hB2'
    have hdv : ∀ j, (deps ops i).contains j = true → (vals j).isSome = true := fun j hj => by rw [← hon j]; exact hdeps j (by simpa using hj)
    have hs1 : ∀ s, (match writer ops s with | none => true | some j => decide (j < i) && (deps ops i).contains j) = true → ∀ y, get (tms i) s = some y → AR m' g' y ((frame ops a vals).eval (.tmp s)) := by
      intro s hs y hy
      refine hslot vals w' m' g' bxc owc hI i (by omega) s ?_ y hy
      cases hw : writer ops s with
      | none => rfl
      | some j =>
        rw [hw] at hs
        simp only [Bool.and_eq_true] at hs ⊢
        exact ⟨hs.1, hdv j hs.2⟩
    have hgd : ∀ j want e, o.guard = some (j, want) → dstOf ops j = some e → ∀ y, get (tms i) e = some y → AR m' g' y ((frame ops a vals).eval (.tmp e)) := by
      intro j want e hg he y hy
      have h3 := hB2'.2
      rw [hg] at h3
      refine hs1 e ?_ y hy
      have hji : j < i := by simp only [Bool.and_eq_true, decide_eq_true_eq] at h3; exact h3.1
      rw [(hwr j e (by omega) he).1]
      exact h3
    have hops' : ∀ x ∈ o.op.operands.toList, ∀ y, evA (tms i) x = some y → AR m' g' y ((frame ops a vals).eval x) := by
      intro x hx y hy
      cases x with
      | tmp s => exact hs1 s ((List.all_eq_true.1 hB2'.1) s (mem_slots hx)) y hy
      | const v => injection hy with hy; subst hy; exact TR.v v
      | func f => injection hy with hy; subst hy; exact TR.v _
      | global i => cases hy
    have hset : ∀ v j, j ≠ i → setV vals i v j = vals j := fun v j hj => setV_other _ hj v
    -- what is added and turns nothing
    have hquiet : ∀ v w'' m'', W.getD i [] = [] → Lo w' w'' → Ext m' m'' w'.heap.size → Sub m'' w'' → AR m'' g' (val i) v → AnyI C ops.size W val bxs ows tm a (setV vals i v) w'' m'' g' bxc owc := by
      intro v w'' m'' hW hl he hs hv
      refine ⟨hI.env.step hl he hs, fun x u hu hx => ?_, fun s x hx => (hI.old s x hx).mono he.1, fun x => ?_, fun x => ?_⟩
      · by_cases hxi : x = i
        · subst hxi; rw [setV_same] at hu; injection hu with hu; subst hu; exact hv
        · rw [hset v x hxi] at hu; exact (hI.vs x u hu hx).mono he.1
      · obtain ⟨p, h1, h2, h3⟩ := hI.pb x
        refine ⟨p, h1, fun j hj hxj => ?_, h3⟩
        have hji : j ≠ i := fun e => by subst e; rw [hW] at hxj; cases hxj
        rw [hset v j hji]; exact h2 j hj hxj
      · obtain ⟨p, h1, h2, h3⟩ := hI.po x
        refine ⟨p, h1, fun j hj hxj => ?_, h3⟩
        have hji : j ≠ i := fun e => by subst e; rw [hW] at hxj; cases hxj
        rw [hset v j hji]; exact h2 j hj hxj
    rcases (hat i o ho).2.go with ⟨hg, hW, _, _, hp⟩ | ⟨hg, hW, _, _, hv⟩ | ⟨hg, wb, wo, hW1, hW2, hbe, hoe, he⟩
    · rw [if_pos (hg.wanted hgd)]
      refine .inl (Oper.wp_mono ?_ ((hp bxc owc).go C m' g' w' (frame ops a vals) _ henv hops'))
      rintro a2 w2 ⟨v, m2, rfl, hl2, he2, hs2, hv2⟩
      rw [hput vals i o v ho]
      exact hfin v w2 m2 g' bxc owc (hquiet v w2 m2 hW hl2 he2 hs2 hv2)
    · rw [if_neg (by rw [hg.wanted hgd]; simp)]
      rw [hput vals i o _ ho]
      exact hfin _ w' m' g' bxc owc (hquiet _ w' m' hW (Lo.refl _) (Ext.refl _ _) hI.env.sub (by rw [hv]; exact TR.v _))
    · rw [if_pos (hg.wanted hgd)]
      refine .inl (Oper.wp_mono ?_ ((he bxc owc (fun x hx hn => by rw [hposB x hx]; exact hn) (fun x hx hn => by rw [hposO x hx]; exact hn)).go C m' g' w' (frame ops a vals) _ henv hops'))
      rintro a2 w2 ⟨v, m2, g2, rfl, henv2, hv2, hk2⟩
      rw [hput vals i o v ho]
      refine hfin v w2 m2 g2 _ _ ⟨henv2, fun x u hu hx => ?_, fun s x hx => hk2 _ _ (hI.old s x hx), fun x => ?_, fun x => ?_⟩
      · by_cases hxi : x = i
        · subst hxi; rw [setV_same] at hu; injection hu with hu; subst hu; exact hv2
        · rw [hset v x hxi] at hu; exact hk2 _ _ (hI.vs x u hu hx)
      · by_cases hxW : x ∈ W.getD i []
        · refine ⟨i + 1, by omega, fun j hj hxj => ?_, ?_⟩
          · by_cases hji : j = i
            · subst hji; rw [setV_same]; simp
            · rw [hset v j hji, hpos j x hj hji hxj (.inr hxW)]; omega
          · rw [hbe, get_append wb (rst (X.getD i []) (bxs i) ++ bxc), hgetB, hposB x (hWX i x hlt hxW), get_append wb (bxs i)]
        · obtain ⟨p, h1, h2, h3⟩ := hI.pb x
          refine ⟨p, h1, fun j hj hxj => ?_, ?_⟩
          · have hji : j ≠ i := fun e => by subst e; exact hxW hxj
            rw [hset v j hji]; exact h2 j hj hxj
          · rw [get_append]
            cases hgw : get wb x with
            | none => simp only; rw [hgetB]; exact h3
            | some y => exact absurd (by simpa using (List.all_eq_true.1 hW1) _ (get_mem hgw)) hxW
      · by_cases hxW : x ∈ W.getD i []
        · refine ⟨i + 1, by omega, fun j hj hxj => ?_, ?_⟩
          · by_cases hji : j = i
            · subst hji; rw [setV_same]; simp
            · rw [hset v j hji, hpos j x hj hji hxj (.inr hxW)]; omega
          · rw [hoe, get_append wo (rst (X.getD i []) (ows i) ++ owc), hgetO, hposO x (hWX i x hlt hxW), get_append wo (ows i)]
        · obtain ⟨p, h1, h2, h3⟩ := hI.po x
          refine ⟨p, h1, fun j hj hxj => ?_, ?_⟩
          · have hji : j ≠ i := fun e => by subst e; exact hxW hxj
            rw [hset v j hji]; exact h2 j hj hxj
          · rw [get_append]
            cases hgw : get wo x with
            | none => simp only; rw [hgetO]; exact h3
            | some y => exact absurd (by simpa using (List.all_eq_true.1 hW2) _ (get_mem hgw)) hxW
  · rintro listed a' w' ⟨hsz, hcl, vals, m', g', bxc, owc, rfl, hon, hI⟩ hrd
    have hall : ∀ k, ∀ i, i < k → i < ops.size → isOn listed i = true := by
      intro k
      induction k with
      | zero => intro i hi; omega
      | succ k ih =>
        intro i hi hs
        rcases Nat.lt_or_ge i k with h | h
        · exact ih i h hs
        · have hik : i = k := by omega
          subst hik
          rcases Bool.eq_false_or_eq_true (isOn listed i) with h1 | h1
          · exact h1
          · exfalso
            have hmem : i ∈ Region.ready .any ops listed := by
              unfold Region.ready
              rw [List.mem_filter, List.mem_range]
              refine ⟨hs, ?_⟩
              simp only [Bool.and_eq_true, Bool.not_eq_true']
              constructor
              · unfold isOn at h1
                rw [Array.getD_eq_getD_getElem?, Array.getElem?_eq_getElem (by omega)] at h1 ⊢
                simpa using h1
              · rw [Array.getElem?_eq_getElem hs]
                simp only [Option.map_some, Option.getD_some]
                rw [Array.all_eq_true_iff_forall_mem]
                intro e he
                rcases Bool.eq_false_or_eq_true (Region.binds .any e) with hb | hb
                · have hj : e.on ∈ deps ops i := by
                    unfold deps
                    rw [Array.getElem?_eq_getElem hs]
                    simp only [Option.map_some, Option.getD_some, List.mem_map, List.mem_filter]
                    exact ⟨e, ⟨by simpa using he, hb⟩, rfl⟩
                  have := ih e.on (hdl i hs _ hj) (by have := hdl i hs _ hj; omega)
                  unfold isOn at this
                  simp [this]
                · simp [hb]
            rw [hrd] at hmem; cases hmem
    have hvs : ∀ i, i < ops.size → (vals i).isSome = true := fun i hi => by rw [← hon i]; exact hall (i + 1) i (by omega) hi
    have hendB : ∀ x, get bx' x = get bxc x := fun x => by
      obtain ⟨p, h1, h2, h3⟩ := hI.pb x
      rw [h3, ← hbn]
      obtain ⟨d, hd⟩ : ∃ d, ops.size = p + d := ⟨ops.size - p, by omega⟩
      rw [hd]
      exact no_write hnwb d p (by omega) fun j h4 h5 hxj => by
        have := (h2 j (by omega) hxj).1 (hvs j (by omega)); omega
    have hendO : ∀ x, get ow' x = get owc x := fun x => by
      obtain ⟨p, h1, h2, h3⟩ := hI.po x
      rw [h3, ← hon_]
      obtain ⟨d, hd⟩ : ∃ d, ops.size = p + d := ⟨ops.size - p, by omega⟩
      rw [hd]
      exact no_write hnwo d p (by omega) fun j h4 h5 hxj => by
        have := (h2 j (by omega) hxj).1 (hvs j (by omega)); omega
    refine ⟨_, ⟨m', g', hI.env.same hendB hendO, by simp [frame, hr.size], hr.defers, fun s x hx => ?_⟩, hQ⟩
    refine hslot vals w' m' g' bxc owc hI ops.size (Nat.le_refl _) s ?_ x (by rw [htn]; exact hx)
    cases hw : writer ops s with
    | none => rfl
    | some j =>
      have hjs := writer_spec hw
      have hjlt : j < ops.size := by
        rcases Nat.lt_or_ge j ops.size with h | h
        · exact h
        · rw [Array.getElem?_eq_none h] at hjs; cases hjs
      simp only [Bool.and_eq_true, decide_eq_true_eq]
      exact ⟨hjlt, hvs j hjlt⟩
  · intro i j h
    unfold isOn at h
    rw [Array.getD_eq_getD_getElem?] at h
    simp only [Array.getElem?_replicate] at h
    split at h <;> cases h
  · intro i
    unfold isOn
    rw [Array.getD_eq_getD_getElem?]
    simp only [Array.getElem?_replicate]
    split <;> rfl
end Go.Proofs.YtcpbdcamfhoiaaaDoor.Sim

/- A logic of states: operations that make and write boxes and rows, in a region that draws its order. -/
namespace Go.Proofs.YtcpbdcamfhoiaaaDoor.Sim
set_option linter.unusedVariables false
set_option linter.unusedSimpArgs false
open Go.RowKit Mem
section
variable {P : Program} {bx bx' : List (Nat × List A)} {ow ow' : List (Nat × Own)} {o : Oper} {ρ : Operand → Option A} {r : A}
theorem e_run (h : ∀ (C : Ctx) (m : Mm) (g : Gh) (w : World) (a : Act), EnvG C bx ow w m g → (∀ x ∈ o.op.operands.toList, ∀ y, ρ x = some y → AR m g y (a.eval x)) →
    ∃ v w' m' g', (execOp a.eval o).run P w = .ok (.value v) w' ∧ EnvG C bx' ow' w' m' g' ∧ AR m' g' r v ∧ ∀ x u, AR m g x u → AR m' g' x u) : EStep P bx ow o ρ r bx' ow' := .mk fun C m g w a Q he ho => by
  obtain ⟨v, w', m', g', h1, h2, h3, h4⟩ := h C m g w a he ho
  exact wp_of_run h1 ⟨v, m', g', rfl, h2, h3, h4⟩
/-- a literal of none: a row of the call's own -/
theorem e_build0 {t e sz by_ d : Nat} (ho : o.op = .buildSlice t 0 #[]) (hT : sliceE P t = some (e, sz, by_)) (hi : get ow d = none) (hp : Nat.ble 2000 d = false := by rfl) : EStep P bx ow o ρ (.own d 0) bx ((d, ⟨e, sz, []⟩) :: ow) := e_run fun C m g w a he _ => by
  obtain ⟨i', zv, hu, hi', _⟩ := sliceE_spec hT
  have hlw : g.lw d = false := by rw [he.lw, hi]; rfl
  obtain ⟨h8, h9⟩ := he.setO (hp := hp) (w' := w.alloc (.cells #[] e)) (i := d) (v := .slice (some ⟨w.heap.size, 0, none⟩) 0 0) (e := e) (sz := sz) (rows := []) (vs := []) (.of (World.ownsRow_made w #[] 0 (Nat.zero_le _) (Nat.zero_le _) (by simp))) (fun r h => by cases h) ⟨rfl, fun j t v h => by simp at h⟩ (.inr hi) (.inr ⟨fun b hb => by injection hb with hb; subst hb; exact Nat.le_refl _, (Lo.refl w).alloc _⟩)
  refine ⟨.slice (some ⟨w.heap.size, 0, none⟩) 0 0, w.alloc (.cells #[] e), _, _, ?_, h8, ⟨by simp [Gh.setO], by simp [Gh.setO], ⟨_, _, rfl⟩, fun _ => by simp [Gh.setO]⟩, fun x u h => h.setO h9 (.inl hlw)⟩
  simp [execOp, ho, Instr.buildSlice, run_underlying hu, sizeOf, typeInfo, hi', Instr.fill, newRow]
  congr 2
  exact Array.eq_empty_of_size_eq_zero (by simp)
/-- an append to a row of the call's own -/
theorem e_append {t e sz by_ : Nat} {x z : Operand} {i n : Nat} {y' : A} {rows rows2 : List (List T)} (ho : o.op = .call { callee := .builtin .append, args := #[x, z], argTypes := #[t, t] })
    (hx : ρ x = some (.own i n)) (hi : get ow i = some ⟨e, sz, rows⟩) (hn : n = rows.length) (hz : ρ z = some y') (hz' : Vw ow y' (.sl sz rows2)) (hT : sliceE P t = some (e, sz, by_))
    (hb : (rows.length + rows2.length) * by_ ≤ 140737488355328) (hm : rows.length + rows2.length ≤ maxLen) (hp : Nat.ble 2000 i = false := by rfl) : EStep P bx ow o ρ (.own i (rows ++ rows2).length) bx ((i, ⟨e, sz, rows ++ rows2⟩) :: ow) := e_run fun C m g w a he hop => by
  obtain ⟨i', zv, hu, hi', hzz, h4, h5, h6, h7⟩ := sliceE_spec hT
  have hop1 := hop x (by simp [ho, Op.operands, Call.operands]) _ hx
  obtain ⟨hlw, _, hAx, hgo⟩ := hop1
  have hln := he.ln i _ hi
  have hvx := hgo (by rw [hln]; exact hn)
  have hvz : TR m (.sl sz rows2) (a.eval z) := hz'.ok he (hop z (by simp [ho, Op.operands, Call.operands]) _ hz)
  obtain ⟨vs, ho1, hrl, hc, hbk⟩ := he.owns i _ hi
  dsimp only at ho1 hrl hc hbk
  have hrl2 : ∀ r ∈ rows2, r.length = sz := by generalize a.eval z = vz at hvz; cases hvz with | sl _ _ A b off cap u hc hm' hA hr hu' ht => exact hr
  have hform : ∃ A cap, a.eval z = .slice A rows2.length cap := by generalize a.eval z = vz at hvz; cases hvz with | sl _ _ A b off cap => exact ⟨A, cap, rfl⟩
  obtain ⟨Az, capz, hvv⟩ := hform
  have hexec : ∀ v' w', (Builtin.append_ #[t, t] o.type #[a.eval x, a.eval z]).run P w = .ok v' w' → (execOp a.eval o).run P w = .ok (.value v') w' := fun v' w' hh => by
    simp only [execOp, ho, resolve, invoke, builtin, Sem.run_bind, Sem.run_pure, Result.andThen_ok, List.map_toArray, List.map_cons, List.map_nil, hh]
  rcases Nat.eq_zero_or_pos rows2.length with h0 | h0
  · have hr0 : rows2 = [] := List.eq_nil_of_length_eq_zero h0
    subst hr0
    obtain ⟨A, c, hA⟩ := hAx
    have hnc : n ≤ c := by
      obtain ⟨_, hcase⟩ := ho1
      rcases hcase with ⟨e1, e2⟩ | ⟨q, cap, cur, e1, _, _, e2, _⟩
      · omega
      · rw [← hvx, hA] at e1; injection e1 with e3 e4 e5; omega
    refine ⟨a.eval x, w, m, g, hexec _ _ (by rw [hvv, hA]; exact run_append_nothing (P := P) (w := w) t o.type e i' hu hi' A Az n c capz hnc), ?_, ?_, fun x u h => h⟩
    · rw [List.append_nil]
      refine he.same (fun j => rfl) fun j => ?_
      rw [get_cons]
      split
      · rename_i e'; subst e'; exact hi.symm
      · rfl
    · rw [List.append_nil, ← hn]
      exact hop x (by simp [ho, Op.operands, Call.operands]) _ hx
  · obtain ⟨b, off, us, rfl, hcu, hlu, hcell⟩ := TR.flat (hvv ▸ hvz) h0 h7
    obtain ⟨v', w', hrun, hown, hcase⟩ := run_append_own3 (P := P) w 0 t o.type e i' zv sz by_ hu hi' hzz h4 h5 h6 h7 (g.go i) rows.length vs ho1 ⟨b, off, none⟩ rows2.length capz us hlu (fun j u hj => by rw [addr_add]; exact he.sub _ _ _ (hcell j u hj)) hcu.one hm hb (Nat.zero_le _)
    obtain ⟨h8, h9⟩ := he.setO (hp := hp) (i := i) (v := v') (e := e) (sz := sz) (rows := rows ++ rows2) (vs := vs ++ us) (by rw [List.length_append]; exact hown) (fun r hr' => by
        rcases List.mem_append.1 hr' with hr' | hr'
        · exact hrl r hr'
        · exact hrl2 r hr') (by rw [List.flatten_append]; exact hc.app hcu) (.inl ⟨_, hi, by simp; omega⟩) (by
        rcases hcase with ⟨e1, e2⟩ | hf
        · exact .inl ⟨_, vis i vs, hi, e1, e2, vis_pre fun k u hk => by rw [List.getElem?_append_left (List.getElem?_eq_some_iff.1 hk).1]; exact hk, fun b hb k => (hbk b hb).1 k⟩
        · exact .inr hf)
    refine ⟨v', w', _, _, hexec _ _ (by rw [hvv, hvx]; exact hrun), h8, ?_, fun x u h => h.setO h9 (.inr (by rw [hln]; simp; omega))⟩
    refine ⟨by simp [Gh.setO], by simp [Gh.setO], ?_, fun _ => by simp [Gh.setO]⟩
    obtain ⟨_, hq⟩ := hown
    rcases hq with ⟨rfl, e2⟩ | ⟨q, cap, cur, rfl, _⟩
    · omega
    · exact ⟨some ⟨q, 0, none⟩, cap, by rw [List.length_append]⟩
/-- a struct's variable, its zero in it -/
theorem e_allocS {ty : TypeId} {d : Nat} {pl : List (Nat × Nat)} {zs : List Value} (hS : strI P ty = some (pl, zs)) (ho : o.op = .alloc ty) (hi : get bx d = none) (hp : Nat.ble 2000 d = false := by rfl) (hq : cellB d = true := by rfl) : EStep P bx ow o ρ (.bp d 0) ((d, zs.map fun v => A.t (T.v v)) :: bx) ow := e_run fun C m g w a he _ => by
  obtain ⟨it, z, h1, h2, h3, h4⟩ := strI_zero hS
  have hlb : g.lb d = false := by rw [he.lb, hi]; rfl
  refine ⟨.pointer (some ⟨w.heap.size, 0, none⟩), w.alloc (.cells z.cells ty), m, g.addB d w.heap.size, ?_, he.box hp hq hi (vs := z.cells) (ty := ty) ⟨by rw [h3]; simp, fun j x v hx hv => ?_⟩, ⟨by simp [Gh.addB], by simp [Gh.addB]⟩, fun x v h => h.addB hlb⟩
  · simp [execOp, ho, Instr.alloc, zeroValue, typeInfo, h1, h2, newVar, newRow]
  · rw [h3] at hv
    rw [List.getElem?_map, hv] at hx
    simp at hx; subst hx
    exact ⟨TR.v _, h4 v (List.mem_of_getElem? hv)⟩
/-- cells of a box written -/
theorem e_store {ty : TypeId} {x z : Operand} {y : A} {i off n : Nat} {ag : Bool} {cs : List A} (ho : o.op = .store ty x z) (hd : o.dst = none) (hx : ρ x = some (.bp i off)) (hz : ρ z = some y) (hk : y.okB = true)
    (hb : get bx i = some cs) (hT : tyI P ty = some (ag, n)) (hn : y.cells.length = n) (hf : Nat.ble (off + n) cs.length = true) (hq : cellB i = true := by rfl) : EStep P bx ow o ρ .any ((i, spl cs off y.cells) :: bx) ow := .mk fun C m g w a Q he hop => by
  obtain ⟨_, h1⟩ := hop x (by simp [ho, Op.operands]) _ hx
  have hv := acells_ok (hop z (by simp [ho, Op.operands]) _ hz) hk
  obtain ⟨vs, ty', hh, hs, hc, hw0, hm⟩ := he.boxes i cs hb
  rw [ob_cells hq] at hh
  obtain ⟨d', i', hu, hi', _, hsz⟩ := tyI_spec hT
  have hlen : (a.eval z).cells.toList.length = n := by rw [hv.1, hn]
  have hfit := Nat.le_of_ble_eq_true hf
  have hst := run_storeCells_at P (g.gb i) off ty'.ty (a.eval z).cells.toList 0 vs w hh (by rw [hlen, Nat.add_zero, hs]; exact hfit) hv.one
  rw [Nat.add_zero] at hst
  have hca : ACells m g (spl cs off y.cells) (vs.toList.take off ++ (a.eval z).cells.toList ++ vs.toList.drop (off + (a.eval z).cells.toList.length)) := by
    have hc' : ACells m g cs vs.toList := ⟨by simpa using hs, fun j t v h2 h3 => hc j t v h2 (by simpa using h3)⟩
    rw [List.append_assoc]
    unfold spl
    rw [hv.1]
    exact (hc'.take off).app (hv.app (hc'.drop _))
  have hrun : (execOp a.eval o).run P w = .ok .skip (w.setRow (g.gb i) (vs.toList.take off ++ (a.eval z).cells.toList ++ vs.toList.drop (off + (a.eval z).cells.toList.length)).toArray) := by
    have hsz' : (a.eval z).cells.size = i'.size := by rw [hsz]; simpa using hlen
    have hsv : (storeVar ty ⟨g.gb i, off, none⟩ (a.eval z)).run P w = .ok () (w.setRow (g.gb i) (vs.toList.take off ++ (a.eval z).cells.toList ++ vs.toList.drop (off + (a.eval z).cells.toList.length)).toArray) := by
      generalize a.eval z = u at *
      simp [storeVar, sizeOf, typeInfo, hi', hsz']
      simpa [hsz'] using hst
    simp only [execOp, ho, h1, Instr.storeAt, Instr.sureAddr, Sem.run_bind, Sem.run_pure, Result.andThen_ok, hsv]
  unfold Oper.wp
  rw [hrun, Oper.upon_skip]
  refine ⟨undef, m, g, (by rw [hd]; try rfl), he.setB hb hh (by simpa using hca) hq, trivial, fun x u h => h⟩
/-- an element's cells of a row that is the call's alone written -/
theorem e_store_own {ty e : TypeId} {x z : Operand} {y : A} {i nn sz k off n : Nat} {ag : Bool} {rows : List (List T)} {row ts : List T} {t : T} (hh : hid i = true) (ho : o.op = .store ty x z) (hd : o.dst = none) (hx : ρ x = some (.oe i nn sz k off)) (hi : get ow i = some ⟨e, sz, rows⟩) (hnn : nn = rows.length)
    (hz : ρ z = some y) (hv : Vw ow y t) (hk : t.okB = true) (hts : t.cells = ts) (hT : tyI P ty = some (ag, n)) (hn : ts.length = n) (hrow : rows[k]? = some row) (hf : Nat.ble (off + n) row.length = true) : EStep P bx ow o ρ .any bx ((i, ⟨e, sz, rows.set k (row.take off ++ (ts ++ row.drop (off + n)))⟩) :: ow) := .mk fun C m g w a Q he hop => by
  obtain ⟨h1, h2, _, h4⟩ := hop x (by simp [ho, Op.operands]) _ hx
  obtain ⟨b, h5, h6⟩ := h4 (by rw [he.ln i _ hi]; exact hnn)
  have hvt : TR m t (a.eval z) := hv.ok he (hop z (by simp [ho, Op.operands]) _ hz)
  have hca : ACells m g (ts.map A.t) (a.eval z).cells.toList := by
    have := acells_ok (m := m) (g := g) (y := .t t) hvt hk
    rw [← hts]; exact this
  obtain ⟨vs, hown, hrr, hc, _⟩ := he.owns i _ hi
  dsimp only at hown hrr hc
  have hfit := Nat.le_of_ble_eq_true hf
  have hkl : k < rows.length := (List.getElem?_eq_some_iff.1 hrow).1
  have hrl : row.length = sz := hrr row (List.mem_of_getElem? hrow)
  obtain ⟨b', cap, cur, e1, e2, ⟨fz, e3, e3f⟩, e4, e5, e6, e7⟩ := own_form hown (by omega)
  rw [e1] at h5; injection h5 with h5; subst h5
  have hus : (a.eval z).cells.toList.length = n := by rw [hca.1]; simp [hn]
  have hoff : k * sz + off + n ≤ cur.size := by
    have hks : k * sz + sz ≤ rows.length * sz := by rw [← Nat.succ_mul]; exact Nat.mul_le_mul_right _ hkl
    have : rows.length * sz ≤ cap * sz := Nat.mul_le_mul_right _ e4
    omega
  have hst := run_storeCells_atM P b' (k * sz + off) e fz (a.eval z).cells.toList 0 cur w e3 e3f (by rw [hus, Nat.add_zero]; exact hoff) hca.one
  rw [Nat.add_zero] at hst
  obtain ⟨d', i', hu, hi', _, hsz⟩ := tyI_spec hT
  have hrun : (execOp a.eval o).run P w = .ok .skip (w.setRow b' (cur.toList.take (k * sz + off) ++ (a.eval z).cells.toList ++ cur.toList.drop (k * sz + off + (a.eval z).cells.toList.length)).toArray) := by
    have hsz' : (a.eval z).cells.size = i'.size := by rw [hsz]; simpa using hus
    have hsv : (storeVar ty ⟨b', k * sz + off, none⟩ (a.eval z)).run P w = .ok () (w.setRow b' (cur.toList.take (k * sz + off) ++ (a.eval z).cells.toList ++ cur.toList.drop (k * sz + off + (a.eval z).cells.toList.length)).toArray) := by
      generalize a.eval z = u at *
      simp [storeVar, sizeOf, typeInfo, hi', hsz']
      simpa [hsz'] using hst
    simp only [execOp, ho, h6, Instr.storeAt, Instr.sureAddr, Sem.run_bind, Sem.run_pure, Result.andThen_ok, hsv]
  unfold Oper.wp
  rw [hrun, Oper.upon_skip]
  refine ⟨undef, m, g, (by rw [hd]; try rfl), he.setE (rows := rows) (rows' := rows.set k (row.take off ++ (ts ++ row.drop (off + n)))) (vs' := vs.take (k * sz + off) ++ ((a.eval z).cells.toList ++ vs.drop (k * sz + off + n))) hh hi (by simp) e1 e3 e3f ?_ ?_ ?_ ?_, trivial, fun x u h => h⟩
  · intro r0 hr0
    rcases List.mem_or_eq_of_mem_set hr0 with h7 | h7
    · exact hrr r0 h7
    · subst h7; simp; omega
  · have hks : (k + 1) * sz ≤ rows.length * sz := Nat.mul_le_mul_right _ hkl
    rw [Nat.succ_mul] at hks
    have hfl := flat_len hrr
    have hF : rows.flatten = rows.flatten.take (k * sz) ++ (row ++ rows.flatten.drop (k * sz + sz)) := by
      conv => lhs; rw [← set_self hrow]
      exact flat_set hrr hrow hrl
    have hta : (rows.flatten.take (k * sz)).length = k * sz := by rw [List.length_take]; omega
    have h8 := take_mid (rows.flatten.take (k * sz)) row (rows.flatten.drop (k * sz + sz)) off (by omega)
    have h9 := drop_mid (rows.flatten.take (k * sz)) row (rows.flatten.drop (k * sz + sz)) (off + n) hfit
    rw [← hF, hta] at h8 h9
    rw [flat_set hrr hrow (by simp; omega)]
    rw [List.append_assoc, List.append_assoc, ← h9, ← List.append_assoc, ← h8]
    have hts2 : CellsAre m ts (a.eval z).cells.toList := ⟨by rw [hus, hn], fun j t v h10 h11 => hca.2 j (.t t) v (by rw [List.getElem?_map, h10]; rfl) h11⟩
    exact (hc.take _).app (hts2.app (by rw [show k * sz + off + n = k * sz + (off + n) by omega]; exact hc.drop _))
  · have hus' : (a.eval z).cells.size = n := by simpa using hus
    simp; omega
  · have hks : (k + 1) * sz ≤ rows.length * sz := Nat.mul_le_mul_right _ hkl
    rw [Nat.succ_mul] at hks
    have hL : rows.length * sz ≤ cur.size := by rw [e6]; exact Nat.mul_le_mul_right _ e4
    have hl1 : (cur.toList.take (k * sz + off)).length = k * sz + off := by simp; omega
    rw [← e7]
    simp only [List.append_assoc]
    rw [List.take_append, hl1, List.take_of_length_le (show (cur.toList.take (k * sz + off)).length ≤ rows.length * sz by omega), List.take_append, List.take_of_length_le (show (a.eval z).cells.toList.length ≤ rows.length * sz - (k * sz + off) by omega), hus, Nat.sub_sub]
    rw [List.take_take, Nat.min_eq_left (by omega), List.drop_take]
end
end Go.Proofs.YtcpbdcamfhoiaaaDoor.Sim

/- A logic of states: the greater, the smaller one of two numbers. -/
namespace Go.Proofs.YtcpbdcamfhoiaaaDoor.Sim
set_option linter.unusedVariables false
set_option linter.unusedSimpArgs false
open Go.RowKit Mem
section
variable {P : Program} {bx : List (Nat × List A)} {ow : List (Nat × Own)} {o : Oper} {ρ : Operand → Option A} {r : A}
theorem po_max {x y : Operand} {ts : Array TypeId} {k : IntKind} {i j : Int} (ho : o.op = .call { callee := .builtin .max, args := #[x, y], argTypes := ts }) (hx : ρ x = some (.t (.v (.int k i)))) (hy : ρ y = some (.t (.v (.int k j)))) : PureOp P bx ow o ρ (.t (.v (.int k (max i j)))) := pure_run fun C m g w a he h => by
  have h1 := tr_v (h x (by simp [ho, Op.operands, Call.operands]) _ hx)
  have h2 := tr_v (h y (by simp [ho, Op.operands, Call.operands]) _ hy)
  have e : (if j > i then j else i) = max i j := by
    rw [Int.max_def]
    split <;> split <;> omega
  refine ⟨_, ?_, .v _⟩
  simp [execOp, ho, resolve, invoke, builtin, h1, h2, Builtin.max_, Builtin.max2, e]
theorem po_min {x y : Operand} {ts : Array TypeId} {k : IntKind} {i j : Int} (ho : o.op = .call { callee := .builtin .min, args := #[x, y], argTypes := ts }) (hx : ρ x = some (.t (.v (.int k i)))) (hy : ρ y = some (.t (.v (.int k j)))) : PureOp P bx ow o ρ (.t (.v (.int k (min i j)))) := pure_run fun C m g w a he h => by
  have h1 := tr_v (h x (by simp [ho, Op.operands, Call.operands]) _ hx)
  have h2 := tr_v (h y (by simp [ho, Op.operands, Call.operands]) _ hy)
  have e : (if j < i then j else i) = min i j := by
    rw [Int.min_def]
    split <;> split <;> omega
  refine ⟨_, ?_, .v _⟩
  simp [execOp, ho, resolve, invoke, builtin, h1, h2, Builtin.min_, Builtin.min2, e]
end
end Go.Proofs.YtcpbdcamfhoiaaaDoor.Sim

/- A logic of states: calls that are lent rows, or hand back rows of the caller's own, in a region that draws its order. -/
namespace Go.Proofs.YtcpbdcamfhoiaaaDoor.Sim
set_option linter.unusedVariables false
set_option linter.unusedSimpArgs false
open Go.RowKit Mem
theorem clr_no {q : Nat → Bool} (h : ∀ i, q i = false) (x : A) : x.clr q = x := by
  have h0 : clr0 q = fun y => y := by
    funext y
    cases y <;> simp [clr0, h]
  unfold A.clr
  rw [h0]
  exact mapA_id x
inductive FreshB (fb : Nat → Nat) (bx bx0 : List (Nat × List A)) : List (Nat × List A) → Prop
  | nil : FreshB fb bx bx0 []
  | old {p : Nat × List A} {l : List (Nat × List A)} (h : (get bx0 p.1).isSome = true) (hl : FreshB fb bx bx0 l) : FreshB fb bx bx0 (p :: l)
  | new {p : Nat × List A} {l : List (Nat × List A)} (h : get bx (fb p.1) = none) (hl : FreshB fb bx bx0 l) : FreshB fb bx bx0 (p :: l)
inductive FreshW (fw : Nat → Nat) (ow ow0 : List (Nat × Own)) : List (Nat × Own) → Prop
  | nil : FreshW fw ow ow0 []
  | old {p : Nat × Own} {l : List (Nat × Own)} (h : (get ow0 p.1).isSome = true) (hl : FreshW fw ow ow0 l) : FreshW fw ow ow0 (p :: l)
  | new {p : Nat × Own} {l : List (Nat × Own)} (h : get ow (fw p.1) = none) (hl : FreshW fw ow ow0 l) : FreshW fw ow ow0 (p :: l)
inductive SameLen (ow1 : List (Nat × Own)) : List (Nat × Own) → Prop
  | nil : SameLen ow1 []
  | cons {i : Nat} {o o1 : Own} {l : List (Nat × Own)} (h : get ow1 i = some o1) (he : o1.rows.length = o.rows.length) (hl : SameLen ow1 l) : SameLen ow1 ((i, o) :: l)
theorem FreshB.all {fb : Nat → Nat} {bx bx0 l : List (Nat × List A)} (h : FreshB fb bx bx0 l) : ∀ p ∈ l, (get bx0 p.1).isSome = true ∨ get bx (fb p.1) = none := by
  induction h with
  | nil => intro p hp; cases hp
  | old h _ ih => intro p hp; rcases List.mem_cons.1 hp with rfl | hp; exact .inl h; exact ih p hp
  | new h _ ih => intro p hp; rcases List.mem_cons.1 hp with rfl | hp; exact .inr h; exact ih p hp
theorem FreshW.all {fw : Nat → Nat} {ow ow0 l : List (Nat × Own)} (h : FreshW fw ow ow0 l) : ∀ p ∈ l, (get ow0 p.1).isSome = true ∨ get ow (fw p.1) = none := by
  induction h with
  | nil => intro p hp; cases hp
  | old h _ ih => intro p hp; rcases List.mem_cons.1 hp with rfl | hp; exact .inl h; exact ih p hp
  | new h _ ih => intro p hp; rcases List.mem_cons.1 hp with rfl | hp; exact .inr h; exact ih p hp
theorem SameLen.at {ow1 l : List (Nat × Own)} (h : SameLen ow1 l) {i : Nat} {o : Own} (hi : get l i = some o) : ∃ o1, get ow1 i = some o1 ∧ o1.rows.length = o.rows.length := by
  induction h with
  | nil => cases hi
  | cons h he _ ih =>
    rw [get_cons] at hi
    split at hi
    · rename_i e; subst e; injection hi with hi; subst hi; exact ⟨_, h, he⟩
    · exact ih hi
/-- the checks without who is new -/
def lendC (fb fw : Nat → Nat) (bx0 bx1 : List (Nat × List A)) (ow0 ow1 : List (Nat × Own)) : Bool :=
  (bx0.all fun p => Nat.ble 2000 p.1 && (get bx1 p.1).isSome) && (bx1.all fun p => (get bx0 p.1).isSome || !(Nat.ble 2000 (fb p.1))) &&
  (ow1.all fun p => (get ow0 p.1).isSome || !(Nat.ble 2000 (fw p.1))) && (ow1.all fun p => (hid (fw p.1) == hid p.1) && (!(Nat.ble 2000 (fw p.1)) || Nat.ble 2000 p.1)) &&
  (ow0.all fun p => Nat.ble 2000 p.1 && (hid p.1 && hid (fw p.1))) && (injB fb (bx1.map (·.1)) && kdB fb (bx0.map (·.1) ++ bx1.map (·.1))) && injB fw (ow0.map (·.1) ++ ow1.map (·.1))
theorem lendB_of {fb fw : Nat → Nat} {bx bx0 bx1 : List (Nat × List A)} {ow ow0 ow1 : List (Nat × Own)} (h : lendC fb fw bx0 bx1 ow0 ow1 = true) (hb : FreshB fb bx bx0 bx1) (ho : FreshW fw ow ow0 ow1) : lendB fb fw bx bx0 bx1 ow ow0 ow1 = true ∧ ∀ i o, get ow0 i = some o → Nat.ble 2000 i = true := by
  unfold lendC at h
  unfold lendB
  simp only [Bool.and_eq_true] at h ⊢
  obtain ⟨⟨⟨⟨⟨⟨h1, h2⟩, h3⟩, h4⟩, h5⟩, h6⟩, h7⟩ := h
  refine ⟨⟨⟨⟨⟨⟨⟨h1, ?_⟩, ?_⟩, h4⟩, ?_⟩, h6⟩, h7⟩, fun i o hi => ?_⟩
  · rw [List.all_eq_true]
    intro p hp
    rcases hb.all p hp with h | h
    · rw [h]; rfl
    · have := (List.all_eq_true.1 h2) p hp
      rw [Bool.or_eq_true] at this ⊢
      exact this.imp id fun h9 => by rw [h, h9]; rfl
  · rw [List.all_eq_true]
    intro p hp
    rcases ho.all p hp with h | h
    · rw [h]; rfl
    · have := (List.all_eq_true.1 h3) p hp
      rw [Bool.or_eq_true] at this ⊢
      exact this.imp id fun h9 => by rw [h, h9]; rfl
  · rw [List.all_eq_true]
    intro p hp
    have := (List.all_eq_true.1 h5) p hp
    rw [Bool.and_eq_true] at this
    exact this.2
  · have := (List.all_eq_true.1 h5) _ (get_mem hi)
    rw [Bool.and_eq_true] at this
    exact this.1
section
variable {P : Program} {bx bx0 bx1 : List (Nat × List A)} {ow ow0 ow1 : List (Nat × Own)} {o : Oper} {ρ : Operand → Option A} {r : A}
theorem e_lcall {f : FuncId} {xs : List Operand} {at_ : Array TypeId} {args : List A} (hc : LCalls P f args bx0 ow0 r bx1 ow1) (fb fw : Nat → Nat) (ho : o.op = .call { callee := .value (.func f), args := xs.toArray, argTypes := at_ })
    (ha : ArgsL fb fw ow bx0 ow0 ρ xs args) (hx : LentX fb fw bx bx0) (hw : LentW fw ow ow0) (hl : (bx0.all fun p => p.2.all fun x => x.live bx0 ow0) = true) (hB : lendC fb fw bx0 bx1 ow0 ow1 = true)
    (hfb : FreshB fb bx bx0 bx1) (hfw : FreshW fw ow ow0 ow1) (hln : SameLen ow1 ow0) :
    EStep P bx ow o ρ (r.ren fb fw) (bx1.map (fun p => (fb p.1, p.2.map (A.ren fb fw))) ++ bx) (ow1.map (fun p => (fw p.1, p.2)) ++ ow) := by
  obtain ⟨hB', hpin⟩ := lendB_of hB hfb hfw
  let kp : Nat → Bool := fun i => (get ow0 i).isSome
  have hL := lend_of (kp := kp) hx hw hl hB' fun i hi => by
    obtain ⟨o0, h0⟩ := Option.isSome_iff_exists.1 hi
    obtain ⟨o1, h1, h2⟩ := hln.at h0
    exact ⟨hpin i o0 h0, o0, o1, h0, h1, h2⟩
  have hq : ∀ j, chgOf fw kp ow0 j = false := fun j => by
    unfold chgOf
    rw [List.any_eq_false]
    intro p hp
    obtain ⟨x, hx⟩ := mem_get hp
    simp [kp, hx]
  refine .mk fun C m g w a Q he hop => ?_
  obtain ⟨h1, h2⟩ := ha.ok hL he (a := a) (fun x hx y hy => hop x (by simp [ho, Op.operands, Call.operands, hx]) y hy)
  have hrun : (execOp a.eval o).run P w = .ok (.enter f (xs.map a.eval).toArray) w := by
    have := hc.ent (xs.map a.eval).toArray w
    simp only [execOp, ho, resolve, Deferred.ofValue, Act.eval, invoke, Sem.run_bind, Sem.run_pure, Result.andThen_ok, List.map_toArray, Array.append_empty, Array.empty_append, Array.append_eq_append, List.append_nil, List.nil_append] at this ⊢
    simpa using this
  refine wp_call_of hrun (hc.run m w _ _ (hL.env_in he) (by simp [h1]) (fun i x v h3 h4 => h2 i x v h3 (by simpa using h4))) ?_
  rintro e w' ⟨v, m', g', rfl, henv, hv⟩
  obtain ⟨g'', e1, e2, e3⟩ := hL.env_out he henv
  refine ⟨v, rfl, v, m', g'', rfl, e1.same (fun j => ?_) (fun j => ?_), e3 r v hv, fun x u hxu => ?_⟩
  · unfold bxAft
    rw [get_append, get_append]
    cases get (bx1.map fun p => (fb p.1, p.2.map (A.ren fb fw))) j with
    | some x => rfl
    | none =>
      have h3 := get_mapv (fun cs : List A => cs.map (A.clr (chgOf fw kp ow0))) bx j
      have h4 : (fun cs : List A => cs.map (A.clr (chgOf fw kp ow0))) = fun cs => cs := by
        funext cs
        exact (List.map_congr_left fun x _ => clr_no hq x).trans (List.map_id' cs)
      refine Eq.trans ?_ h3.symm
      rw [h4]
      cases get bx j <;> rfl
  · have h3 : get (owAft fw ow0 ow1 ow) j = match get (ow1.map fun p => (fw p.1, p.2)) j with | some x => some x | none => get (ow.filter fun p => !(ow0.any fun r => Nat.beq (fw r.1) p.1)) j := by unfold owAft; exact (get_append _ _ _).trans (by cases get (ow1.map fun p => (fw p.1, p.2)) j <;> rfl)
    rw [get_append]
    cases hg : get (ow1.map fun p => (fw p.1, p.2)) j with
    | some x => rw [h3, hg]
    | none =>
      rw [hg] at h3
      dsimp only at h3 ⊢
      have h4 : get (ow.filter fun p => !(ow0.any fun r => Nat.beq (fw r.1) p.1)) j = _ := get_filter (fun k => !(ow0.any fun r => Nat.beq (fw r.1) k)) ow j
      cases ha' : ow0.any fun r => Nat.beq (fw r.1) j with
      | false => rw [h3, h4, ha']; rfl
      | true =>
        obtain ⟨p, hp, h8⟩ := List.any_eq_true.1 ha'
        obtain ⟨x, hx'⟩ := mem_get hp
        obtain ⟨o1, h9, _⟩ := hln.at hx'
        have h10 := hL.o1 p.1 o1 h9
        rw [Nat.eq_of_beq_eq_true h8, h3, h4, ha'] at h10
        cases h10
  · have := e2 x u hxu
    rwa [clr_no hq] at this
end
end Go.Proofs.YtcpbdcamfhoiaaaDoor.Sim

/- A logic of states: a range over a text. -/
namespace Go.Proofs.YtcpbdcamfhoiaaaDoor.Sim
set_option linter.unusedVariables false
set_option linter.unusedSimpArgs false
open Go.RowKit Mem

section
variable {P : Program} {N : Nat} {Q : Exit → St → Prop} {ops : Array Oper} {rest : List Oper} {o : Oper} {tm : List (Nat × A)} {bx : List (Nat × List A)} {ow : List (Nat × Own)}
abbrev itC (s : ByteArray) (p : Nat) : List A := [.t (.v (.string s)), .t (.v (.int .i64 (p : Int)))]
/-- an iterator is made -/
theorem sops_range {t d : Nat} {x : Operand} {s : ByteArray} (i : Nat) (hg : GuardIs ops tm o true) (ho : o.op = .range t x) (hd : o.dst = some d) (hN : Nat.blt d N = true) (hx : evA tm x = some (.t (.v (.string s)))) (hu : isStr P t = true) (hi : get bx i = none)
    (h : SOps P N ops Q rest ⟨(d, .bp i 0) :: tm, (i, itC s 0) :: bx, ow⟩) (hp : Nat.ble 2000 i = false := by rfl) (hq : itB i = true := by rfl) : SOps P N ops Q (o :: rest) ⟨tm, bx, ow⟩ := by
  refine sops_run hg (fun C a w m g hr => ?_) h
  have hv := tr_v (hr.ev hx)
  have hlb : g.lb i = false := by rw [hr.env.lb, hi]; rfl
  have hb := hr.env.boxT (cs := itC s 0) (vs := #[.string s, .int .i64 (0 : Nat)]) (ty := ⟨0, 0, 0, 0⟩) hp hi ⟨rfl, fun j y u h1 h2 => by
    match j, h1, h2 with
    | 0, h1, h2 => simp at h1 h2; subst h1 h2; exact ⟨TR.v _, rfl⟩
    | 1, h1, h2 => simp at h1 h2; subst h1 h2; exact ⟨TR.v _, rfl⟩⟩
  rw [ob_iter hq] at hb
  refine ⟨.pointer (some ⟨w.heap.size, 0, none⟩), w.alloc (.stringIter s 0), ?_, m, g.addB i w.heap.size, ?_⟩
  · simp [execOp, ho, hv, Instr.range, run_underlying (isStr_spec hu)]
  · rw [hd]
    exact hr.put hb (fun x v h => h.addB hlb) (Nat.lt_of_succ_le (Nat.le_of_ble_eq_true hN)) ⟨by simp [Gh.addB], by simp [Gh.addB]⟩
theorem it_at {C : Ctx} {w : World} {m : Mm} {g : Gh} (he : EnvG C bx ow w m g) {i : Nat} {s : ByteArray} {p : Nat} (hb : get bx i = some (itC s p)) (hq : itB i = true) : w.heap[g.gb i]? = some (.stringIter s p) := by
  obtain ⟨⟨vs⟩, ty, h1, h2, h3, _, _⟩ := he.boxes i _ hb
  match vs, h2 with
  | [u, v], _ =>
    have e0 := tr_v (h3 0 _ u rfl rfl).1
    have e1 := tr_v (h3 1 _ v rfl rfl).1
    subst e0 e1
    rw [h1, ob_iter hq]
/-- the next letter -/
theorem sops_next {d p c k : Nat} {x : Operand} {s : ByteArray} (i : Nat) (hg : GuardIs ops tm o true) (ho : o.op = .next x true) (hd : o.dst = some d) (hN : Nat.blt d N = true) (hx : evA tm x = some (.bp i 0)) (hb : get bx i = some (itC s p)) (hlt : p < s.size) (hc : Utf8.decode s p = (c, k))
    (h : SOps P N ops Q rest ⟨(d, .t (.tup [.v (.bool true), .v (.int .i64 (p : Int)), .v (.int .i32 (c : Int))])) :: tm, (i, itC s (p + k)) :: bx, ow⟩) (hq : itB i = true := by rfl) : SOps P N ops Q (o :: rest) ⟨tm, bx, ow⟩ := by
  refine sops_run hg (fun C a w m g hr => ?_) h
  obtain ⟨_, hv⟩ := hr.ev hx
  have hh := it_at hr.env hb hq
  have hlt' := block_lt hh
  let w' : World := { w with heap := w.heap.setIfInBounds (g.gb i) (.stringIter s (p + k)) }
  have hgw : w.grownBy w' (some (g.gb i)) := ⟨rfl, rfl, rfl, by simp [w'], fun j hj hne => by
    show (w.heap.setIfInBounds (g.gb i) (.stringIter s (p + k)))[j]? = _
    rw [Array.getElem?_setIfInBounds, if_neg (fun e => hne (by rw [e]))]⟩
  have hsame : w'.heap[g.gb i]? = some (obOf i #[.string s, .int .i64 ((p + k : Nat) : Int)] ⟨0, 0, 0, 0⟩) := by
    rw [ob_iter hq]
    show (w.heap.setIfInBounds (g.gb i) (.stringIter s (p + k)))[g.gb i]? = _
    rw [Array.getElem?_setIfInBounds, if_pos rfl, if_pos hlt']
  refine ⟨.tuple #[.bool true, .int .i64 (p : Int), .int .i32 (c : Int)], w', ?_, m, g, ?_⟩
  · simp only [execOp, ho, hv, Instr.next, getObj, setObj, Sem.run_bind, Sem.run, hh, Result.andThen, hlt, if_true, hc]
    simp [goInt, Sem.run, w']
  · rw [hd]
    refine hr.put (hr.env.setAt hb hgw hsame ⟨rfl, fun j y u h1 h2 => ?_⟩) (fun x v h => h) (Nat.lt_of_succ_le (Nat.le_of_ble_eq_true hN)) ?_
    · match j, h1, h2 with
      | 0, h1, h2 => simp at h1 h2; subst h1 h2; exact ⟨TR.v _, rfl⟩
      | 1, h1, h2 => simp at h1 h2; subst h1 h2; exact ⟨TR.v _, rfl⟩
    · refine TR.tup _ _ rfl fun j t v h1 h2 => ?_
      match j, h1, h2 with
      | 0, h1, h2 => simp at h1 h2; subst h1 h2; exact .v _
      | 1, h1, h2 => simp at h1 h2; subst h1 h2; exact .v _
      | 2, h1, h2 => simp at h1 h2; subst h1 h2; exact .v _
/-- there is no letter more -/
theorem sops_next_end {d p : Nat} {x : Operand} {s : ByteArray} (i : Nat) (hg : GuardIs ops tm o true) (ho : o.op = .next x true) (hd : o.dst = some d) (hN : Nat.blt d N = true) (hx : evA tm x = some (.bp i 0)) (hb : get bx i = some (itC s p)) (hlt : ¬ p < s.size)
    (h : SOps P N ops Q rest ⟨(d, .t (.tup [.v (.bool false)])) :: tm, bx, ow⟩) (hq : itB i = true := by rfl) : SOps P N ops Q (o :: rest) ⟨tm, bx, ow⟩ := by
  refine sops_run hg (fun C a w m g hr => ?_) h
  obtain ⟨_, hv⟩ := hr.ev hx
  have hh := it_at hr.env hb hq
  refine ⟨.tuple #[.bool false], w, ?_, m, g, ?_⟩
  · simp [execOp, ho, hv, Instr.next, getObj, Sem.run, hh, hlt]
  · rw [hd]
    refine hr.put hr.env (fun x v h => h) (Nat.lt_of_succ_le (Nat.le_of_ble_eq_true hN)) (TR.tup _ _ rfl fun j t v h1 h2 => ?_)
    match j, h1, h2 with
    | 0, h1, h2 => simp at h1 h2; subst h1 h2; exact .v _
end
end Go.Proofs.YtcpbdcamfhoiaaaDoor.Sim

/- A logic of states: a text as a row of bytes, a row of bytes as a text. -/
namespace Go.Proofs.YtcpbdcamfhoiaaaDoor.Sim
set_option linter.unusedVariables false
set_option linter.unusedSimpArgs false
open Go.RowKit Mem

def byteT (b : UInt8) : List T := [.v (.int .u8 (b.toNat : Int))]
/-- a type of rows of bytes: the element's -/
def byE (P : Program) (t : TypeId) : Option TypeId := match P.underlying t with
  | some (.slice e) => match P.underlying e with
    | some (.int .u8) => some e
    | _ => none
  | _ => none
theorem byE_spec {P : Program} {t e : TypeId} (h : byE P t = some e) : P.underlying t = some (.slice e) ∧ P.underlying e = some (.int .u8) := by
  unfold byE at h
  split at h
  · rename_i e' he
    split at h
    · rename_i h1; injection h with h; subst h; exact ⟨he, h1⟩
    · cases h
  · cases h
theorem bytesWorld_lo (w : World) (e : TypeId) (s : ByteArray) : Lo w (Lib.bytesWorld w e s) :=
  ⟨rfl, rfl, rfl, by rw [Lib.bytesWorld_size]; omega, fun k hk => Lib.bytesWorld_at_old w e s k hk⟩
theorem bytesCells_size (w : World) (e : TypeId) (s : ByteArray) : (Lib.bytesCells w e s).size = grownCap w s.size 0 e := by
  have := grownCap_ge w s.size 0 e
  have h : s.data.size = s.size := rfl
  simp [Lib.bytesCells, h]; omega
theorem flat_bytes (l : List UInt8) : (l.map byteT).flatten = l.map fun b => T.v (.int .u8 (b.toNat : Int)) := by
  induction l with
  | nil => rfl
  | cons b l ih => rw [List.map_cons, List.flatten_cons, ih]; rfl
theorem cells_bytes (m : Mm) (l : List UInt8) : CellsAre m (l.map byteT).flatten (l.map fun b => Value.int .u8 (b.toNat : Int)) := by
  rw [flat_bytes]
  refine ⟨by simp, fun j t v h1 h2 => ?_⟩
  rw [List.getElem?_map] at h1 h2
  cases h : l[j]? with
  | none => rw [h] at h1; cases h1
  | some b => rw [h] at h1 h2; injection h1 with h1; injection h2 with h2; subst h1 h2; exact ⟨.v _, rfl⟩
theorem foldl_push (l : List UInt8) : ∀ (acc : ByteArray), ((l.map fun b => (b.toNat : Int)).foldl (fun r n => r.push (UInt8.ofNat n.toNat)) acc) = ⟨acc.data ++ l.toArray⟩ := by
  induction l with
  | nil => intro acc; simp
  | cons b l ih =>
    intro acc
    rw [List.map_cons, List.foldl_cons, ih]
    congr 1
    apply Array.ext'
    simp [ByteArray.push]
theorem foldl_bs (l : List UInt8) : ((l.map fun b => (b.toNat : Int)).foldl (fun r n => r.push (UInt8.ofNat n.toNat)) ByteArray.empty) = bs l := by
  rw [foldl_push]
  unfold bs
  congr 1
  show #[] ++ l.toArray = l.toArray
  simp
section
variable {P : Program} {N : Nat} {Q : Exit → St → Prop} {ops : Array Oper} {rest : List Oper} {o : Oper} {tm : List (Nat × A)} {bx : List (Nat × List A)} {ow : List (Nat × Own)} {ρ : Operand → Option A}
/-- a text's bytes: a row of the call's own -/
theorem sops_str_bytes {src dst e d : Nat} {x : Operand} {s : ByteArray} (i : Nat) (hg : GuardIs ops tm o true) (ho : o.op = .convert src dst x) (hd : o.dst = some d) (hN : Nat.blt d N = true) (hx : evA tm x = some (.t (.v (.string s)))) (hS : isStr P src = true) (hT : byE P dst = some e) (hsz : s.size ≤ maxLen) (hi : get ow i = none)
    (h : SOps P N ops Q rest ⟨(d, .own i (s.toList.map byteT).length) :: tm, bx, (i, ⟨e, 1, s.toList.map byteT⟩) :: ow⟩) (hp : Nat.ble 2000 i = false := by rfl) : SOps P N ops Q (o :: rest) ⟨tm, bx, ow⟩ := by
  refine sops_run hg (fun C a w m g hr => ?_) h
  have hv := tr_v (hr.ev hx)
  obtain ⟨h1, h2⟩ := byE_spec hT
  have hlo := bytesWorld_lo w e s
  have hlw : g.lw i = false := by rw [hr.env.lw, hi]; rfl
  have hge := grownCap_ge w s.size 0 e
  have hln : (s.toList.map byteT).length = s.size := by rw [List.length_map, toList_len]
  let v : Value := .slice (some ⟨w.heap.size, 0, none⟩) s.size (grownCap w s.size 0 e)
  have hrow : RowM (Lib.bytesWorld w e s) 0 e 1 v (s.toList.map byteT).length (s.toList.map fun b => Value.int .u8 (b.toNat : Int)) := by
    refine ⟨by simp, .inr ⟨w.heap.size, grownCap w s.size 0 e, Lib.bytesCells w e s, by rw [hln], Nat.zero_le _, ⟨_, Lib.bytesWorld_at_new w e s, .inr (Nat.le_refl _)⟩, by rw [hln]; exact hge, grownCap_le_maxLen w _ _ e hsz, by rw [bytesCells_size]; omega, ?_⟩⟩
    rw [hln]
    simp only [Lib.bytesCells, Array.toList_append, Array.toList_map]
    rw [List.take_append_of_le_length (by simp)]
    rw [List.take_of_length_le (by simp), ByteArray.toList_eq]
  obtain ⟨he, hm⟩ := hr.env.setO (hp := hp) (w' := Lib.bytesWorld w e s) (i := i) (v := v) (e := e) (sz := 1) (rows := s.toList.map byteT) (vs := s.toList.map fun b => Value.int .u8 (b.toNat : Int)) hrow
    (fun r hr => by obtain ⟨b, _, rfl⟩ := List.mem_map.1 hr; rfl) (cells_bytes _ _) (.inr hi) (.inr ⟨fun b hb => by simp [v, Value.ownBlock] at hb; omega, hlo⟩)
  have hput := hr.put (d := d) (x := .own i (s.toList.map byteT).length) (v := v) he (fun x u h => h.setO hm (.inl hlw)) (Nat.lt_of_succ_le (Nat.le_of_ble_eq_true hN)) ⟨by simp [Gh.setO], by simp [Gh.setO], ⟨some ⟨w.heap.size, 0, none⟩, grownCap w s.size 0 e, by rw [hln]⟩, fun _ => by simp [Gh.setO]⟩
  rw [← hd] at hput
  exact ⟨v, _, by simp [execOp, ho, hv, Lib.run_convert_string_bytes w src dst e s (isStr_spec hS) h1 h2, v], _, _, hput⟩
/-- a row of bytes as a text -/
theorem po_bytes_str {src dst e : Nat} {x : Operand} {y : A} {l : List UInt8} (ho : o.op = .convert src dst x) (hx : ρ x = some y) (hy : VwS ow y (.sl 1 (l.map byteT))) (hS : byE P src = some e) (hD : isStr P dst = true) : PureOp P bx ow o ρ (.t (.v (.string (bs l)))) := pure_run fun C m g w a he h => by
  have hv := hy.ok he (h x (by simp [ho, Op.operands]) _ hx)
  obtain ⟨h1, h2⟩ := byE_spec hS
  suffices hr : (convert src dst (a.eval x)).run P w = .ok (.string (bs l)) w from ⟨_, by simp [execOp, ho, hr], .v _⟩
  revert hv; generalize a.eval x = v; intro hv
  generalize hrows : l.map byteT = rows at hv
  cases hv with
  | sl _ _ A b off cap u hc hm hA hr hu ht =>
    rw [run_convert_bytes_string w src dst e A _ _ h1 h2 (isStr_spec hD)]
    cases A with
    | none =>
      have hl : l = [] := by
        cases l with
        | nil => rfl
        | cons b l => have := hA (by rw [← hrows]; simp); cases this
      subst hl
      simp [Conv.bytesToString]; rfl
    | some a' =>
      have hld : (loadCells a' rows.length).run P w = .ok ((l.map fun b => (b.toNat : Int)).map (Value.int .u8)).toArray w := by
        rw [show rows.length = ((l.map fun b => (b.toNat : Int)).map (Value.int .u8)).length by rw [← hrows]; simp]
        refine run_loadCells_list w a' _ fun j v hj => ?_
        rw [List.getElem?_map, List.getElem?_map] at hj
        cases hb : l[j]? with
        | none => rw [hb] at hj; cases hj
        | some c =>
          rw [hb] at hj; injection hj with hj; subst hj
          have hrk : rows[j]? = some (byteT c) := by rw [← hrows, List.getElem?_map, hb]; rfl
          have e1 := hA (by intro e; rw [e] at hrk; simp at hrk)
          injection e1 with e1; subst e1
          have q := (hu j 0 _ _ hrk rfl).1
          rw [tr_v (ht j 0 _ _ hrk rfl)] at q
          have q : w.cell? ⟨b, off + (j * 1 + 0), none⟩ = _ := q
          rw [add_mid]
          rw [show off + j = off + (j * 1 + 0) by omega]; exact q
      rw [run_bytesToString w a' _ _ _ hld, foldl_bs]
end
theorem set_byte (l : List UInt8) (k : Nat) (b : UInt8) : (l.map byteT).set k (byteT b) = (l.set k b).map byteT := by
  rw [List.map_set]
end Go.Proofs.YtcpbdcamfhoiaaaDoor.Sim

/- A logic of states: functions of the library without a body; numbers within bounds; arrays. -/
namespace Go.Proofs.YtcpbdcamfhoiaaaDoor.Sim
set_option linter.unusedVariables false
set_option linter.unusedSimpArgs false
open Go.RowKit Mem
theorem wrap_u8 {n : Int} (h : 0 ≤ n ∧ n ≤ 255) : IntKind.u8.wrap n = n := by
  simp only [IntKind.wrap, IntKind.bits, IntKind.signed]; simp; omega
theorem wrap_i32 {n : Int} (h : -2147483648 ≤ n ∧ n ≤ 2147483647) : IntKind.i32.wrap n = n := by
  simp only [IntKind.wrap, IntKind.bits, IntKind.signed]; simp; omega
theorem wrap_u64 {n : Int} (h : 0 ≤ n ∧ n ≤ 18446744073709551615) : IntKind.u64.wrap n = n := by
  simp only [IntKind.wrap, IntKind.bits, IntKind.signed]; simp; omega
section
variable {P : Program} {N : Nat} {Q : Exit → St → Prop} {ops : Array Oper} {rest : List Oper} {tm : List (Nat × A)} {bx : List (Nat × List A)} {ow : List (Nat × Own)} {o : Oper} {ρ : Operand → Option A} {r : A}
/-- a function without a body, at values just so -/
theorem po_ext {f : FuncId} {xs : List Operand} {at_ : Array TypeId} {vs : List Value} {v : Value} (hrun : ∀ w, (callFunc f vs.toArray).run P w = .ok (.value v) w) (ho : o.op = .call { callee := .value (.func f), args := xs.toArray, argTypes := at_ }) (ha : Args ow ρ xs (vs.map T.v)) : PureOp P bx ow o ρ (.t (.v v)) := pure_run fun C m g w a he h => by
  obtain ⟨hl, hv⟩ := ha.ok he (a := a) (fun x hx y hy => h x (by simp [ho, Op.operands, Call.operands, hx]) y hy)
  have hvs : xs.map a.eval = vs := by
    refine List.ext_getElem? fun i => ?_
    cases h1 : vs[i]? with
    | none =>
      rw [List.getElem?_eq_none_iff] at h1 ⊢
      rw [List.length_map] at hl ⊢; omega
    | some u =>
      have hi := (List.getElem?_eq_some_iff.1 h1).1
      have h2 : i < (xs.map a.eval).length := by rw [List.length_map] at hl ⊢; omega
      rw [List.getElem?_eq_getElem h2]
      have := hv i (.v u) _ (by rw [List.getElem?_map, h1]; rfl) (List.getElem?_eq_getElem h2)
      rw [tr_v this]
  refine ⟨v, ?_, .v v⟩
  have := hrun w
  rw [← hvs] at this
  simp only [execOp, ho, resolve, Deferred.ofValue, Act.eval, invoke, Sem.run_bind, Sem.run_pure, Result.andThen_ok, List.map_toArray, Array.append_empty, Array.empty_append, Array.append_eq_append, List.append_nil, List.nil_append] at this ⊢
  simpa using this
/-- an array's variable, copied: its cells -/
theorem vwl_t (ts : List T) : VwL ow (ts.map A.t) ts := by
  induction ts with
  | nil => exact .nil
  | cons t ts ih => exact .cons (.t t) ih
theorem cells_agg (ts : List T) : (A.t (.agg ts)).cells = ts.map A.t := rfl
theorem spl_all (cs : List A) (ts : List A) (h : cs.length = ts.length) : spl cs 0 ts = ts := by
  unfold spl
  rw [List.take_zero, List.drop_of_length_le (by omega)]; simp
end
end Go.Proofs.YtcpbdcamfhoiaaaDoor.Sim

/- A logic of states: arrays of 256 cells; a pointer looked at. -/
namespace Go.Proofs.YtcpbdcamfhoiaaaDoor.Sim
set_option linter.unusedVariables false
set_option linter.unusedSimpArgs false
open Go.RowKit Mem
def arrA (f : Nat → Value) : List A := (List.range 256).map fun i => .t (.v (f i))
def arrT (f : Nat → Value) : List T := (List.range 256).map fun i => .v (f i)
theorem arrA_len (f : Nat → Value) : (arrA f).length = 256 := by unfold arrA; rw [List.length_map, List.length_range]
theorem arrT_len (f : Nat → Value) : (arrT f).length = 256 := by unfold arrT; rw [List.length_map, List.length_range]
theorem arrT_map (f : Nat → Value) : (arrT f).map A.t = arrA f := by unfold arrA arrT; rw [List.map_map]; rfl
theorem arrA_get (f : Nat → Value) {c : Nat} (h : c < 256) : (arrA f)[c]? = some (.t (.v (f c))) := by
  unfold arrA; rw [List.getElem?_map, List.getElem?_range h]; rfl
theorem arrA_at (f : Nat → Value) {c : Nat} (h : c < 256) : (arrA f)[0 + c * 1]? = some (.t (.v (f c))) := by
  rw [Nat.zero_add, Nat.mul_one]; exact arrA_get f h
theorem arrA_fit (f : Nat → Value) {c : Nat} (h : c < 256) : Nat.ble (0 + c * 1 + 1) (arrA f).length = true := by
  rw [arrA_len, Nat.ble_eq]; omega
theorem arrA_set (f : Nat → Value) {c : Nat} (h : c < 256) (v : Value) : spl (arrA f) (0 + c * 1) [.t (.v v)] = arrA (fun i => if i = c then v else f i) := by
  unfold spl
  rw [Nat.zero_add, Nat.mul_one]
  refine List.ext_getElem? fun j => ?_
  have hl : ((arrA f).take c).length = c := by rw [List.length_take, arrA_len]; omega
  by_cases hj : j < 256
  · rw [arrA_get _ hj]
    rcases Nat.lt_trichotomy j c with h1 | h1 | h1
    · rw [List.getElem?_append_left (by omega), List.getElem?_take_of_lt h1, arrA_get f hj, if_neg (by omega)]
    · subst h1
      rw [List.getElem?_append_right (by omega), hl, Nat.sub_self, if_pos rfl]; rfl
    · rw [List.getElem?_append_right (by omega), hl, List.getElem?_append_right (by simp; omega), List.getElem?_drop]
      rw [show c + [A.t (.v v)].length + (j - c - [A.t (.v v)].length) = j by simp; omega, arrA_get f hj, if_neg (by omega)]
  · rw [List.getElem?_eq_none (by simp [hl, arrA_len]; omega), List.getElem?_eq_none (by rw [arrA_len]; omega)]
theorem arrA_zero (z : Value) : List.replicate 256 (A.t (.v z)) = arrA fun _ => z := by
  refine List.ext_getElem? fun j => ?_
  by_cases hj : j < 256
  · rw [arrA_get _ hj, List.getElem?_replicate, if_pos hj]
  · rw [List.getElem?_eq_none (by rw [List.length_replicate]; omega), List.getElem?_eq_none (by rw [arrA_len]; omega)]
theorem spl_arr (g f : Nat → Value) : spl (arrA g) 0 (A.t (.agg (arrT f))).cells = arrA f := by
  rw [cells_agg, arrT_map, spl_all _ _ (by rw [arrA_len, arrA_len])]
theorem arrT_congr {f g : Nat → Value} (h : ∀ i, i < 256 → f i = g i) : arrT f = arrT g := by
  unfold arrT
  exact List.map_congr_left fun i hi => by rw [h i (List.mem_range.1 hi)]
theorem arrA_congr {f g : Nat → Value} (h : ∀ i, i < 256 → f i = g i) : arrA f = arrA g := by
  rw [← arrT_map, ← arrT_map, arrT_congr h]
section
variable {P : Program} {N : Nat} {Q : Exit → St → Prop} {ops : Array Oper} {rest : List Oper} {tm : List (Nat × A)} {bx : List (Nat × List A)} {ow : List (Nat × Own)} {o : Oper} {ρ : Operand → Option A} {r : A}
theorem vwl_arr0 (f : Nat → Value) : VwL ow (arrA f) (arrT f) := by rw [← arrT_map]; exact vwl_t _
theorem vwl_arr (f : Nat → Value) : VwL ow (((arrA f).drop 0).take 256) (arrT f) := by
  rw [List.drop_zero, List.take_of_length_le (by rw [arrA_len]; omega)]; exact vwl_arr0 f
theorem vwl_spl (g f : Nat → Value) : VwL ow (spl (arrA g) 0 (A.t (.agg (arrT f))).cells) (arrT f) := by rw [spl_arr]; exact vwl_arr0 f
/-- a whole array written into a variable -/
theorem sops_store_arr {ty : TypeId} {x z : Operand} {i : Nat} {g f : Nat → Value} (hT : tyI P ty = some (true, 256)) (hg : GuardIs ops tm o true) (ho : o.op = .store ty x z) (hd : o.dst = none) (hx : evA tm x = some (.bp i 0)) (hz : evA tm z = some (.t (.agg (arrT f)))) (hb : get bx i = some (arrA g))
    (h : SOps P N ops Q rest ⟨tm, (i, arrA f) :: bx, ow⟩) (hq : cellB i = true := by rfl) : SOps P N ops Q (o :: rest) ⟨tm, bx, ow⟩ :=
  sops_store (y := .t (.agg (arrT f))) (n := 256) hg ho hd hx hz rfl hb hT (by rw [cells_agg, List.length_map, arrT_len]) (by rw [arrA_len]; rfl) (by rw [spl_arr]; exact h) hq
theorem po_load_arr {ty : TypeId} {x : Operand} {i : Nat} {f : Nat → Value} (hT : tyI P ty = some (true, 256)) (ho : o.op = .load ty x) (hx : ρ x = some (.bp i 0)) (hb : get bx i = some (arrA f)) (hq : cellB i = true := by rfl) : PureOp P bx ow o ρ (.t (.agg (arrT f))) :=
  po_load_bx_agg ho hx hT hb (vwl_arr f) (arrT_len f) hq
/-- an array's variable, its zero in it -/
theorem sops_alloc_256 {ty : TypeId} {z v : Value} {d : Nat} (hz : (P.info? ty).bind (·.zero) = some z) (hc : z.cells.toList = List.replicate 256 v) (h1 : v.oneCell' = true) (hg : GuardIs ops tm o true) (ho : o.op = .alloc ty) (hd : o.dst = some d) (hN : Nat.blt d N = true) (hi : get bx d = none)
    (h : SOps P N ops Q rest ⟨(d, .bp d 0) :: tm, (d, arrA fun _ => v) :: bx, ow⟩) (hp : Nat.ble 2000 d = false := by rfl) (hqc : cellB d = true := by rfl) : SOps P N ops Q (o :: rest) ⟨tm, bx, ow⟩ :=
  sops_alloc_arr hg ho hd hN hz hc h1 hi (by rw [arrA_zero]; exact h) hp hqc
/-- an element written -/
theorem sops_store_at {ty : TypeId} {x z : Operand} {i c : Nat} {f : Nat → Value} {v : Value} {off : Nat} (hT : tyI P ty = some (false, 1)) (h1 : v.oneCell' = true) (hc : c < 256) (hg : GuardIs ops tm o true) (ho : o.op = .store ty x z) (hd : o.dst = none) (hx : evA tm x = some (.bp i off)) (hoff : off = 0 + c * 1) (hz : evA tm z = some (.t (.v v))) (hb : get bx i = some (arrA f))
    (h : SOps P N ops Q rest ⟨tm, (i, arrA fun j => if j = c then v else f j) :: bx, ow⟩) (hq : cellB i = true := by rfl) : SOps P N ops Q (o :: rest) ⟨tm, bx, ow⟩ := by
  subst hoff
  have hcs : (A.t (.v v)).cells = [A.t (.v v)] := by cases v <;> first | rfl | cases h1
  have hk : (A.t (.v v)).okB = true := by cases v <;> first | rfl | cases h1
  refine sops_store (y := .t (.v v)) (n := 1) hg ho hd hx hz hk hb hT (by rw [hcs]; rfl) (arrA_fit f hc) ?_ hq
  rw [hcs, arrA_set f hc]; exact h
theorem po_load_at {ty : TypeId} {x : Operand} {i c off : Nat} {f : Nat → Value} (hT : tyI P ty = some (false, 1)) (hc : c < 256) (ho : o.op = .load ty x) (hx : ρ x = some (.bp i off)) (hoff : off = 0 + c * 1) (hb : get bx i = some (arrA f)) (hq : cellB i = true := by rfl) : PureOp P bx ow o ρ (.t (.v (f c))) := by
  subst hoff
  exact po_load_bx ho hx hT hb (arrA_at f hc) hq
theorem po_nilcheck {x : Operand} {i off : Nat} (ho : o.op = .nilCheck x) (hx : ρ x = some (.bp i off)) : PureOp P bx ow o ρ (.bp i off) := pure_run fun C m g w a he h => by
  obtain ⟨h0, h1⟩ := h x (by simp [ho, Op.operands]) _ hx
  exact ⟨_, by simp [execOp, ho, h1], h0, rfl⟩
end
end Go.Proofs.YtcpbdcamfhoiaaaDoor.Sim

/- Headers: in memory, opened, as trees of data. -/
namespace Go.Proofs.YtcpbdcamfhoiaaaDoor.Pl
set_option linter.unusedVariables false
set_option linter.unusedSimpArgs false
structure Head where
  name : ByteArray
  value : ByteArray
deriving Inhabited
end Go.Proofs.YtcpbdcamfhoiaaaDoor.Pl
namespace Go.Proofs.YtcpbdcamfhoiaaaDoor.Hd
set_option linter.unusedVariables false
set_option linter.unusedSimpArgs false
open Go.RowKit Go.WideShapes Go.ChangeShapes Go.Joins Mem Sim Opn
def HeadR : Rel Pl.Head := fun _ _ h cs => cs = [.string h.name, .string h.value] ∧ h.name.size ≤ maxLen ∧ h.value.size ≤ maxLen
theorem HeadR.kept : Kept HeadR := fun _ _ _ _ _ _ h _ _ => h
theorem one_string : Tryd.prog.cellsOf 9 = 1 := by kernel_rfl
theorem cells_Head : Tryd.prog.cellsOf 53 = 2 := by kernel_rfl
set_option maxRecDepth 100000 in
theorem head_opens : Opens 53 HeadR := by
  intro H enc w base spare held fuel cs x h
  obtain ⟨xs, n, _, hx, hlen, hxl, hf⟩ := DataW.trod_struct Tryd.underlying53 h
  have hl := hlen.trans cells_Head
  obtain ⟨c0, c1, rfl⟩ : ∃ c0 c1, cs = [c0, c1] := by
    match cs, hl with
    | [c0, c1], _ => exact ⟨c0, c1, rfl⟩
  obtain ⟨y0, y1, rfl⟩ : ∃ y0 y1, xs = [y0, y1] := by
    match xs, hxl with
    | [y0, y1], _ => exact ⟨y0, y1, rfl⟩
  have f0 : DataW.trod enc Tryd.prog w base spare held n 9 [c0] = some y0 := by
    have := hf 0 _ rfl
    simpa [one_string] using this
  obtain ⟨v0, r0, z0⟩ := (opens_str Tryd.underlying9) H enc w base spare held n [c0] y0 f0
  have f1 : DataW.trod enc Tryd.prog w base spare held n 9 [c1] = some y1 := by
    have := hf 1 _ rfl
    simpa [one_string] using this
  obtain ⟨v1, r1, z1⟩ := (opens_str Tryd.underlying9) H enc w base spare held n [c1] y1 f1
  injection r0 with r0; injection r1 with r1; subst r0 r1
  exact ⟨⟨v0, v1⟩, rfl, z0, z1⟩
theorem heads_opens : Opens 44 (SliceC HeadR 2) := opens_slice (R := HeadR) Tryd.underlying44 cells_Head (by omega) head_opens
def headT (x : Pl.Head) : List T := [.v (.string x.name), .v (.string x.value)]
abbrev headsT (l : List Pl.Head) : T := .sl 2 (l.map headT)
def okHead (x : Pl.Head) : Prop := x.name.size ≤ maxLen ∧ x.value.size ≤ maxLen
theorem heads_bwd {B : Nat} {w : World} {A : Option Addr} {l : List Pl.Head} {cap : Nat} (hA : SliceAt HeadR 2 B w A l) (h1 : l.length ≤ cap) (h2 : cap ≤ maxLen) : TR (allm w) (headsT l) (.slice A l.length cap) :=
  tr_rows_bwd (allm w) hA h1 h2 (fun x => rfl) (fun x _ cs hr => by obtain ⟨rfl, _⟩ := hr; exact ex_cells _ (vs := [.string x.name, .string x.value]) (fun v hv => by simp at hv; rcases hv with rfl | rfl <;> rfl)) (fun b o v _ h => h)
theorem heads_ok {B : Nat} {w : World} {A : Option Addr} {l : List Pl.Head} (hA : SliceAt HeadR 2 B w A l) : ∀ h ∈ l, okHead h := fun h hh => by
  obtain ⟨k, hk⟩ := List.getElem?_of_mem hh
  obtain ⟨b, off, cs, _, _, _, _, hr⟩ := hA k h hk
  exact hr.2
end Go.Proofs.YtcpbdcamfhoiaaaDoor.Hd

/- Headers: All, MayValue, Long: walks. -/
namespace Go.Proofs.YtcpbdcamfhoiaaaDoor.Hd
set_option linter.unusedVariables false
set_option linter.unusedSimpArgs false
open Go.RowKit Mem Sim Opn
def strT (s : ByteArray) : List T := [.v (.string s)]
def valsOf (n : ByteArray) (l : List Pl.Head) : List ByteArray := (l.filter fun h => decide (h.name = n)).map (·.value)
theorem valsOf_yes {n : ByteArray} {l : List Pl.Head} {k : Nat} (hk : k < l.length) (h : decide (l[k].name = n) = true) : (valsOf n (l.take (k + 1))).map strT = (valsOf n (l.take k)).map strT ++ [[.v (.string l[k].value)]] := by
  unfold valsOf
  rw [List.take_succ_eq_append_getElem hk, List.filter_append, List.map_append, List.map_append]
  simp [List.filter_cons, h, strT]
theorem valsOf_no {n : ByteArray} {l : List Pl.Head} {k : Nat} (hk : k < l.length) (h : decide (l[k].name = n) = false) : valsOf n (l.take (k + 1)) = valsOf n (l.take k) := by
  unfold valsOf
  rw [List.take_succ_eq_append_getElem hk, List.filter_append, List.map_append]
  simp [List.filter_cons, h]
theorem valsOf_len (n : ByteArray) (l : List Pl.Head) : (valsOf n l).length ≤ l.length := by
  unfold valsOf; rw [List.length_map]; exact List.length_filter_le _ _
theorem few_vals (n : ByteArray) (l : List Pl.Head) (k : Nat) (h : l.length ≤ 1000) : (((valsOf n (l.take k)).map strT).length + 1) * 16 ≤ 140737488355328 := by
  have := valsOf_len n (l.take k)
  rw [List.length_take] at this
  rw [List.length_map]; omega
def L1 (n : ByteArray) (l : List Pl.Head) (k : Nat) : St := ⟨[(0, .t (.v (.string n))), (1, .t (headsT l)), (5, .own 150 ((valsOf n (l.take k)).map strT).length), (6, .t (.v (.int .i64 (k : Int))))], [], [(150, ⟨9, 1, (valsOf n (l.take k)).map strT⟩)]⟩
def L2 (n : ByteArray) (l : List Pl.Head) (k : Nat) : St := ⟨[(0, .t (.v (.string n))), (8, .t (headsT l)), (9, .t (.v (.int .i64 (l.length : Int)))), (5, .own 150 ((valsOf n (l.take k)).map strT).length), (10, .t (.v (.int .i64 (k : Int))))], [], [(150, ⟨9, 1, (valsOf n (l.take k)).map strT⟩)]⟩
set_option maxRecDepth 100000 in
theorem refAll_ (n : ByteArray) (l : List Pl.Head) (hn : l.length ≤ 1000) : PCalls Tryd.prog 41 [.v (.string n), headsT l] (.sl 1 ((valsOf n l).map strT)) := by
  have hml : (l.map headT).length = l.length := List.length_map _
  refine pcalls_of Tryd.func41 rfl rfl Tryd.ntmps41 rfl ?_
  repeat' (first
    | refine then_go ?_
    | refine swp_seq ?_
    | ((refine swp_region (id := 0) ?_) <;> (refine sops_pure (.free rfl rfl) rfl rfl (po_assign rfl rfl) ?_) <;> (refine sops_nil ?_))
    | ((refine swp_region (id := 1) ?_) <;> (refine sops_pure (.free rfl rfl) rfl rfl (po_assign rfl rfl) ?_) <;> (refine sops_nil ?_))
    | ((refine swp_region (id := 2) ?_) <;> (refine sops_pure (.free rfl rfl) rfl rfl (po_assign rfl rfl) ?_) <;> (refine sops_nil ?_))
    | refine swp_ret ?_
    | refine swp_skip ?_
    | refine swp_block ?_
    | refine swp_exit ?_
    | refine block_go ?_
    | refine block_exit ?_
    | refine block_far rfl ?_
    | refine block_ret ?_
    | refine then_ret ?_
    | refine then_exit ?_
    | refine for_ret ?_
    | refine for_exit ?_
    | refine ct ?_
    | refine cf ?_
    | refine swp_cond rfl (fun hc => ?_) (fun hc => ?_)
    | refine retq (by first | exact .inr rfl | exact .inl rfl) rfl (.tmp rfl (by first | exact .t _ | exact .own rfl (by first | rfl | assumption | (simp; done) | (simp; omega)) | exact .nil _ | exact .emp _ | exact .fn _) .nil) ?_)
  refine swp_for (L1 n l) (fun _ => True) l.length ?_ trivial ?_
  · refine Weak.trans (weak_own0 (i := 150) 9 1 (s := 5) rfl rfl) ?_
    exact (weak_sub (.cons rfl rfl rfl (.cons rfl rfl rfl (.cons rfl rfl rfl (.cons rfl rfl rfl .nil)))) .nil (.cons rfl rfl .nil))
  intro k hk _
  unfold L1
  by_cases hlt : k < l.length
  · have g1 := few_vals n l k hn
    cases hb : decide (l[k].name = n) with
    | true =>
      have hs := valsOf_yes hlt hb
      repeat' (first
        | refine then_go ?_
        | refine swp_seq ?_
        | refine for_next hlt (weak_sub (.cons rfl (by first | rfl | (rw [hs]; try rfl)) rfl (.cons rfl (by first | rfl | (rw [hs]; try rfl)) rfl (.cons rfl (by first | rfl | (rw [hs]; try rfl)) rfl (.cons rfl (by first | rfl | (rw [hs]; try rfl)) rfl .nil)))) .nil (.cons rfl (by first | rfl | (rw [hs]; try rfl)) .nil)) trivial
        | ((refine swp_region (id := 3) ?_) <;> (refine sops_pure (.free rfl rfl) rfl rfl (po_move rfl rfl) ?_) <;> (refine sops_pure (.free rfl rfl) rfl rfl (po_move rfl rfl) ?_) <;> (refine sops_pure (.free rfl rfl) rfl rfl (pln rfl (tyS rfl)) ?_) <;> (refine sops_pure (.free rfl rfl) rfl rfl (po_cmp rfl rfl rfl rfl) ?_) <;> (refine sops_nil ?_))
        | ((refine swp_region (id := 5) ?_) <;> (refine sops_pure (.free rfl rfl) rfl rfl (po_move rfl rfl) ?_) <;> (refine sops_pure (.free rfl rfl) rfl rfl (po_move rfl rfl) ?_) <;> (refine sops_pure (.free rfl rfl) rfl rfl (pix rfl (tyS rfl)) ?_) <;> (first | refine sops_pure (.free rfl rfl) rfl rfl (po_field_bx rfl rfl (tyF rfl)) ?_ | refine sops_pure (.free rfl rfl) rfl rfl (po_field rfl rfl (tyF rfl)) ?_) <;> (first | refine sops_pure (.free rfl rfl) rfl rfl (po_load_bx rfl rfl (tyT rfl) rfl rfl) ?_ | refine sops_pure (.free rfl rfl) rfl rfl (po_load rfl rfl (tyT rfl) rfl) ?_) <;> (refine sops_pure (.free rfl rfl) rfl rfl (po_move rfl rfl) ?_) <;> (refine sops_pure (.free rfl rfl) rfl rfl (po_str rfl rfl rfl rfl) ?_) <;> (refine sops_nil ?_))
        | ((refine swp_region (id := 6) ?_) <;> (refine sops_pure (.free rfl rfl) rfl rfl (po_move rfl rfl) ?_) <;> (refine sops_pure (.free rfl rfl) rfl rfl (po_move rfl rfl) ?_) <;> (refine sops_pure (.free rfl rfl) rfl rfl (po_move rfl rfl) ?_) <;> (refine sops_pure (.free rfl rfl) rfl rfl (pix rfl (tyS rfl)) ?_) <;> (first | refine sops_pure (.free rfl rfl) rfl rfl (po_field_bx rfl rfl (tyF rfl)) ?_ | refine sops_pure (.free rfl rfl) rfl rfl (po_field rfl rfl (tyF rfl)) ?_) <;> (first | refine sops_pure (.free rfl rfl) rfl rfl (po_load_bx rfl rfl (tyT rfl) rfl rfl) ?_ | refine sops_pure (.free rfl rfl) rfl rfl (po_load rfl rfl (tyT rfl) rfl) ?_) <;> (refine sops_pure (.free rfl rfl) rfl rfl (po_buildSlice rfl (tyE rfl) (dc (.nil _)) rfl rfl rfl) ?_) <;> (first | refine sap rfl (tyE rfl) ?_ | refine san rfl (tyE rfl) ?_) <;> (refine sops_pure (.free rfl rfl) rfl rfl (po_assign rfl rfl) ?_) <;> (refine sops_nil ?_))
        | ((refine swp_region (id := 4) ?_) <;> (refine sops_pure (.free rfl rfl) rfl rfl (po_move rfl rfl) ?_) <;> (first | refine sops_pure (.free rfl rfl) rfl rfl (po_inc rfl rfl rfl (by omega)) ?_ | refine sops_pure (.free rfl rfl) rfl rfl (po_arith rfl rfl rfl (ar_add (by first | rfl | (refine wrap_i64 ?_; omega)) rfl)) ?_) <;> (refine sops_pure (.free rfl rfl) rfl rfl (po_assign rfl rfl) ?_) <;> (refine sops_nil ?_))
        | refine swp_ret ?_
        | refine swp_skip ?_
        | refine swp_block ?_
        | refine swp_exit ?_
        | refine block_go ?_
        | refine block_exit ?_
        | refine block_far rfl ?_
        | refine block_ret ?_
        | refine then_ret ?_
        | refine then_exit ?_
        | refine for_ret ?_
        | refine for_exit ?_
        | refine ct ?_
        | refine cf ?_
        | refine swp_cond rfl (fun hc => ?_) (fun hc => ?_)
        | refine retq (by first | exact .inr rfl | exact .inl rfl) rfl (.tmp rfl (by first | exact .t _ | exact .own rfl (by first | rfl | assumption | (simp; done) | (simp; omega)) | exact .nil _ | exact .emp _ | exact .fn _) .nil) ?_)
    | false =>
      have hs := valsOf_no hlt hb
      repeat' (first
        | refine then_go ?_
        | refine swp_seq ?_
        | refine for_next hlt (weak_sub (.cons rfl (by first | rfl | (rw [hs])) rfl (.cons rfl (by first | rfl | (rw [hs])) rfl (.cons rfl (by first | rfl | (rw [hs])) rfl (.cons rfl (by first | rfl | (rw [hs])) rfl .nil)))) .nil (.cons rfl (by first | rfl | (rw [hs])) .nil)) trivial
        | ((refine swp_region (id := 3) ?_) <;> (refine sops_pure (.free rfl rfl) rfl rfl (po_move rfl rfl) ?_) <;> (refine sops_pure (.free rfl rfl) rfl rfl (po_move rfl rfl) ?_) <;> (refine sops_pure (.free rfl rfl) rfl rfl (pln rfl (tyS rfl)) ?_) <;> (refine sops_pure (.free rfl rfl) rfl rfl (po_cmp rfl rfl rfl rfl) ?_) <;> (refine sops_nil ?_))
        | ((refine swp_region (id := 5) ?_) <;> (refine sops_pure (.free rfl rfl) rfl rfl (po_move rfl rfl) ?_) <;> (refine sops_pure (.free rfl rfl) rfl rfl (po_move rfl rfl) ?_) <;> (refine sops_pure (.free rfl rfl) rfl rfl (pix rfl (tyS rfl)) ?_) <;> (first | refine sops_pure (.free rfl rfl) rfl rfl (po_field_bx rfl rfl (tyF rfl)) ?_ | refine sops_pure (.free rfl rfl) rfl rfl (po_field rfl rfl (tyF rfl)) ?_) <;> (first | refine sops_pure (.free rfl rfl) rfl rfl (po_load_bx rfl rfl (tyT rfl) rfl rfl) ?_ | refine sops_pure (.free rfl rfl) rfl rfl (po_load rfl rfl (tyT rfl) rfl) ?_) <;> (refine sops_pure (.free rfl rfl) rfl rfl (po_move rfl rfl) ?_) <;> (refine sops_pure (.free rfl rfl) rfl rfl (po_str rfl rfl rfl rfl) ?_) <;> (refine sops_nil ?_))
        | ((refine swp_region (id := 4) ?_) <;> (refine sops_pure (.free rfl rfl) rfl rfl (po_move rfl rfl) ?_) <;> (first | refine sops_pure (.free rfl rfl) rfl rfl (po_inc rfl rfl rfl (by omega)) ?_ | refine sops_pure (.free rfl rfl) rfl rfl (po_arith rfl rfl rfl (ar_add (by first | rfl | (refine wrap_i64 ?_; omega)) rfl)) ?_) <;> (refine sops_pure (.free rfl rfl) rfl rfl (po_assign rfl rfl) ?_) <;> (refine sops_nil ?_))
        | refine swp_ret ?_
        | refine swp_skip ?_
        | refine swp_block ?_
        | refine swp_exit ?_
        | refine block_go ?_
        | refine block_exit ?_
        | refine block_far rfl ?_
        | refine block_ret ?_
        | refine then_ret ?_
        | refine then_exit ?_
        | refine for_ret ?_
        | refine for_exit ?_
        | refine ct ?_
        | refine cf ?_
        | refine swp_cond rfl (fun hc => ?_) (fun hc => ?_)
        | refine retq (by first | exact .inr rfl | exact .inl rfl) rfl (.tmp rfl (by first | exact .t _ | exact .own rfl (by first | rfl | assumption | (simp; done) | (simp; omega)) | exact .nil _ | exact .emp _ | exact .fn _) .nil) ?_)
  · obtain rfl : k = l.length := by omega
    rw [List.take_length]
    repeat' (first
      | refine then_go ?_
      | refine swp_seq ?_
      | ((refine swp_region (id := 3) ?_) <;> (refine sops_pure (.free rfl rfl) rfl rfl (po_move rfl rfl) ?_) <;> (refine sops_pure (.free rfl rfl) rfl rfl (po_move rfl rfl) ?_) <;> (refine sops_pure (.free rfl rfl) rfl rfl (pln rfl (tyS rfl)) ?_) <;> (refine sops_pure (.free rfl rfl) rfl rfl (po_cmp rfl rfl rfl rfl) ?_) <;> (refine sops_nil ?_))
      | ((refine swp_region (id := 7) ?_) <;> (refine sops_pure (.free rfl rfl) rfl rfl (po_move rfl rfl) ?_) <;> (refine sops_pure (.free rfl rfl) rfl rfl (po_assign rfl rfl) ?_) <;> (refine sops_nil ?_))
      | refine swp_ret ?_
      | refine swp_skip ?_
      | refine swp_block ?_
      | refine swp_exit ?_
      | refine block_go ?_
      | refine block_exit ?_
      | refine block_far rfl ?_
      | refine block_ret ?_
      | refine then_ret ?_
      | refine then_exit ?_
      | refine for_ret ?_
      | refine for_exit ?_
      | refine ct ?_
      | refine cf ?_
      | refine swp_cond rfl (fun hc => ?_) (fun hc => ?_)
      | refine retq (by first | exact .inr rfl | exact .inl rfl) rfl (.tmp rfl (by first | exact .t _ | exact .own rfl (by first | rfl | assumption | (simp; done) | (simp; omega)) | exact .nil _ | exact .emp _ | exact .fn _) .nil) ?_)
    rfl
set_option maxRecDepth 100000 in
theorem all_ (n : ByteArray) (l : List Pl.Head) (hn : l.length ≤ 1000) : PCalls Tryd.prog 44 [.v (.string n), headsT l] (.sl 1 ((valsOf n l).map strT)) := by
  have hml : (l.map headT).length = l.length := List.length_map _
  refine pcalls_of Tryd.func44 rfl rfl Tryd.ntmps44 rfl ?_
  repeat' (first
    | refine then_go ?_
    | refine swp_seq ?_
    | ((refine swp_region (id := 0) ?_) <;> (refine sops_pure (.free rfl rfl) rfl rfl (po_assign rfl rfl) ?_) <;> (refine sops_nil ?_))
    | ((refine swp_region (id := 1) ?_) <;> (refine sops_pure (.free rfl rfl) rfl rfl (po_assign rfl rfl) ?_) <;> (refine sops_nil ?_))
    | ((refine swp_region (id := 2) ?_) <;> (refine sops_pure (.free rfl rfl) rfl rfl (po_move rfl rfl) ?_) <;> (refine sops_pure (.free rfl rfl) rfl rfl (pln rfl (tyS rfl)) ?_) <;> (refine sops_pure (.free rfl rfl) rfl rfl (po_move rfl rfl) ?_) <;> (refine sops_nil ?_))
    | refine swp_ret ?_
    | refine swp_skip ?_
    | refine swp_block ?_
    | refine swp_exit ?_
    | refine block_go ?_
    | refine block_exit ?_
    | refine block_far rfl ?_
    | refine block_ret ?_
    | refine then_ret ?_
    | refine then_exit ?_
    | refine for_ret ?_
    | refine for_exit ?_
    | refine ct ?_
    | refine cf ?_
    | refine swp_cond rfl (fun hc => ?_) (fun hc => ?_)
    | refine retq (by first | exact .inr rfl | exact .inl rfl) rfl (.tmp rfl (by first | exact .t _ | exact .own rfl (by first | rfl | assumption | (simp; done) | (simp; omega)) | exact .nil _ | exact .emp _ | exact .fn _) .nil) ?_)
  refine swp_for (L2 n l) (fun _ => True) l.length ?_ trivial ?_
  · refine Weak.trans (weak_own0 (i := 150) 9 1 (s := 5) rfl rfl) ?_
    exact (weak_sub (.cons rfl (by first | rfl | (rw [hml])) rfl (.cons rfl (by first | rfl | (rw [hml])) rfl (.cons rfl (by first | rfl | (rw [hml])) rfl (.cons rfl (by first | rfl | (rw [hml])) rfl (.cons rfl (by first | rfl | (rw [hml])) rfl .nil))))) .nil (.cons rfl (by first | rfl | (rw [hml])) .nil))
  intro k hk _
  unfold L2
  by_cases hlt : k < l.length
  · have g1 := few_vals n l k hn
    cases hb : decide (l[k].name = n) with
    | true =>
      have hs := valsOf_yes hlt hb
      repeat' (first
        | refine then_go ?_
        | refine swp_seq ?_
        | refine for_next hlt (weak_sub (.cons rfl (by first | rfl | (rw [hs]; try rfl)) rfl (.cons rfl (by first | rfl | (rw [hs]; try rfl)) rfl (.cons rfl (by first | rfl | (rw [hs]; try rfl)) rfl (.cons rfl (by first | rfl | (rw [hs]; try rfl)) rfl (.cons rfl (by first | rfl | (rw [hs]; try rfl)) rfl .nil))))) .nil (.cons rfl (by first | rfl | (rw [hs]; try rfl)) .nil)) trivial
        | ((refine swp_region (id := 3) ?_) <;> (refine sops_pure (.free rfl rfl) rfl rfl (po_cmp rfl rfl rfl rfl) ?_) <;> (refine sops_nil ?_))
        | ((refine swp_region (id := 4) ?_) <;> (refine sops_pure (.free rfl rfl) rfl rfl (pix rfl (tyS rfl)) ?_) <;> (first | refine sops_pure (.free rfl rfl) rfl rfl (po_load_bx_agg rfl rfl (tyT rfl) rfl (vc (vc .nil)) rfl) ?_ | refine sops_pure (.free rfl rfl) rfl rfl (po_load_agg rfl rfl (tyT rfl) rfl rfl) ?_) <;> (refine sops_allocS str53 (.free rfl rfl) rfl rfl rfl rfl ?_) <;> (refine sops_store (.free rfl rfl) rfl rfl rfl rfl rfl rfl (tyT rfl) rfl rfl ?_) <;> (refine sops_nil ?_))
        | ((refine swp_region (id := 5) ?_) <;> (first | refine sops_pure (.free rfl rfl) rfl rfl (po_field_bx rfl rfl (tyF rfl)) ?_ | refine sops_pure (.free rfl rfl) rfl rfl (po_field rfl rfl (tyF rfl)) ?_) <;> (first | refine sops_pure (.free rfl rfl) rfl rfl (po_load_bx rfl rfl (tyT rfl) rfl rfl) ?_ | refine sops_pure (.free rfl rfl) rfl rfl (po_load rfl rfl (tyT rfl) rfl) ?_) <;> (refine sops_pure (.free rfl rfl) rfl rfl (po_move rfl rfl) ?_) <;> (refine sops_pure (.free rfl rfl) rfl rfl (po_str rfl rfl rfl rfl) ?_) <;> (refine sops_nil ?_))
        | ((refine swp_region (id := 6) ?_) <;> (refine sops_pure (.free rfl rfl) rfl rfl (po_move rfl rfl) ?_) <;> (first | refine sops_pure (.free rfl rfl) rfl rfl (po_field_bx rfl rfl (tyF rfl)) ?_ | refine sops_pure (.free rfl rfl) rfl rfl (po_field rfl rfl (tyF rfl)) ?_) <;> (first | refine sops_pure (.free rfl rfl) rfl rfl (po_load_bx rfl rfl (tyT rfl) rfl rfl) ?_ | refine sops_pure (.free rfl rfl) rfl rfl (po_load rfl rfl (tyT rfl) rfl) ?_) <;> (refine sops_pure (.free rfl rfl) rfl rfl (po_buildSlice rfl (tyE rfl) (dc (.nil _)) rfl rfl rfl) ?_) <;> (first | refine sap rfl (tyE rfl) ?_ | refine san rfl (tyE rfl) ?_) <;> (refine sops_pure (.free rfl rfl) rfl rfl (po_assign rfl rfl) ?_) <;> (refine sops_nil ?_))
        | ((refine swp_region (id := 7) ?_) <;> (first | refine sops_pure (.free rfl rfl) rfl rfl (po_inc rfl rfl rfl (by omega)) ?_ | refine sops_pure (.free rfl rfl) rfl rfl (po_arith rfl rfl rfl (ar_add (by first | rfl | (refine wrap_i64 ?_; omega)) rfl)) ?_) <;> (refine sops_pure (.free rfl rfl) rfl rfl (po_move rfl rfl) ?_) <;> (refine sops_nil ?_))
        | refine swp_ret ?_
        | refine swp_skip ?_
        | refine swp_block ?_
        | refine swp_exit ?_
        | refine block_go ?_
        | refine block_exit ?_
        | refine block_far rfl ?_
        | refine block_ret ?_
        | refine then_ret ?_
        | refine then_exit ?_
        | refine for_ret ?_
        | refine for_exit ?_
        | refine ct ?_
        | refine cf ?_
        | refine swp_cond rfl (fun hc => ?_) (fun hc => ?_)
        | refine retq (by first | exact .inr rfl | exact .inl rfl) rfl (.tmp rfl (by first | exact .t _ | exact .own rfl (by first | rfl | assumption | (simp; done) | (simp; omega)) | exact .nil _ | exact .emp _ | exact .fn _) .nil) ?_)
    | false =>
      have hs := valsOf_no hlt hb
      repeat' (first
        | refine then_go ?_
        | refine swp_seq ?_
        | refine for_next hlt (weak_sub (.cons rfl (by first | rfl | (rw [hs])) rfl (.cons rfl (by first | rfl | (rw [hs])) rfl (.cons rfl (by first | rfl | (rw [hs])) rfl (.cons rfl (by first | rfl | (rw [hs])) rfl (.cons rfl (by first | rfl | (rw [hs])) rfl .nil))))) .nil (.cons rfl (by first | rfl | (rw [hs])) .nil)) trivial
        | ((refine swp_region (id := 3) ?_) <;> (refine sops_pure (.free rfl rfl) rfl rfl (po_cmp rfl rfl rfl rfl) ?_) <;> (refine sops_nil ?_))
        | ((refine swp_region (id := 4) ?_) <;> (refine sops_pure (.free rfl rfl) rfl rfl (pix rfl (tyS rfl)) ?_) <;> (first | refine sops_pure (.free rfl rfl) rfl rfl (po_load_bx_agg rfl rfl (tyT rfl) rfl (vc (vc .nil)) rfl) ?_ | refine sops_pure (.free rfl rfl) rfl rfl (po_load_agg rfl rfl (tyT rfl) rfl rfl) ?_) <;> (refine sops_allocS str53 (.free rfl rfl) rfl rfl rfl rfl ?_) <;> (refine sops_store (.free rfl rfl) rfl rfl rfl rfl rfl rfl (tyT rfl) rfl rfl ?_) <;> (refine sops_nil ?_))
        | ((refine swp_region (id := 5) ?_) <;> (first | refine sops_pure (.free rfl rfl) rfl rfl (po_field_bx rfl rfl (tyF rfl)) ?_ | refine sops_pure (.free rfl rfl) rfl rfl (po_field rfl rfl (tyF rfl)) ?_) <;> (first | refine sops_pure (.free rfl rfl) rfl rfl (po_load_bx rfl rfl (tyT rfl) rfl rfl) ?_ | refine sops_pure (.free rfl rfl) rfl rfl (po_load rfl rfl (tyT rfl) rfl) ?_) <;> (refine sops_pure (.free rfl rfl) rfl rfl (po_move rfl rfl) ?_) <;> (refine sops_pure (.free rfl rfl) rfl rfl (po_str rfl rfl rfl rfl) ?_) <;> (refine sops_nil ?_))
        | ((refine swp_region (id := 7) ?_) <;> (first | refine sops_pure (.free rfl rfl) rfl rfl (po_inc rfl rfl rfl (by omega)) ?_ | refine sops_pure (.free rfl rfl) rfl rfl (po_arith rfl rfl rfl (ar_add (by first | rfl | (refine wrap_i64 ?_; omega)) rfl)) ?_) <;> (refine sops_pure (.free rfl rfl) rfl rfl (po_move rfl rfl) ?_) <;> (refine sops_nil ?_))
        | refine swp_ret ?_
        | refine swp_skip ?_
        | refine swp_block ?_
        | refine swp_exit ?_
        | refine block_go ?_
        | refine block_exit ?_
        | refine block_far rfl ?_
        | refine block_ret ?_
        | refine then_ret ?_
        | refine then_exit ?_
        | refine for_ret ?_
        | refine for_exit ?_
        | refine ct ?_
        | refine cf ?_
        | refine swp_cond rfl (fun hc => ?_) (fun hc => ?_)
        | refine retq (by first | exact .inr rfl | exact .inl rfl) rfl (.tmp rfl (by first | exact .t _ | exact .own rfl (by first | rfl | assumption | (simp; done) | (simp; omega)) | exact .nil _ | exact .emp _ | exact .fn _) .nil) ?_)
  · obtain rfl : k = l.length := by omega
    rw [List.take_length]
    repeat' (first
      | refine then_go ?_
      | refine swp_seq ?_
      | ((refine swp_region (id := 3) ?_) <;> (refine sops_pure (.free rfl rfl) rfl rfl (po_cmp rfl rfl rfl rfl) ?_) <;> (refine sops_nil ?_))
      | ((refine swp_region (id := 8) ?_) <;> (refine sops_pure (.free rfl rfl) rfl rfl (po_move rfl rfl) ?_) <;> (refine sops_pure (.free rfl rfl) rfl rfl (po_assign rfl rfl) ?_) <;> (refine sops_nil ?_))
      | refine swp_ret ?_
      | refine swp_skip ?_
      | refine swp_block ?_
      | refine swp_exit ?_
      | refine block_go ?_
      | refine block_exit ?_
      | refine block_far rfl ?_
      | refine block_ret ?_
      | refine then_ret ?_
      | refine then_exit ?_
      | refine for_ret ?_
      | refine for_exit ?_
      | refine ct ?_
      | refine cf ?_
      | refine swp_cond rfl (fun hc => ?_) (fun hc => ?_)
      | refine retq (by first | exact .inr rfl | exact .inl rfl) rfl (.tmp rfl (by first | exact .t _ | exact .own rfl (by first | rfl | assumption | (simp; done) | (simp; omega)) | exact .nil _ | exact .emp _ | exact .fn _) .nil) ?_)
    rfl
def longH (l : List Pl.Head) : Bool := decide (100 < l.length) || l.any fun h => decide (1000 < h.name.size) || decide (2000 < h.value.size)
theorem any_next {α : Type} {p : α → Bool} {l : List α} {k : Nat} (hk : k < l.length) (h : (l.take k).any p = false) (h2 : p l[k] = false) : (l.take (k + 1)).any p = false := by
  rw [List.take_succ_eq_append_getElem hk, List.any_append, h]; simp [h2]
theorem any_hit {α : Type} {p : α → Bool} {l : List α} {k : Nat} (hk : k < l.length) (h : p l[k] = true) : l.any p = true := List.any_eq_true.2 ⟨_, List.getElem_mem hk, h⟩
set_option maxRecDepth 100000 in
theorem long_ (l : List Pl.Head) : PCalls Tryd.prog 25 [headsT l] (.v (.bool (longH l))) := by
  have hml : (l.map headT).length = l.length := List.length_map _
  unfold longH
  refine pcalls_of Tryd.func25 rfl rfl Tryd.ntmps25 rfl ?_
  by_cases h100 : 100 < l.length
  · repeat' (first
      | refine then_go ?_
      | refine swp_seq ?_
      | ((refine swp_region (id := 0) ?_) <;> (refine sops_pure (.free rfl rfl) rfl rfl (po_assign rfl rfl) ?_) <;> (refine sops_nil ?_))
      | ((refine swp_region (id := 1) ?_) <;> (refine sops_pure (.free rfl rfl) rfl rfl (po_move rfl rfl) ?_) <;> (refine sops_pure (.free rfl rfl) rfl rfl (pln rfl (tyS rfl)) ?_) <;> (refine sops_pure (.free rfl rfl) rfl rfl (po_cmp rfl rfl rfl rfl) ?_) <;> (refine sops_nil ?_))
      | ((refine swp_region (id := 2) ?_) <;> (refine sops_pure (.free rfl rfl) rfl rfl (po_assign rfl rfl) ?_) <;> (refine sops_nil ?_))
      | refine swp_ret ?_
      | refine swp_skip ?_
      | refine swp_block ?_
      | refine swp_exit ?_
      | refine block_go ?_
      | refine block_exit ?_
      | refine block_far rfl ?_
      | refine block_ret ?_
      | refine then_ret ?_
      | refine then_exit ?_
      | refine for_ret ?_
      | refine for_exit ?_
      | refine ct ?_
      | refine cf ?_
      | refine swp_cond rfl (fun hc => ?_) (fun hc => ?_)
      | refine retq (by first | exact .inr rfl | exact .inl rfl) rfl (.tmp rfl (by first | exact .t _ | exact .own rfl (by first | rfl | assumption | (simp; done) | (simp; omega)) | exact .nil _ | exact .emp _ | exact .fn _) .nil) ?_)
    refine eq_b ?_
    simp [h100]
  · repeat' (first
      | refine then_go ?_
      | refine swp_seq ?_
      | ((refine swp_region (id := 0) ?_) <;> (refine sops_pure (.free rfl rfl) rfl rfl (po_assign rfl rfl) ?_) <;> (refine sops_nil ?_))
      | ((refine swp_region (id := 1) ?_) <;> (refine sops_pure (.free rfl rfl) rfl rfl (po_move rfl rfl) ?_) <;> (refine sops_pure (.free rfl rfl) rfl rfl (pln rfl (tyS rfl)) ?_) <;> (refine sops_pure (.free rfl rfl) rfl rfl (po_cmp rfl rfl rfl rfl) ?_) <;> (refine sops_nil ?_))
      | ((refine swp_region (id := 3) ?_) <;> (refine sops_pure (.free rfl rfl) rfl rfl (po_assign rfl rfl) ?_) <;> (refine sops_nil ?_))
      | refine swp_ret ?_
      | refine swp_skip ?_
      | refine swp_block ?_
      | refine swp_exit ?_
      | refine block_go ?_
      | refine block_exit ?_
      | refine block_far rfl ?_
      | refine block_ret ?_
      | refine then_ret ?_
      | refine then_exit ?_
      | refine for_ret ?_
      | refine for_exit ?_
      | refine ct ?_
      | refine cf ?_
      | refine swp_cond rfl (fun hc => ?_) (fun hc => ?_)
      | refine retq (by first | exact .inr rfl | exact .inl rfl) rfl (.tmp rfl (by first | exact .t _ | exact .own rfl (by first | rfl | assumption | (simp; done) | (simp; omega)) | exact .nil _ | exact .emp _ | exact .fn _) .nil) ?_)
    refine swp_for (fun k => ⟨[(0, .t (headsT l)), (3, .t (.v (.int .i64 (k : Int))))], [], []⟩) (fun k => (l.take k).any (fun h => decide (1000 < h.name.size) || decide (2000 < h.value.size)) = false) l.length (weak_sub (.cons rfl rfl rfl (.cons rfl rfl rfl .nil)) .nil .nil) rfl ?_
    intro k hk hI
    by_cases hlt : k < l.length
    · repeat' (first
        | refine then_go ?_
        | refine swp_seq ?_
        | refine for_next hlt (weak_sub (.cons rfl rfl rfl (.cons rfl rfl rfl .nil)) .nil .nil) ?_
        | ((refine swp_region (id := 4) ?_) <;> (refine sops_pure (.free rfl rfl) rfl rfl (po_move rfl rfl) ?_) <;> (refine sops_pure (.free rfl rfl) rfl rfl (po_move rfl rfl) ?_) <;> (refine sops_pure (.free rfl rfl) rfl rfl (pln rfl (tyS rfl)) ?_) <;> (refine sops_pure (.free rfl rfl) rfl rfl (po_cmp rfl rfl rfl rfl) ?_) <;> (refine sops_nil ?_))
        | ((refine swp_region (id := 6) ?_) <;> (refine sops_pure (.free rfl rfl) rfl rfl (po_move rfl rfl) ?_) <;> (refine sops_pure (.free rfl rfl) rfl rfl (po_move rfl rfl) ?_) <;> (refine sops_pure (.free rfl rfl) rfl rfl (pix rfl (tyS rfl)) ?_) <;> (first | refine sops_pure (.free rfl rfl) rfl rfl (po_field_bx rfl rfl (tyF rfl)) ?_ | refine sops_pure (.free rfl rfl) rfl rfl (po_field rfl rfl (tyF rfl)) ?_) <;> (first | refine sops_pure (.free rfl rfl) rfl rfl (po_load_bx rfl rfl (tyT rfl) rfl rfl) ?_ | refine sops_pure (.free rfl rfl) rfl rfl (po_load rfl rfl (tyT rfl) rfl) ?_) <;> (refine sops_pure (.free rfl rfl) rfl rfl (po_len_str rfl rfl (tyR rfl)) ?_) <;> (refine sops_pure (.free rfl rfl) rfl rfl (po_cmp rfl rfl rfl rfl) ?_) <;> (refine sops_pure (.free rfl rfl) rfl rfl (po_move rfl rfl) ?_) <;> (first | refine sops_pure gy rfl rfl (po_move rfl rfl) ?_ | refine sops_skip gn0 rfl rfl ?_ | ((refine sops_split rfl rfl rfl (fun hc => ?_) (fun hc => ?_)) <;> (first | refine sops_pure gy rfl rfl (po_move rfl rfl) ?_ | refine sops_skip gn0 rfl rfl ?_))) <;> (first | refine sops_pure gy rfl rfl (po_move rfl rfl) ?_ | refine sops_skip gn0 rfl rfl ?_) <;> (first | refine sops_pure gy rfl rfl (pix rfl (tyS rfl)) ?_ | refine sops_skip gn0 rfl rfl ?_) <;> (first | refine sops_pure gy rfl rfl (po_field_bx rfl rfl (tyF rfl)) ?_ | refine sops_pure gy rfl rfl (po_field rfl rfl (tyF rfl)) ?_ | refine sops_skip gn0 rfl rfl ?_) <;> (first | refine sops_pure gy rfl rfl (po_load_bx rfl rfl (tyT rfl) rfl rfl) ?_ | refine sops_pure gy rfl rfl (po_load rfl rfl (tyT rfl) rfl) ?_ | refine sops_skip gn0 rfl rfl ?_) <;> (first | refine sops_pure gy rfl rfl (po_len_str rfl rfl (tyR rfl)) ?_ | refine sops_skip gn0 rfl rfl ?_) <;> (first | refine sops_pure gy rfl rfl (po_cmp rfl rfl rfl rfl) ?_ | refine sops_skip gn0 rfl rfl ?_) <;> (first | refine sops_pure (.free rfl rfl) rfl rfl (pkt rfl) ?_ | refine sops_pure (.free rfl rfl) rfl rfl (pkf rfl) ?_) <;> (refine sops_nil ?_))
        | ((refine swp_region (id := 7) ?_) <;> (refine sops_pure (.free rfl rfl) rfl rfl (po_assign rfl rfl) ?_) <;> (refine sops_nil ?_))
        | ((refine swp_region (id := 5) ?_) <;> (refine sops_pure (.free rfl rfl) rfl rfl (po_move rfl rfl) ?_) <;> (first | refine sops_pure (.free rfl rfl) rfl rfl (po_inc rfl rfl rfl (by omega)) ?_ | refine sops_pure (.free rfl rfl) rfl rfl (po_arith rfl rfl rfl (ar_add (by first | rfl | (refine wrap_i64 ?_; omega)) rfl)) ?_) <;> (refine sops_pure (.free rfl rfl) rfl rfl (po_assign rfl rfl) ?_) <;> (refine sops_nil ?_))
        | refine swp_ret ?_
        | refine swp_skip ?_
        | refine swp_block ?_
        | refine swp_exit ?_
        | refine block_go ?_
        | refine block_exit ?_
        | refine block_far rfl ?_
        | refine block_ret ?_
        | refine then_ret ?_
        | refine then_exit ?_
        | refine for_ret ?_
        | refine for_exit ?_
        | refine ct ?_
        | refine cf ?_
        | refine swp_cond rfl (fun hc => ?_) (fun hc => ?_)
        | refine retq (by first | exact .inr rfl | exact .inl rfl) rfl (.tmp rfl (by first | exact .t _ | exact .own rfl (by first | rfl | assumption | (simp; done) | (simp; omega)) | exact .nil _ | exact .emp _ | exact .fn _) .nil) ?_)
      all_goals first
        | (refine eq_b ?_
           rw [any_hit hlt (by simp at *; omega)]; simp)
        | exact any_next hlt hI (by simp at *; omega)
    · obtain rfl : k = l.length := by omega
      rw [List.take_length] at hI
      repeat' (first
        | refine then_go ?_
        | refine swp_seq ?_
        | ((refine swp_region (id := 4) ?_) <;> (refine sops_pure (.free rfl rfl) rfl rfl (po_move rfl rfl) ?_) <;> (refine sops_pure (.free rfl rfl) rfl rfl (po_move rfl rfl) ?_) <;> (refine sops_pure (.free rfl rfl) rfl rfl (pln rfl (tyS rfl)) ?_) <;> (refine sops_pure (.free rfl rfl) rfl rfl (po_cmp rfl rfl rfl rfl) ?_) <;> (refine sops_nil ?_))
        | ((refine swp_region (id := 8) ?_) <;> (refine sops_pure (.free rfl rfl) rfl rfl (po_assign rfl rfl) ?_) <;> (refine sops_nil ?_))
        | refine swp_ret ?_
        | refine swp_skip ?_
        | refine swp_block ?_
        | refine swp_exit ?_
        | refine block_go ?_
        | refine block_exit ?_
        | refine block_far rfl ?_
        | refine block_ret ?_
        | refine then_ret ?_
        | refine then_exit ?_
        | refine for_ret ?_
        | refine for_exit ?_
        | refine ct ?_
        | refine cf ?_
        | refine swp_cond rfl (fun hc => ?_) (fun hc => ?_)
        | refine retq (by first | exact .inr rfl | exact .inl rfl) rfl (.tmp rfl (by first | exact .t _ | exact .own rfl (by first | rfl | assumption | (simp; done) | (simp; omega)) | exact .nil _ | exact .emp _ | exact .fn _) .nil) ?_)
      refine eq_b ?_
      rw [hI]; simp; omega
end Go.Proofs.YtcpbdcamfhoiaaaDoor.Hd

/- Headers: Texts: a walk. -/
namespace Go.Proofs.YtcpbdcamfhoiaaaDoor.Hd
set_option linter.unusedVariables false
set_option linter.unusedSimpArgs false
open Go.RowKit Mem Sim Opn
theorem take_eq_all {α : Type} {a b : List α} {k : Nat} (h1 : k < a.length) (h2 : k < b.length) (h : a.take k = b.take k) (he : a[k] = b[k]) : a.take (k + 1) = b.take (k + 1) := by
  rw [List.take_succ_eq_append_getElem h1, List.take_succ_eq_append_getElem h2, h, he]
set_option maxRecDepth 100000 in
theorem texts_ (a b : List ByteArray) (ha : a.length ≤ 1000) : PCalls Tryd.prog 43 [.sl 1 (a.map strT), .sl 1 (b.map strT)] (.v (.bool (decide (a = b)))) := by
  have hma : (a.map strT).length = a.length := List.length_map _
  have hmb : (b.map strT).length = b.length := List.length_map _
  refine pcalls_of Tryd.func43 rfl rfl Tryd.ntmps43 rfl ?_
  by_cases hl : a.length = b.length
  · have h0 : (!decide (((a.map strT).length : Int) = ((b.map strT).length : Int))) = false := by rw [hma, hmb, hl]; simp
    repeat' (first
      | refine then_go ?_
      | refine swp_seq ?_
      | ((refine swp_region (id := 0) ?_) <;> (refine sops_pure (.free rfl rfl) rfl rfl (po_assign rfl rfl) ?_) <;> (refine sops_nil ?_))
      | ((refine swp_region (id := 1) ?_) <;> (refine sops_pure (.free rfl rfl) rfl rfl (po_move rfl rfl) ?_) <;> (refine sops_pure (.free rfl rfl) rfl rfl (pln rfl (tyS rfl)) ?_) <;> (refine sops_pure (.free rfl rfl) rfl rfl (po_move rfl rfl) ?_) <;> (refine sops_pure (.free rfl rfl) rfl rfl (pln rfl (tyS rfl)) ?_) <;> (refine sops_pure (.free rfl rfl) rfl rfl (po_cmp rfl rfl rfl rfl) ?_) <;> (refine sops_nil ?_))
      | ((refine swp_region (id := 3) ?_) <;> (refine sops_pure (.free rfl rfl) rfl rfl (po_assign rfl rfl) ?_) <;> (refine sops_nil ?_))
      | refine swp_ret ?_
      | refine swp_skip ?_
      | refine swp_block ?_
      | refine swp_exit ?_
      | refine block_go ?_
      | refine block_exit ?_
      | refine block_far rfl ?_
      | refine block_ret ?_
      | refine then_ret ?_
      | refine then_exit ?_
      | refine for_ret ?_
      | refine for_exit ?_
      | refine ct ?_
      | refine cf ?_
      | refine swp_cond rfl (fun hc => ?_) (fun hc => ?_)
      | refine retq (by first | exact .inr rfl | exact .inl rfl) rfl (.tmp rfl (by first | exact .t _ | exact .own rfl (by first | rfl | assumption | (simp; done) | (simp; omega)) | exact .nil _ | exact .emp _ | exact .fn _) .nil) ?_)
    refine swp_for (fun k => ⟨[(0, .t (.sl 1 (a.map strT))), (1, .t (.sl 1 (b.map strT))), (5, .t (.v (.int .i64 (k : Int))))], [], []⟩) (fun k => a.take k = b.take k) a.length (weak_sub (.cons rfl rfl rfl (.cons rfl rfl rfl (.cons rfl rfl rfl .nil))) .nil .nil) rfl ?_
    intro k hk hI
    by_cases hlt : k < a.length
    · have hlb : k < b.length := by omega
      by_cases he : a[k] = b[k]
      · have hq : (!decide (a[k] = b[k])) = false := by simp [he]
        repeat' (first
          | refine then_go ?_
          | refine swp_seq ?_
          | refine for_next hlt (weak_sub (.cons rfl rfl rfl (.cons rfl rfl rfl (.cons rfl rfl rfl .nil))) .nil .nil) ?_
          | ((refine swp_region (id := 4) ?_) <;> (refine sops_pure (.free rfl rfl) rfl rfl (po_move rfl rfl) ?_) <;> (refine sops_pure (.free rfl rfl) rfl rfl (po_move rfl rfl) ?_) <;> (refine sops_pure (.free rfl rfl) rfl rfl (pln rfl (tyS rfl)) ?_) <;> (refine sops_pure (.free rfl rfl) rfl rfl (po_cmp rfl rfl rfl rfl) ?_) <;> (refine sops_nil ?_))
          | ((refine swp_draw_all (id := 6) mixed (by kernel_rfl) (by kernel_rfl) ?_) <;> (refine sdraw_pure (.free rfl rfl) rfl (po_move rfl rfl) ?_) <;> (refine sdraw_pure (.free rfl rfl) rfl (po_move rfl rfl) ?_) <;> (refine sdraw_pure (.free rfl rfl) rfl (pix rfl (tyS rfl)) ?_) <;> (first | refine sdraw_pure (.free rfl rfl) rfl (po_load_bx rfl rfl (tyT rfl) rfl rfl) ?_ | refine sdraw_pure (.free rfl rfl) rfl (po_load rfl rfl (tyT rfl) rfl) ?_) <;> (refine sdraw_pure (.free rfl rfl) rfl (po_move rfl rfl) ?_) <;> (refine sdraw_pure (.free rfl rfl) rfl (po_move rfl rfl) ?_) <;> (refine sdraw_pure (.free rfl rfl) rfl (pix rfl (tyS rfl)) ?_) <;> (first | refine sdraw_pure (.free rfl rfl) rfl (po_load_bx rfl rfl (tyT rfl) rfl rfl) ?_ | refine sdraw_pure (.free rfl rfl) rfl (po_load rfl rfl (tyT rfl) rfl) ?_) <;> (refine sdraw_pure (.free rfl rfl) rfl (po_str rfl rfl rfl rfl) ?_) <;> (refine sdraw_nil ?_) <;> (refine sops_nil ?_))
          | ((refine swp_region (id := 5) ?_) <;> (refine sops_pure (.free rfl rfl) rfl rfl (po_move rfl rfl) ?_) <;> (first | refine sops_pure (.free rfl rfl) rfl rfl (po_inc rfl rfl rfl (by omega)) ?_ | refine sops_pure (.free rfl rfl) rfl rfl (po_arith rfl rfl rfl (ar_add (by first | rfl | (refine wrap_i64 ?_; omega)) rfl)) ?_) <;> (refine sops_pure (.free rfl rfl) rfl rfl (po_assign rfl rfl) ?_) <;> (refine sops_nil ?_))
          | refine swp_ret ?_
          | refine swp_skip ?_
          | refine swp_block ?_
          | refine swp_exit ?_
          | refine block_go ?_
          | refine block_exit ?_
          | refine block_far rfl ?_
          | refine block_ret ?_
          | refine then_ret ?_
          | refine then_exit ?_
          | refine for_ret ?_
          | refine for_exit ?_
          | refine ct ?_
          | refine cf ?_
          | refine swp_cond rfl (fun hc => ?_) (fun hc => ?_)
          | refine retq (by first | exact .inr rfl | exact .inl rfl) rfl (.tmp rfl (by first | exact .t _ | exact .own rfl (by first | rfl | assumption | (simp; done) | (simp; omega)) | exact .nil _ | exact .emp _ | exact .fn _) .nil) ?_)
        exact take_eq_all hlt hlb hI he
      · have hq : (!decide (a[k] = b[k])) = true := by simp [he]
        repeat' (first
          | refine then_go ?_
          | refine swp_seq ?_
          | ((refine swp_region (id := 4) ?_) <;> (refine sops_pure (.free rfl rfl) rfl rfl (po_move rfl rfl) ?_) <;> (refine sops_pure (.free rfl rfl) rfl rfl (po_move rfl rfl) ?_) <;> (refine sops_pure (.free rfl rfl) rfl rfl (pln rfl (tyS rfl)) ?_) <;> (refine sops_pure (.free rfl rfl) rfl rfl (po_cmp rfl rfl rfl rfl) ?_) <;> (refine sops_nil ?_))
          | ((refine swp_draw_all (id := 6) mixed (by kernel_rfl) (by kernel_rfl) ?_) <;> (refine sdraw_pure (.free rfl rfl) rfl (po_move rfl rfl) ?_) <;> (refine sdraw_pure (.free rfl rfl) rfl (po_move rfl rfl) ?_) <;> (refine sdraw_pure (.free rfl rfl) rfl (pix rfl (tyS rfl)) ?_) <;> (first | refine sdraw_pure (.free rfl rfl) rfl (po_load_bx rfl rfl (tyT rfl) rfl rfl) ?_ | refine sdraw_pure (.free rfl rfl) rfl (po_load rfl rfl (tyT rfl) rfl) ?_) <;> (refine sdraw_pure (.free rfl rfl) rfl (po_move rfl rfl) ?_) <;> (refine sdraw_pure (.free rfl rfl) rfl (po_move rfl rfl) ?_) <;> (refine sdraw_pure (.free rfl rfl) rfl (pix rfl (tyS rfl)) ?_) <;> (first | refine sdraw_pure (.free rfl rfl) rfl (po_load_bx rfl rfl (tyT rfl) rfl rfl) ?_ | refine sdraw_pure (.free rfl rfl) rfl (po_load rfl rfl (tyT rfl) rfl) ?_) <;> (refine sdraw_pure (.free rfl rfl) rfl (po_str rfl rfl rfl rfl) ?_) <;> (refine sdraw_nil ?_) <;> (refine sops_nil ?_))
          | ((refine swp_region (id := 7) ?_) <;> (refine sops_pure (.free rfl rfl) rfl rfl (po_assign rfl rfl) ?_) <;> (refine sops_nil ?_))
          | refine swp_ret ?_
          | refine swp_skip ?_
          | refine swp_block ?_
          | refine swp_exit ?_
          | refine block_go ?_
          | refine block_exit ?_
          | refine block_far rfl ?_
          | refine block_ret ?_
          | refine then_ret ?_
          | refine then_exit ?_
          | refine for_ret ?_
          | refine for_exit ?_
          | refine ct ?_
          | refine cf ?_
          | refine swp_cond rfl (fun hc => ?_) (fun hc => ?_)
          | refine retq (by first | exact .inr rfl | exact .inl rfl) rfl (.tmp rfl (by first | exact .t _ | exact .own rfl (by first | rfl | assumption | (simp; done) | (simp; omega)) | exact .nil _ | exact .emp _ | exact .fn _) .nil) ?_)
        refine eq_b ?_
        have hne : a ≠ b := fun e => he (by subst e; rfl)
        simp [hne]
    · repeat' (first
        | refine then_go ?_
        | refine swp_seq ?_
        | ((refine swp_region (id := 4) ?_) <;> (refine sops_pure (.free rfl rfl) rfl rfl (po_move rfl rfl) ?_) <;> (refine sops_pure (.free rfl rfl) rfl rfl (po_move rfl rfl) ?_) <;> (refine sops_pure (.free rfl rfl) rfl rfl (pln rfl (tyS rfl)) ?_) <;> (refine sops_pure (.free rfl rfl) rfl rfl (po_cmp rfl rfl rfl rfl) ?_) <;> (refine sops_nil ?_))
        | ((refine swp_region (id := 8) ?_) <;> (refine sops_pure (.free rfl rfl) rfl rfl (po_assign rfl rfl) ?_) <;> (refine sops_nil ?_))
        | refine swp_ret ?_
        | refine swp_skip ?_
        | refine swp_block ?_
        | refine swp_exit ?_
        | refine block_go ?_
        | refine block_exit ?_
        | refine block_far rfl ?_
        | refine block_ret ?_
        | refine then_ret ?_
        | refine then_exit ?_
        | refine for_ret ?_
        | refine for_exit ?_
        | refine ct ?_
        | refine cf ?_
        | refine swp_cond rfl (fun hc => ?_) (fun hc => ?_)
        | refine retq (by first | exact .inr rfl | exact .inl rfl) rfl (.tmp rfl (by first | exact .t _ | exact .own rfl (by first | rfl | assumption | (simp; done) | (simp; omega)) | exact .nil _ | exact .emp _ | exact .fn _) .nil) ?_)
      refine eq_b ?_
      rw [List.take_of_length_le (by omega), List.take_of_length_le (by omega)] at hI
      simp [hI]
  · have h0 : (!decide (((a.map strT).length : Int) = ((b.map strT).length : Int))) = true := by rw [hma, hmb]; simp; omega
    repeat' (first
      | refine then_go ?_
      | refine swp_seq ?_
      | ((refine swp_region (id := 0) ?_) <;> (refine sops_pure (.free rfl rfl) rfl rfl (po_assign rfl rfl) ?_) <;> (refine sops_nil ?_))
      | ((refine swp_region (id := 1) ?_) <;> (refine sops_pure (.free rfl rfl) rfl rfl (po_move rfl rfl) ?_) <;> (refine sops_pure (.free rfl rfl) rfl rfl (pln rfl (tyS rfl)) ?_) <;> (refine sops_pure (.free rfl rfl) rfl rfl (po_move rfl rfl) ?_) <;> (refine sops_pure (.free rfl rfl) rfl rfl (pln rfl (tyS rfl)) ?_) <;> (refine sops_pure (.free rfl rfl) rfl rfl (po_cmp rfl rfl rfl rfl) ?_) <;> (refine sops_nil ?_))
      | ((refine swp_region (id := 2) ?_) <;> (refine sops_pure (.free rfl rfl) rfl rfl (po_assign rfl rfl) ?_) <;> (refine sops_nil ?_))
      | refine swp_ret ?_
      | refine swp_skip ?_
      | refine swp_block ?_
      | refine swp_exit ?_
      | refine block_go ?_
      | refine block_exit ?_
      | refine block_far rfl ?_
      | refine block_ret ?_
      | refine then_ret ?_
      | refine then_exit ?_
      | refine for_ret ?_
      | refine for_exit ?_
      | refine ct ?_
      | refine cf ?_
      | refine swp_cond rfl (fun hc => ?_) (fun hc => ?_)
      | refine retq (by first | exact .inr rfl | exact .inl rfl) rfl (.tmp rfl (by first | exact .t _ | exact .own rfl (by first | rfl | assumption | (simp; done) | (simp; omega)) | exact .nil _ | exact .emp _ | exact .fn _) .nil) ?_)
    refine eq_b ?_
    have hne : a ≠ b := fun e => hl (by rw [e])
    simp [hne]
end Go.Proofs.YtcpbdcamfhoiaaaDoor.Hd
