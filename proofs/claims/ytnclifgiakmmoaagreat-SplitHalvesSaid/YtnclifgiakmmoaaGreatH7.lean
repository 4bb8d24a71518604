/- Merged by bundles.py: SimJ, SimM. -/
import Derived.Test.YtnclifgiakmmoaaGreatH6
/- A logic of states: from slices in memory to data, and back; contracts of other walks. -/
namespace Go.Proofs.YtnclifgiakmmoaaGreat.Sim
set_option linter.unusedVariables false
set_option linter.unusedSimpArgs false
open Go.RowKit Mem

theorem tr_rows_fwd {α : Type} {R : Mem.Rel α} {enc : α → List T} {sz : Nat} {m : Mm} {w : World} (hs : Sub m w) (h0 : 0 < sz) {l : List α} {v : Value} (h : TR m (.sl sz (l.map enc)) v) (hR : ∀ x ∈ l, ∀ us : List Value, CellsAre m (enc x) us → R w.heap.size w x us) :
    ∃ A cap, v = .slice A l.length cap ∧ SliceAt R sz w.heap.size w A l ∧ l.length ≤ cap ∧ cap ≤ maxLen := by
  have key : ∀ {rows : List (List T)} {v : Value}, TR m (.sl sz rows) v → rows = l.map enc → ∃ A cap, v = .slice A l.length cap ∧ SliceAt R sz w.heap.size w A l ∧ l.length ≤ cap ∧ cap ≤ maxLen := by
    intro rows v h he
    cases h with
    | sl _ _ A b off cap u hc hm hA hr hu ht =>
      have hll : rows.length = l.length := by rw [he]; simp
      refine ⟨A, cap, by rw [hll], ?_, by omega, hm⟩
      intro k x hx
      have hk : rows[k]? = some (enc x) := by rw [he]; simp [hx]
      have hne : rows ≠ [] := fun e => by rw [e] at hk; simp at hk
      have hel := hr (enc x) (List.mem_of_getElem? hk)
      have hat : ∀ (j : Nat) v, ((List.range sz).map (u k))[j]? = some v → ∃ t, (enc x)[j]? = some t ∧ v = u k j := fun j v hj => by
        have hjn : j < sz := by have := (List.getElem?_eq_some_iff.1 hj).1; simpa using this
        rw [List.getElem?_map, List.getElem?_range hjn] at hj
        exact ⟨_, List.getElem?_eq_getElem (by omega), by simpa using hj.symm⟩
      refine ⟨b, off, (List.range sz).map (u k), hA hne, ?_, by simp, ?_, ?_⟩
      · obtain ⟨t, h1⟩ : ∃ t, (enc x)[0]? = some t := ⟨_, List.getElem?_eq_getElem (by omega)⟩
        exact hs.lt (hu k 0 _ t hk h1).1
      · intro j v hj
        obtain ⟨t, h1, rfl⟩ := hat j v hj
        exact hs _ _ _ (hu k j _ t hk h1).1
      · refine hR x (List.mem_of_getElem? hx) _ ⟨by simp [hel], fun j t v h1 h2 => ?_⟩
        obtain ⟨t', h3, rfl⟩ := hat j v h2
        exact ⟨ht k j _ t hk h1, (hu k j _ t hk h1).2⟩
  exact key h rfl
theorem tr_rows_bwd {α : Type} {R : Mem.Rel α} {enc : α → List T} {sz B : Nat} (m : Mm) {w : World} {A : Option Addr} {l : List α} {cap : Nat} (hA : SliceAt R sz B w A l) (h1 : l.length ≤ cap) (h2 : cap ≤ maxLen) (hsz : ∀ x, (enc x).length = sz)
    (hR : ∀ x ∈ l, ∀ cs, R B w x cs → CellsAre m (enc x) cs) (hm : ∀ b o v, b < B → w.cell? ⟨b, o, none⟩ = some v → m b o = some v) : TR m (.sl sz (l.map enc)) (.slice A l.length cap) := by
  have hlen : (l.map enc).length = l.length := List.length_map _
  rw [← hlen] at h1 ⊢
  cases l with
  | nil => exact tr_nil m sz h2
  | cons x0 r =>
    obtain ⟨b, off, cs0, rfl, hb, -, -, -⟩ := hA 0 x0 rfl
    have hat : ∀ (k : Nat) row, ((x0 :: r).map enc)[k]? = some row → ∃ cs : List Value, cs.length = sz ∧ (∀ (j : Nat) v, cs[j]? = some v → m b (off + (k * sz + j)) = some v) ∧ CellsAre m row cs := by
      intro k row hk
      rw [List.getElem?_map] at hk
      cases hx : (x0 :: r)[k]? with
      | none => rw [hx] at hk; cases hk
      | some x =>
        rw [hx] at hk
        simp at hk; subst hk
        obtain ⟨b', off', cs, e, hb', hl, hc, hr⟩ := hA k x hx
        injection e with e; injection e with e1 e2; subst e1 e2
        exact ⟨cs, hl, fun j v hj => hm _ _ _ hb (hc j v hj), hR x (List.mem_of_getElem? hx) cs hr⟩
    refine .sl sz _ (some ⟨b, off, none⟩) b off cap (fun k j => (m b (off + (k * sz + j))).getD undef) h1 h2 (fun _ => rfl) ?_ ?_ ?_
    · intro row hrow
      obtain ⟨x, _, rfl⟩ := List.mem_map.1 hrow
      exact hsz x
    all_goals
      intro k j row t hk hj
      obtain ⟨cs, hl, hc, hce⟩ := hat k row hk
      have hjl : j < cs.length := by rw [hce.1]; exact (List.getElem?_eq_some_iff.1 hj).1
      have h3 := hc j cs[j] (List.getElem?_eq_getElem hjl)
      have h4 := hce.2 j t cs[j] hj (List.getElem?_eq_getElem hjl)
      rw [h3]
    · exact ⟨rfl, h4.2⟩
    · exact h4.1
theorem args1 {m : Mm} {t0 : T} {vals : Array Value} (hl : vals.size = [t0].length) (hv : ∀ (i : Nat) t v, [t0][i]? = some t → vals[i]? = some v → TR m t v) : ∃ x0, vals = #[x0] ∧ TR m t0 x0 := by
  obtain ⟨l⟩ := vals
  match l, hl with
  | [x0], _ => exact ⟨x0, rfl, hv 0 _ _ rfl rfl⟩
theorem args3 {m : Mm} {t0 t1 t2 : T} {vals : Array Value} (hl : vals.size = [t0, t1, t2].length) (hv : ∀ (i : Nat) t v, [t0, t1, t2][i]? = some t → vals[i]? = some v → TR m t v) : ∃ x0 x1 x2, vals = #[x0, x1, x2] ∧ TR m t0 x0 ∧ TR m t1 x1 ∧ TR m t2 x2 := by
  obtain ⟨l⟩ := vals
  match l, hl with
  | [x0, x1, x2], _ => exact ⟨x0, x1, x2, rfl, hv 0 _ _ rfl rfl, hv 1 _ _ rfl rfl, hv 2 _ _ rfl rfl⟩
theorem ent_of {P : Program} {f : FuncId} {fn : Func} {c : Code} (hf : P.funcs[f]? = some fn) (hb : fn.body = some c) (hname : (fn.name == "runtime.NumGoroutine") = false) : ∀ (args : Array Value) (w : World), (callFunc f args).run P w = .ok (.enter f args) w := fun args w => by
  have hname' : ¬ fn.name = "runtime.NumGoroutine" := by simpa using hname
  simp [callFunc, hf, hname', hb]
/-- what another walk shows: a result just so -/
theorem post_ex {m : Mm} {w w' : World} {v : Value} {t : T} (hs : Sub m w) (hl : Lo w w') (h : TR (upm m w w') t v) : ∃ v' m', Ending.returned v = .returned v' ∧ Lo w w' ∧ Ext m m' w.heap.size ∧ Sub m' w' ∧ TR m' t v' ∧ NFx m m' w' :=
  ⟨v, _, rfl, hl, ext_upm hs, upm_sub hs hl, h, upm_nf⟩
/-- the memory of a call's beginning, all of it -/
def allm (w : World) : Mm := fun b o => w.cell? ⟨b, o, none⟩
theorem sub_allm (w : World) : Sub (allm w) w := fun _ _ _ h => h
theorem PCalls.law {P : Program} {f : FuncId} {args : List T} {v : Value} (h : PCalls P f args (.v v)) (w : World) (vals : Array Value) (hl : vals.size = args.length) (hv : ∀ (i : Nat) t v, args[i]? = some t → vals[i]? = some v → TR (allm w) t v) (hT : GT (allm w) := by exact fun _ _ _ h => Option.noConfusion h) :
    Calls P f vals w fun e w' => e = .returned v ∧ Lo w w' :=
  (h.run (allm w) w vals (sub_allm w) hl hv hT).mono fun e w' ⟨x, m', h1, h2, _, _, h3, _⟩ => ⟨by rw [h1, tr_v h3], h2⟩
theorem cells_ex {m : Mm} {ts : List T} {us : List Value} (h : CellsAre m ts us) (vs : List Value) (he : ts = vs.map .v) : us = vs := by
  subst he
  refine List.ext_getElem? fun j => ?_
  by_cases hj : j < vs.length
  · have hju : j < us.length := by rw [h.1]; simpa using hj
    have := (h.2 j (.v vs[j]) us[j] (by simp [hj]) (List.getElem?_eq_getElem hju)).1
    rw [List.getElem?_eq_getElem hju, List.getElem?_eq_getElem hj, tr_v this]
  · rw [List.getElem?_eq_none (by rw [h.1]; simpa using hj), List.getElem?_eq_none (by omega)]
end Go.Proofs.YtnclifgiakmmoaaGreat.Sim

/- A logic of states: rows that may be written; rows lent to a call. -/
namespace Go.Proofs.YtnclifgiakmmoaaGreat.Sim
set_option linter.unusedVariables false
set_option linter.unusedSimpArgs false
open Go.RowKit Mem
section
variable {P : Program} {bx : List (Nat × List A)} {ow : List (Nat × Own)} {o : Oper} {ρ : Operand → Option A} {r : A}
theorem own_form {w : World} {base : Nat} {e : TypeId} {sz : Nat} {v : Value} {n : Nat} {vs : List Value} (h : RowM w base e sz v n vs) (hn : 0 < n) : ∃ b cap cur, v = .slice (some ⟨b, 0, none⟩) n cap ∧ base ≤ b ∧ (∃ fz, w.heap[b]? = some (.cells cur e fz) ∧ FzOk fz cur.size) ∧ n ≤ cap ∧ cap ≤ maxLen ∧ cap * sz ≤ cur.size ∧ cur.toList.take (n * sz) = vs := by
  obtain ⟨_, ⟨_, h0⟩ | ⟨b, cap, cur, h1⟩⟩ := h
  · omega
  · exact ⟨b, cap, cur, h1⟩
/-- a place in a row of the call's own -/
theorem po_index_own {t e : TypeId} {x ix : Operand} {i nn sz k : Nat} {rows : List (List T)} {n : Int} {ik : IntKind} (ho : o.op = .indexAddr t x ix) (hx : ρ x = some (.own i nn)) (hi : get ow i = some ⟨e, sz, rows⟩) (hnn : nn = rows.length) (hix : ρ ix = some (.t (.v (.int ik n)))) (hT : sliceSz P t = some sz) (hn : n = (k : Int)) (hk : k < nn) : PureOp P bx ow o ρ (.oe i nn sz k 0) := pure_run fun C m g w a he h => by
  obtain ⟨h1, h2, _, h4⟩ := h x (by simp [ho, Op.operands]) _ hx
  have h5 := tr_v (h ix (by simp [ho, Op.operands]) _ hix)
  have hln := he.ln i _ hi
  have hv := h4 (by rw [hln]; exact hnn)
  obtain ⟨e', ii, hu, hie, hs⟩ := sliceSz_spec hT
  obtain ⟨vs, hown, _⟩ := he.owns i _ hi
  dsimp only at hown
  obtain ⟨b, cap, cur, e1, _⟩ := own_form hown (by omega)
  rw [e1] at hv
  subst hn hnn
  have hlt : (k : Int) < (rows.length : Int) := by omega
  refine ⟨.pointer (some ⟨b, k * sz, none⟩), ?_, h1, h2, ⟨_, rfl⟩, fun _ => ⟨b, by rw [e1]; rfl, by simp⟩⟩
  simp [execOp, ho, hv, h5, Instr.indexAt, asIntOf, run_underlying hu, sizeOf, typeInfo, hie, hs, hk, addr_add]
theorem po_field_own {s : TypeId} {x : Operand} {f q i nn sz k off : Nat} {o' : Own} (ho : o.op = .fieldAddr s x f) (hx : ρ x = some (.oe i nn sz k off)) (hi : get ow i = some o') (hnn : nn = o'.rows.length) (hq : fieldOff P s f = some q) : PureOp P bx ow o ρ (.oe i nn sz k (off + q)) := pure_run fun C m g w a he h => by
  obtain ⟨h1, h2, _, h4⟩ := h x (by simp [ho, Op.operands]) _ hx
  have hln := he.ln i _ hi
  obtain ⟨b, h5, h6⟩ := h4 (by rw [hln]; exact hnn)
  refine ⟨.pointer (some ⟨b, k * sz + off + q, none⟩), by simp only [execOp, ho, h6, Sem.run_bind, run_field hq]; rfl, h1, h2, ⟨_, rfl⟩, fun _ => ⟨b, h5, by rw [Nat.add_assoc]⟩⟩
/-- an element's cell -/
theorem own_cell {C : Ctx} {w : World} {m : Mm} {g : Gh} (he : EnvG C bx ow w m g) {i b k j : Nat} {e : TypeId} {sz : Nat} {rows : List (List T)} {row : List T} {t : T} (hi : get ow i = some ⟨e, sz, rows⟩) (hb : (g.go i).ownBlock = some b) (hk : rows[k]? = some row) (hj : row[j]? = some t) : ∃ u, w.cell? ⟨b, k * sz + j, none⟩ = some u ∧ TR m t u ∧ u.oneCell' = true := by
  obtain ⟨vs, hown, hr, hc, _⟩ := he.owns i _ hi
  dsimp only at hown hr hc
  have h1 := flat_get hr hk hj
  have h2 : k * sz + j < vs.length := by rw [hc.1]; exact (List.getElem?_eq_some_iff.1 h1).1
  have h3 := hown.cells hb (k * sz + j) _ (List.getElem?_eq_getElem h2)
  rw [addr_add, Nat.zero_add] at h3
  exact ⟨_, h3, hc.2 _ t _ h1 (List.getElem?_eq_getElem h2)⟩
theorem po_load_own {ty e : TypeId} {x : Operand} {i nn sz k off n : Nat} {rows : List (List T)} {row : List T} {t : T} (ho : o.op = .load ty x) (hx : ρ x = some (.oe i nn sz k off)) (hi : get ow i = some ⟨e, sz, rows⟩) (hnn : nn = rows.length) (hT : tyI P ty = some (false, n)) (hk : rows[k]? = some row) (ht : row[off]? = some t) : PureOp P bx ow o ρ (.t t) := pure_run fun C m g w a he h => by
  obtain ⟨h1, h2, _, h4⟩ := h x (by simp [ho, Op.operands]) _ hx
  obtain ⟨b, h5, h6⟩ := h4 (by rw [he.ln i _ hi]; exact hnn)
  obtain ⟨u, h7, h8, _⟩ := own_cell he hi h5 hk ht
  exact ⟨u, by simp [execOp, ho, h6, run_load_scalar hT h7], h8⟩
theorem po_load_own_agg {ty e : TypeId} {x : Operand} {i nn sz k off n : Nat} {rows : List (List T)} {row ts : List T} (ho : o.op = .load ty x) (hx : ρ x = some (.oe i nn sz k off)) (hi : get ow i = some ⟨e, sz, rows⟩) (hnn : nn = rows.length) (hT : tyI P ty = some (true, n)) (hk : rows[k]? = some row) (hn : ts.length = n) (ht : (row.drop off).take n = ts) : PureOp P bx ow o ρ (.t (.agg ts)) := pure_run fun C m g w a he h => by
  obtain ⟨h1, h2, _, h4⟩ := h x (by simp [ho, Op.operands]) _ hx
  obtain ⟨b, h5, h6⟩ := h4 (by rw [he.ln i _ hi]; exact hnn)
  have hts : ∀ (j : Nat) t, ts[j]? = some t → row[off + j]? = some t := fun j t hj => by
    have hjn : j < n := by rw [← hn]; exact (List.getElem?_eq_some_iff.1 hj).1
    rw [← ht, List.getElem?_take_of_lt hjn, List.getElem?_drop] at hj; exact hj
  have hcell : ∀ j, j < n → ∃ u t, w.cell? ⟨b, k * sz + off + j, none⟩ = some u ∧ ts[j]? = some t ∧ TR m t u ∧ u.oneCell' = true := fun j hj => by
    have h7 := List.getElem?_eq_getElem (show j < ts.length by omega)
    obtain ⟨u, h8, h9⟩ := own_cell he hi h5 hk (hts j _ h7)
    rw [← Nat.add_assoc] at h8
    exact ⟨u, _, h8, h7, h9⟩
  have hf : ∃ us : List Value, us.length = n ∧ ∀ j, j < n → ∃ u t, us[j]? = some u ∧ w.cell? ⟨b, k * sz + off + j, none⟩ = some u ∧ ts[j]? = some t ∧ TR m t u ∧ u.oneCell' = true := by
    refine ⟨(List.range n).map fun j => (w.cell? ⟨b, k * sz + off + j, none⟩).getD undef, by simp, fun j hj => ?_⟩
    obtain ⟨u, t, h8, h9, h10⟩ := hcell j hj
    exact ⟨u, t, by simp [hj, h8], h8, h9, h10⟩
  obtain ⟨us, hul, hus⟩ := hf
  have hat : ∀ (j : Nat) v, us[j]? = some v → ∃ t, w.cell? ⟨b, k * sz + off + j, none⟩ = some v ∧ ts[j]? = some t ∧ TR m t v ∧ v.oneCell' = true := fun j v hj => by
    have hjn : j < n := by rw [← hul]; exact (List.getElem?_eq_some_iff.1 hj).1
    obtain ⟨u, t, h8, h9, h10⟩ := hus j hjn
    rw [hj] at h8; injection h8 with h8; subst h8
    exact ⟨t, h9, h10⟩
  refine ⟨.agg us.toArray, by simp only [execOp, ho, h6, Sem.run_bind, run_load_agg hT hul (fun j v hj => (hat j v hj).choose_spec.1)]; rfl, .agg ts _ (by simp [hn, hul]) ?_ ?_⟩
  · intro v hv'
    obtain ⟨j, hj⟩ := List.getElem?_of_mem hv'
    obtain ⟨t, _, _, _, h11⟩ := hat j v (by simpa using hj)
    exact h11
  · intro j t v h3 h4'
    obtain ⟨t', _, h9, h10, _⟩ := hat j v (by simpa using h4')
    rw [h3] at h9; injection h9 with h9; subst h9
    exact h10
end
theorem flat_set {sz : Nat} {rows : List (List T)} (hr : ∀ r ∈ rows, r.length = sz) {k : Nat} {row row' : List T} (hk : rows[k]? = some row) (hl : row'.length = sz) : (rows.set k row').flatten = rows.flatten.take (k * sz) ++ (row' ++ rows.flatten.drop (k * sz + sz)) := by
  induction rows generalizing k with
  | nil => simp at hk
  | cons q rs ih =>
    have hq := hr q (by simp)
    cases k with
    | zero =>
      simp only [List.set_cons_zero, List.flatten_cons, Nat.zero_mul, Nat.zero_add, List.take_zero, List.nil_append]
      rw [List.drop_append_of_le_length (by omega), List.drop_eq_nil_of_le (by omega), List.nil_append]
    | succ k =>
      simp at hk
      simp only [List.set_cons_succ, List.flatten_cons]
      rw [ih (fun x hx => hr x (by simp [hx])) hk, Nat.succ_mul]
      have h1 : (q ++ rs.flatten).take (k * sz + sz) = q ++ rs.flatten.take (k * sz) := by
        rw [List.take_append, List.take_of_length_le (l := q) (by omega)]; congr 2; omega
      have h2 : (q ++ rs.flatten).drop (k * sz + sz + sz) = rs.flatten.drop (k * sz + sz) := by
        rw [List.drop_append, List.drop_eq_nil_of_le (show q.length ≤ k * sz + sz + sz by omega), List.nil_append]; congr 1; omega
      rw [h1, h2, List.append_assoc]
theorem set_self {α : Type} {l : List α} {k : Nat} {x : α} (h : l[k]? = some x) : l.set k x = l := by
  obtain ⟨hk, rfl⟩ := List.getElem?_eq_some_iff.1 h
  exact List.set_getElem_self hk
theorem take_mid {α : Type} (a b c : List α) (n : Nat) (h : n ≤ b.length) : (a ++ (b ++ c)).take (a.length + n) = a ++ b.take n := by
  rw [List.take_append, List.take_of_length_le (by omega), show a.length + n - a.length = n by omega, List.take_append_of_le_length h]
theorem drop_mid {α : Type} (a b c : List α) (n : Nat) (h : n ≤ b.length) : (a ++ (b ++ c)).drop (a.length + n) = b.drop n ++ c := by
  rw [List.drop_append, List.drop_eq_nil_of_le (by omega), show a.length + n - a.length = n by omega, List.drop_append_of_le_length h, List.nil_append]
section
variable {C : Ctx} {bx : List (Nat × List A)} {ow : List (Nat × Own)} {w : World} {m : Mm} {g : Gh}
/-- a row's elements written -/
theorem EnvG.setE (he : EnvG C bx ow w m g) {i b cap : Nat} {e : TypeId} {sz : Nat} {rows rows' : List (List T)} {cur cur' : Array Value} {vs' : List Value} (hh : hid i = true) (hi : get ow i = some ⟨e, sz, rows⟩) (hl : rows'.length = rows.length)
    (hgo : g.go i = .slice (some ⟨b, 0, none⟩) rows.length cap) {fz : Nat × Nat} (hcells : w.heap[b]? = some (.cells cur e fz)) (hfz : FzOk fz cur.size) (hr : ∀ r ∈ rows', r.length = sz) (hc : CellsAre m rows'.flatten vs') (hcs : cur'.size = cur.size) (htk : cur'.toList.take (rows.length * sz) = vs') :
    EnvG C bx ((i, ⟨e, sz, rows'⟩) :: ow) (w.setRow b cur') m g := by
  obtain ⟨vs, hown, hr0, hc0, hb0⟩ := he.owns i _ hi
  dsimp only at hown hr0 hc0 hb0
  have hblk : (g.go i).ownBlock = some b := by rw [hgo]; rfl
  obtain ⟨hmb, hbx, hmi⟩ := hb0 b hblk
  have hlt := hown.lt b hblk
  have hmn : ∀ k, m b k = none := fun k => by rw [hmb k, vis_hid hh]; rfl
  have hsame := setRow_heap w b cur cur' e fz hcells
  have hother : ∀ k, k ≠ b → (w.setRow b cur').heap[k]? = w.heap[k]? := fun k hk => setRow_other w b k cur' hk
  have hgr : w.grownBy (w.setRow b cur') (some b) := EnvG.setB.grown_setRow' w b cur'
  have hown' : RowM (w.setRow b cur') 0 e sz (g.go i) rows'.length vs' := by
    refine ⟨by rw [hc.1, flat_len hr], ?_⟩
    obtain ⟨_, ⟨h1, _⟩ | ⟨b2, cap2, cur2, h1, h2, ⟨fz2, h3, _⟩, h4, h5, h6, h7⟩⟩ := hown
    · rw [hgo] at h1; cases h1
    · rw [hgo] at h1
      injection h1 with h1 h8 h9
      injection h1 with h1; injection h1 with h1
      subst h1 h9
      rw [hcells] at h3; injection h3 with h3; injection h3 with h3
      subst h3
      exact .inr ⟨b, cap, cur', by rw [hl]; exact hgo, h2, ⟨fz, hsame, by rw [hcs]; exact hfz⟩, by rw [hl]; exact h4, h5, by rw [hcs]; exact h6, by rw [hl]; exact htk⟩
  exact {
    lo := he.lo.grown hgr (fun k hk => by injection hk with hk; subst hk; exact hmi)
    gm := he.gm
    sub := fun b' o' v' hv' => by
      have hb' : b' ≠ b := fun e => by rw [e, hmn o'] at hv'; cases hv'
      rw [World.cell?_of_block (a := ⟨b', o', none⟩) (hother b' hb')]; exact he.sub b' o' v' hv'
    ext := he.ext, gt := he.gt, lb := he.lb, nb := he.nb
    nf := fun b' o' u hb hu => by
      have hb' : b' ≠ b := fun e => by rw [e, hmn o'] at hu; cases hu
      rw [nfB_eq (hother b' hb')]; exact he.nf b' o' u hb hu
    lw := fun j => by
      rw [get_cons, he.lw j]
      by_cases hji : i = j
      · subst hji; rw [if_pos rfl, hi]; rfl
      · rw [if_neg hji]
    ln := fun j o hj => by
      rw [get_cons] at hj
      by_cases hji : i = j
      · subst hji; rw [if_pos rfl] at hj; injection hj with hj; subst hj; rw [he.ln i _ hi]; exact hl.symm
      · rw [if_neg hji] at hj; exact he.ln j o hj
    boxes := fun j cs hj hcj => by
      obtain ⟨vs2, ty, h1, h2, h3, h4, h5⟩ := he.boxes j cs hj hcj
      exact ⟨vs2, ty, by rw [hother _ (hbx j cs hj hcj)]; exact h1, h2, h3, h4, h5⟩
    inj := he.inj
    owns := fun j o hj => by
      rw [get_cons] at hj
      by_cases hji : i = j
      · subst hji
        rw [if_pos rfl] at hj; injection hj with hj; subst hj
        refine ⟨vs', hown', hr, hc, fun b2 hb2 => ?_⟩
        rw [hblk] at hb2; injection hb2 with hb2; subst hb2
        exact ⟨fun k => by rw [hmn k, vis_hid hh]; rfl, hbx, hmi⟩
      · rw [if_neg hji] at hj
        obtain ⟨vs2, h1, h2, h3, h4⟩ := he.owns j o hj
        refine ⟨vs2, h1.kept hgr ?_, h2, h3, h4⟩
        cases hb2 : (g.go j).ownBlock with
        | none => exact .inl rfl
        | some b2 => exact .inr fun e => he.apart j i o _ hj hi (fun e => hji e.symm) b2 hb2 (by rw [hblk]; exact e.symm)
    apart := fun j k oj ok hj hk hjk => by
      have h1 : ∃ o, get ow j = some o := by
        rw [get_cons] at hj
        by_cases hji : i = j
        · subst hji; exact ⟨_, hi⟩
        · rw [if_neg hji] at hj; exact ⟨_, hj⟩
      have h2 : ∃ o, get ow k = some o := by
        rw [get_cons] at hk
        by_cases hki : i = k
        · subst hki; exact ⟨_, hi⟩
        · rw [if_neg hki] at hk; exact ⟨_, hk⟩
      exact he.apart j k _ _ h1.choose_spec h2.choose_spec hjk
    pin := fun j o hj hj2 => by
      rw [get_cons] at hj
      by_cases hji : i = j
      · subst hji; exact he.pin i _ hi hj2
      · rw [if_neg hji] at hj; exact he.pin j o hj hj2
    pinb := he.pinb
    rs := he.rsF (fun k => k = b) (fun j R _ hj => ⟨hj, rfl, rfl⟩) (fun j cs _ hj _ => ⟨rfl, cs, hj⟩) (fun k hk => .inr ⟨i, _, hi, by rw [hk]; exact hblk⟩) (fun k _ hn => hother k hn) (fun _ _ _ h => h) (fun _ _ _ h => h) (fun j cs hj hcj => .inl ⟨j, cs, hj, hcj, rfl⟩) (fun j o hj b' hb' => by
      rw [get_cons] at hj
      by_cases hji : i = j
      · subst hji; exact .inl ⟨i, _, hi, hb'⟩
      · rw [if_neg hji] at hj; exact .inl ⟨j, o, hj, hb'⟩) }
end
section
variable {P : Program} {N : Nat} {Q : Exit → St → Prop} {ops : Array Oper} {rest : List Oper} {o : Oper} {tm : List (Nat × A)} {bx : List (Nat × List A)} {ow : List (Nat × Own)}
/-- an element's cells written -/
theorem sops_store_own {ty e : TypeId} {x z : Operand} {y : A} {i nn sz k off n : Nat} {ag : Bool} {rows : List (List T)} {row ts : List T} {t : T} (hh : hid i = true) (hg : GuardIs ops tm o true) (ho : o.op = .store ty x z) (hd : o.dst = none) (hx : evA tm x = some (.oe i nn sz k off)) (hi : get ow i = some ⟨e, sz, rows⟩) (hnn : nn = rows.length)
    (hz : evA tm z = some y) (hv : Vw ow y t) (hk : t.okB = true) (hts : t.cells = ts) (hT : tyI P ty = some (ag, n)) (hn : ts.length = n) (hrow : rows[k]? = some row) (hf : Nat.ble (off + n) row.length = true)
    (h : SOps P N ops Q rest ⟨tm, bx, (i, ⟨e, sz, rows.set k (row.take off ++ (ts ++ row.drop (off + n)))⟩) :: ow⟩) : SOps P N ops Q (o :: rest) ⟨tm, bx, ow⟩ := by
  refine .mk fun C a w ⟨m, g, hr⟩ => ?_
  obtain ⟨h1, h2, _, h4⟩ := hr.ev hx
  have he := hr.env
  obtain ⟨b, h5, h6⟩ := h4 (by rw [he.ln i _ hi]; exact hnn)
  have hvt : TR m t (a.eval z) := hv.ok he (hr.ev hz)
  have hca : ACells m g (ts.map A.t) (a.eval z).cells.toList := by
    have := acells_ok (m := m) (g := g) (y := .t t) hvt hk
    rw [← hts]; exact this
  obtain ⟨vs, hown, hrr, hc, _⟩ := he.owns i _ hi
  dsimp only at hown hrr hc
  have hfit := Nat.le_of_ble_eq_true hf
  have hkl : k < rows.length := (List.getElem?_eq_some_iff.1 hrow).1
  have hrl : row.length = sz := hrr row (List.mem_of_getElem? hrow)
  obtain ⟨b', cap, cur, e1, e2, ⟨fz, e3, e3f⟩, e4, e5, e6, e7⟩ := own_form hown (by omega)
  rw [e1] at h5; injection h5 with h5; subst h5
  have hus : (a.eval z).cells.toList.length = n := by rw [hca.1]; simp [hn]
  have hoff : k * sz + off + n ≤ cur.size := by
    have hks : k * sz + sz ≤ rows.length * sz := by rw [← Nat.succ_mul]; exact Nat.mul_le_mul_right _ hkl
    have : rows.length * sz ≤ cap * sz := Nat.mul_le_mul_right _ e4
    omega
  have hst := run_storeCells_atM P b' (k * sz + off) e fz (a.eval z).cells.toList 0 cur w e3 e3f (by rw [hus, Nat.add_zero]; exact hoff) hca.one
  rw [Nat.add_zero] at hst
  obtain ⟨d', i', hu, hi', _, hsz⟩ := tyI_spec hT
  have hrun : (execOp a.eval o).run P w = .ok .skip (w.setRow b' (cur.toList.take (k * sz + off) ++ (a.eval z).cells.toList ++ cur.toList.drop (k * sz + off + (a.eval z).cells.toList.length)).toArray) := by
    have hsz' : (a.eval z).cells.size = i'.size := by rw [hsz]; simpa using hus
    have hsv : (storeVar ty ⟨b', k * sz + off, none⟩ (a.eval z)).run P w = .ok () (w.setRow b' (cur.toList.take (k * sz + off) ++ (a.eval z).cells.toList ++ cur.toList.drop (k * sz + off + (a.eval z).cells.toList.length)).toArray) := by
      generalize a.eval z = u at *
      simp [storeVar, sizeOf, typeInfo, hi', hsz']
      simpa [hsz'] using hst
    simp only [execOp, ho, h6, Instr.storeAt, Instr.sureAddr, Sem.run_bind, Sem.run_pure, Result.andThen_ok, hsv]
  refine wpList_step fun K hK => ?_
  rw [if_pos (hg.wanted (m := m) (g := g) fun j want e _ _ y hy => hr.tmps e y hy)]
  unfold Oper.wp
  rw [hrun, Oper.upon_skip]
  refine hK _ _ (h.go C _ _ ⟨m, g, ?_⟩)
  rw [hd]
  refine hr.put_none (he.setE (rows := rows) (rows' := rows.set k (row.take off ++ (ts ++ row.drop (off + n)))) (vs' := vs.take (k * sz + off) ++ ((a.eval z).cells.toList ++ vs.drop (k * sz + off + n))) hh hi (by simp) e1 e3 e3f ?_ ?_ ?_ ?_) (fun x v h => h)
  · intro r0 hr0
    rcases List.mem_or_eq_of_mem_set hr0 with h7 | h7
    · exact hrr r0 h7
    · subst h7; simp; omega
  · have hks : (k + 1) * sz ≤ rows.length * sz := Nat.mul_le_mul_right _ hkl
    rw [Nat.succ_mul] at hks
    have hfl := flat_len hrr
    have hF : rows.flatten = rows.flatten.take (k * sz) ++ (row ++ rows.flatten.drop (k * sz + sz)) := by
      conv => lhs; rw [← set_self hrow]
      exact flat_set hrr hrow hrl
    have hta : (rows.flatten.take (k * sz)).length = k * sz := by rw [List.length_take]; omega
    have h8 := take_mid (rows.flatten.take (k * sz)) row (rows.flatten.drop (k * sz + sz)) off (by omega)
    have h9 := drop_mid (rows.flatten.take (k * sz)) row (rows.flatten.drop (k * sz + sz)) (off + n) hfit
    rw [← hF, hta] at h8 h9
    rw [flat_set hrr hrow (by simp; omega)]
    rw [List.append_assoc, List.append_assoc, ← h9, ← List.append_assoc, ← h8]
    have hts2 : CellsAre m ts (a.eval z).cells.toList := ⟨by rw [hus, hn], fun j t v h10 h11 => hca.2 j (.t t) v (by rw [List.getElem?_map, h10]; rfl) h11⟩
    exact (hc.take _).app (hts2.app (by rw [show k * sz + off + n = k * sz + (off + n) by omega]; exact hc.drop _))
  · have hus' : (a.eval z).cells.size = n := by simpa using hus
    simp; omega
  · have hks : (k + 1) * sz ≤ rows.length * sz := Nat.mul_le_mul_right _ hkl
    rw [Nat.succ_mul] at hks
    have hL : rows.length * sz ≤ cur.size := Nat.le_trans (Nat.mul_le_mul_right _ e4) e6
    have hl1 : (cur.toList.take (k * sz + off)).length = k * sz + off := by simp; omega
    rw [← e7]
    simp only [List.append_assoc]
    rw [List.take_append, hl1, List.take_of_length_le (show (cur.toList.take (k * sz + off)).length ≤ rows.length * sz by omega), List.take_append, List.take_of_length_le (show (a.eval z).cells.toList.length ≤ rows.length * sz - (k * sz + off) by omega), hus, Nat.sub_sub]
    rw [List.take_take, Nat.min_eq_left (by omega), List.drop_take]
end
end Go.Proofs.YtnclifgiakmmoaaGreat.Sim
