/- A logic of states: slices made, rows of the call's own. -/
import Derived.Test.YtcpbdcamfhoiaaaDoorSimG
namespace Go.Proofs.YtcpbdcamfhoiaaaDoor.Sim
set_option linter.unusedVariables false
set_option linter.unusedSimpArgs false
open Go.RowKit Mem

/-- of a slice's type: the element, its cells, its bytes -/
def sliceE (P : Program) (t : TypeId) : Option (TypeId × Nat × Nat) := match P.underlying t with
  | some (.slice e) => match P.info? e with
    | some i => match i.zero with
      | some z => bif Nat.beq z.cells.size i.size && Nat.blt 0 i.size then some (e, i.size, i.bytes) else none
      | none => none
    | none => none
  | _ => none
theorem sliceE_spec {P : Program} {t e sz by_ : Nat} (h : sliceE P t = some (e, sz, by_)) : ∃ i z, P.underlying t = some (.slice e) ∧ P.info? e = some i ∧ i.zero = some z ∧ i.size = sz ∧ i.bytes = by_ ∧ z.cells.size = sz ∧ 0 < sz := by
  unfold sliceE at h
  split at h
  · rename_i e' hu
    split at h
    · rename_i i hi
      split at h
      · rename_i z hz
        cases hb : (Nat.beq z.cells.size i.size && Nat.blt 0 i.size) with
        | false => rw [hb] at h; cases h
        | true =>
          rw [hb] at h
          simp only [cond_true, Option.some.injEq, Prod.mk.injEq] at h
          obtain ⟨rfl, rfl, rfl⟩ := h
          simp only [Bool.and_eq_true] at hb
          exact ⟨i, z, hu, hi, hz, rfl, rfl, Nat.eq_of_beq_eq_true hb.1, Nat.lt_of_succ_le (Nat.le_of_ble_eq_true hb.2)⟩
      · cases h
    · cases h
  · cases h

/-- operands, numbered from i on, with what they read as -/
inductive DParts (ow : List (Nat × Own)) (ρ : Operand → Option A) (sz : Nat) : Nat → List (Nat × Operand) → List (List T) → Prop
  | nil (i : Nat) : DParts ow ρ sz i [] []
  | cons {i : Nat} {x : Operand} {y : A} {t : T} {xs : List (Nat × Operand)} {rows : List (List T)} (h : ρ x = some y) (hv : Vw ow y t) (hk : t.okB = true) (hn : Nat.beq t.cells.length sz = true) (hl : DParts ow ρ sz (i + 1) xs rows) : DParts ow ρ sz i ((i, x) :: xs) (t.cells :: rows)
section
variable {P : Program} {bx : List (Nat × List A)} {ow : List (Nat × Own)} {o : Oper} {ρ : Operand → Option A} {r : A}
theorem DParts.ok {C : Ctx} {w : World} {m : Mm} {g : Gh} {sz i : Nat} {xs : List (Nat × Operand)} {rows : List (List T)} (h : DParts ow ρ sz i xs rows) (he : EnvG C bx ow w m g) {a : Act} (ha : ∀ x ∈ xs.map (·.2), ∀ y, ρ x = some y → AR m g y (a.eval x)) :
    ∃ vs : List Value, xs.map (fun p => (p.1, a.eval p.2)) = (vs.zipIdx i).map (fun x => (x.2, x.1)) ∧ vs.length = rows.length ∧ (∀ v ∈ vs, v.cells.size = sz) ∧ (∀ r ∈ rows, r.length = sz) ∧ CellsAre m rows.flatten (vs.flatMap fun v => v.cells.toList) := by
  induction h with
  | nil i => exact ⟨[], rfl, rfl, (fun v h => by cases h), (fun v h => by cases h), rfl, (fun j t v h => by simp at h)⟩
  | @cons i x y t xs rows h hv hk hn hl ih =>
    obtain ⟨vs, h1, h2, h3, h4, h5⟩ := ih fun x hx => ha x (by simp at hx ⊢; exact .inr hx)
    have hc := cells_ok (hv.ok he (ha x (by simp) y h)) hk
    have hn' := Nat.eq_of_beq_eq_true hn
    have hs : (a.eval x).cells.size = sz := by have := hc.1; simp at this; omega
    refine ⟨a.eval x :: vs, by simp [h1, List.zipIdx_cons], by simp [h2], ?_, ?_, ?_⟩
    · intro v hv'
      rcases List.mem_cons.1 hv' with rfl | hv'
      · exact hs
      · exact h3 v hv'
    · intro q hq
      rcases List.mem_cons.1 hq with rfl | hq
      · exact hn'
      · exact h4 q hq
    · rw [List.flatten_cons, List.flatMap_cons]
      exact hc.app h5
/-- the cells of a new block, as memory that stays -/
theorem ext_new {m : Mm} {w : World} (hs : Sub m w) (cs : Array Value) (ty : TypeId) : Ext m (upm m w (w.alloc (.cells cs ty))) w.heap.size ∧ Sub (upm m w (w.alloc (.cells cs ty))) (w.alloc (.cells cs ty)) ∧ ∀ k v, cs[k]? = some v → upm m w (w.alloc (.cells cs ty)) w.heap.size k = some v := by
  refine ⟨ext_upm hs, upm_sub hs ((Lo.refl w).alloc _), fun k v hk => ?_⟩
  unfold upm
  rw [if_neg (Nat.lt_irrefl _)]
  unfold World.cell?
  rw [show (w.alloc (.cells cs ty)).heap[w.heap.size]? = some (.cells cs ty (0, 0)) from heap_alloc_new w _]
  simpa using hk
theorem built_run {t e sz by_ len : Nat} (hT : sliceE P t = some (e, sz, by_)) (w : World) (vs : List Value) (hv : ∀ v ∈ vs, v.cells.size = sz) (hlen : vs.length = len) (h0 : 0 < len) (hsm : Nat.ble (len * sz) (2 ^ 24) = true) :
    (Instr.buildSlice t len ((vs.zipIdx 0).map (fun x => (x.2, x.1))).toArray).run P w = .ok (.slice (some ⟨w.heap.size, 0, none⟩) len len) (w.alloc (.cells (vs.flatMap fun v => v.cells.toList).toArray e)) := by
  obtain ⟨i, z, hu, hi, hz, rfl, _, _, hsz⟩ := sliceE_spec hT
  have hle := Nat.le_of_ble_eq_true hsm
  have hpos : 0 < len * i.size := Nat.mul_pos h0 hsz
  refine run_buildSlice w t e len _ _ i z hu hi hz (by omega) (by omega) ?_
  have := Great.fill_whole hsz vs ((Array.range (len * i.size)).map (z.cells[· % z.cells.size]!)) hv (by simp [hlen])
  simpa using this
theorem tr_new_row {m : Mm} {w : World} (hs : Sub m w) {sz len e : Nat} {rows : List (List T)} {vs : List Value} (hl : vs.length = rows.length * sz) (hlen : rows.length = len) (hr : ∀ r ∈ rows, r.length = sz) (hc : CellsAre m rows.flatten vs) (hml : len ≤ maxLen) :
    TR (upm m w (w.alloc (.cells vs.toArray e))) (.sl sz rows) (.slice (some ⟨w.heap.size, 0, none⟩) len len) := by
  obtain ⟨h1, h2, h3⟩ := ext_new hs vs.toArray e
  subst hlen
  refine tr_owns (w := w.alloc (.cells vs.toArray e)) (base := 0) (e := e) (vs := vs) ⟨hl, .inr ⟨w.heap.size, rows.length, vs.toArray, rfl, Nat.zero_le _, ⟨(0, 0), heap_alloc_new w _, .inl rfl⟩, Nat.le_refl _, hml, by simpa using hl, ?_⟩⟩ hr (hc.mono h1.1) ?_
  · simp only; rw [← hl]; exact List.take_length
  · intro b hb k u hu
    injection hb with hb; subst hb
    exact h3 k u (by simpa using hu)
theorem flatMap_cells_len {sz : Nat} : ∀ {vs : List Value}, (∀ v ∈ vs, v.cells.size = sz) → (vs.flatMap fun v => v.cells.toList).length = vs.length * sz
  | [], _ => by simp
  | v :: vs, h => by
    rw [List.flatMap_cons, List.length_append, flatMap_cells_len fun x hx => h x (by simp [hx]), List.length_cons, Nat.succ_mul]
    have := h v (by simp)
    simp [this]; omega
theorem po_buildSlice {t e sz by_ len : Nat} {xs : List (Nat × Operand)} {rows : List (List T)} (ho : o.op = .buildSlice t len xs.toArray) (hT : sliceE P t = some (e, sz, by_)) (hx : DParts ow ρ sz 0 xs rows) (hlen : rows.length = len) (h0 : Nat.blt 0 len = true) (hsm : Nat.ble (len * sz) (2 ^ 24) = true) : PureOp P bx ow o ρ (.t (.sl sz rows)) := by
  refine .mk fun C m g w a Q he h => ?_
  obtain ⟨vs, h1, h2, h3, h4, h5⟩ := hx.ok he (a := a) (fun x hx y hy => h x (by simp [ho, Op.operands] at hx ⊢; exact hx) y hy)
  have hrun := built_run (P := P) hT w vs h3 (by omega) (Nat.lt_of_succ_le (Nat.le_of_ble_eq_true h0)) hsm
  obtain ⟨e1, e2, _⟩ := ext_new he.sub (vs.flatMap fun v => v.cells.toList).toArray e
  obtain ⟨_, _, _, _, _, _, _, _, hszp⟩ := sliceE_spec hT
  refine wp_of_run (v := .slice (some ⟨w.heap.size, 0, none⟩) len len) (w' := w.alloc (.cells (vs.flatMap fun v => v.cells.toList).toArray e)) ?_ ⟨_, _, rfl, (Lo.refl w).alloc _, e1, e2, ?_⟩
  · simp only [execOp, ho, List.map_toArray]
    rw [show (xs.map fun x => (x.1, a.eval x.2)) = (vs.zipIdx 0).map (fun x => (x.2, x.1)) from h1, Sem.run_bind, hrun]; rfl
  · refine tr_new_row he.sub (by rw [flatMap_cells_len h3, h2]) hlen h4 h5 ?_
    have := Nat.le_of_ble_eq_true hsm
    have h6 : len * 1 ≤ len * sz := Nat.mul_le_mul_left _ hszp
    unfold maxLen; omega
theorem po_buildSlice0 {t e sz by_ : Nat} (ho : o.op = .buildSlice t 0 #[]) (hT : sliceE P t = some (e, sz, by_)) : PureOp P bx ow o ρ .emp := by
  refine .mk fun C m g w a Q he h => ?_
  obtain ⟨i, z, hu, hi, hz, _⟩ := sliceE_spec hT
  obtain ⟨e1, e2, _⟩ := ext_new he.sub #[] e
  refine wp_of_run (v := .slice (some ⟨w.heap.size, 0, none⟩) 0 0) (w' := w.alloc (.cells #[] e)) ?_ ⟨_, _, rfl, (Lo.refl w).alloc _, e1, e2, ⟨_, rfl⟩⟩
  simp [execOp, ho, Instr.buildSlice, run_underlying hu, sizeOf, typeInfo, hi, Instr.fill, newRow]
  congr 2
  exact Array.eq_empty_of_size_eq_zero (by simp)
/-- is there nothing, and room for nothing? -/
inductive IsEmp : A → Prop
  | emp : IsEmp .emp
  | nil : IsEmp (.t (.v (.slice none 0 0)))
theorem IsEmp.ok {m : Mm} {g : Gh} {y : A} {v : Value} (h : IsEmp y) (hv : AR m g y v) : ∃ A, v = .slice A 0 0 := by
  cases h with
  | emp => exact hv
  | nil => exact ⟨none, tr_v (show TR m (.v (.slice none 0 0)) v from hv)⟩
/-- an append onto nothing: new memory -/
theorem po_append_new {t e sz by_ : Nat} {x z : Operand} {y y' : A} {rows : List (List T)} (ho : o.op = .call { callee := .builtin .append, args := #[x, z], argTypes := #[t, t] }) (hg : o.guard = none) (hx : ρ x = some y) (hy : IsEmp y) (hz : ρ z = some y') (hz' : Vw ow y' (.sl sz rows)) (hT : sliceE P t = some (e, sz, by_))
    (hb : rows.length * by_ ≤ 140737488355328) (hm : rows.length ≤ maxLen) : PureOp P bx ow o ρ (.t (.sl sz rows)) := by
  refine .mk fun C m g w a Q he h => ?_
  obtain ⟨i, zv, hu, hi, hzz, h4, h5, h6, h7⟩ := sliceE_spec hT
  obtain ⟨Ax, hvx⟩ := hy.ok (h x (by simp [ho, Op.operands, Call.operands]) _ hx)
  have hvz : TR m (.sl sz rows) (a.eval z) := hz'.ok he (h z (by simp [ho, Op.operands, Call.operands]) _ hz)
  rcases Nat.eq_zero_or_pos rows.length with h0 | h0
  · have hr0 : rows = [] := List.eq_nil_of_length_eq_zero h0
    subst hr0
    generalize hvv : a.eval z = vz at hvz
    cases hvz with
    | sl _ _ A b off cap u hc hm' hA hr hu' ht =>
      exact wp_append_nothing x z t ho e i hu hi Ax A 0 0 cap hvx hvv (Nat.le_refl _) ⟨_, m, rfl, Lo.refl _, Ext.refl _ _, he.sub, tr_nil m sz (Nat.zero_le _)⟩
  · generalize hvv : a.eval z = vz at hvz
    have hform : ∃ A cap, vz = .slice A rows.length cap := by cases hvz with | sl _ _ A b off cap => exact ⟨A, cap, rfl⟩
    obtain ⟨A, cap, rfl⟩ := hform
    have hrl : ∀ r ∈ rows, r.length = sz := by cases hvz with | sl _ _ A b off cap u hc hm' hA hr hu' ht => exact hr
    obtain ⟨b, off, vs, rfl, hc, hl, hcell⟩ := hvz.flat h0 h7
    refine wp_append_new hg x z t ho e i zv sz by_ hu hi hzz h4 h5 h6 h7 Ax 0 0 [] hvx (fun _ => ⟨rfl, rfl⟩) (by simp) (by simp) ⟨b, off, none⟩ rows.length cap vs hvv hl (fun j u hj => by rw [addr_add]; exact he.sub _ _ _ (hcell j u hj)) hc.one (by omega) (by omega) (by rw [Nat.zero_add]; exact hb) ?_
    intro v' w' hown hgr
    rw [Nat.zero_add, List.nil_append] at hown
    have hlo := Lo.of_grown hgr
    refine ⟨v', _, rfl, hlo, ext_upm (w' := w') he.sub, upm_sub he.sub hlo, ?_⟩
    refine tr_owns (.of hown) hrl (hc.mono (ext_upm he.sub).1) ?_
    intro b' hb' k u hk
    unfold upm
    rw [if_neg (by have := (hown.lt b' hb').1; omega)]
    have := hown.cells hb' k u hk
    rwa [addr_add, Nat.zero_add] at this
theorem po_func {f : FuncId} {xs : List Operand} {ts : List T} (ho : o.op = .makeFunc (.func f) #[] xs.toArray) (ha : Args ow ρ xs ts) : PureOp P bx ow o ρ (.t (.clo f ts)) := pure_run fun C m g w a he h => by
  obtain ⟨hl, hv⟩ := ha.ok he (a := a) (fun x hx y hy => h x (by simp [ho, Op.operands, hx]) y hy)
  refine ⟨.func (.func f) #[] (xs.map a.eval).toArray, ?_, .clo f ts _ (by simpa using hl) (fun i t v h1 h2 => hv i t v h1 (by simpa using h2))⟩
  simp only [execOp, ho, Instr.makeFunc, List.map_toArray, List.map_nil, Sem.run_bind, Sem.run_pure, Result.andThen_ok]
/-- a slice of a slice -/
theorem po_slice {t sz l h' : Nat} {x : Operand} {y : A} {lo hi : Option Operand} {rows : List (List T)} (ho : o.op = .slice t x lo hi none) (hx : ρ x = some y) (hy : Vw ow y (.sl sz rows)) (hT : sliceSz P t = some sz)
    (hlo : match lo with | none => l = 0 | some q => ∃ k, ρ q = some (.t (.v (.int k l)))) (hhi : match hi with | none => h' = rows.length | some q => ∃ k, ρ q = some (.t (.v (.int k h')))) (h1 : l ≤ h') (h2 : h' ≤ rows.length) : PureOp P bx ow o ρ (.t (.sl sz ((rows.take h').drop l))) := pure_run fun C m g w a he h => by
  have hv : TR m (.sl sz rows) (a.eval x) := hy.ok he (h x (by simp [ho, Op.operands]) _ hx)
  obtain ⟨e, i, hu, hie, hs⟩ := sliceSz_spec hT
  generalize hvx : a.eval x = v at hv
  cases hv with
  | sl _ _ A b off cap u hc hm hA hr hu' ht =>
    have hrun : (Instr.sliceAt t (.slice A rows.length cap) (lo.map a.eval) (hi.map a.eval) none).run P w = .ok (.slice (if cap = l then A else A.map (·.add (l * sz))) (h' - l) (cap - l)) w := by
      have b1 : ∀ q, lo = some q → ∃ k, a.eval q = .int k l := fun q hq => by
        subst hq; obtain ⟨k, hk⟩ := hlo
        exact ⟨k, tr_v (h q (by simp [ho, Op.operands]) _ hk)⟩
      have b2 : ∀ q, hi = some q → ∃ k, a.eval q = .int k h' := fun q hq => by
        subst hq; obtain ⟨k, hk⟩ := hhi
        exact ⟨k, tr_v (h q (by simp [ho, Op.operands]) _ hk)⟩
      have c1 : (h' : Int) ≤ (cap : Int) := by omega
      have c2 : (l : Int) ≤ (h' : Int) := by omega
      have c3 : h' ≤ cap := by omega
      cases lo with
      | none =>
        subst hlo
        cases hi with
        | none => subst hhi; simp [Instr.sliceAt, run_underlying hu, Instr.slice, Instr.sliceBounds, sizeOf, typeInfo, hie, hs]
        | some q => obtain ⟨k, hk⟩ := b2 q rfl; simp [Instr.sliceAt, run_underlying hu, Instr.slice, Instr.sliceBounds, Instr.sliceBound, asIntOf, sizeOf, typeInfo, hie, hs, hk, c1, c3]
      | some q1 =>
        obtain ⟨k1, hk1⟩ := b1 q1 rfl
        cases hi with
        | none => subst hhi; simp [Instr.sliceAt, run_underlying hu, Instr.slice, Instr.sliceBounds, Instr.sliceBound, asIntOf, sizeOf, typeInfo, hie, hs, hk1, c2, h1]
        | some q => obtain ⟨k, hk⟩ := b2 q rfl; simp [Instr.sliceAt, run_underlying hu, Instr.slice, Instr.sliceBounds, Instr.sliceBound, asIntOf, sizeOf, typeInfo, hie, hs, hk1, hk, c1, c2, c3, h1]
    have hlen : ((rows.take h').drop l).length = h' - l := by simp; omega
    refine ⟨_, by simp only [execOp, ho, hvx, Option.map_none, Sem.run_bind, hrun]; rfl, ?_⟩
    rw [← hlen]
    have hat : ∀ (k : Nat) r, ((rows.take h').drop l)[k]? = some r → rows[l + k]? = some r := fun k r hk => by
      rw [List.getElem?_drop, List.getElem?_take] at hk
      split at hk
      · exact hk
      · cases hk
    refine .sl sz _ _ b (off + l * sz) (cap - l) (fun k j => u (l + k) j) (by rw [hlen]; omega) (by omega) ?_ ?_ ?_ ?_
    · intro hne
      have hne' : rows ≠ [] := fun e => by subst e; simp at hne
      have h3 : 0 < ((rows.take h').drop l).length := List.length_pos_iff.2 hne
      rw [hA hne', if_neg (by omega)]
      simp [add_mid]
    · intro r hr'
      exact hr r (List.mem_of_mem_take (List.mem_of_mem_drop hr'))
    · intro k j r t hk hj
      have := hu' (l + k) j r t (hat k r hk) hj
      rw [show off + l * sz + (k * sz + j) = off + ((l + k) * sz + j) by rw [Nat.add_mul]; omega]
      exact this
    · intro k j r t hk hj
      exact ht (l + k) j r t (hat k r hk) hj
/-- a part of a text -/
theorem po_slice_str {t l h' : Nat} {x : Operand} {s : ByteArray} {lo hi : Option Operand} (ho : o.op = .slice t x lo hi none) (hx : ρ x = some (.t (.v (.string s)))) (hu : isStr P t = true)
    (hlo : match lo with | none => l = 0 | some q => ∃ k, ρ q = some (.t (.v (.int k l)))) (hhi : match hi with | none => h' = s.size | some q => ∃ k, ρ q = some (.t (.v (.int k h')))) (h1 : l ≤ h') (h2 : h' ≤ s.size) : PureOp P bx ow o ρ (.t (.v (.string (s.extract l h')))) := pure_run fun C m g w a he h => by
  have hv := tr_v (h x (by simp [ho, Op.operands]) _ hx)
  have hu' := isStr_spec hu
  refine ⟨.string (s.extract l h'), ?_, .v _⟩
  have b1 : ∀ q, lo = some q → ∃ k, a.eval q = .int k l := fun q hq => by
    subst hq; obtain ⟨k, hk⟩ := hlo
    exact ⟨k, tr_v (h q (by simp [ho, Op.operands]) _ hk)⟩
  have b2 : ∀ q, hi = some q → ∃ k, a.eval q = .int k h' := fun q hq => by
    subst hq; obtain ⟨k, hk⟩ := hhi
    exact ⟨k, tr_v (h q (by simp [ho, Op.operands]) _ hk)⟩
  have c1 : (h' : Int) ≤ (s.size : Int) := by omega
  have c2 : (l : Int) ≤ (h' : Int) := by omega
  simp only [execOp, ho, hv, Option.map_none]
  cases lo with
  | none =>
    subst hlo
    cases hi with
    | none => subst hhi; simp [Instr.sliceAt, run_underlying hu', Instr.slice, Instr.sliceBounds]
    | some q => obtain ⟨k, hk⟩ := b2 q rfl; simp only [Option.map_some, hk]; simp [Instr.sliceAt, run_underlying hu', Instr.slice, Instr.sliceBounds, Instr.sliceBound, asIntOf, h2]
  | some q1 =>
    obtain ⟨k1, hk1⟩ := b1 q1 rfl
    cases hi with
    | none => subst hhi; simp only [Option.map_some, hk1]; simp [Instr.sliceAt, run_underlying hu', Instr.slice, Instr.sliceBounds, Instr.sliceBound, asIntOf, h1]
    | some q => obtain ⟨k, hk⟩ := b2 q rfl; simp only [Option.map_some, hk, hk1]; simp [Instr.sliceAt, run_underlying hu', Instr.slice, Instr.sliceBounds, Instr.sliceBound, asIntOf, h1, h2]
end
end Go.Proofs.YtcpbdcamfhoiaaaDoor.Sim
