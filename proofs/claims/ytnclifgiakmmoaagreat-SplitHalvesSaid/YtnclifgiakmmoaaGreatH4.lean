/- Merged by bundles.py: SimD, SimE, SimF. -/
import Derived.Test.YtnclifgiakmmoaaGreatH3
import Derived.Great.BuildSlice
import Derived.Laws.CopyRow
/- A logic of states: numbers, texts, calls. -/
namespace Go.Proofs.YtnclifgiakmmoaaGreat.Sim
set_option linter.unusedVariables false
set_option linter.unusedSimpArgs false
open Go.RowKit Mem

/-- data that is a value just so -/
inductive Ex : T → Value → Prop
  | v (x : Value) : Ex (.v x) x
  | agg {cs : List T} {vs : List Value} (hl : cs.length = vs.length) (h : ∀ (j : Nat) t v, cs[j]? = some t → vs[j]? = some v → t = .v v) : Ex (.agg cs) (.agg vs.toArray)
theorem Ex.eq {m : Mm} {t : T} {x v : Value} (h : Ex t x) (hv : TR m t v) : v = x := by
  cases h with
  | v x => exact tr_v hv
  | @agg cs vs hl h =>
    cases hv with
    | agg cs ws hw h1 ht =>
      congr 1
      refine Array.ext' (List.ext_getElem? fun j => ?_)
      by_cases hj : j < vs.length
      · have e1 : ws[j]? = some (ws[j]'(by omega)) := Array.getElem?_eq_getElem (by omega)
        have e2 : cs[j]? = some (cs[j]'(by omega)) := List.getElem?_eq_getElem (by omega)
        have e3 : vs[j]? = some (vs[j]'(by omega)) := List.getElem?_eq_getElem (by omega)
        have h5 := ht j _ _ e2 e1
        rw [h j _ _ e2 e3] at h5
        have h6 := tr_v h5
        rw [Array.getElem?_toList, e1, h6]
        simp [e3]
      · rw [List.getElem?_eq_none (by simp; omega), List.getElem?_eq_none (by simp; omega)]

def cmpB : BinOp → Int → Int → Option Bool
  | .lss, x, y => some (decide (x < y))
  | .leq, x, y => some (decide (x ≤ y))
  | .gtr, x, y => some (decide (y < x))
  | .geq, x, y => some (decide (y ≤ x))
  | .eql, x, y => some (decide (x = y))
  | .neq, x, y => some (!decide (x = y))
  | _, _, _ => none
def arI : BinOp → IntKind → Int → Int → Option Int
  | .add, k, x, y => some (k.wrap (x + y))
  | .sub, k, x, y => some (k.wrap (x - y))
  | .mul, k, x, y => some (k.wrap (x * y))
  | _, _, _, _ => none
def strB : BinOp → ByteArray → ByteArray → Option Bool
  | .eql, a, b => some (decide (a = b))
  | .neq, a, b => some (!decide (a = b))
  | .lss, a, b => some (Op.bytesLess a.toList b.toList)
  | _, _, _ => none

section
variable {P : Program} {bx : List (Nat × List A)} {ow : List (Nat × Own)} {o : Oper} {ρ : Operand → Option A} {r : A}
theorem po_ex2 {op : BinOp} {t t2 : TypeId} {x y : Operand} {tx ty : T} {vx vy vr : Value} (ho : o.op = .binOp op t x y t2) (hx : ρ x = some (.t tx)) (hy : ρ y = some (.t ty)) (ex : Ex tx vx) (ey : Ex ty vy)
    (hr : ∀ (w : World) (a b : Operand), ((do eqGuard op t a b vx vy; binOp op t vx vy) : Sem Value).run P w = .ok vr w) : PureOp P bx ow o ρ (.t (.v vr)) := pure_run fun C m g w a he h => by
  have h1 := ex.eq (h x (by simp [ho, Op.operands]) _ hx)
  have h2 := ey.eq (h y (by simp [ho, Op.operands]) _ hy)
  refine ⟨vr, ?_, .v _⟩
  have := hr w x y
  simp only [execOp, ho, h1, h2]
  rw [Sem.run_bind, this]; rfl
theorem po_cmp {op : BinOp} {t t2 : TypeId} {x y : Operand} {k : IntKind} {i j : Int} {c : Bool} (ho : o.op = .binOp op t x y t2) (hx : ρ x = some (.t (.v (.int k i)))) (hy : ρ y = some (.t (.v (.int k j)))) (hc : cmpB op i j = some c) : PureOp P bx ow o ρ (.t (.v (.bool c))) :=
  po_ex2 ho hx hy (.v _) (.v _) (by
    intro w a b
    cases op <;> first | (injection hc with hc; subst hc; simp [eqGuard, binOp, Op.intCmp, bne]; done) | (injection hc with hc; subst hc; simp [eqGuard, binOp, Op.intCmp, bne]; rfl) | cases hc)
theorem po_arith {op : BinOp} {t t2 : TypeId} {x y : Operand} {k : IntKind} {i j c : Int} (ho : o.op = .binOp op t x y t2) (hx : ρ x = some (.t (.v (.int k i)))) (hy : ρ y = some (.t (.v (.int k j)))) (hc : arI op k i j = some c) : PureOp P bx ow o ρ (.t (.v (.int k c))) :=
  po_ex2 ho hx hy (.v _) (.v _) (by
    intro w a b
    cases op <;> first | (injection hc with hc; subst hc; simp [eqGuard, binOp, Op.intArith]; done) | cases hc)
theorem ar_add {k : IntKind} {x y z : Int} (hz : k.wrap z = z) (h : x + y = z) : arI .add k x y = some z := by simp [arI, h, hz]
theorem wrap_i64 {n : Int} (h : -9223372036854775808 ≤ n ∧ n ≤ 9223372036854775807) : IntKind.i64.wrap n = n := IntWalk.i64_in _ h
theorem ba_eq (a b : ByteArray) : (a.toList == b.toList) = decide (a = b) := by
  rw [Bool.eq_iff_iff]; simp only [beq_iff_eq, decide_eq_true_eq]
  exact ⟨bs_inj, fun h => by rw [h]⟩
theorem po_str {op : BinOp} {t t2 : TypeId} {x y : Operand} {i j : ByteArray} {c : Bool} (ho : o.op = .binOp op t x y t2) (hx : ρ x = some (.t (.v (.string i)))) (hy : ρ y = some (.t (.v (.string j)))) (hc : strB op i j = some c) : PureOp P bx ow o ρ (.t (.v (.bool c))) :=
  po_ex2 ho hx hy (.v _) (.v _) (by
    intro w a b
    cases op <;> first | (injection hc with hc; subst hc; simp [eqGuard, binOp, Op.stringOp, ba_eq]; done) | cases hc)
theorem po_boolq {op : BinOp} {t t2 : TypeId} {x y : Operand} {i j : Bool} (ho : o.op = .binOp op t x y t2) (hx : ρ x = some (.t (.v (.bool i)))) (hy : ρ y = some (.t (.v (.bool j)))) (hu : P.underlying t = some .bool) (hop : op = .eql ∨ op = .neq) : PureOp P bx ow o ρ (.t (.v (.bool (if op = .eql then i == j else !(i == j))))) :=
  po_ex2 ho hx hy (.v _) (.v _) (by
    intro w a b
    rcases hop with rfl | rfl
    · simp [eqGuard, run_eql_bool w t i j hu]
    · simp [eqGuard, run_neq_bool w t i j hu])
theorem po_not {t : TypeId} {x : Operand} {b : Bool} (ho : o.op = .unOp .not t x) (hx : ρ x = some (.t (.v (.bool b)))) : PureOp P bx ow o ρ (.t (.v (.bool (!b)))) := pure_run fun C m g w a he h => by
  have h1 := tr_v (h x (by simp [ho, Op.operands]) _ hx)
  exact ⟨.bool (!b), by simp [execOp, ho, h1, Op.unary], .v _⟩
theorem po_len {x : Operand} {t : TypeId} {y : A} {sz : Nat} {rows : List (List T)} (ho : o.op = .call { callee := .builtin .len, args := #[x], argTypes := #[t] }) (hx : ρ x = some y) (hy : Vw ow y (.sl sz rows)) (hT : sliceSz P t = some sz) : PureOp P bx ow o ρ (.t (.v (.int .i64 rows.length))) := pure_run fun C m g w a he h => by
  have h1 : TR m (.sl sz rows) (a.eval x) := hy.ok he (h x (by simp [ho, Op.operands, Call.operands]) _ hx)
  obtain ⟨e, _, hu, _, _⟩ := sliceSz_spec hT
  generalize hv : a.eval x = v at h1
  cases h1 with
  | sl sz rows A b off cap u hc hm hA hr hu' ht =>
    exact ⟨.int .i64 rows.length, by simp [execOp, ho, hv, resolve, invoke, builtin, Builtin.len_, run_underlying hu, goInt], .v _⟩
theorem po_extract {x : Operand} {i : Nat} {cs : List T} {t : T} (ho : o.op = .extract x i) (hx : ρ x = some (.t (.tup cs))) (ht : cs[i]? = some t) : PureOp P bx ow o ρ (.t t) := pure_run fun C m g w a he h => by
  have h1 : TR m (.tup cs) (a.eval x) := h x (by simp [ho, Op.operands]) _ hx
  generalize hv : a.eval x = v at h1
  cases h1 with
  | tup cs vs hl hr =>
    have hlt : i < vs.size := by rw [hl]; exact (List.getElem?_eq_some_iff.1 ht).1
    exact ⟨vs[i], by simp [execOp, ho, hv, Instr.extract, hlt], hr i t _ ht (by simp [hlt])⟩

/-- a call: what it is handed, what it hands back; it turns nothing -/
structure PCalls (P : Program) (f : FuncId) (args : List T) (r : T) : Prop where
  ent : ∀ (args : Array Value) (w : World), (callFunc f args).run P w = .ok (.enter f args) w
  run : ∀ (m : Mm) (w : World) (vals : Array Value), Sub m w → vals.size = args.length → (∀ (i : Nat) t v, args[i]? = some t → vals[i]? = some v → TR m t v) → GT m →
    Calls P f vals w fun e w' => ∃ v m', e = .returned v ∧ Lo w w' ∧ Ext m m' w.heap.size ∧ Sub m' w' ∧ TR m' r v ∧ NFx m m' w'
/-- what operands read as -/
inductive Args (ow : List (Nat × Own)) (ρ : Operand → Option A) : List Operand → List T → Prop
  | nil : Args ow ρ [] []
  | cons {x : Operand} {y : A} {t : T} {xs : List Operand} {ts : List T} (h : ρ x = some y) (hv : Vw ow y t) (hl : Args ow ρ xs ts) : Args ow ρ (x :: xs) (t :: ts)
theorem ac {ow : List (Nat × Own)} {ρ : Operand → Option A} {x : Operand} {y : A} {t : T} {xs : List Operand} {ts : List T} (hl : Args ow ρ xs ts) (h : ρ x = some y := by exact rfl) (hv : Vw ow y t := by first | exact .t _ | exact .own rfl (by first | rfl | assumption | (simp; done) | (simp; omega)) | exact .nil _ | exact .emp _ | exact .fn _ | exact .fr _ _) : Args ow ρ (x :: xs) (t :: ts) := .cons h hv hl
theorem Args.ok {C : Ctx} {w : World} {m : Mm} {g : Gh} {xs : List Operand} {ts : List T} (h : Args ow ρ xs ts) (he : EnvG C bx ow w m g) {a : Act} (ha : ∀ x ∈ xs, ∀ y, ρ x = some y → AR m g y (a.eval x)) : xs.length = ts.length ∧ ∀ (i : Nat) t v, ts[i]? = some t → (xs.map a.eval)[i]? = some v → TR m t v := by
  induction h with
  | nil => exact ⟨rfl, fun i t v h => by simp at h⟩
  | @cons x y t xs ts h hv hl ih =>
    obtain ⟨h1, h2⟩ := ih fun x hx => ha x (by simp [hx])
    refine ⟨by simp [h1], fun i t' v h3 h4 => ?_⟩
    cases i with
    | zero => simp at h3 h4; subst h3 h4; exact hv.ok he (ha x (by simp) y h)
    | succ i => simp at h3; exact h2 i t' v h3 (by simpa using h4)
theorem po_call {f : FuncId} {xs : List Operand} {at_ : Array TypeId} {ts : List T} {t : T} (hc : PCalls P f ts t) (ho : o.op = .call { callee := .value (.func f), args := xs.toArray, argTypes := at_ }) (ha : Args ow ρ xs ts) : PureOp P bx ow o ρ (.t t) := by
  refine .mk fun C m g w a Q he h => ?_
  obtain ⟨hl, hv⟩ := ha.ok he (a := a) (fun x hx y hy => h x (by simp [ho, Op.operands, Call.operands, hx]) y hy)
  have hrun : (execOp a.eval o).run P w = .ok (.enter f (xs.map a.eval).toArray) w := by
    have := hc.ent (xs.map a.eval).toArray w
    simp only [execOp, ho, resolve, Deferred.ofValue, Act.eval, invoke, Sem.run_bind, Sem.run_pure, Result.andThen_ok, List.map_toArray, Array.append_empty, Array.empty_append, Array.append_eq_append, List.append_nil, List.nil_append] at this ⊢
    simpa using this
  exact wp_call_of hrun (hc.run m w _ he.sub (by simp [hl]) (fun i t v h1 h2 => hv i t v h1 (by simpa using h2)) he.gt) fun e w' ⟨v, m', h1, h2, h3, h4, h5, h6⟩ => ⟨v, h1, v, m', rfl, h2, h3, h4, h6, h5⟩
theorem po_call_clo {f : FuncId} {x : Operand} {xs : List Operand} {at_ : Array TypeId} {ts caps : List T} {t : T} (ho : o.op = .call { callee := .value x, args := xs.toArray, argTypes := at_ }) (hx : ρ x = some (.t (.clo f caps))) (ha : Args ow ρ xs ts) (hc : PCalls P f (ts ++ caps) t) : PureOp P bx ow o ρ (.t t) := by
  refine .mk fun C m g w a Q he h => ?_
  obtain ⟨hl, hv⟩ := ha.ok he (a := a) (fun x hx y hy => h x (by simp [ho, Op.operands, Call.operands, hx]) y hy)
  have h1 : TR m (.clo f caps) (a.eval x) := h x (by simp [ho, Op.operands, Call.operands]) _ hx
  generalize hvx : a.eval x = v at h1
  cases h1 with
  | clo f caps vs hs ht =>
    have hrun : (execOp a.eval o).run P w = .ok (.enter f ((xs.map a.eval).toArray ++ vs)) w := by
      have := hc.ent ((xs.map a.eval).toArray ++ vs) w
      simp only [execOp, ho, resolve, Deferred.ofValue, hvx, invoke, Sem.run_bind, Sem.run_pure, Result.andThen_ok, List.map_toArray, Array.append_empty, Array.empty_append] at this ⊢
      simpa using this
    refine wp_call_of hrun (hc.run m w _ he.sub (by simp [hl, hs]) ?_ he.gt) fun e w' ⟨v, m', h1, h2, h3, h4, h5, h6⟩ => ⟨v, h1, v, m', rfl, h2, h3, h4, h6, h5⟩
    intro i t v h1 h2
    rw [List.getElem?_append] at h1
    rw [Array.getElem?_append] at h2
    by_cases hi : i < ts.length
    · rw [if_pos hi] at h1
      rw [if_pos (by simpa [hl] using hi)] at h2
      exact hv i t v h1 (by simpa using h2)
    · rw [if_neg hi] at h1
      rw [if_neg (by simpa [hl] using hi)] at h2
      refine ht _ t v h1 ?_
      simpa [hl] using h2
end
end Go.Proofs.YtnclifgiakmmoaaGreat.Sim

/- A logic of states: boxes, rows of the call's own, struct literals; a function's beginning and end. -/
namespace Go.Proofs.YtnclifgiakmmoaaGreat.Sim
set_option linter.unusedVariables false
set_option linter.unusedSimpArgs false
open Go.RowKit Mem

/-- a value's cells -/
def T.cells : T → List T
  | .agg cs => cs
  | .v (.agg vs) => vs.toList.map .v
  | t => [t]
def T.okB : T → Bool
  | .v (.agg vs) => vs.toList.all (·.oneCell')
  | .v x => x.oneCell'
  | .tup _ => false
  | .fr _ (.sl _ _) => true
  | .fr _ _ => false
  | _ => true
theorem cells_ok {m : Mm} {t : T} {v : Value} (h : TR m t v) (hk : t.okB = true) : CellsAre m t.cells v.cells.toList := by
  have one : ∀ {t : T} {v : Value}, t.cells = [t] → TR m t v → v.oneCell' = true → CellsAre m t.cells v.cells.toList := by
    intro t v hc ht h1
    have hv : v.cells = #[v] := by cases v <;> first | rfl | cases h1
    rw [hc, hv]
    refine ⟨rfl, fun j t' v' h2 h3 => ?_⟩
    cases j with
    | zero => simp at h2 h3; subst h2 h3; exact ⟨ht, h1⟩
    | succ j => simp at h2
  cases h with
  | v =>
    cases v with
    | agg vs =>
      refine ⟨by simp [T.cells, Value.cells], fun j t' v' h2 h3 => ?_⟩
      simp only [T.cells, Value.cells] at h2 h3
      rw [List.getElem?_map] at h2
      rw [h3] at h2
      simp at h2; subst h2
      simp only [T.okB, List.all_eq_true] at hk
      exact ⟨.v _, hk v' (List.mem_of_getElem? h3)⟩
    | tuple vs => simp [T.okB, Value.oneCell'] at hk
    | _ => exact one rfl (.v _) rfl
  | sl sz rows A b off cap u hc hm hA hr hu ht => exact one rfl (.sl sz rows A b off cap u hc hm hA hr hu ht) rfl
  | agg cs vs hl h1 ht =>
    refine ⟨by simp [T.cells, Value.cells, hl], fun j t' v' h2 h3 => ?_⟩
    simp only [T.cells, Value.cells] at h2 h3
    exact ⟨ht j t' v' h2 (by simpa using h3), h1 v' (List.mem_of_getElem? h3)⟩
  | tup cs vs => simp [T.okB] at hk
  | tp cs b off u hu ht => exact one rfl (.tp cs b off u hu ht) rfl
  | clo f caps vs hl ht => exact one rfl (.clo f caps vs hl ht) rfl
  | fr n t v h hb =>
    cases t with
    | sl sz rows => exact one rfl (.fr n _ v h hb) (by cases h; rfl)
    | _ => simp [T.okB] at hk
theorem CellsAre.one {m : Mm} {ts : List T} {vs : List Value} (h : CellsAre m ts vs) : ∀ v ∈ vs, v.oneCell' = true := by
  intro v hv
  obtain ⟨j, hj⟩ := List.getElem?_of_mem hv
  have hlt : j < ts.length := by rw [← h.1]; exact (List.getElem?_eq_some_iff.1 hj).1
  exact (h.2 j _ v (List.getElem?_eq_getElem hlt) hj).2
theorem CellsAre.app {m : Mm} {ts ts' : List T} {vs vs' : List Value} (h : CellsAre m ts vs) (k : CellsAre m ts' vs') : CellsAre m (ts ++ ts') (vs ++ vs') := by
  refine ⟨by simp [h.1, k.1], fun j t v h1 h2 => ?_⟩
  by_cases hj : j < ts.length
  · rw [List.getElem?_append_left hj] at h1
    rw [List.getElem?_append_left (by rw [h.1]; exact hj)] at h2
    exact h.2 j t v h1 h2
  · rw [List.getElem?_append_right (by omega)] at h1
    rw [List.getElem?_append_right (by rw [h.1]; omega), h.1] at h2
    exact k.2 _ t v h1 h2
theorem CellsAre.take {m : Mm} {ts : List T} {vs : List Value} (h : CellsAre m ts vs) (n : Nat) : CellsAre m (ts.take n) (vs.take n) := by
  refine ⟨by simp [h.1], fun j t v h1 h2 => ?_⟩
  rw [List.getElem?_take] at h1 h2
  split at h1
  · rename_i hj; rw [if_pos hj] at h2; exact h.2 j t v h1 h2
  · cases h1
theorem CellsAre.drop {m : Mm} {ts : List T} {vs : List Value} (h : CellsAre m ts vs) (n : Nat) : CellsAre m (ts.drop n) (vs.drop n) := by
  refine ⟨by simp [h.1], fun j t v h1 h2 => ?_⟩
  rw [List.getElem?_drop] at h1 h2
  exact h.2 _ t v h1 h2

/-- a slice's cells, one behind the other -/
theorem TR.flat {m : Mm} {sz : Nat} {rows : List (List T)} {A : Option Addr} {n cap : Nat} (h : TR m (.sl sz rows) (.slice A n cap)) (h0 : 0 < rows.length) (hsz : 0 < sz) :
    ∃ (b off : Nat) (vs : List Value), A = some ⟨b, off, none⟩ ∧ CellsAre m rows.flatten vs ∧ vs.length = rows.length * sz ∧ ∀ (j : Nat) v, vs[j]? = some v → m b (off + j) = some v := by
  cases h with
  | sl sz rows A b off cap u hc hm hA hr hu ht =>
    have hA' := hA (by intro e; subst e; simp at h0)
    have hfl : rows.flatten.length = rows.length * sz := flat_len hr
    have hat : ∀ (j : Nat) t, rows.flatten[j]? = some t → ∃ r, rows[j / sz]? = some r ∧ r[j % sz]? = some t := fun j t hj => flat_at hsz hr hj
    refine ⟨b, off, (List.range (rows.length * sz)).map fun j => u (j / sz) (j % sz), hA', ⟨by simp [hfl], ?_⟩, by simp, ?_⟩
    · intro j t v h1 h2
      obtain ⟨r, h3, h4⟩ := hat j t h1
      have hj : j < rows.length * sz := by rw [← hfl]; exact (List.getElem?_eq_some_iff.1 h1).1
      rw [List.getElem?_map, List.getElem?_range hj] at h2
      simp at h2; subst h2
      exact ⟨ht _ _ _ _ h3 h4, (hu _ _ _ _ h3 h4).2⟩
    · intro j v h2
      have hj : j < rows.length * sz := by have := (List.getElem?_eq_some_iff.1 h2).1; simpa using this
      rw [List.getElem?_map, List.getElem?_range hj] at h2
      simp at h2; subst h2
      obtain ⟨r, h3, h4⟩ := hat j _ (List.getElem?_eq_getElem (by rw [hfl]; exact hj))
      have := (hu _ _ _ _ h3 h4).1
      rwa [show j / sz * sz + j % sz = j from by rw [Nat.mul_comm]; exact Nat.div_add_mod j sz] at this
where
  flat_at {sz : Nat} {rows : List (List T)} (hsz : 0 < sz) (hr : ∀ r ∈ rows, r.length = sz) {j : Nat} {t : T} (hj : rows.flatten[j]? = some t) : ∃ r, rows[j / sz]? = some r ∧ r[j % sz]? = some t := by
    induction rows generalizing j with
    | nil => simp at hj
    | cons r rs ih =>
      have hl := hr r (by simp)
      rw [List.flatten_cons] at hj
      by_cases hlt : j < sz
      · rw [List.getElem?_append_left (by omega)] at hj
        exact ⟨r, by rw [Nat.div_eq_of_lt hlt]; rfl, by rw [Nat.mod_eq_of_lt hlt]; exact hj⟩
      · rw [List.getElem?_append_right (by omega), hl] at hj
        obtain ⟨r', h1, h2⟩ := ih (fun x hx => hr x (by simp [hx])) hj
        have hd : j / sz = (j - sz) / sz + 1 := by
          have : j = (j - sz) + sz := by omega
          conv => lhs; rw [this]
          exact Nat.add_div_right _ hsz
        have hm : j % sz = (j - sz) % sz := by
          have : j = (j - sz) + sz := by omega
          conv => lhs; rw [this]
          exact Nat.add_mod_right _ _
        exact ⟨r', by rw [hd]; simpa using h1, by rw [hm]; exact h2⟩

/-- a literal's cells -/
def fillT (pl : Nat → Option (Nat × Nat)) : List T → List (Nat × T) → Option (List T)
  | zs, [] => some zs
  | zs, (i, t) :: r => match pl i with
    | some (off, sz) => bif t.okB && Nat.beq t.cells.length sz && Nat.ble (off + sz) zs.length then fillT pl (zs.take off ++ (t.cells ++ zs.drop (off + sz))) r else none
    | none => none
def bldT (P : Program) (t : TypeId) (parts : List (Nat × T)) : Option (List T) :=
  match P.info? t, P.underlying t with
  | some it, some (.array _ e) =>
    match it.zero, P.info? e with
    | some z, some ie => fillT (fun i => some (i * ie.size, ie.size)) (z.cells.toList.map .v) parts
    | _, _ => none
  | some it, some (.struct fields) =>
    match it.zero, fields.toList.mapM (fun f => (P.info? f.type).map fun i => (f.offset, i.size)) with
    | some z, some places => fillT (places.toArray[·]?) (z.cells.toList.map .v) parts
    | _, _ => none
  | _, _ => none
theorem fill_set (off sz : Nat) (cells : Array Value) (vs : List Value) (hs : vs.length = sz) (hf : off + sz ≤ cells.size) :
    ((vs.zipIdx).foldl (fun cs (x : Value × Nat) => cs.setIfInBounds (off + x.2) x.1) cells).toList = cells.toList.take off ++ (vs ++ cells.toList.drop (off + sz)) := by
  obtain ⟨h1, h2⟩ := Great.foldl_set off vs 0 cells
  refine List.ext_getElem? fun k => ?_
  rw [Array.getElem?_toList, h2 k]
  by_cases hk : k < off
  · rw [if_neg (by omega), List.getElem?_append_left (by simp; omega), List.getElem?_take_of_lt hk]; simp
  · rw [List.getElem?_append_right (by simp; omega)]
    have ht : (cells.toList.take off).length = off := by simp; omega
    rw [ht]
    by_cases hk2 : k < off + sz
    · rw [if_pos (by omega), List.getElem?_append_left (by omega)]; simp
    · rw [if_neg (by omega), List.getElem?_append_right (by omega), List.getElem?_drop]
      simp only [Array.getElem?_toList]
      congr 1; omega
theorem fill_ok {m : Mm} {pl : Nat → Option (Nat × Nat)} : ∀ {parts : List (Nat × T)} {zs rs : List T} {cells : Array Value} {vals : List (Nat × Value)}, fillT pl zs parts = some rs → CellsAre m zs cells.toList → parts.length = vals.length →
    (∀ (i : Nat) p q, parts[i]? = some p → vals[i]? = some q → q.1 = p.1 ∧ TR m p.2 q.2) → ∃ cells', Instr.fill pl cells vals = some cells' ∧ CellsAre m rs cells'.toList
  | [], zs, rs, cells, vals, h, hc, hl, _ => by
    have : vals = [] := List.eq_nil_of_length_eq_zero hl.symm
    subst this
    injection h with h; subst h
    exact ⟨cells, rfl, hc⟩
  | (i, t) :: r, zs, rs, cells, vals, h, hc, hl, hp => by
    obtain ⟨⟨i', v⟩, vals, rfl⟩ : ∃ q vs, vals = q :: vs := by cases vals with | nil => simp at hl | cons q vs => exact ⟨q, vs, rfl⟩
    obtain ⟨hi, hv⟩ := hp 0 _ _ rfl rfl
    dsimp only at hi hv
    subst hi
    unfold fillT at h
    cases hpl : pl i' with
    | none => rw [hpl] at h; cases h
    | some x =>
      obtain ⟨off, sz⟩ := x
      rw [hpl] at h
      dsimp only at h
      cases hb : (t.okB && Nat.beq t.cells.length sz && Nat.ble (off + sz) zs.length) with
      | false => rw [hb] at h; cases h
      | true =>
        rw [hb] at h
        simp only [Bool.and_eq_true] at hb
        obtain ⟨⟨hb1, hb2⟩, hb3⟩ := hb
        have hcv := cells_ok hv hb1
        have e1 : t.cells.length = sz := Nat.eq_of_beq_eq_true hb2
        have e2 : off + sz ≤ zs.length := Nat.le_of_ble_eq_true hb3
        have e3 : v.cells.size = sz := by have := hcv.1; simp at this; omega
        have e4 : off + sz ≤ cells.size := by have := hc.1; simp at this; omega
        have hset := fill_set off sz cells v.cells.toList (by simpa using e3) e4
        have hz : v.cells.zipIdx.foldl (fun cs (x : Value × Nat) => cs.setIfInBounds (off + x.2) x.1) cells = (v.cells.toList.zipIdx).foldl (fun cs (x : Value × Nat) => cs.setIfInBounds (off + x.2) x.1) cells := by
          rw [← Array.foldl_toList, Array.toList_zipIdx]
        have hnew : CellsAre m (zs.take off ++ (t.cells ++ zs.drop (off + sz))) (v.cells.zipIdx.foldl (fun cs (x : Value × Nat) => cs.setIfInBounds (off + x.2) x.1) cells).toList := by
          rw [hz, hset]
          exact (hc.take off).app (hcv.app (hc.drop (off + sz)))
        obtain ⟨cells', h5, h6⟩ := fill_ok (parts := r) h hnew (by simpa using hl) (fun j p q h1 h2 => hp (j + 1) p q (by simpa using h1) (by simpa using h2))
        refine ⟨cells', ?_, h6⟩
        unfold Instr.fill
        rw [hpl]
        dsimp only
        rw [if_neg (by simp; omega)]
        exact h5
theorem zero_cells (m : Mm) {z : Value} (h : ∀ v ∈ z.cells.toList, v.oneCell' = true) : CellsAre m (z.cells.toList.map .v) z.cells.toList := by
  refine ⟨by simp, fun j t v h1 h2 => ?_⟩
  rw [List.getElem?_map, h2] at h1
  simp at h1; subst h1
  exact ⟨.v _, h v (List.mem_of_getElem? h2)⟩
def zeroOk (P : Program) (t : TypeId) : Bool := match P.info? t with
  | some it => match it.zero with | some z => z.cells.toList.all (·.oneCell') | none => false
  | none => false

section
variable {P : Program} {bx : List (Nat × List A)} {ow : List (Nat × Own)} {o : Oper} {ρ : Operand → Option A} {r : A}
theorem bld_ok {m : Mm} {t : TypeId} {parts : List (Nat × T)} {rs : List T} {vals : List (Nat × Value)} (h : bldT P t parts = some rs) (hz : zeroOk P t = true) (hl : parts.length = vals.length)
    (hp : ∀ (i : Nat) p q, parts[i]? = some p → vals[i]? = some q → q.1 = p.1 ∧ TR m p.2 q.2) : ∃ cells, P.built t vals = some cells ∧ CellsAre m rs cells.toList := by
  unfold bldT at h
  unfold zeroOk at hz
  unfold Program.built
  cases hi : P.info? t with
  | none => rw [hi] at h; cases h
  | some it =>
    rw [hi] at h hz
    dsimp only at h hz
    have hzc : ∀ z, it.zero = some z → CellsAre m (z.cells.toList.map .v) z.cells.toList := fun z hz' => by
      rw [hz'] at hz
      exact zero_cells m (List.all_eq_true.1 hz)
    split at h
    · rename_i it' e h1 h2
      injection h1 with h1; subst h1
      rw [h2]
      dsimp only
      split at h
      · rename_i z ie h3 h4
        rw [h3, h4]
        exact fill_ok h (hzc z h3) hl hp
      · cases h
    · rename_i it' fields h1 h2
      injection h1 with h1; subst h1
      rw [h2]
      dsimp only
      split at h
      · rename_i z places h3 h4
        rw [h3, h4]
        exact fill_ok h (hzc z h3) hl hp
      · cases h
    · cases h
/-- of a struct's type: where its fields lie, its zero's cells -/
def strI (P : Program) (t : TypeId) : Option (List (Nat × Nat) × List Value) := match P.info? t, P.underlying t with
  | some it, some (.struct fields) => match it.zero, fields.toList.mapM (fun f => (P.info? f.type).map fun i => (f.offset, i.size)) with
    | some z, some places => bif z.cells.toList.all (·.oneCell') then some (places, z.cells.toList) else none
    | _, _ => none
  | _, _ => none
theorem strI_bld {t : TypeId} {pl : List (Nat × Nat)} {zs : List Value} (h : strI P t = some (pl, zs)) (parts : List (Nat × T)) : bldT P t parts = fillT (fun i => pl[i]?) (zs.map .v) parts ∧ zeroOk P t = true := by
  unfold strI at h
  unfold bldT zeroOk
  split at h
  · rename_i it fields h1 h2
    rw [h1, h2]
    dsimp only
    split at h
    · rename_i z places h3 h4
      rw [h3]
      dsimp only
      try rw [h4]
      try dsimp only
      cases hb : (z.cells.toList.all (·.oneCell')) with
      | false => rw [hb] at h; cases h
      | true =>
        rw [hb] at h
        injection h with h
        injection h with e1 e2
        subst e1 e2
        exact ⟨by simp, rfl⟩
    · cases h
  · cases h
/-- operands, numbered, with what they read as -/
inductive Parts (ow : List (Nat × Own)) (ρ : Operand → Option A) : List (Nat × Operand) → List (Nat × T) → Prop
  | nil : Parts ow ρ [] []
  | cons {i : Nat} {x : Operand} {y : A} {t : T} {xs : List (Nat × Operand)} {ts : List (Nat × T)} (h : ρ x = some y) (hv : Vw ow y t) (hl : Parts ow ρ xs ts) : Parts ow ρ ((i, x) :: xs) ((i, t) :: ts)
theorem Parts.ok {C : Ctx} {w : World} {m : Mm} {g : Gh} {xs : List (Nat × Operand)} {ts : List (Nat × T)} (h : Parts ow ρ xs ts) (he : EnvG C bx ow w m g) {a : Act} (ha : ∀ x ∈ xs.map (·.2), ∀ y, ρ x = some y → AR m g y (a.eval x)) :
    ts.length = (xs.map fun p => (p.1, a.eval p.2)).length ∧ ∀ (i : Nat) p q, ts[i]? = some p → (xs.map fun p => (p.1, a.eval p.2))[i]? = some q → q.1 = p.1 ∧ TR m p.2 q.2 := by
  induction h with
  | nil => exact ⟨rfl, fun i p q h => by simp at h⟩
  | @cons i x y t xs ts h hv hl ih =>
    obtain ⟨h1, h2⟩ := ih fun x hx => ha x (by simp at hx ⊢; exact .inr hx)
    refine ⟨by simp [h1], fun j p q h3 h4 => ?_⟩
    cases j with
    | zero => simp at h3 h4; subst h3 h4; exact ⟨rfl, hv.ok he (ha x (by simp) y h)⟩
    | succ j => simp at h3; exact h2 j p q h3 (by simpa using h4)
theorem po_build {t : TypeId} {xs : List (Nat × Operand)} {ts : List (Nat × T)} {rs : List T} (ho : o.op = .build t xs.toArray) (hx : Parts ow ρ xs ts) (hz : zeroOk P t = true) (hb : bldT P t ts = some rs) : PureOp P bx ow o ρ (.t (.agg rs)) := pure_run fun C m g w a he h => by
  obtain ⟨h1, h2⟩ := hx.ok he (a := a) (fun x hx y hy => h x (by simp [ho, Op.operands] at hx ⊢; exact hx) y hy)
  obtain ⟨cells, h3, h4⟩ := bld_ok hb hz h1 h2
  have hrun := run_build (P := P) w t (xs.map fun p => (p.1, a.eval p.2)).toArray cells (by simpa using h3)
  refine ⟨.agg cells, ?_, .agg rs cells (by simpa using h4.1) h4.one (fun j t v h5 h6 => (h4.2 j t v h5 (by simpa using h6)).1)⟩
  simp only [execOp, ho]
  rw [List.map_toArray] at *
  rw [Sem.run_bind, show (xs.map fun x => (x.1, a.eval x.2)).toArray = (xs.map fun p => (p.1, a.eval p.2)).toArray from rfl, hrun]; rfl
theorem po_buildS {t : TypeId} {xs : List (Nat × Operand)} {ts : List (Nat × T)} {rs : List T} {pl : List (Nat × Nat)} {zs : List Value} (hS : strI P t = some (pl, zs)) (ho : o.op = .build t xs.toArray) (hx : Parts ow ρ xs ts) (hb : fillT (fun i => pl[i]?) (zs.map .v) ts = some rs) : PureOp P bx ow o ρ (.t (.agg rs)) :=
  po_build ho hx (strI_bld hS ts).2 (by rw [(strI_bld hS ts).1]; exact hb)
end
end Go.Proofs.YtnclifgiakmmoaaGreat.Sim

/- A logic of states: boxes made and written, rows made and grown. -/
namespace Go.Proofs.YtnclifgiakmmoaaGreat.Sim
set_option linter.unusedVariables false
set_option linter.unusedSimpArgs false
open Go.RowKit Mem

def PX.cells : PX → List PX
  | .t x => x.cells.map .t
  | x => [x]
def PX.okB : PX → Bool
  | .t x => x.okB
  | .j _ (.int _) => true
  | .j _ (.sl _ _) => true
  | .j _ (.tp _) => true
  | .j _ .any => false
def A.cells : A → List A
  | .t x => x.cells.map .t
  | .pr i x => x.cells.map (.pr i)
  | .ag cs => cs
  | y => [y]
def A.okB : A → Bool
  | .t x => x.okB
  | .pr _ x => x.okB
  | .lo _ => false
  | .any => false
  | .rs _ => false
  | .ev _ _ _ => false
  | .tu _ => false
  | .cl _ _ => false
  | _ => true
def ACells (m : Mm) (g : Gh) (ys : List A) (us : List Value) : Prop := us.length = ys.length ∧ ∀ (j : Nat) y u, ys[j]? = some y → us[j]? = some u → AR m g y u ∧ u.oneCell' = true
theorem acells_ok {m : Mm} {g : Gh} {y : A} {v : Value} (h : AR m g y v) (hk : y.okB = true) : ACells m g y.cells v.cells.toList := by
  have one : ∀ {y : A}, y.cells = [y] → AR m g y v → v.oneCell' = true → ACells m g y.cells v.cells.toList := by
    intro y hc hy h1
    have hv : v.cells = #[v] := by cases v <;> first | rfl | cases h1
    rw [hc, hv]
    refine ⟨rfl, fun j t' v' h2 h3 => ?_⟩
    cases j with
    | zero => simp at h2 h3; subst h2 h3; exact ⟨hy, h1⟩
    | succ j => simp at h2
  cases y with
  | t x =>
    have := cells_ok (show TR m x v from h) hk
    refine ⟨by simp [A.cells, this.1], fun j y u h1 h2 => ?_⟩
    simp only [A.cells, List.getElem?_map] at h1
    cases hx : x.cells[j]? with
    | none => rw [hx] at h1; cases h1
    | some t => rw [hx] at h1; simp at h1; subst h1; exact this.2 j t u hx h2
  | pr i x =>
    cases x with
    | t x =>
      have := cells_ok (show TR _ x v from h.2.2) hk
      refine ⟨by simp [A.cells, PX.cells, this.1], fun j y u h1 h2 => ?_⟩
      simp only [A.cells, PX.cells, List.getElem?_map, Option.map_map] at h1
      cases hx : x.cells[j]? with
      | none => rw [hx] at h1; cases h1
      | some t => rw [hx] at h1; simp at h1; subst h1; exact ⟨⟨h.1, h.2.1, (this.2 j t u hx h2).1⟩, (this.2 j t u hx h2).2⟩
    | j n x => exact one rfl h (by
        have h3 : JR _ x v := h.2.2
        cases h3 with
        | any => cases hk
        | _ => rfl)
  | lo n => cases hk
  | bp i off => exact one rfl h (by rw [h.2]; rfl)
  | sb i n sz e => exact one rfl h (by obtain ⟨_, cap, rfl, _⟩ := h; rfl)
  | own i n => exact one rfl h (by obtain ⟨_, _, ⟨A, c, rfl⟩, _⟩ := h; rfl)
  | emp => exact one rfl h (by obtain ⟨A, rfl⟩ := h; rfl)
  | oe i n sz k off => exact one rfl h (by obtain ⟨_, _, ⟨A, rfl⟩, _⟩ := h; rfl)
  | any => cases hk
  | rs R => cases hk
  | rp i k => exact one rfl h h.2.2.2
  | ev i n u => cases hk
  | sfx i n sz k => exact one rfl h (by obtain ⟨_, _, ⟨A, c, rfl⟩, _⟩ := h; rfl)
  | ag cs =>
    obtain ⟨vs, rfl, h1, h2⟩ := h
    exact ⟨by simp [A.cells, Value.cells, h1], fun j y u hy hu => ⟨(h2 j y u hy (by simpa [Value.cells] using hu)).1.two, (h2 j y u hy (by simpa [Value.cells] using hu)).2⟩⟩
  | tu cs => cases hk
  | cl f cs => cases hk
theorem ACells.app {m : Mm} {g : Gh} {ts ts' : List A} {vs vs' : List Value} (h : ACells m g ts vs) (k : ACells m g ts' vs') : ACells m g (ts ++ ts') (vs ++ vs') := by
  refine ⟨by simp [h.1, k.1], fun j t v h1 h2 => ?_⟩
  by_cases hj : j < ts.length
  · rw [List.getElem?_append_left hj] at h1
    rw [List.getElem?_append_left (by rw [h.1]; exact hj)] at h2
    exact h.2 j t v h1 h2
  · rw [List.getElem?_append_right (by omega)] at h1
    rw [List.getElem?_append_right (by rw [h.1]; omega), h.1] at h2
    exact k.2 _ t v h1 h2
theorem ACells.take {m : Mm} {g : Gh} {ts : List A} {vs : List Value} (h : ACells m g ts vs) (n : Nat) : ACells m g (ts.take n) (vs.take n) := by
  refine ⟨by simp [h.1], fun j t v h1 h2 => ?_⟩
  rw [List.getElem?_take] at h1 h2
  split at h1
  · rename_i hj; rw [if_pos hj] at h2; exact h.2 j t v h1 h2
  · cases h1
theorem ACells.drop {m : Mm} {g : Gh} {ts : List A} {vs : List Value} (h : ACells m g ts vs) (n : Nat) : ACells m g (ts.drop n) (vs.drop n) := by
  refine ⟨by simp [h.1], fun j t v h1 h2 => ?_⟩
  rw [List.getElem?_drop] at h1 h2
  exact h.2 _ t v h1 h2
theorem ACells.one {m : Mm} {g : Gh} {ts : List A} {vs : List Value} (h : ACells m g ts vs) : ∀ v ∈ vs, v.oneCell' = true := by
  intro v hv
  obtain ⟨j, hj⟩ := List.getElem?_of_mem hv
  have hlt : j < ts.length := by rw [← h.1]; exact (List.getElem?_eq_some_iff.1 hj).1
  exact (h.2 j _ v (List.getElem?_eq_getElem hlt) hj).2

/-- one box more -/
def Gh.addB (g : Gh) (i b : Nat) : Gh := { g with gb := fun j => if j = i then b else g.gb j, lb := fun j => if j = i then true else g.lb j }
theorem AR0.addB {m : Mm} {g : Gh} {x : A} {v : Value} (h : AR0 m g x v) {i b : Nat} (hi : g.lb i = false) : AR0 m (g.addB i b) x v := by
  cases x with
  | bp j off =>
    obtain ⟨h1, h2⟩ := h
    have hne : j ≠ i := fun e => by subst e; rw [hi] at h1; cases h1
    exact ⟨by simp [Gh.addB, hne, h1], by simp [Gh.addB, hne, h2]⟩
  | sb j n sz e =>
    obtain ⟨h1, cap, h2⟩ := h
    have hne : j ≠ i := fun e => by subst e; rw [hi] at h1; cases h1
    exact ⟨by simp [Gh.addB, hne, h1], cap, by simpa [Gh.addB, hne] using h2⟩
  | rp j k =>
    obtain ⟨h1, h2, h3⟩ := h
    exact ⟨h1, by simp [Gh.addB, h2], h3⟩
  | pr j k =>
    obtain ⟨h1, h2, h3⟩ := h
    exact ⟨h1, by simp [Gh.addB, h2], h3⟩
  | _ => exact h
theorem AR.addB {m : Mm} {g : Gh} {x : A} {v : Value} (h : AR m g x v) {i b : Nat} (hi : g.lb i = false) : AR m (g.addB i b) x v := h.lift fun _ _ h => h.addB hi
theorem alloc_new_cells {w : World} {b o : Nat} {m : Mm} (hs : Sub m w) (h : w.heap.size ≤ b) : m b o = none := by
  cases hv : m b o with
  | none => rfl
  | some v => have := hs.lt hv; omega
section
variable {C : Ctx} {bx : List (Nat × List A)} {ow : List (Nat × Own)} {w : World} {m : Mm} {g : Gh}
theorem EnvG.boxT (he : EnvG C bx ow w m g) {i : Nat} (hp : Nat.ble 2000 i = false) (hi : get bx i = none) {cs : List A} {vs : Array Value} {ty : Tag} (hc : ACells m g cs vs.toList) (hwn : wnB i = false := by rfl) (hch : chB i = false := by rfl) : EnvG C ((i, cs) :: bx) ow (w.alloc (obOf i vs ty)) m (g.addB i w.heap.size) := by
  have hlo : Lo w (w.alloc (obOf i vs ty)) := (Lo.refl w).alloc _
  have hlb : g.lb i = false := by rw [he.lb, hi]; rfl
  have hs := he.step hlo (Ext.refl m _) (he.sub.lo hlo) (NFx.refl _ _)
  have hlt : ∀ j cs', get bx j = some cs' → chB j = false → g.gb j < w.heap.size := fun j cs' hj hcj => by
    obtain ⟨vs', ty', h1, _⟩ := he.boxes j cs' hj hcj
    exact block_lt h1
  exact {
    lo := hs.lo, gm := hs.gm, sub := hs.sub, ext := hs.ext, gt := hs.gt
    lb := fun j => by
      rw [get_cons]
      show (if j = i then true else g.lb j) = _
      by_cases hji : j = i
      · subst hji; simp
      · rw [if_neg hji, if_neg (fun e => hji e.symm)]; exact he.lb j
    lw := he.lw, ln := he.ln
    boxes := fun j cs' hj hcj => by
      rw [get_cons] at hj
      by_cases hji : i = j
      · subst hji
        rw [if_pos rfl] at hj; injection hj with hj; subst hj
        refine ⟨vs, ty, ?_, .of (by simpa using hc.1) hwn, fun k x v h1 h2 => ?_, ?_, ?_⟩
        · show (w.alloc (obOf i vs ty)).heap[if i = i then w.heap.size else g.gb i]? = _
          rw [if_pos rfl]; exact heap_alloc_new w _
        · have := hc.2 k x v h1 (by simpa using h2)
          exact ⟨this.1.addB hlb, this.2⟩
        · show C.mine (if i = i then w.heap.size else g.gb i)
          rw [if_pos rfl]; exact .inl he.lo.size
        · intro o
          show m (if i = i then w.heap.size else g.gb i) o = none
          rw [if_pos rfl]; exact alloc_new_cells he.sub (Nat.le_refl _)
      · rw [if_neg hji] at hj
        obtain ⟨vs', ty', h1, h2, h3, h4, h5⟩ := hs.boxes j cs' hj hcj
        have hg : (g.addB i w.heap.size).gb j = g.gb j := by show (if j = i then _ else _) = _; rw [if_neg (fun e => hji e.symm)]
        rw [hg]
        exact ⟨vs', ty', h1, h2, fun k x v h6 h7 => ⟨(h3 k x v h6 h7).1.addB hlb, (h3 k x v h6 h7).2⟩, h4, h5⟩
    inj := fun j k cj ck hj hk hcj hck h => by
      rw [get_cons] at hj hk
      have e : ∀ q, (g.addB i w.heap.size).gb q = if q = i then w.heap.size else g.gb q := fun q => rfl
      rw [e, e] at h
      by_cases hji : i = j <;> by_cases hki : i = k
      · omega
      · rw [if_neg hki] at hk
        rw [if_pos hji.symm, if_neg (fun e => hki e.symm)] at h
        have := hlt k ck hk hck; omega
      · rw [if_neg hji] at hj
        rw [if_neg (fun e => hji e.symm), if_pos hki.symm] at h
        have := hlt j cj hj hcj; omega
      · rw [if_neg hji] at hj; rw [if_neg hki] at hk
        rw [if_neg (fun e => hji e.symm), if_neg (fun e => hki e.symm)] at h
        exact he.inj j k cj ck hj hk hcj hck h
    owns := fun j o hj => by
      obtain ⟨vs', h1, h2, h3, h4⟩ := hs.owns j o hj
      refine ⟨vs', h1, h2, h3, fun b hb => ⟨(h4 b hb).1, fun k ck hk hck => ?_, (h4 b hb).2.2⟩⟩
      rw [get_cons] at hk
      show (if k = i then w.heap.size else g.gb k) ≠ b
      by_cases hki : i = k
      · rw [if_pos hki.symm]
        obtain ⟨vs2, h5, _⟩ := he.owns j o hj
        have := (h5.lt b hb).2; omega
      · rw [if_neg hki] at hk
        rw [if_neg (fun e => hki e.symm)]
        exact (h4 b hb).2.1 k ck hk hck
    apart := hs.apart
    pin := hs.pin
    pinb := fun j cs' hj hj2 => by
      rw [get_cons] at hj
      show (if j = i then w.heap.size else g.gb j) = _
      by_cases hji : i = j
      · subst hji; rw [hp] at hj2; cases hj2
      · rw [if_neg hji] at hj; rw [if_neg (fun e => hji e.symm)]; exact hs.pinb j cs' hj hj2
    rs := he.rsF (fun _ => False) (fun j R hj hj2 => by
      rw [get_cons] at hj2
      by_cases hji : i = j
      · subst hji; rw [hch] at hj; cases hj
      · rw [if_neg hji] at hj2
        exact ⟨hj2, rfl, rfl⟩) (fun j cs' _ hj hj2 => by
      rw [get_cons] at hj
      by_cases hji : i = j
      · subst hji; rw [hp] at hj2; cases hj2
      · rw [if_neg hji] at hj; exact ⟨rfl, cs', hj⟩) (fun _ h => h.elim) (fun k hk _ => Below.block hlo k hk) (fun _ _ _ h => h) (fun _ _ _ h => h) (fun j cs' hj hcj => by
      rw [get_cons] at hj
      by_cases hji : i = j
      · subst hji; exact .inr (.inl (by show w.heap.size ≤ (if i = i then w.heap.size else g.gb i); rw [if_pos rfl]; exact Nat.le_refl _))
      · rw [if_neg hji] at hj
        refine .inl ⟨j, cs', hj, hcj, ?_⟩
        show (if j = i then w.heap.size else g.gb j) = _
        rw [if_neg (fun e => hji e.symm)]) (fun j o hj b hb => .inl ⟨j, o, hj, hb⟩)
    nb := nb_cons he.nb (.inl hch)
    nf := hs.nf }
theorem EnvG.box (he : EnvG C bx ow w m g) {i : Nat} (hp : Nat.ble 2000 i = false) (hq : cellB i = true) (hi : get bx i = none) {cs : List A} {vs : Array Value} {ty : TypeId} (hc : ACells m g cs vs.toList) : EnvG C ((i, cs) :: bx) ow (w.alloc (.cells vs ty)) m (g.addB i w.heap.size) := by
  have := he.boxT (ty := ⟨ty, 0, 0, 0⟩) hp hi hc (cell_win hq) (cell_ch hq)
  rwa [ob_cells hq] at this
/-- a box written -/
theorem EnvG.setAtW (he : EnvG C bx ow w m g) {i : Nat} {cs cs' : List A} (hi : get bx i = some cs) {vs' : Array Value} {ty : Tag} {w' : World} (hgw : w.grownBy w' (some (g.gb i))) (hsame : w'.heap[g.gb i]? = some (obOf i vs' ty)) (hz : BxSz g.cz i vs'.size ty.ty cs'.length) (hc : ∀ (k : Nat) x v, cs'[k]? = some x → vs'[k]? = some v → AR m g x v ∧ v.oneCell' = true) (hch : chB i = false := by rfl) : EnvG C ((i, cs') :: bx) ow w' m g := by
  obtain ⟨vs0, ty0, h1, h2, h3, h4, h5⟩ := he.boxes i cs hi hch
  have hother : ∀ k, k < w.heap.size → k ≠ g.gb i → w'.heap[k]? = w.heap[k]? := fun k hk hne => hgw.block k hk (fun e => hne (by injection e))
  have hlb : ∀ j cj, get ((i, cs') :: bx) j = some cj → ∃ c0, get bx j = some c0 := fun j cj hj => by
    rw [get_cons] at hj
    by_cases hji : i = j
    · subst hji; exact ⟨cs, hi⟩
    · rw [if_neg hji] at hj; exact ⟨cj, hj⟩
  exact {
    lo := he.lo.grown hgw (fun k hk => by injection hk with hk; subst hk; exact h4)
    gm := he.gm
    sub := fun b o v hv => by
      have hb : b ≠ g.gb i := fun e => by rw [e, h5 o] at hv; cases hv
      rw [World.cell?_of_block (a := ⟨b, o, none⟩) (hother b (he.sub.lt hv) hb)]; exact he.sub b o v hv
    ext := he.ext
    gt := he.gt
    lb := fun j => by
      rw [get_cons, he.lb j]
      by_cases hji : i = j
      · subst hji; rw [if_pos rfl, hi]; rfl
      · rw [if_neg hji]
    lw := he.lw, ln := he.ln
    boxes := fun j cj hj hcj => by
      rw [get_cons] at hj
      by_cases hji : i = j
      · subst hji
        rw [if_pos rfl] at hj; injection hj with hj; subst hj
        exact ⟨vs', ty, hsame, hz, hc, h4, h5⟩
      · rw [if_neg hji] at hj
        obtain ⟨vs2, ty2, h6, h7⟩ := he.boxes j cj hj hcj
        exact ⟨vs2, ty2, by rw [hother _ (block_lt h6) fun e => hji (he.inj j i cj cs hj hi hcj hch e).symm]; exact h6, h7⟩
    inj := fun j k cj ck hj hk hcj hck h => by
      obtain ⟨c1, hj'⟩ := hlb j cj hj
      obtain ⟨c2, hk'⟩ := hlb k ck hk
      exact he.inj j k c1 c2 hj' hk' hcj hck h
    owns := fun j o hj => by
      obtain ⟨vs2, h6, h7, h8, h9⟩ := he.owns j o hj
      refine ⟨vs2, h6.kept hgw ?_, h7, h8, fun b hb => ⟨(h9 b hb).1, fun k ck hk hck => ?_, (h9 b hb).2.2⟩⟩
      · cases hb : (g.go j).ownBlock with
        | none => exact .inl rfl
        | some b => exact .inr fun e => by injection e with e; exact (h9 b hb).2.1 i cs hi hch e.symm
      · obtain ⟨c2, hk'⟩ := hlb k ck hk
        exact (h9 b hb).2.1 k c2 hk' hck
    apart := he.apart
    pin := he.pin
    pinb := fun j cj hj hj2 => by
      obtain ⟨c1, hj'⟩ := hlb j cj hj
      exact he.pinb j c1 hj' hj2
    rs := he.rsF (fun k => k = g.gb i) (fun j R hj hj2 => by
      rw [get_cons] at hj2
      by_cases hji : i = j
      · subst hji; rw [hch] at hj; cases hj
      · rw [if_neg hji] at hj2; exact ⟨hj2, rfl, rfl⟩) (fun j cj _ hj _ => ⟨rfl, hlb j cj hj⟩) (fun k hk => .inl ⟨i, cs, hi, hch, hk.symm⟩) (fun k hk hn => hother k hk hn) (fun _ _ _ h => h) (fun _ _ _ h => h) (fun j cj hj hcj => by
      obtain ⟨c1, hj'⟩ := hlb j cj hj
      exact .inl ⟨j, c1, hj', hcj, rfl⟩) (fun j o hj b hb => .inl ⟨j, o, hj, hb⟩)
    nb := nb_cons he.nb (.inl hch)
    nf := fun b o u hb hu => by
      have hne : b ≠ g.gb i := fun e => by rw [e, h5 o] at hu; cases hu
      rw [nfB_eq (hother b (he.sub.lt hu) hne)]; exact he.nf b o u hb hu }
theorem EnvG.setAt (he : EnvG C bx ow w m g) {i : Nat} {cs cs' : List A} (hi : get bx i = some cs) {vs' : Array Value} {ty : Tag} {w' : World} (hgw : w.grownBy w' (some (g.gb i))) (hsame : w'.heap[g.gb i]? = some (obOf i vs' ty)) (hc : ACells m g cs' vs'.toList) (hw : wnB i = false := by rfl) (hch : chB i = false := by rfl) : EnvG C ((i, cs') :: bx) ow w' m g :=
  he.setAtW hi hgw hsame (.of (by simpa using hc.1) hw) (fun k x v h6 h7 => hc.2 k x v h6 (by simpa using h7)) hch
theorem EnvG.setB (he : EnvG C bx ow w m g) {i : Nat} {cs cs' : List A} (hi : get bx i = some cs) {vs vs' : Array Value} {ty : TypeId} (hh : w.heap[g.gb i]? = some (.cells vs ty (0, 0))) (hc : ACells m g cs' vs'.toList) (hq : cellB i = true := by rfl) : EnvG C ((i, cs') :: bx) ow (w.setRow (g.gb i) vs') m g :=
  he.setAt (ty := ⟨ty, 0, 0, 0⟩) hi (grown_setRow' w (g.gb i) vs') (by rw [ob_cells hq]; exact setRow_heap w (g.gb i) vs vs' ty (0, 0) hh) hc (cell_win hq) (cell_ch hq)
where
  grown_setRow' (w : World) (g : Nat) (cs : Array Value) : w.grownBy (w.setRow g cs) (some g) := ⟨rfl, rfl, rfl, by simp, fun k _ hk => setRow_other w g k cs (fun e => hk (by rw [e]))⟩
end
end Go.Proofs.YtnclifgiakmmoaaGreat.Sim
