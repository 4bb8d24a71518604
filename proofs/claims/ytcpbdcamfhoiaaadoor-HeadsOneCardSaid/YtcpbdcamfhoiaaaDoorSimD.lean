/- A logic of states: numbers, texts, calls. -/
import Derived.Test.YtcpbdcamfhoiaaaDoorSimC
namespace Go.Proofs.YtcpbdcamfhoiaaaDoor.Sim
set_option linter.unusedVariables false
set_option linter.unusedSimpArgs false
open Go.RowKit Mem

/-- data that is a value just so -/
inductive Ex : T → Value → Prop
  | v (x : Value) : Ex (.v x) x
  | agg {cs : List T} {vs : List Value} (hl : cs.length = vs.length) (h : ∀ (j : Nat) t v, cs[j]? = some t → vs[j]? = some v → t = .v v) : Ex (.agg cs) (.agg vs.toArray)
theorem Ex.eq {m : Mm} {t : T} {x v : Value} (h : Ex t x) (hv : TR m t v) : v = x := by
  cases h with
  | v x => exact tr_v hv
  | @agg cs vs hl h =>
    cases hv with
    | agg cs ws hw h1 ht =>
      congr 1
      refine Array.ext' (List.ext_getElem? fun j => ?_)
      by_cases hj : j < vs.length
      · have e1 : ws[j]? = some (ws[j]'(by omega)) := Array.getElem?_eq_getElem (by omega)
        have e2 : cs[j]? = some (cs[j]'(by omega)) := List.getElem?_eq_getElem (by omega)
        have e3 : vs[j]? = some (vs[j]'(by omega)) := List.getElem?_eq_getElem (by omega)
        have h5 := ht j _ _ e2 e1
        rw [h j _ _ e2 e3] at h5
        have h6 := tr_v h5
        rw [Array.getElem?_toList, e1, h6]
        simp [e3]
      · rw [List.getElem?_eq_none (by simp; omega), List.getElem?_eq_none (by simp; omega)]

def cmpB : BinOp → Int → Int → Option Bool
  | .lss, x, y => some (decide (x < y))
  | .leq, x, y => some (decide (x ≤ y))
  | .gtr, x, y => some (decide (y < x))
  | .geq, x, y => some (decide (y ≤ x))
  | .eql, x, y => some (decide (x = y))
  | .neq, x, y => some (!decide (x = y))
  | _, _, _ => none
def arI : BinOp → IntKind → Int → Int → Option Int
  | .add, k, x, y => some (k.wrap (x + y))
  | .sub, k, x, y => some (k.wrap (x - y))
  | .mul, k, x, y => some (k.wrap (x * y))
  | _, _, _, _ => none
def strB : BinOp → ByteArray → ByteArray → Option Bool
  | .eql, a, b => some (decide (a = b))
  | .neq, a, b => some (!decide (a = b))
  | .lss, a, b => some (Op.bytesLess a.toList b.toList)
  | _, _, _ => none

section
variable {P : Program} {bx : List (Nat × List A)} {ow : List (Nat × Own)} {o : Oper} {ρ : Operand → Option A} {r : A}
theorem po_ex2 {op : BinOp} {t t2 : TypeId} {x y : Operand} {tx ty : T} {vx vy vr : Value} (ho : o.op = .binOp op t x y t2) (hx : ρ x = some (.t tx)) (hy : ρ y = some (.t ty)) (ex : Ex tx vx) (ey : Ex ty vy)
    (hr : ∀ (w : World) (a b : Operand), ((do eqGuard op t a b vx vy; binOp op t vx vy) : Sem Value).run P w = .ok vr w) : PureOp P bx ow o ρ (.t (.v vr)) := pure_run fun C m g w a he h => by
  have h1 := ex.eq (h x (by simp [ho, Op.operands]) _ hx)
  have h2 := ey.eq (h y (by simp [ho, Op.operands]) _ hy)
  refine ⟨vr, ?_, .v _⟩
  have := hr w x y
  simp only [execOp, ho, h1, h2]
  rw [Sem.run_bind, this]; rfl
theorem po_cmp {op : BinOp} {t t2 : TypeId} {x y : Operand} {k : IntKind} {i j : Int} {c : Bool} (ho : o.op = .binOp op t x y t2) (hx : ρ x = some (.t (.v (.int k i)))) (hy : ρ y = some (.t (.v (.int k j)))) (hc : cmpB op i j = some c) : PureOp P bx ow o ρ (.t (.v (.bool c))) :=
  po_ex2 ho hx hy (.v _) (.v _) (by
    intro w a b
    cases op <;> first | (injection hc with hc; subst hc; simp [eqGuard, binOp, Op.intCmp, bne]; done) | (injection hc with hc; subst hc; simp [eqGuard, binOp, Op.intCmp, bne]; rfl) | cases hc)
theorem po_arith {op : BinOp} {t t2 : TypeId} {x y : Operand} {k : IntKind} {i j c : Int} (ho : o.op = .binOp op t x y t2) (hx : ρ x = some (.t (.v (.int k i)))) (hy : ρ y = some (.t (.v (.int k j)))) (hc : arI op k i j = some c) : PureOp P bx ow o ρ (.t (.v (.int k c))) :=
  po_ex2 ho hx hy (.v _) (.v _) (by
    intro w a b
    cases op <;> first | (injection hc with hc; subst hc; simp [eqGuard, binOp, Op.intArith]; done) | cases hc)
theorem ar_add {k : IntKind} {x y z : Int} (hz : k.wrap z = z) (h : x + y = z) : arI .add k x y = some z := by simp [arI, h, hz]
theorem ar_sub {k : IntKind} {x y z : Int} (hz : k.wrap z = z) (h : x - y = z) : arI .sub k x y = some z := by simp [arI, h, hz]
theorem ar_mul {k : IntKind} {x y z : Int} (hz : k.wrap z = z) (h : x * y = z) : arI .mul k x y = some z := by simp [arI, h, hz]
theorem wrap_i64 {n : Int} (h : -9223372036854775808 ≤ n ∧ n ≤ 9223372036854775807) : IntKind.i64.wrap n = n := IntWalk.i64_in _ h
theorem po_quo {t t2 : TypeId} {x y : Operand} {k : IntKind} {i j : Int} (ho : o.op = .binOp .quo t x y t2) (hx : ρ x = some (.t (.v (.int k i)))) (hy : ρ y = some (.t (.v (.int k j)))) (hj : j ≠ 0) : PureOp P bx ow o ρ (.t (.v (.int k (k.wrap (i.tdiv j))))) :=
  po_ex2 ho hx hy (.v _) (.v _) (by intro w a b; simp [eqGuard, binOp, Op.intDiv, hj])
theorem po_rem {t t2 : TypeId} {x y : Operand} {k : IntKind} {i j : Int} (ho : o.op = .binOp .rem t x y t2) (hx : ρ x = some (.t (.v (.int k i)))) (hy : ρ y = some (.t (.v (.int k j)))) (hj : j ≠ 0) : PureOp P bx ow o ρ (.t (.v (.int k (i.tmod j)))) :=
  po_ex2 ho hx hy (.v _) (.v _) (by intro w a b; simp [eqGuard, binOp, Op.intDiv, hj])
theorem po_and {t t2 : TypeId} {x y : Operand} {k : IntKind} {i j : Int} (ho : o.op = .binOp .and t x y t2) (hx : ρ x = some (.t (.v (.int k i)))) (hy : ρ y = some (.t (.v (.int k j)))) : PureOp P bx ow o ρ (.t (.v (.int k (k.wrap (BitVec.ofInt k.bits i &&& BitVec.ofInt k.bits j).toNat)))) :=
  po_ex2 ho hx hy (.v _) (.v _) (by intro w a b; simp [eqGuard, binOp, Op.intBits])
theorem ba_eq (a b : ByteArray) : (a.toList == b.toList) = decide (a = b) := by
  rw [Bool.eq_iff_iff]; simp only [beq_iff_eq, decide_eq_true_eq]
  exact ⟨bs_inj, fun h => by rw [h]⟩
theorem po_str {op : BinOp} {t t2 : TypeId} {x y : Operand} {i j : ByteArray} {c : Bool} (ho : o.op = .binOp op t x y t2) (hx : ρ x = some (.t (.v (.string i)))) (hy : ρ y = some (.t (.v (.string j)))) (hc : strB op i j = some c) : PureOp P bx ow o ρ (.t (.v (.bool c))) :=
  po_ex2 ho hx hy (.v _) (.v _) (by
    intro w a b
    cases op <;> first | (injection hc with hc; subst hc; simp [eqGuard, binOp, Op.stringOp, ba_eq]; done) | cases hc)
theorem po_cat {t t2 : TypeId} {x y : Operand} {i j : ByteArray} (ho : o.op = .binOp .add t x y t2) (hx : ρ x = some (.t (.v (.string i)))) (hy : ρ y = some (.t (.v (.string j)))) (hs : i.size + j.size ≤ 9223372036854775807) : PureOp P bx ow o ρ (.t (.v (.string (i ++ j)))) :=
  po_ex2 ho hx hy (.v _) (.v _) (by
    intro w a b
    have := run_string_add_sum (P := P) (w := w) i j hs
    simp [eqGuard, binOp, this])
theorem po_boolq {op : BinOp} {t t2 : TypeId} {x y : Operand} {i j : Bool} (ho : o.op = .binOp op t x y t2) (hx : ρ x = some (.t (.v (.bool i)))) (hy : ρ y = some (.t (.v (.bool j)))) (hu : P.underlying t = some .bool) (hop : op = .eql ∨ op = .neq) : PureOp P bx ow o ρ (.t (.v (.bool (if op = .eql then i == j else !(i == j))))) :=
  po_ex2 ho hx hy (.v _) (.v _) (by
    intro w a b
    rcases hop with rfl | rfl
    · simp [eqGuard, run_eql_bool w t i j hu]
    · simp [eqGuard, run_neq_bool w t i j hu])
theorem po_not {t : TypeId} {x : Operand} {b : Bool} (ho : o.op = .unOp .not t x) (hx : ρ x = some (.t (.v (.bool b)))) : PureOp P bx ow o ρ (.t (.v (.bool (!b)))) := pure_run fun C m g w a he h => by
  have h1 := tr_v (h x (by simp [ho, Op.operands]) _ hx)
  exact ⟨.bool (!b), by simp [execOp, ho, h1, Op.unary], .v _⟩
theorem po_neg {t : TypeId} {x : Operand} {k : IntKind} {i : Int} (ho : o.op = .unOp .neg t x) (hx : ρ x = some (.t (.v (.int k i)))) : PureOp P bx ow o ρ (.t (.v (.int k (k.wrap (0 - i))))) := pure_run fun C m g w a he h => by
  have h1 := tr_v (h x (by simp [ho, Op.operands]) _ hx)
  exact ⟨_, by simp [execOp, ho, h1, Op.unary, Op.intArith], .v _⟩
theorem po_conv_int {src dst : TypeId} {x : Operand} {k k' : IntKind} {i c : Int} (ho : o.op = .convert src dst x) (hx : ρ x = some (.t (.v (.int k' i)))) (hs : intK P src = some k') (hd : intK P dst = some k) (hc : k.wrap i = c) : PureOp P bx ow o ρ (.t (.v (.int k c))) := pure_run fun C m g w a he h => by
  have h1 := tr_v (h x (by simp [ho, Op.operands]) _ hx)
  subst hc
  refine ⟨.int k (k.wrap i), ?_, .v _⟩
  simp [execOp, ho, h1, convert, run_underlying (intK_spec hs), run_underlying (intK_spec hd), Conv.intToInt]
theorem po_len_str {x : Operand} {t : TypeId} {s : ByteArray} (ho : o.op = .call { callee := .builtin .len, args := #[x], argTypes := #[t] }) (hx : ρ x = some (.t (.v (.string s)))) (hu : isStr P t = true) : PureOp P bx ow o ρ (.t (.v (.int .i64 s.size))) := pure_run fun C m g w a he h => by
  have h1 := tr_v (h x (by simp [ho, Op.operands, Call.operands]) _ hx)
  exact ⟨.int .i64 s.size, by simp [execOp, ho, h1, resolve, invoke, builtin, Builtin.len_, run_underlying (isStr_spec hu), goInt], .v _⟩
theorem po_len {x : Operand} {t : TypeId} {y : A} {sz : Nat} {rows : List (List T)} (ho : o.op = .call { callee := .builtin .len, args := #[x], argTypes := #[t] }) (hx : ρ x = some y) (hy : Vw ow y (.sl sz rows)) (hT : sliceSz P t = some sz) : PureOp P bx ow o ρ (.t (.v (.int .i64 rows.length))) := pure_run fun C m g w a he h => by
  have h1 : TR m (.sl sz rows) (a.eval x) := hy.ok he (h x (by simp [ho, Op.operands, Call.operands]) _ hx)
  obtain ⟨e, _, hu, _, _⟩ := sliceSz_spec hT
  generalize hv : a.eval x = v at h1
  cases h1 with
  | sl sz rows A b off cap u hc hm hA hr hu' ht =>
    exact ⟨.int .i64 rows.length, by simp [execOp, ho, hv, resolve, invoke, builtin, Builtin.len_, run_underlying hu, goInt], .v _⟩
theorem po_index_str {t : TypeId} {x ix : Operand} {s : ByteArray} {k : Nat} {n : Int} {ik : IntKind} (ho : o.op = .index t x ix) (hx : ρ x = some (.t (.v (.string s)))) (hi : ρ ix = some (.t (.v (.int ik n)))) (hu : isStr P t = true) (hn : n = (k : Int)) (hk : k < s.size) : PureOp P bx ow o ρ (.t (.v (.int .u8 s[k].toNat))) := pure_run fun C m g w a he h => by
  have h1 := tr_v (h x (by simp [ho, Op.operands]) _ hx)
  have h2 := tr_v (h ix (by simp [ho, Op.operands]) _ hi)
  subst hn
  refine ⟨.int .u8 s[k].toNat, ?_, .v _⟩
  have : s[k]? = some s[k] := by simp [hk]
  simp [execOp, ho, h1, h2, Instr.index, asIntOf, run_underlying (isStr_spec hu), hk]
theorem po_extract {x : Operand} {i : Nat} {cs : List T} {t : T} (ho : o.op = .extract x i) (hx : ρ x = some (.t (.tup cs))) (ht : cs[i]? = some t) : PureOp P bx ow o ρ (.t t) := pure_run fun C m g w a he h => by
  have h1 : TR m (.tup cs) (a.eval x) := h x (by simp [ho, Op.operands]) _ hx
  generalize hv : a.eval x = v at h1
  cases h1 with
  | tup cs vs hl hr =>
    have hlt : i < vs.size := by rw [hl]; exact (List.getElem?_eq_some_iff.1 ht).1
    exact ⟨vs[i], by simp [execOp, ho, hv, Instr.extract, hlt], hr i t _ ht (by simp [hlt])⟩

/-- a call: what it is handed, what it hands back; it turns nothing -/
structure PCalls (P : Program) (f : FuncId) (args : List T) (r : T) : Prop where
  ent : ∀ (args : Array Value) (w : World), (callFunc f args).run P w = .ok (.enter f args) w
  run : ∀ (m : Mm) (w : World) (vals : Array Value), Sub m w → vals.size = args.length → (∀ (i : Nat) t v, args[i]? = some t → vals[i]? = some v → TR m t v) →
    Calls P f vals w fun e w' => ∃ v m', e = .returned v ∧ Lo w w' ∧ Ext m m' w.heap.size ∧ Sub m' w' ∧ TR m' r v
/-- what operands read as -/
inductive Args (ow : List (Nat × Own)) (ρ : Operand → Option A) : List Operand → List T → Prop
  | nil : Args ow ρ [] []
  | cons {x : Operand} {y : A} {t : T} {xs : List Operand} {ts : List T} (h : ρ x = some y) (hv : Vw ow y t) (hl : Args ow ρ xs ts) : Args ow ρ (x :: xs) (t :: ts)
theorem ac {ow : List (Nat × Own)} {ρ : Operand → Option A} {x : Operand} {y : A} {t : T} {xs : List Operand} {ts : List T} (hl : Args ow ρ xs ts) (h : ρ x = some y := by exact rfl) (hv : Vw ow y t := by first | exact .t _ | exact .own rfl (by first | rfl | assumption | (simp; done) | (simp; omega)) | exact .nil _ | exact .emp _ | exact .fn _) : Args ow ρ (x :: xs) (t :: ts) := .cons h hv hl
theorem Args.ok {C : Ctx} {w : World} {m : Mm} {g : Gh} {xs : List Operand} {ts : List T} (h : Args ow ρ xs ts) (he : EnvG C bx ow w m g) {a : Act} (ha : ∀ x ∈ xs, ∀ y, ρ x = some y → AR m g y (a.eval x)) : xs.length = ts.length ∧ ∀ (i : Nat) t v, ts[i]? = some t → (xs.map a.eval)[i]? = some v → TR m t v := by
  induction h with
  | nil => exact ⟨rfl, fun i t v h => by simp at h⟩
  | @cons x y t xs ts h hv hl ih =>
    obtain ⟨h1, h2⟩ := ih fun x hx => ha x (by simp [hx])
    refine ⟨by simp [h1], fun i t' v h3 h4 => ?_⟩
    cases i with
    | zero => simp at h3 h4; subst h3 h4; exact hv.ok he (ha x (by simp) y h)
    | succ i => simp at h3; exact h2 i t' v h3 (by simpa using h4)
theorem po_call {f : FuncId} {xs : List Operand} {at_ : Array TypeId} {ts : List T} {t : T} (hc : PCalls P f ts t) (ho : o.op = .call { callee := .value (.func f), args := xs.toArray, argTypes := at_ }) (ha : Args ow ρ xs ts) : PureOp P bx ow o ρ (.t t) := by
  refine .mk fun C m g w a Q he h => ?_
  obtain ⟨hl, hv⟩ := ha.ok he (a := a) (fun x hx y hy => h x (by simp [ho, Op.operands, Call.operands, hx]) y hy)
  have hrun : (execOp a.eval o).run P w = .ok (.enter f (xs.map a.eval).toArray) w := by
    have := hc.ent (xs.map a.eval).toArray w
    simp only [execOp, ho, resolve, Deferred.ofValue, Act.eval, invoke, Sem.run_bind, Sem.run_pure, Result.andThen_ok, List.map_toArray, Array.append_empty, Array.empty_append, Array.append_eq_append, List.append_nil, List.nil_append] at this ⊢
    simpa using this
  exact wp_call_of hrun (hc.run m w _ he.sub (by simp [hl]) (fun i t v h1 h2 => hv i t v h1 (by simpa using h2))) fun e w' ⟨v, m', h1, h2, h3, h4, h5⟩ => ⟨v, h1, v, m', rfl, h2, h3, h4, h5⟩
theorem po_call_clo {f : FuncId} {x : Operand} {xs : List Operand} {at_ : Array TypeId} {ts caps : List T} {t : T} (ho : o.op = .call { callee := .value x, args := xs.toArray, argTypes := at_ }) (hx : ρ x = some (.t (.clo f caps))) (ha : Args ow ρ xs ts) (hc : PCalls P f (ts ++ caps) t) : PureOp P bx ow o ρ (.t t) := by
  refine .mk fun C m g w a Q he h => ?_
  obtain ⟨hl, hv⟩ := ha.ok he (a := a) (fun x hx y hy => h x (by simp [ho, Op.operands, Call.operands, hx]) y hy)
  have h1 : TR m (.clo f caps) (a.eval x) := h x (by simp [ho, Op.operands, Call.operands]) _ hx
  generalize hvx : a.eval x = v at h1
  cases h1 with
  | clo f caps vs hs ht =>
    have hrun : (execOp a.eval o).run P w = .ok (.enter f ((xs.map a.eval).toArray ++ vs)) w := by
      have := hc.ent ((xs.map a.eval).toArray ++ vs) w
      simp only [execOp, ho, resolve, Deferred.ofValue, hvx, invoke, Sem.run_bind, Sem.run_pure, Result.andThen_ok, List.map_toArray, Array.append_empty, Array.empty_append] at this ⊢
      simpa using this
    refine wp_call_of hrun (hc.run m w _ he.sub (by simp [hl, hs]) ?_) fun e w' ⟨v, m', h1, h2, h3, h4, h5⟩ => ⟨v, h1, v, m', rfl, h2, h3, h4, h5⟩
    intro i t v h1 h2
    rw [List.getElem?_append] at h1
    rw [Array.getElem?_append] at h2
    by_cases hi : i < ts.length
    · rw [if_pos hi] at h1
      rw [if_pos (by simpa [hl] using hi)] at h2
      exact hv i t v h1 (by simpa using h2)
    · rw [if_neg hi] at h1
      rw [if_neg (by simpa [hl] using hi)] at h2
      refine ht _ t v h1 ?_
      simpa [hl] using h2
end
end Go.Proofs.YtcpbdcamfhoiaaaDoor.Sim
