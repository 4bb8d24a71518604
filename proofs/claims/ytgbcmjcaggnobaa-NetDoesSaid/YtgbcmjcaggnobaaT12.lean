/- Merged by bundles.py: SimNt, SimNt2, SimLf, SimWy, SimTab. -/
import Derived.Test.YtgbcmjcaggnobaaT11
import Derived.Test.YtgbcmjcaggnobaaT5
import Derived.Lib.AppendStr
import Derived.Test.YtgbcmjcaggnobaaT10
/- A logic of states: a net: a box of a hundred and one cells, and its channels. -/
namespace Go.Proofs.Ytgbcmjcaggnobaa.Sim
set_option linter.unusedVariables false
set_option linter.unusedSimpArgs false
open Go.RowKit Mem Go.Conc
/-- a net: how many nodes; of each link (10 * from + to) its row -/
structure PNet where
  n : Nat
  row : Nat → List (List UInt8)
def bysT (l : List UInt8) : T := .sl 1 (l.map byteT)
/-- the links that a net of n nodes has -/
def lnk (n k : Nat) : Bool := decide (1 ≤ k / 10 ∧ k / 10 ≤ n ∧ 1 ≤ k % 10 ∧ k % 10 ≤ n)
def PNet.put (d : PNet) (k : Nat) (l : List (List UInt8)) : PNet := { d with row := fun j => if j = k then l else d.row j }
theorem PNet.put_row (d : PNet) (k : Nat) (l : List (List UInt8)) : (d.put k l).row k = l := if_pos rfl
theorem PNet.put_put (d : PNet) (k : Nat) (l l' : List (List UInt8)) : (d.put k l).put k l' = d.put k l' := by
  unfold PNet.put; congr 1; funext j; dsimp only; by_cases h : j = k
  · rw [if_pos h, if_pos h]
  · rw [if_neg h, if_neg h, if_neg h]
theorem PNet.put_same (d : PNet) (k : Nat) : d.put k (d.row k) = d := by
  cases d with
  | mk n row =>
    unfold PNet.put; congr 1; funext j; dsimp only; by_cases h : j = k
    · rw [if_pos h, h]
    · rw [if_neg h]
def ChAt (w : World) (m : Mm) (p : Nat) (l : List (List UInt8)) : Prop :=
  ∃ (buf : Array Value) (s r : Nat), w.heap[p]? = some (.chan 32 buf false s r false) ∧ buf.size = l.length ∧ ∀ (j : Nat) x v, l[j]? = some x → buf[j]? = some v → TR m (bysT x) v
def NetAt (on : Nat → Bool) (d : PNet) (w : World) (m : Mm) (b : Nat) (S : Nat → Bool) (rp : Nat → Value) : Prop :=
  d.n ≤ 9 ∧ (∃ (cs : Array Value) (ty : TypeId), w.heap[b]? = some (.cells cs ty (0, 0)) ∧ cs.size = 101 ∧ cs[0]? = some (.int .i64 (d.n : Int)) ∧ ∀ k, k < 100 → cs[1 + k]? = some (bif on k then rp k else .chan none)) ∧
  (∀ k, k < 100 → on k = true → ∃ p, rp k = .chan (some p) ∧ S p = true ∧ ChAt w m p (d.row k)) ∧
  (∀ k k', k < 100 → k' < 100 → on k = true → on k' = true → rp k = rp k' → k = k') ∧
  (∀ k, k < 100 → on k = false → rp k = undef ∧ rp (100 + k) = undef) ∧ ∀ p, S p = true → p < w.heap.size
theorem ChAt.loc {w w' : World} {m m' : Mm} {p : Nat} {l : List (List UInt8)} (h : ChAt w m p l) (hw : w'.heap[p]? = w.heap[p]?) (hm : ∀ b o v, m b o = some v → m' b o = some v) : ChAt w' m' p l := by
  obtain ⟨buf, s, r, h1, h2, h3⟩ := h
  exact ⟨buf, s, r, by rw [hw]; exact h1, h2, fun j x v hx hv => (h3 j x v hx hv).mono hm⟩
def NetR (on : Nat → Bool) (d : PNet) : Rsc where
  R := NetAt on d
  loc := fun {w w' m m' b S rp} hw hm ⟨h0, ⟨cs, ty, h1, h2⟩, h3, h4, h5, h6⟩ => ⟨h0, ⟨cs, ty, by rw [hw b (.inr rfl)]; exact h1, h2⟩, fun k hk hon => by
    obtain ⟨p, e1, e2, e3⟩ := h3 k hk hon
    exact ⟨p, e1, e2, e3.loc (hw p (.inl e2)) hm⟩, h4, h5, fun p hp => by
    have h7 := hw p (.inl hp)
    rw [Array.getElem?_eq_getElem (h6 p hp)] at h7
    exact (Array.getElem?_eq_some_iff.1 h7).1⟩
  lt := fun ⟨_, _, _, _, _, h6⟩ hk => h6 _ hk
def chI (P : Program) (t : TypeId) : Bool := match P.underlying t with
  | some (.chan _ _) => true
  | _ => false
theorem chI_spec {P : Program} {t : TypeId} (h : chI P t = true) : ∃ dir e, P.underlying t = some (.chan dir e) := by
  unfold chI at h
  split at h
  · rename_i d e hh; exact ⟨d, e, hh⟩
  · cases h
def ptI (P : Program) (t : TypeId) : Bool := match P.underlying t with
  | some (.pointer _) => true
  | _ => false
theorem ptI_spec {P : Program} {t : TypeId} (h : ptI P t = true) : ∃ e, P.underlying t = some (.pointer e) := by
  unfold ptI at h
  split at h
  · rename_i e hh; exact ⟨e, hh⟩
  · cases h
theorem run_equal_chan {P : Program} {t : TypeId} (h : chI P t = true) (a b : Option Nat) (w : World) : (Op.equal t (.chan a) (.chan b)).run P w = .ok (a == b) w := by
  obtain ⟨dir, e, hu⟩ := chI_spec h
  have key : ∀ d, (Op.equalIn (d + 1) t (.chan a) (.chan b)).run P w = .ok (a == b) w := fun d => by simp [Op.equalIn, run_underlying hu]
  exact key 9999
theorem run_equal_ptr0 {P : Program} {t : TypeId} (h : ptI P t = true) (a : Option Addr) (w : World) : (Op.equal t (.pointer a) (.pointer none)).run P w = .ok a.isNone w := by
  obtain ⟨e, hu⟩ := ptI_spec h
  have key : ∀ d, (Op.equalIn (d + 1) t (.pointer a) (.pointer none)).run P w = .ok a.isNone w := fun d => by cases a <;> simp [Op.equalIn, run_underlying hu]
  exact key 9999
section
variable {P : Program} {N : Nat} {Q : Exit → St → Prop} {ops : Array Oper} {rest : List Oper} {o : Oper} {tm : List (Nat × A)} {bx : List (Nat × List A)} {ow : List (Nat × Own)} {ρ : Operand → Option A} {on : Nat → Bool} {d : PNet}
theorem EnvG.net {C : Ctx} {w : World} {m : Mm} {g : Gh} (he : EnvG C bx ow w m g) {i : Nat} (hc : chB i = true) (hb : get bx i = some [.rs (NetR on d)]) : NetAt on d w m (g.gb i) (g.sf i) (g.rp i) := (he.rs.1 i _ hc hb).1
theorem po_load_ntn {ty : TypeId} {x : Operand} {i n : Nat} (ho : o.op = .load ty x) (hx : ρ x = some (.bp i 0)) (hT : tyI P ty = some (false, n)) (hb : get bx i = some [.rs (NetR on d)]) (hc : chB i = true := by rfl) : PureOp P bx ow o ρ (.t (.v (.int .i64 (d.n : Int)))) := pure_run fun C m g w a he h => by
  obtain ⟨_, h1⟩ := h x (by simp [ho, Op.operands]) _ hx
  obtain ⟨_, ⟨cs, ty', hh, hs, h0, _⟩, _⟩ := he.net hc hb
  have hlt : 0 < cs.size := by omega
  have h0' : cs[0] = .int .i64 (d.n : Int) := by rw [Array.getElem?_eq_getElem hlt] at h0; injection h0
  have hcell : w.cell? ⟨g.gb i, 0, none⟩ = some (.int .i64 (d.n : Int)) := by simp [World.cell?, hh, hlt, h0']
  exact ⟨_, by simp [execOp, ho, h1, run_load_scalar hT hcell], .v _⟩
theorem po_load_ntk {ty : TypeId} {x : Operand} {i off u v n : Nat} (ho : o.op = .load ty x) (hx : ρ x = some (.bp i off)) (hT : tyI P ty = some (false, n)) (hoff : off = 0 + 1 + u * 10 + v * 1) (hk : u * 10 + v < 100) (hon : on (u * 10 + v) = true) (hb : get bx i = some [.rs (NetR on d)]) (hc : chB i = true := by rfl) : PureOp P bx ow o ρ (.rp i (u * 10 + v)) := pure_run fun C m g w a he h => by
  obtain ⟨hl, h1⟩ := h x (by simp [ho, Op.operands]) _ hx
  obtain ⟨_, ⟨cs, ty', hh, hs, _, h2⟩, h3, _⟩ := he.net hc hb
  obtain ⟨k, hk0⟩ : ∃ k, k = u * 10 + v := ⟨_, rfl⟩
  rw [← hk0] at hk hon ⊢
  obtain rfl : off = 1 + k := by omega
  have h0 := h2 k hk
  rw [hon] at h0
  have hlt : 1 + k < cs.size := by omega
  have h0' : cs[1 + k] = g.rp i k := by rw [Array.getElem?_eq_getElem hlt] at h0; injection h0
  have hcell : w.cell? ⟨g.gb i, 1 + k, none⟩ = some (g.rp i k) := by simp [World.cell?, hh, hlt, h0']
  obtain ⟨p, hp, _⟩ := h3 k hk hon
  exact ⟨_, by simp [execOp, ho, h1, run_load_scalar hT hcell], hc, hl, rfl, by rw [hp]; rfl⟩
theorem net_rp {C : Ctx} {w : World} {m : Mm} {g : Gh} (he : EnvG C bx ow w m g) {i k : Nat} {v : Value} (h : AR m g (.rp i k) v) (hb : get bx i = some [.rs (NetR on d)]) (hk : k < 100) (hon : on k = true) : ∃ p, v = .chan (some p) ∧ g.sf i p = true ∧ ChAt w m p (d.row k) := by
  obtain ⟨hc, _, rfl, _⟩ := h
  obtain ⟨_, _, h3, _⟩ := he.net hc hb
  exact h3 k hk hon
theorem po_len_nt {x : Operand} {t : TypeId} {i k : Nat} (ho : o.op = .call { callee := .builtin .len, args := #[x], argTypes := #[t] }) (hx : ρ x = some (.rp i k)) (hT : chI P t = true) (hk : k < 100) (hon : on k = true) (hb : get bx i = some [.rs (NetR on d)]) : PureOp P bx ow o ρ (.t (.v (.int .i64 ((d.row k).length : Int)))) := pure_run fun C m g w a he h => by
  obtain ⟨p, hv, _, buf, s, r, h1, h2, _⟩ := net_rp he (h x (by simp [ho, Op.operands, Call.operands]) _ hx) hb hk hon
  obtain ⟨dir, e, hu⟩ := chI_spec hT
  have := run_len_chan (P := P) t o.type hu h1
  exact ⟨.int .i64 ((d.row k).length : Int), by simp [execOp, ho, hv, resolve, invoke, builtin, this, goInt, h2], .v _⟩
theorem po_len_nil {x : Operand} {t : TypeId} (ho : o.op = .call { callee := .builtin .len, args := #[x], argTypes := #[t] }) (hx : ρ x = some (.t (.v (.chan none)))) (hT : chI P t = true) : PureOp P bx ow o ρ (.t (.v (.int .i64 0))) := pure_run fun C m g w a he h => by
  have hv := tr_v (h x (by simp [ho, Op.operands, Call.operands]) _ hx)
  obtain ⟨dir, e, hu⟩ := chI_spec hT
  exact ⟨.int .i64 0, by simp [execOp, ho, hv, resolve, invoke, builtin, Builtin.len_, run_underlying hu, goInt], .v _⟩
theorem po_nil_nt {x : Operand} {t t2 i k : Nat} (ho : o.op = .binOp .eql t x (.const (.chan none)) t2) (hx : ρ x = some (.rp i k)) (hT : chI P t = true) (hk : k < 100) (hon : on k = true) (hb : get bx i = some [.rs (NetR on d)]) : PureOp P bx ow o ρ (.t (.v (.bool false))) := pure_run fun C m g w a he h => by
  obtain ⟨p, hv, _⟩ := net_rp he (h x (by simp [ho, Op.operands]) _ hx) hb hk hon
  have hc0 : a.eval (.const (.chan none)) = .chan none := rfl
  exact ⟨.bool false, by simp [execOp, ho, hv, hc0, eqGuard, binOp, Sem.run_bind, run_equal_chan hT], .v _⟩
theorem po_nil_nil {x : Operand} {t t2 : Nat} (ho : o.op = .binOp .eql t x (.const (.chan none)) t2) (hx : ρ x = some (.t (.v (.chan none)))) (hT : chI P t = true) : PureOp P bx ow o ρ (.t (.v (.bool true))) := pure_run fun C m g w a he h => by
  have hv := tr_v (h x (by simp [ho, Op.operands]) _ hx)
  have hc0 : a.eval (.const (.chan none)) = .chan none := rfl
  exact ⟨.bool true, by simp [execOp, ho, hv, hc0, eqGuard, binOp, Sem.run_bind, run_equal_chan hT], .v _⟩
/-- is a pointer to a box nil -/
theorem po_nil_bp {x : Operand} {t t2 i off : Nat} (ho : o.op = .binOp .eql t x (.const (.pointer none)) t2) (hx : ρ x = some (.bp i off)) (hT : ptI P t = true) : PureOp P bx ow o ρ (.t (.v (.bool false))) := pure_run fun C m g w a he h => by
  obtain ⟨_, hv⟩ := h x (by simp [ho, Op.operands]) _ hx
  have hc0 : a.eval (.const (.pointer none)) = .pointer none := rfl
  exact ⟨.bool false, by simp [execOp, ho, hv, hc0, eqGuard, binOp, Sem.run_bind, run_equal_ptr0 hT], .v _⟩
theorem po_nil_p0 {x : Operand} {t t2 : Nat} (ho : o.op = .binOp .eql t x (.const (.pointer none)) t2) (hx : ρ x = some (.t (.v (.pointer none)))) (hT : ptI P t = true) : PureOp P bx ow o ρ (.t (.v (.bool true))) := pure_run fun C m g w a he h => by
  have hv := tr_v (h x (by simp [ho, Op.operands]) _ hx)
  have hc0 : a.eval (.const (.pointer none)) = .pointer none := rfl
  exact ⟨.bool true, by simp [execOp, ho, hv, hc0, eqGuard, binOp, Sem.run_bind, run_equal_ptr0 hT], .v _⟩
end
end Go.Proofs.Ytgbcmjcaggnobaa.Sim

/- A logic of states: communications with a net's channels. -/
namespace Go.Proofs.Ytgbcmjcaggnobaa.Sim
set_option linter.unusedVariables false
set_option linter.unusedSimpArgs false
open Go.RowKit Mem Go.Conc
theorem net_set {on : Nat → Bool} {d : PNet} {w w' : World} {m : Mm} {b k p : Nat} {S : Nat → Bool} {rp : Nat → Value} {l : List (List UInt8)} (hN : NetAt on d w m b S rp) (hk : k < 100) (hon : on k = true) (hp : rp k = .chan (some p))
    (ho : ∀ q, q ≠ p → w'.heap[q]? = w.heap[q]?) (hs : w.heap.size ≤ w'.heap.size) (hc : ChAt w' m p l) : NetAt on (d.put k l) w' m b S rp := by
  obtain ⟨h0, ⟨cs, ty, h1, h2⟩, h3, h4, h5, h6⟩ := hN
  have hbp : b ≠ p := fun e => by
    obtain ⟨buf, s, r, hb, _⟩ := hc
    obtain ⟨p', e1, e2, buf', s', r', hb', _⟩ := h3 k hk hon
    rw [hp] at e1; injection e1 with e1; injection e1 with e1
    rw [← e1, ← e, h1] at hb'; injection hb' with hb'; cases hb'
  refine ⟨h0, ⟨cs, ty, by rw [ho b hbp]; exact h1, h2⟩, fun j hj hoj => ?_, h4, h5, fun q hq => Nat.lt_of_lt_of_le (h6 q hq) hs⟩
  obtain ⟨q, e1, e2, e3⟩ := h3 j hj hoj
  by_cases hjk : j = k
  · subst hjk
    rw [hp] at e1; injection e1 with e1; injection e1 with e1; subst e1
    exact ⟨p, hp, e2, by rw [PNet.put_row]; exact hc⟩
  · refine ⟨q, e1, e2, ?_⟩
    have hqp : q ≠ p := fun e => hjk (h4 j k hj hk hoj hon (by rw [e1, hp, e]))
    show ChAt w' m q (if j = k then l else d.row j)
    rw [if_neg hjk]
    exact e3.loc (ho q hqp) fun _ _ _ h => h
theorem grown_chan (w : World) (p cap : Nat) (buf : Array Value) (s r : Nat) : w.grownBy (w.setChan p cap buf false s r false) (some p) :=
  ⟨rfl, rfl, rfl, by simp [World.setChan], fun k _ hk => by simp only [World.setChan]; rw [Array.getElem?_setIfInBounds_ne (fun e => hk (by rw [e]))]⟩
theorem other_chan (w : World) (p cap : Nat) (buf : Array Value) (s r q : Nat) (h : q ≠ p) : (w.setChan p cap buf false s r false).heap[q]? = w.heap[q]? := by
  simp only [World.setChan]; rw [Array.getElem?_setIfInBounds_ne (fun e => h e.symm)]
theorem chat_push {w : World} {m : Mm} {p s r : Nat} {buf : Array Value} {l : List (List UInt8)} {x : List UInt8} {v : Value} (hp : p < w.heap.size) (hl : buf.size = l.length) (hr : ∀ (j : Nat) x v, l[j]? = some x → buf[j]? = some v → TR m (bysT x) v) (hv : TR m (bysT x) v) : ChAt (w.setChan p 32 (buf.push v) false s r false) m p (l ++ [x]) := by
  refine ⟨buf.push v, s, r, heap_setChan w p 32 _ false s r false hp, by simp [hl], fun j y u hy hu => ?_⟩
  by_cases hj : j < l.length
  · rw [List.getElem?_append_left hj] at hy
    rw [Array.getElem?_push, if_neg (by omega)] at hu
    exact hr j y u hy hu
  · rw [List.getElem?_append_right (by omega)] at hy
    have h0 : j - l.length = 0 := by
      rcases Nat.eq_zero_or_pos (j - l.length) with h | h
      · exact h
      · rw [List.getElem?_eq_none (by simp; omega)] at hy; cases hy
    rw [h0] at hy
    rw [Array.getElem?_push, if_pos (by omega)] at hu
    injection hy with hy; injection hu with hu; subst hy hu; exact hv
theorem chat_tail {w : World} {m : Mm} {p s r : Nat} {buf : Array Value} {l : List (List UInt8)} {x : List UInt8} (hp : p < w.heap.size) (hl : buf.size = (x :: l).length) (hr : ∀ (j : Nat) y v, (x :: l)[j]? = some y → buf[j]? = some v → TR m (bysT y) v) : ChAt (w.setChan p 32 (buf.extract 1 buf.size) false s r false) m p l := by
  refine ⟨_, s, r, heap_setChan w p 32 _ false s r false hp, by simp only [Array.size_extract, Nat.min_self]; rw [hl]; rfl, fun j y u hy hu => ?_⟩
  have hj : j < buf.size - 1 := by
    have := (Array.getElem?_eq_some_iff.1 hu).1
    simpa using this
  rw [Array.getElem?_extract, if_pos (by simpa using hj), Nat.add_comm] at hu
  exact hr (j + 1) y u (by simpa using hy) hu
def zSl (P : Program) (e : TypeId) : Prop := (P.info? e).bind (·.zero) = some (.slice none 0 0)
theorem zeroOf {P : Program} {e : TypeId} (h : zSl P e) (w : World) : (zeroValue e).run P w = .ok (.slice none 0 0) w := by
  unfold zSl at h
  cases hq : P.info? e with
  | none => rw [hq] at h; cases h
  | some i => rw [hq] at h; simp at h; simp [zeroValue, typeInfo, hq, h]
section
variable {P : Program} {N : Nat} {Q : Exit → St → Prop} {o : Oper} {l : List Oper} {tm : List (Nat × A)} {bx : List (Nat × List A)} {ow : List (Nat × Own)} {on : Nat → Bool} {d : PNet} {id : Nat}
theorem run_sel_send {a : Act} {w : World} {xc xv : Operand} {e : TypeId} (ho : o.op = .select #[{ chan := xc, send := some xv, elem := e }] false) (hz : zSl P e) {p : Nat} (hc : a.eval xc = .chan (some p)) :
    (execOp a.eval o).run P w = .ok (.comm #[scase p (a.eval xv) (.slice none 0 0)] false .select) w := by
  simp [execOp, ho, hc, scase, zeroOf hz]
theorem run_sel_recv {a : Act} {w : World} {xc : Operand} {e : TypeId} (ho : o.op = .select #[{ chan := xc, send := none, elem := e }] false) (hz : zSl P e) {p : Nat} (hc : a.eval xc = .chan (some p)) :
    (execOp a.eval o).run P w = .ok (.comm #[rcase p (.slice none 0 0)] false .select) w := by
  simp [execOp, ho, hc, rcase, zeroOf hz]
def selT (i : Int) (b : Bool) (ts : List T) : T := .tup (.v (.int .i64 i) :: .v (.bool b) :: ts)
theorem tr_sel {m : Mm} {i : Int} {b : Bool} : TR m (selT i b []) (.tuple #[goInt i, .bool b]) :=
  .tup _ _ rfl fun j t v h1 h2 => by
    match j, h1, h2 with
    | 0, h1, h2 => simp at h1 h2; subst h1 h2; exact .v _
    | 1, h1, h2 => simp at h1 h2; subst h1 h2; exact .v _
theorem tr_sel3 {m : Mm} {i : Int} {b : Bool} {t : T} {v : Value} (h : TR m t v) : TR m (selT i b [t]) (.tuple #[goInt i, .bool b, v]) :=
  .tup _ _ rfl fun j t v h1 h2 => by
    match j, h1, h2 with
    | 0, h1, h2 => simp at h1 h2; subst h1 h2; exact .v _
    | 1, h1, h2 => simp at h1 h2; subst h1 h2; exact .v _
    | 2, h1, h2 => simp at h1 h2; subst h1 h2; exact h
theorem swp_put_room {xc xv : Operand} {e : TypeId} {t i k : Nat} {y : A} {x : List UInt8} (ho : o.op = .select #[{ chan := xc, send := some xv, elem := e }] false) (hz : zSl P e) (hg : o.guard = none) (hd : o.dst = some t) (hN : Nat.blt t N = true)
    (hx : evA tm xc = some (.rp i k)) (hy : evA tm xv = some y) (hv : Vw ow y (bysT x)) (hk : k < 100) (hon : on k = true) (hb : get bx i = some [.rs (NetR on d)]) (hc : chB i = true) (hroom : (d.row k).length < 32)
    (h : SOps P N (o :: l).toArray Q l ⟨(t, .t (selT 0 false [])) :: tm, (i, [.rs (NetR on (d.put k (d.row k ++ [x])))]) :: bx, ow⟩) : SWp P N (.region id (o :: l).toArray false) Q ⟨tm, bx, ow⟩ := by
  refine swp_comm (cases := #[]) (blocking := false) (shape := .select) hg _ (fun C a w ⟨m, g, hr⟩ => ?_) h
  obtain ⟨p, hp, hS, buf, s, r, h1, h2, h3⟩ := net_rp hr.env (hr.ev hx) hb hk hon
  have hN0 := hr.env.net hc hb
  have hvt : TR m (bysT x) (a.eval xv) := hv.ok hr.env (hr.ev hy)
  have hrp : g.rp i k = .chan (some p) := by rw [← (hr.ev hx).2.2.1]; exact hp
  have hlt := block_lt h1
  refine ⟨.tuple #[goInt 0, .bool false], w.setChan p 32 (buf.push (a.eval xv)) false (s + 1) r false, ⟨_, _, _, run_sel_send ho hz hp, fun fr cs es he => step_lone_select_send_room he h1 (by omega)⟩, m, g, ?_⟩
  rw [hd]
  exact hr.put (hr.env.setR (R' := NetR on (d.put k (d.row k ++ [x]))) hc hb (grown_chan w p 32 _ _ _) hS (net_set hN0 hk hon hrp (fun q hq => other_chan _ _ _ _ _ _ _ hq) (by simp [World.setChan]) (chat_push hlt h2 h3 hvt))) (fun x v h => h) (Nat.lt_of_succ_le (Nat.le_of_ble_eq_true hN)) tr_sel
theorem swp_put_full {xc xv : Operand} {e : TypeId} {t i k : Nat} (ho : o.op = .select #[{ chan := xc, send := some xv, elem := e }] false) (hz : zSl P e) (hg : o.guard = none) (hd : o.dst = some t) (hN : Nat.blt t N = true)
    (hx : evA tm xc = some (.rp i k)) (hk : k < 100) (hon : on k = true) (hb : get bx i = some [.rs (NetR on d)]) (hfull : 32 ≤ (d.row k).length)
    (h : SOps P N (o :: l).toArray Q l ⟨(t, .t (selT (-1) false [])) :: tm, bx, ow⟩) : SWp P N (.region id (o :: l).toArray false) Q ⟨tm, bx, ow⟩ := by
  refine swp_comm (cases := #[]) (blocking := false) (shape := .select) hg _ (fun C a w ⟨m, g, hr⟩ => ?_) h
  obtain ⟨p, hp, hS, buf, s, r, h1, h2, h3⟩ := net_rp hr.env (hr.ev hx) hb hk hon
  refine ⟨.tuple #[goInt (-1), .bool false], w, ⟨_, _, _, run_sel_send ho hz hp, fun fr cs es he => step_lone_select_send_full he h1 (by omega)⟩, m, g, ?_⟩
  rw [hd]
  exact hr.put hr.env (fun x v h => h) (Nat.lt_of_succ_le (Nat.le_of_ble_eq_true hN)) tr_sel
theorem swp_take_some {xc : Operand} {e : TypeId} {t i k : Nat} {x : List UInt8} {xs : List (List UInt8)} (ho : o.op = .select #[{ chan := xc, send := none, elem := e }] false) (hz : zSl P e) (hg : o.guard = none) (hd : o.dst = some t) (hN : Nat.blt t N = true)
    (hx : evA tm xc = some (.rp i k)) (hk : k < 100) (hon : on k = true) (hb : get bx i = some [.rs (NetR on d)]) (hc : chB i = true) (hrow : d.row k = x :: xs)
    (h : SOps P N (o :: l).toArray Q l ⟨(t, .t (selT 0 true [bysT x])) :: tm, (i, [.rs (NetR on (d.put k xs))]) :: bx, ow⟩) : SWp P N (.region id (o :: l).toArray false) Q ⟨tm, bx, ow⟩ := by
  refine swp_comm (cases := #[]) (blocking := false) (shape := .select) hg _ (fun C a w ⟨m, g, hr⟩ => ?_) h
  obtain ⟨p, hp, hS, buf, s, r, h1, h2, h3⟩ := net_rp hr.env (hr.ev hx) hb hk hon
  have hN0 := hr.env.net hc hb
  rw [hrow] at h2 h3
  have hrp : g.rp i k = .chan (some p) := by rw [← (hr.ev hx).2.2.1]; exact hp
  have hlt := block_lt h1
  have h0 : 0 < buf.size := by rw [h2]; simp
  have hb0 : TR m (bysT x) (buf.getD 0 undef) := by
    rw [Array.getD_eq_getD_getElem?, Array.getElem?_eq_getElem h0]
    exact h3 0 x _ rfl (Array.getElem?_eq_getElem h0)
  refine ⟨.tuple #[goInt 0, .bool true, buf.getD 0 undef], w.setChan p 32 (buf.extract 1 buf.size) false s (r + 1) false, ⟨_, _, _, run_sel_recv ho hz hp, fun fr cs es he => step_lone_select_recv_buf he h1 h0⟩, m, g, ?_⟩
  rw [hd]
  exact hr.put (hr.env.setR (R' := NetR on (d.put k xs)) hc hb (grown_chan w p 32 _ _ _) hS (net_set hN0 hk hon hrp (fun q hq => other_chan _ _ _ _ _ _ _ hq) (by simp [World.setChan]) (chat_tail hlt h2 h3))) (fun x v h => h) (Nat.lt_of_succ_le (Nat.le_of_ble_eq_true hN)) (tr_sel3 hb0)
theorem swp_take_none {xc : Operand} {e : TypeId} {t i k : Nat} (ho : o.op = .select #[{ chan := xc, send := none, elem := e }] false) (hz : zSl P e) (hg : o.guard = none) (hd : o.dst = some t) (hN : Nat.blt t N = true)
    (hx : evA tm xc = some (.rp i k)) (hk : k < 100) (hon : on k = true) (hb : get bx i = some [.rs (NetR on d)]) (hrow : d.row k = [])
    (h : SOps P N (o :: l).toArray Q l ⟨(t, .t (selT (-1) false [.v (.slice none 0 0)])) :: tm, bx, ow⟩) : SWp P N (.region id (o :: l).toArray false) Q ⟨tm, bx, ow⟩ := by
  refine swp_comm (cases := #[]) (blocking := false) (shape := .select) hg _ (fun C a w ⟨m, g, hr⟩ => ?_) h
  obtain ⟨p, hp, hS, buf, s, r, h1, h2, h3⟩ := net_rp hr.env (hr.ev hx) hb hk hon
  rw [hrow] at h2
  have hbuf : buf = #[] := Array.eq_empty_of_size_eq_zero h2
  subst hbuf
  refine ⟨.tuple #[goInt (-1), .bool false, .slice none 0 0], w, ⟨_, _, _, run_sel_recv ho hz hp, fun fr cs es he => step_lone_select_default he h1⟩, m, g, ?_⟩
  rw [hd]
  exact hr.put hr.env (fun x v h => h) (Nat.lt_of_succ_le (Nat.le_of_ble_eq_true hN)) (tr_sel3 (.v _))
theorem swp_send_nt {o1 o2 : Oper} {x y : Operand} {d1 d2 i k : Nat} {z2 : A} {b : List UInt8} (ho1 : o1.op = .move x) (ho2 : o2.op = .move y) (ho : o.op = .send (.tmp d1) (.tmp d2)) (hg1 : o1.guard = none) (hg2 : o2.guard = none) (hg : o.guard = none)
    (hd1 : o1.dst = some d1) (hd2 : o2.dst = some d2) (hd : o.dst = none) (hne : d2 ≠ d1) (hN : Nat.blt d1 N = true) (hN2 : Nat.blt d2 N = true) (hx : evA tm x = some (.rp i k)) (hy : evA ((d1, .rp i k) :: tm) y = some z2) (hv : Vw ow z2 (bysT b))
    (hk : k < 100) (hon : on k = true) (hb : get bx i = some [.rs (NetR on d)]) (hc : chB i = true) (hroom : (d.row k).length < 32)
    (h : Q .normal ⟨(d2, z2) :: (d1, .rp i k) :: tm, (i, [.rs (NetR on (d.put k (d.row k ++ [b])))]) :: bx, ow⟩) : SWp P N (.region id #[o1, o2, o] false) Q ⟨tm, bx, ow⟩ := by
  refine swp_send ho1 ho2 hg1 hg2 hg hd1 hd2 hd hN hN2 hx hy _ (fun C a w ⟨m, g, hr⟩ => ?_) h
  have ex : evA ((d2, z2) :: (d1, .rp i k) :: tm) (.tmp d1) = some (.rp i k) := by
    show get _ d1 = _
    rw [get_cons, if_neg hne, get_cons, if_pos rfl]
  have ey : evA ((d2, z2) :: (d1, .rp i k) :: tm) (.tmp d2) = some z2 := by
    show get _ d2 = _
    rw [get_cons, if_pos rfl]
  obtain ⟨p, hp, hS, buf, s, r, h1, h2, h3⟩ := net_rp hr.env (hr.ev ex) hb hk hon
  have hN0 := hr.env.net hc hb
  have hvt : TR m (bysT b) (a.eval (.tmp d2)) := hv.ok hr.env (hr.ev ey)
  have hrp : g.rp i k = .chan (some p) := by rw [← (hr.ev ex).2.2.1]; exact hp
  have hlt := block_lt h1
  refine ⟨undef, w.setChan p 32 (buf.push (a.eval (.tmp d2))) false (s + 1) r false, ⟨#[scase p (a.eval (.tmp d2)) (.tuple #[])], true, .send, by simp [execOp, ho, hp, scase], fun fr cs es he => step_lone_send_room he h1 (by omega)⟩, m, g, ?_⟩
  exact ⟨hr.env.setR (R' := NetR on (d.put k (d.row k ++ [b]))) hc hb (grown_chan w p 32 _ _ _) hS (net_set hN0 hk hon hrp (fun q hq => other_chan _ _ _ _ _ _ _ hq) (by simp [World.setChan]) (chat_push hlt h2 h3 hvt)), hr.size, hr.defers, hr.tmps⟩
end
end Go.Proofs.Ytgbcmjcaggnobaa.Sim

/- What is done to a row in its own block, as a contract with the row lent. -/
namespace Go.Proofs.Ytgbcmjcaggnobaa.Sim
set_option linter.unusedVariables false
set_option linter.unusedSimpArgs false
open Go.RowKit Mem
theorem EnvG.rowAt {C : Ctx} {bx : List (Nat × List A)} {w w' : World} {m : Mm} {g : Gh} (he : EnvG C bx [] w m g) {i b n : Nat} {v : Value} {e : TypeId} {sz : Nat} {rows : List (List T)} {vs : List Value} (hh : hid i = true) (hp : Nat.ble 2000 i = false)
    (hv : v.ownBlock = some b) (hgw : w.grownBy w' (some b)) (hmine : C.mine b) (hmn : ∀ o, m b o = none) (hbx : ∀ j cs, get bx j = some cs → g.gb j ≠ b) (hnr : ∀ j R, chB j = true → get bx j ≠ some [.rs R])
    (ho : RowM w' 0 e sz v rows.length vs) (hr : ∀ r ∈ rows, r.length = sz) (hc : CellsAre m rows.flatten vs) : EnvG C bx [(i, ⟨e, sz, rows⟩)] w' m (g.setO i v rows.length) := by
  have hother : ∀ k, k < w.heap.size → k ≠ b → w'.heap[k]? = w.heap[k]? := fun k hk hne => hgw.block k hk (fun e => hne (by injection e))
  have hone : ∀ j o, get [(i, (⟨e, sz, rows⟩ : Own))] j = some o → j = i ∧ o = ⟨e, sz, rows⟩ := fun j o h => by
    rw [get_cons] at h
    split at h
    · rename_i e'; injection h with h; exact ⟨e'.symm, h.symm⟩
    · cases h
  have hgi : (g.setO i v rows.length).go i = v := if_pos rfl
  exact {
    lo := he.lo.grown hgw (fun k hk => by injection hk with hk; subst hk; exact hmine)
    gm := he.gm
    sub := fun b' o u hu => by
      have hb : b' ≠ b := fun e => by rw [e, hmn o] at hu; cases hu
      rw [World.cell?_of_block (a := ⟨b', o, none⟩) (hother b' (he.sub.lt hu) hb)]; exact he.sub b' o u hu
    ext := he.ext
    gt := he.gt
    lb := he.lb
    lw := fun j => by
      rw [get_cons]
      show (if j = i then true else g.lw j) = _
      by_cases hji : j = i
      · rw [if_pos hji, if_pos hji.symm]; rfl
      · rw [if_neg hji, if_neg (fun e => hji e.symm), he.lw j]
    ln := fun j o hj => by
      obtain ⟨rfl, rfl⟩ := hone j o hj
      show (if j = j then rows.length else g.ln j) = _
      rw [if_pos rfl]
    boxes := fun j cs hj => by
      obtain ⟨vs2, ty, h1, h2, h3, h4, h5⟩ := he.boxes j cs hj
      exact ⟨vs2, ty, (hother _ (block_lt h1) (hbx j cs hj)).trans h1, h2, fun q x u hx hu => ⟨(h3 q x u hx hu).1.setO (fun _ _ _ h => h) (.inl (by rw [he.lw]; rfl)), (h3 q x u hx hu).2⟩, h4, h5⟩
    inj := he.inj
    owns := fun j o hj => by
      obtain ⟨rfl, rfl⟩ := hone j o hj
      rw [hgi]
      refine ⟨vs, ho, hr, hc, fun b' hb' => ?_⟩
      rw [hv] at hb'; injection hb' with hb'; subst hb'
      exact ⟨fun k => by rw [hmn k, vis_hid hh]; rfl, hbx, hmine⟩
    apart := fun j k oj ok hj hk hjk => by
      obtain ⟨rfl, _⟩ := hone j oj hj
      obtain ⟨rfl, _⟩ := hone k ok hk
      exact absurd rfl hjk
    pin := fun j o hj hj2 => by
      obtain ⟨rfl, _⟩ := hone j o hj
      rw [hp] at hj2; cases hj2
    pinb := he.pinb
    rs := ⟨fun j R hcj hj => absurd hj (hnr j R hcj), fun j k R R' hcj hck hj => absurd hj (hnr j R hcj), he.rs.2.2⟩ }

def rowsB (l : List (List UInt8)) : List (List T) := l.map fun x => [bysT x]
theorem rowsB_len (l : List (List UInt8)) : (rowsB l).length = l.length := by unfold rowsB; rw [List.length_map]
theorem rowsB_flat (l : List (List UInt8)) : (rowsB l).flatten = l.map bysT := by
  induction l with
  | nil => rfl
  | cons x l ih => show [bysT x] ++ (rowsB l).flatten = _; rw [ih]; rfl
theorem rowsB_one (l : List (List UInt8)) : ∀ r ∈ rowsB l, r.length = 1 := fun r hr => by
  obtain ⟨x, _, rfl⟩ := List.mem_map.1 hr; rfl
/-- a row's two ways: by its links' values, and by its messages -/
structure RowWay (f : FuncId) (P : Program) (e : TypeId) (caps : List A) (bxc : List (Nat × List A)) (l l' : List (List UInt8)) : Prop where
  run : ∀ (C : Ctx) (g cap : Nat) (cur : List Value) (fz : Nat × Nat) (w : World) (m : Mm) (gh : Gh) (cv : Array Value), w.heap[g]? = some (.cells cur.toArray e fz) → FzOk fz cur.length → l.length ≤ cap → cap ≤ maxLen → cap ≤ cur.length → CellsAre m (l.map bysT) (cur.take l.length) →
    cv.size = caps.length → (∀ (i : Nat) x v, caps[i]? = some x → cv[i]? = some v → AR m gh x v) → EnvG C bxc [] w m gh →
    Calls P f (#[.slice (some ⟨g, 0, none⟩) l.length cap] ++ cv) w fun e' w' => e' = .returned (.slice (some ⟨g, 0, none⟩) l'.length cap) ∧ w.grownBy w' (some g) ∧ l'.length ≤ l.length ∧ ∃ cur' : List Value, w'.heap[g]? = some (.cells cur'.toArray e fz) ∧ cur'.length = cur.length ∧ CellsAre m (l'.map bysT) (cur'.take l'.length)
theorem lcalls_row {f : FuncId} {P : Program} {e : TypeId} {caps : List A} {bxc : List (Nat × List A)} {l l' : List (List UInt8)} (h : RowWay f P e caps bxc l l') (hne : l ≠ []) (hent : ∀ (args : Array Value) (w : World), (callFunc f args).run P w = .ok (.enter f args) w)
    (hcl : (caps.all fun x => x.live bxc []) = true) (hbl : (bxc.all fun p => p.2.all fun x => x.live bxc []) = true) (hxs : SubX bxc bxc [] bxc) (hnr : ∀ j R, chB j = true → get bxc j ≠ some [.rs R]) :
    LCalls P f (.own 2000 l.length :: caps) bxc [(2000, ⟨e, 1, rowsB l⟩)] (.own 1000 l'.length) bxc [(1000, ⟨e, 1, rowsB l'⟩)] where
  ent := hent
  run := fun m w g vals he hl hv => by
    obtain ⟨vs, hown, hrl, hca, hbk⟩ := he.owns 2000 ⟨e, 1, rowsB l⟩ rfl
    dsimp only at hown hrl hca hbk
    rw [rowsB_flat] at hca
    have hn : 0 < (rowsB l).length := by rw [rowsB_len]; exact List.length_pos_iff.2 hne
    obtain ⟨b, cap, cur, e1, e2, ⟨fz, e3, e3f⟩, e4, e5, e6, e7⟩ := own_form hown hn
    rw [rowsB_len] at e1 e4 e7
    have hob : (g.go 2000).ownBlock = some b := by rw [e1]; rfl
    obtain ⟨hmv, hbx, hmine⟩ := hbk b hob
    have hmb : ∀ k, m b k = none := fun k => by rw [hmv k, vis_hid (i := 2000) rfl]; rfl
    rw [Nat.mul_one] at e6 e7
    -- the row is dropped
    obtain ⟨he0, har0⟩ := envg_sub he hxs (.nil (ow0 := [(2000, ⟨e, 1, rowsB l⟩)]))
    have hlv : 0 < vals.size := by rw [hl]; simp
    have h0 := hv 0 _ vals[0] rfl (Array.getElem?_eq_getElem hlv)
    obtain ⟨_, _, _, hgo⟩ := h0
    have hv0 : vals[0] = .slice (some ⟨b, 0, none⟩) l.length cap := by rw [hgo (by rw [he.ln 2000 _ rfl]; exact (rowsB_len l).symm), e1]
    have hvals : vals = #[.slice (some ⟨b, 0, none⟩) l.length cap] ++ vals.extract 1 vals.size := by
      rw [← hv0]
      refine Array.ext (by simp; omega) fun j h1 h2 => ?_
      cases j with
      | zero => simp
      | succ j => simp [Array.getElem_append_right, Nat.add_comm]
    rw [hvals]
    refine (h.run _ b cap cur.toList fz w m _ (vals.extract 1 vals.size) (by simpa using e3) (by simpa using e3f) e4 e5 (by simpa using e6) (by rw [e7]; exact hca) (by simp [hl]) (fun i x v hx hvx => ?_) he0).mono ?_
    · have hlx := (List.all_eq_true.1 hcl) x (List.mem_of_getElem? hx)
      refine har0 (hv (i + 1) x v (by simpa using hx) ?_) hlx
      rw [Array.getElem?_extract] at hvx
      split at hvx
      · rw [Nat.add_comm]; exact hvx
      · cases hvx
    rintro e' w' ⟨rfl, h1, h2, cur', h3, h4, h5⟩
    have hrow : RowM w' 0 e 1 (.slice (some ⟨b, 0, none⟩) l'.length cap) (rowsB l').length (cur'.take l'.length) := by
      rw [rowsB_len]
      exact ⟨by rw [List.length_take, Nat.mul_one, h4]; simp only [Array.length_toList]; omega, .inr ⟨b, cap, cur'.toArray, rfl, Nat.zero_le _, ⟨fz, h3, by simpa [h4] using e3f⟩, by omega, e5, by simpa [h4] using e6, by simp⟩⟩
    have hE := he0.rowAt (i := 1000) (b := b) (n := l'.length) (v := .slice (some ⟨b, 0, none⟩) l'.length cap) (rows := rowsB l') (vs := cur'.take l'.length) rfl rfl rfl h1 hmine hmb (fun j cs hj => hbx j cs (hxs.get hj).1) hnr hrow (rowsB_one l') (by rw [rowsB_flat]; exact h5)
    refine ⟨_, m, _, rfl, hE, ?_⟩
    refine ⟨by simp [Gh.setO], ?_, ⟨_, _, rfl⟩, fun _ => by simp [Gh.setO]⟩
    simp [Gh.setO, rowsB_len]
end Go.Proofs.Ytgbcmjcaggnobaa.Sim

/- What Deliver, Front and At do to a link's row: contracts with the row lent. -/
namespace Go.Proofs.Ytgbcmjcaggnobaa.Sim
set_option linter.unusedVariables false
set_option linter.unusedSimpArgs false
open Go.RowKit Mem
theorem CellsAre.eraseIdx {m : Mm} {ts : List T} {vs : List Value} (h : CellsAre m ts vs) (i : Nat) : CellsAre m (ts.eraseIdx i) (vs.eraseIdx i) := by
  refine ⟨by simp [List.length_eraseIdx, h.1], fun j t v h1 h2 => ?_⟩
  rw [List.getElem?_eraseIdx] at h1 h2
  split at h1
  · rename_i hj; rw [if_pos hj] at h2; exact h.2 j t v h1 h2
  · rename_i hj; rw [if_neg hj] at h2; exact h.2 _ t v h1 h2
theorem map_eraseIdx' {α β : Type} (f : α → β) : ∀ (l : List α) (i : Nat), (l.eraseIdx i).map f = (l.map f).eraseIdx i
  | [], i => by simp
  | x :: l, 0 => rfl
  | x :: l, i + 1 => by simp [List.eraseIdx_cons_succ, map_eraseIdx' f l i]
def capX (i : Nat) : List (Nat × List A) := [(2001, [.t (.v (.int .i64 (i : Int)))])]
theorem cap_cell {C : Ctx} {w : World} {m : Mm} {g : Gh} {i : Nat} (he : EnvG C (capX i) [] w m g) {cv : Array Value} (hl : cv.size = 1) (hv : ∀ (j : Nat) x v, ([A.bp 2001 0] : List A)[j]? = some x → cv[j]? = some v → AR m g x v) :
    cv = #[.pointer (some ⟨g.gb 2001, 0, none⟩)] ∧ w.cell? ⟨g.gb 2001, 0, none⟩ = some (.int .i64 (i : Int)) := by
  have h0 := hv 0 _ cv[0] rfl (Array.getElem?_eq_getElem (by omega))
  obtain ⟨vs, ty, h1, h2, h3, _⟩ := he.boxes 2001 _ rfl
  have hs : vs.size = 1 := h2.cell rfl
  have h4 := tr_v (show TR m (.v (.int .i64 (i : Int))) _ from (h3 0 _ vs[0] rfl (Array.getElem?_eq_getElem (by omega))).1)
  rw [ob_cells rfl] at h1
  refine ⟨?_, ?_⟩
  · refine Array.ext (by simp [hl]) fun j j1 j2 => ?_
    have : j = 0 := by simp at j2; omega
    subst this
    exact h0.2
  · simp [World.cell?, h1, hs, h4]
theorem at_way {i : Nat} (l : List (List UInt8)) : RowWay 36 Try.prog 28 [] [] l l where
  run := fun C g cap cur fz w m gh cv hg hf hn hcm hcs hc hcv hv he => by
    have hcv0 : cv = #[] := Array.eq_empty_of_size_eq_zero hcv
    subst hcv0
    have hex : Calls Try.prog 36 #[.slice (some ⟨g, 0, none⟩) l.length cap] w fun e' w' => e' = .returned (.slice (some ⟨g, 0, none⟩) l.length cap) ∧ w' = w := by
      go_enter Try.func36, Try.ntmps36
      go_wp2
      go_ret
      exact ⟨rfl, rfl⟩
    refine hex.mono ?_
    rintro e' w' ⟨rfl, rfl⟩
    exact ⟨rfl, grown_of_lo (Lo.refl _), Nat.le_refl _, cur, hg, rfl, hc⟩
theorem deliver_way {i : Nat} (l : List (List UInt8)) (hi : i < l.length) : RowWay 44 Try.prog 28 [.bp 2001 0] (capX i) l (l.eraseIdx i) where
  run := fun C g cap cur fz w m gh cv hg hf hn hcm hcs hc hcv hv he => by
    obtain ⟨rfl, hp⟩ := cap_cell he hcv hv
    have hlen : (l.eraseIdx i).length = l.length - 1 := by rw [List.length_eraseIdx, if_pos hi]
    refine (deliver1_ g cap l.length i cur fz w hg hf hi hn hcm hcs hc.one (gh.gb 2001) hp).mono ?_
    rintro e' w' ⟨rfl, h1, cur', h2, h3, h4⟩
    rw [hlen]
    refine ⟨rfl, h1, by omega, cur', h2, h3, ?_⟩
    rw [h4, map_eraseIdx']
    exact hc.eraseIdx i
theorem front_way {i : Nat} (l : List (List UInt8)) (x : List UInt8) (hx : l[i]? = some x) : RowWay 46 Try.prog 28 [.bp 2001 0] (capX i) l (x :: l.eraseIdx i) where
  run := fun C g cap cur fz w m gh cv hg hf hn hcm hcs hc hcv hv he => by
    obtain ⟨rfl, hp⟩ := cap_cell he hcv hv
    have hi : i < l.length := (List.getElem?_eq_some_iff.1 hx).1
    have hlen : (x :: l.eraseIdx i).length = l.length := by rw [List.length_cons, List.length_eraseIdx, if_pos hi]; omega
    have hcl : (cur.take l.length).length = l.length := by have := hc.1; simpa using this
    have hil : i < cur.length := by rw [List.length_take] at hcl; omega
    obtain ⟨v, hv1⟩ : ∃ v, cur[i]? = some v := ⟨_, List.getElem?_eq_getElem hil⟩
    have hv2 : (cur.take l.length)[i]? = some v := by rw [List.getElem?_take_of_lt hi]; exact hv1
    have htr := (hc.2 i (bysT x) v (by rw [List.getElem?_map, hx]; rfl) hv2)
    have hform : ∃ A xl xc, v = .slice A xl xc := by
      obtain ⟨h1, _⟩ := htr
      unfold bysT at h1
      cases h1 with
      | sl sz rows A b off cap u => exact ⟨A, _, cap, rfl⟩
    obtain ⟨xa, xl, xc, rfl⟩ := hform
    refine (front1_ g cap l.length i cur fz w xa xl xc hg hf hi hn hcm hcs hc.one hv1 (gh.gb 2001) hp).mono ?_
    rintro e' w' ⟨rfl, h1, cur', h2, h3, h4⟩
    rw [hlen]
    refine ⟨rfl, h1, Nat.le_refl _, cur', h2, h3, ?_⟩
    rw [h4, List.map_cons, map_eraseIdx']
    have he := hc.eraseIdx i
    refine ⟨by simp [he.1], fun j t u hj hu => ?_⟩
    cases j with
    | zero => simp at hj hu; subst hj hu; exact htr
    | succ j => exact he.2 j t u (by simpa using hj) (by simpa using hu)
end Go.Proofs.Ytgbcmjcaggnobaa.Sim

/- The program's types: cells, fields, elements. (Printed by mk_tab.py.) -/

namespace Go.Proofs.Ytgbcmjcaggnobaa.Sim
open Go.RowKit Mem
set_option linter.unusedVariables false
set_option maxRecDepth 100000
def tabT : List (Nat × Bool × Nat) := [(1, false, 1), (2, false, 1), (3, false, 1), (4, false, 1), (5, false, 1), (6, false, 1), (7, true, 4), (8, true, 4), (9, false, 1), (10, false, 1), (11, false, 1), (12, false, 1), (13, true, 2), (14, true, 2), (15, false, 1), (16, false, 1), (17, false, 1), (18, true, 1), (19, true, 1), (21, false, 1), (22, false, 1), (23, false, 1), (24, false, 1), (25, false, 1), (26, false, 1), (27, false, 1), (28, false, 1), (29, true, 5), (30, true, 5), (31, true, 3), (32, true, 3), (33, false, 1), (35, false, 1), (36, false, 1), (38, false, 1), (39, false, 1), (40, false, 1), (41, false, 1), (42, false, 1), (43, false, 1), (44, false, 1), (45, false, 1), (46, false, 1), (47, false, 1), (49, false, 1), (50, false, 1), (51, false, 1), (52, false, 1), (53, true, 10), (54, true, 100), (55, true, 101), (56, true, 101), (57, false, 1), (58, false, 1), (59, false, 1), (60, true, 3), (61, true, 3), (62, false, 1), (63, false, 1), (64, false, 1), (65, true, 10), (66, true, 100), (67, true, 101), (68, true, 101), (69, false, 1), (70, false, 1), (71, false, 1), (72, false, 1), (73, false, 1), (74, false, 1), (75, false, 1), (76, false, 1), (77, false, 1), (78, false, 1), (79, false, 1), (80, false, 1), (81, false, 1), (82, false, 1), (83, false, 1), (84, false, 1), (85, false, 1), (86, false, 1), (87, false, 1), (88, false, 1), (89, false, 1), (90, true, 4), (91, true, 4), (92, true, 0), (93, true, 0), (94, true, 0), (95, false, 1), (96, false, 1), (97, false, 1), (98, false, 1), (99, false, 1), (100, false, 1), (101, false, 1), (102, true, 11), (103, true, 11), (104, false, 1)]
def tabS : List (Nat × Nat) := [(22, 5), (27, 3), (28, 1), (45, 1), (58, 3), (69, 1), (76, 1)]
def tabR : List Nat := [9, 10, 11]
def tabF : List (Nat × Nat × Nat) := [(7, 0, 0), (7, 1, 1), (7, 2, 2), (7, 3, 3), (8, 0, 0), (8, 1, 1), (8, 2, 2), (8, 3, 3), (13, 0, 0), (13, 1, 1), (14, 0, 0), (14, 1, 1), (18, 0, 0), (19, 0, 0), (29, 0, 0), (29, 1, 1), (29, 2, 2), (29, 3, 3), (29, 4, 4), (30, 0, 0), (30, 1, 1), (30, 2, 2), (30, 3, 3), (30, 4, 4), (31, 0, 0), (31, 1, 1), (31, 2, 2), (32, 0, 0), (32, 1, 1), (32, 2, 2), (55, 0, 0), (55, 1, 1), (56, 0, 0), (56, 1, 1), (60, 0, 0), (60, 1, 1), (60, 2, 2), (61, 0, 0), (61, 1, 1), (61, 2, 2), (67, 0, 0), (67, 1, 1), (68, 0, 0), (68, 1, 1), (90, 0, 0), (90, 1, 1), (90, 2, 2), (90, 3, 3), (91, 0, 0), (91, 1, 1), (91, 2, 2), (91, 3, 3), (102, 0, 0), (102, 1, 1), (102, 2, 2), (102, 3, 3), (102, 4, 4), (102, 5, 5), (102, 6, 6), (102, 7, 7), (102, 8, 8), (102, 9, 9), (102, 10, 10), (103, 0, 0), (103, 1, 1), (103, 2, 2), (103, 3, 3), (103, 4, 4), (103, 5, 5), (103, 6, 6), (103, 7, 7), (103, 8, 8), (103, 9, 9), (103, 10, 10)]
def tabE : List (Nat × Nat × Nat × Nat) := [(22, 30, 5, 56), (27, 32, 3, 40), (28, 5, 1, 1), (45, 9, 1, 16), (58, 61, 3, 24), (69, 23, 1, 8), (76, 28, 1, 24)]
def allB {α : Type} (p : α → Bool) : List α → Bool
  | [] => true
  | x :: r => p x && allB p r
theorem allB_mem {α : Type} {p : α → Bool} : ∀ {l : List α}, allB p l = true → ∀ x ∈ l, p x = true
  | [], _, x, h => by cases h
  | y :: r, h, x, hx => by
    simp only [allB, Bool.and_eq_true] at h
    rcases List.mem_cons.1 hx with rfl | hx
    · exact h.1
    · exact allB_mem h.2 x hx
def lk {β : Type} : List (Nat × β) → Nat → Option β
  | [], _ => none
  | (a, b) :: r, n => bif Nat.beq a n then some b else lk r n
theorem lk_mem {β : Type} : ∀ {l : List (Nat × β)} {n : Nat} {b : β}, lk l n = some b → (n, b) ∈ l
  | [], n, b, h => by cases h
  | (a, b') :: r, n, b, h => by
    unfold lk at h
    cases hb : Nat.beq a n with
    | true => rw [hb] at h; injection h with h; subst h; rw [Nat.eq_of_beq_eq_true hb]; exact List.mem_cons_self
    | false => rw [hb] at h; exact List.mem_cons_of_mem _ (lk_mem h)
def lk2 {β : Type} : List (Nat × Nat × β) → Nat → Nat → Option β
  | [], _, _ => none
  | (a, c, b) :: r, n, k => bif Nat.beq a n then (bif Nat.beq c k then some b else lk2 r n k) else lk2 r n k
theorem lk2_mem {β : Type} : ∀ {l : List (Nat × Nat × β)} {n k : Nat} {b : β}, lk2 l n k = some b → (n, k, b) ∈ l
  | [], n, k, b, h => by cases h
  | (a, c, b') :: r, n, k, b, h => by
    unfold lk2 at h
    cases hb : Nat.beq a n with
    | true =>
      rw [hb] at h
      cases hc : Nat.beq c k with
      | true => rw [hc] at h; injection h with h; subst h; rw [Nat.eq_of_beq_eq_true hb, Nat.eq_of_beq_eq_true hc]; exact List.mem_cons_self
      | false => rw [hc] at h; exact List.mem_cons_of_mem _ (lk2_mem h)
    | false => rw [hb] at h; exact List.mem_cons_of_mem _ (lk2_mem h)
def memB : List Nat → Nat → Bool
  | [], _ => false
  | a :: r, n => Nat.beq a n || memB r n
theorem memB_mem : ∀ {l : List Nat} {n : Nat}, memB l n = true → n ∈ l
  | [], n, h => by cases h
  | a :: r, n, h => by
    simp only [memB, Bool.or_eq_true] at h
    rcases h with h | h
    · rw [Nat.eq_of_beq_eq_true h]; exact List.mem_cons_self
    · exact List.mem_cons_of_mem _ (memB_mem h)
theorem okT : allB (fun x => decide (tyI Try.prog x.1 = some x.2)) tabT = true := by kernel_rfl
theorem okS : allB (fun x => decide (sliceSz Try.prog x.1 = some x.2)) tabS = true := by kernel_rfl
theorem okR : allB (fun x => isStr Try.prog x) tabR = true := by kernel_rfl
theorem okF : allB (fun x => decide (fieldOff Try.prog x.1 x.2.1 = some x.2.2)) tabF = true := by kernel_rfl
theorem okE : allB (fun x => decide (sliceE Try.prog x.1 = some x.2)) tabE = true := by kernel_rfl
theorem tyE {t : Nat} {x : Nat × Nat × Nat} (h : lk tabE t = some x) : sliceE Try.prog t = some x := of_decide_eq_true (allB_mem okE _ (lk_mem h))
theorem str30 : strI Try.prog 30 = some ([(0, 1), (1, 1), (2, 1), (3, 1), (4, 1)], [.int .i64 0, .int .i64 0, .int .i64 0, .int .i64 0, .slice none 0 0]) := by kernel_rfl
theorem str32 : strI Try.prog 32 = some ([(0, 1), (1, 1), (2, 1)], [.int .i64 0, .int .i64 0, .slice none 0 0]) := by kernel_rfl
theorem str61 : strI Try.prog 61 = some ([(0, 1), (1, 1), (2, 1)], [.int .i64 0, .int .i64 0, .int .i64 0]) := by kernel_rfl
theorem tyT {t : Nat} {x : Bool × Nat} (h : lk tabT t = some x) : tyI Try.prog t = some x := of_decide_eq_true (allB_mem okT _ (lk_mem h))
theorem tyS {t n : Nat} (h : lk tabS t = some n) : sliceSz Try.prog t = some n := of_decide_eq_true (allB_mem okS _ (lk_mem h))
theorem tyR {t : Nat} (h : memB tabR t = true) : isStr Try.prog t = true := allB_mem okR _ (memB_mem h)
theorem tyF {t f k : Nat} (h : lk2 tabF t f = some k) : fieldOff Try.prog t f = some k := of_decide_eq_true (allB_mem okF _ (lk2_mem h))
theorem mixed : Try.prog.follows .mixedOrders = true := by kernel_rfl
end Go.Proofs.Ytgbcmjcaggnobaa.Sim
