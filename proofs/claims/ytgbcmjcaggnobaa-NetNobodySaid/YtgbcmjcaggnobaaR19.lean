/- Merged by bundles.py: PlNet, SimNv, SimNu, PlNet2, SimNuc, SimNud, SimCb. -/
import Derived.Test.YtgbcmjcaggnobaaR16
import Derived.Test.YtgbcmjcaggnobaaR18
import Derived.Test.YtgbcmjcaggnobaaR11
import Derived.Test.YtgbcmjcaggnobaaR4
import Derived.Lib.SlBytesConst
/- A net in plain Lean: what its calls answer and leave. -/
namespace Go.Proofs.Ytgbcmjcaggnobaa.Sim
set_option linter.unusedVariables false
set_option linter.unusedSimpArgs false
structure PMsg where
  f : Int
  t : Int
  b : List UInt8
deriving DecidableEq
structure PHop where
  kind : Int
  f : Int
  t : Int
  no : Int
  load : List UInt8
def isL (n : Nat) (x y : Int) : Bool := decide (1 ≤ x ∧ x ≤ n ∧ 1 ≤ y ∧ y ≤ n ∧ x ≠ y)
def kOf (x y : Int) : Nat := x.toNat * 10 + y.toNat
def msgZ : PMsg := ⟨0, 0, []⟩
def getP (l : List (List UInt8)) (i : Int) : Option (List UInt8) := if 0 ≤ i then l[i.toNat]? else none
def atP (d : PNet) (x y i : Int) : PMsg × Int := bif isL d.n x y then (match getP (d.row (kOf x y)) i with | some b => (⟨x, y, b⟩, 0) | none => (msgZ, 4)) else (msgZ, 1)
def delP (d : PNet) (x y i : Int) : PNet := bif isL d.n x y then (match getP (d.row (kOf x y)) i with | some _ => d.put (kOf x y) ((d.row (kOf x y)).eraseIdx i.toNat) | none => d) else d
def frontP (d : PNet) (x y i : Int) : PNet := bif isL d.n x y then (match getP (d.row (kOf x y)) i with | some b => d.put (kOf x y) (b :: (d.row (kOf x y)).eraseIdx i.toNat) | none => d) else d
def sendP (d : PNet) (x y : Int) (b : List UInt8) : PNet × Int := bif isL d.n x y then (if 16384 < b.length then (d, 6) else if (d.row (kOf x y)).length < 32 then (d.put (kOf x y) (d.row (kOf x y) ++ [b]), 0) else (d, 3)) else (d, 1)
def doubleP (d : PNet) (x y i : Int) : PNet × Int := bif isL d.n x y then (match getP (d.row (kOf x y)) i with | some b => (if (d.row (kOf x y)).length < 32 then (d.put (kOf x y) (d.row (kOf x y) ++ [b]), 0) else (d, 3)) | none => (d, 4)) else (d, 1)
def lenP (d : PNet) (x y : Int) : Int := bif isL d.n x y then ((d.row (kOf x y)).length : Int) else 0
/-- a kind, modulo 8 -/
def knd (i : Int) : Int := IntKind.i64.wrap (BitVec.ofInt IntKind.i64.bits i &&& BitVec.ofInt IntKind.i64.bits 7).toNat
theorem isL_spec {n : Nat} {x y : Int} (h : isL n x y = true) : ∃ a b : Nat, x = a ∧ y = b ∧ kOf x y = a * 10 + b ∧ IsL n a b := by
  unfold isL at h
  rw [decide_eq_true_eq] at h
  obtain ⟨h1, h2, h3, h4, h5⟩ := h
  exact ⟨x.toNat, y.toNat, by omega, by omega, rfl, by omega, by omega, by omega, by omega, by omega⟩
theorem isL_no {n : Nat} {x y : Int} (h : isL n x y = false) : noL n x y := by
  unfold isL at h
  rw [decide_eq_false_iff_not] at h
  unfold noL; omega
theorem getP_some {l : List (List UInt8)} {i : Int} {b : List UInt8} (h : getP l i = some b) : ∃ (k : Nat) (hk : k < l.length), i = k ∧ i.toNat = k ∧ l[k] = b := by
  unfold getP at h
  split at h
  · obtain ⟨h1, h2⟩ := List.getElem?_eq_some_iff.1 h
    exact ⟨i.toNat, h1, by omega, rfl, h2⟩
  · cases h
theorem getP_none {l : List (List UInt8)} {i : Int} (h : getP l i = none) : i < 0 ∨ (l.length : Int) ≤ i := by
  unfold getP at h
  split at h
  · have := List.getElem?_eq_none_iff.1 h; omega
  · omega
theorem NetOk.put {d : PNet} (h : NetOk d) {k : Nat} {l : List (List UInt8)} (hk : ∃ x y, IsL d.n x y ∧ k = x * 10 + y) (h1 : l.length ≤ 32) (h2 : ∀ x ∈ l, x.length ≤ 16384) : NetOk (d.put k l) where
  n := h.n
  len := fun j => by
    show (if j = k then l else d.row j).length ≤ 32
    split
    · exact h1
    · exact h.len j
  big := fun j x hx => by
    have hx : x ∈ (if j = k then l else d.row j) := hx
    split at hx
    · exact h2 x hx
    · exact h.big j x hx
  zero := fun j hj => by
    show (if j = k then l else d.row j) = []
    obtain ⟨x, y, h3, h4⟩ := hk
    rw [if_neg fun e => hj x y h3 (e.trans h4)]
    exact h.zero j hj
theorem isL_key {n : Nat} {x y : Int} (h : isL n x y = true) : ∃ a b, IsL n a b ∧ kOf x y = a * 10 + b := by
  obtain ⟨a, b, _, _, h1, h2⟩ := isL_spec h
  exact ⟨a, b, h2, h1⟩
theorem del_ok {d : PNet} (h : NetOk d) (x y i : Int) : NetOk (delP d x y i) := by
  unfold delP
  cases hL : isL d.n x y with
  | false => exact h
  | true =>
    cases hg : getP (d.row (kOf x y)) i with
    | none => exact h
    | some b => exact h.put (isL_key hL) (Nat.le_trans (List.length_eraseIdx_le _ _) (h.len _)) fun z hz => h.big _ z (List.mem_of_mem_eraseIdx hz)
theorem front_okN {d : PNet} (h : NetOk d) (x y i : Int) : NetOk (frontP d x y i) := by
  unfold frontP
  cases hL : isL d.n x y with
  | false => exact h
  | true =>
    cases hg : getP (d.row (kOf x y)) i with
    | none => exact h
    | some b =>
      obtain ⟨k, hk, h1, h2, h3⟩ := getP_some hg
      refine h.put (isL_key hL) ?_ fun z hz => ?_
      · rw [List.length_cons, List.length_eraseIdx, h2, if_pos hk]; have := h.len (kOf x y); omega
      · rcases List.mem_cons.1 hz with rfl | hz
        · rw [← h3]; exact h.big _ _ (List.getElem_mem hk)
        · exact h.big _ z (List.mem_of_mem_eraseIdx hz)
theorem send_okN {d : PNet} (h : NetOk d) (x y : Int) (b : List UInt8) : NetOk (sendP d x y b).1 := by
  unfold sendP
  cases hL : isL d.n x y with
  | false => exact h
  | true =>
    show NetOk (if 16384 < b.length then (d, 6) else if (d.row (kOf x y)).length < 32 then (d.put (kOf x y) (d.row (kOf x y) ++ [b]), 0) else (d, 3) : PNet × Int).1
    split
    · exact h
    · split
      · refine h.put (isL_key hL) (by simp; omega) fun z hz => ?_
        rcases List.mem_append.1 hz with hz | hz
        · exact h.big _ z hz
        · simp at hz; subst hz; omega
      · exact h
theorem double_okN {d : PNet} (h : NetOk d) (x y i : Int) : NetOk (doubleP d x y i).1 := by
  unfold doubleP
  cases hL : isL d.n x y with
  | false => exact h
  | true =>
    cases hg : getP (d.row (kOf x y)) i with
    | none => exact h
    | some b =>
      show NetOk (if (d.row (kOf x y)).length < 32 then (d.put (kOf x y) (d.row (kOf x y) ++ [b]), 0) else (d, 3) : PNet × Int).1
      split
      · obtain ⟨k, hk, h1, h2, h3⟩ := getP_some hg
        refine h.put (isL_key hL) (by simp; omega) fun z hz => ?_
        rcases List.mem_append.1 hz with hz | hz
        · exact h.big _ z hz
        · simp at hz; subst hz; rw [← h3]; exact h.big _ _ (List.getElem_mem hk)
      · exact h
end Go.Proofs.Ytgbcmjcaggnobaa.Sim

/- The net's calls, as they are said in plain Lean. -/
namespace Go.Proofs.Ytgbcmjcaggnobaa.Sim
set_option linter.unusedVariables false
set_option linter.unusedSimpArgs false
open Go.RowKit Mem
theorem LCalls.res {P : Program} {f : FuncId} {args : List A} {bx0 bx1 : List (Nat × List A)} {ow0 ow1 : List (Nat × Own)} {r r' : A} (h : LCalls P f args bx0 ow0 r bx1 ow1) (hr : ∀ m g v, AR m g r v → AR m g r' v) : LCalls P f args bx0 ow0 r' bx1 ow1 where
  ent := h.ent
  run := fun m w g vals he hl hv => (h.run m w g vals he hl hv).mono fun e w' ⟨v, m', g', h1, h2, h3⟩ => ⟨v, m', g', h1, h2, hr m' g' v h3⟩
def msgA (m : PMsg) : T := msgT m.f m.t m.b
theorem le_msg0 (m : Mm) (v : Value) (h : TR m msg0 v) : TR m (msgA msgZ) v := by
  unfold msg0 at h
  unfold msgA msgZ msgT
  generalize hcs : [T.v (.int .i64 0), T.v (.int .i64 0), T.v (.slice none 0 0)] = cs at h
  cases h with
  | agg cs vs h0 h1 ht =>
    subst hcs
    refine .agg _ vs h0 h1 fun j t v hj hv => ?_
    match j, hj with
    | 0, hj => exact ht 0 t v hj hv
    | 1, hj => exact ht 1 t v hj hv
    | 2, hj =>
      injection hj with hj; subst hj
      have := ht 2 _ v rfl hv
      exact Le.nil 1 m v this
theorem le_tu {m : Mm} {g : Gh} {v : Value} {e : Int} (h : AR m g (.tu [.t msg0, .t (.v (.int .i64 e))]) v) : AR m g (.tu [.t (msgA msgZ), .t (.v (.int .i64 e))]) v := by
  obtain ⟨vs, h1, h2, h3⟩ := h
  refine ⟨vs, h1, h2, fun j x u hj hu => ?_⟩
  match j, hj with
  | 0, hj =>
    injection hj with hj; subst hj
    exact le_msg0 m u (h3 0 _ u rfl hu)
  | 1, hj => exact h3 1 x u hj hu
abbrev xyi (x y i : Int) : List A := [.bp 3000 0, .t (.v (.int .i64 x)), .t (.v (.int .i64 y)), .t (.v (.int .i64 i))]
theorem at_ (d : PNet) (hd : NetOk d) (x y i : Int) : LCalls Try.prog 12 (xyi x y i) (netN d) [] (.tu [.t (msgA (atP d x y i).1), .t (.v (.int .i64 (atP d x y i).2))]) (netN d) [] := by
  unfold atP
  cases hl : isL d.n x y with
  | false => exact (at_no d x y i (isL_no hl)).res fun m g v => le_tu
  | true =>
    obtain ⟨a, b, rfl, rfl, hk, hL⟩ := isL_spec hl
    cases hg : getP (d.row (kOf a b)) i with
    | none =>
      rw [hk] at hg
      exact (at_none d hd a b i hL (getP_none hg)).res fun m g v => le_tu
    | some c =>
      obtain ⟨k, h1, rfl, h3, h4⟩ := getP_some hg
      simp only [hk] at h1 h4
      subst h4
      exact at_ok d hd a b k hL h1
theorem deliver_ (d : PNet) (hd : NetOk d) (x y i : Int) : LCalls Try.prog 29 (xyi x y i) (netN d) [] (.tu [.t (msgA (atP d x y i).1), .t (.v (.int .i64 (atP d x y i).2))]) (netN (delP d x y i)) [] := by
  unfold atP delP
  cases hl : isL d.n x y with
  | false => exact (deliver_no d x y i (isL_no hl)).res fun m g v => le_tu
  | true =>
    obtain ⟨a, b, rfl, rfl, hk, hL⟩ := isL_spec hl
    cases hg : getP (d.row (kOf a b)) i with
    | none =>
      rw [hk] at hg
      exact (deliver_none d hd a b i hL (getP_none hg)).res fun m g v => le_tu
    | some c =>
      obtain ⟨k, h1, rfl, h3, h4⟩ := getP_some hg
      simp only [hk] at h1 h4 ⊢
      subst h4
      exact deliver_ok d hd a b k hL h1
theorem drop_ (d : PNet) (hd : NetOk d) (x y i : Int) : LCalls Try.prog 27 (xyi x y i) (netN d) [] (.t (.v (.int .i64 (atP d x y i).2))) (netN (delP d x y i)) [] := by
  unfold atP delP
  cases hl : isL d.n x y with
  | false => exact drop_no d x y i (isL_no hl)
  | true =>
    obtain ⟨a, b, rfl, rfl, hk, hL⟩ := isL_spec hl
    cases hg : getP (d.row (kOf a b)) i with
    | none =>
      rw [hk] at hg
      exact drop_none d hd a b i hL (getP_none hg)
    | some c =>
      obtain ⟨k, h1, rfl, h3, h4⟩ := getP_some hg
      simp only [hk] at h1 h4 ⊢
      exact drop_ok d hd a b k hL h1
theorem front_ (d : PNet) (hd : NetOk d) (x y i : Int) : LCalls Try.prog 30 (xyi x y i) (netN d) [] (.t (.v (.int .i64 (atP d x y i).2))) (netN (frontP d x y i)) [] := by
  unfold atP frontP
  cases hl : isL d.n x y with
  | false => exact front_no d x y i (isL_no hl)
  | true =>
    obtain ⟨a, b, rfl, rfl, hk, hL⟩ := isL_spec hl
    cases hg : getP (d.row (kOf a b)) i with
    | none =>
      rw [hk] at hg
      exact front_none d hd a b i hL (getP_none hg)
    | some c =>
      obtain ⟨k, h1, rfl, h3, h4⟩ := getP_some hg
      simp only [hk] at h1 h4 ⊢
      subst h4
      exact front_ok d hd a b k hL h1
theorem double_ (d : PNet) (hd : NetOk d) (x y i : Int) : LCalls Try.prog 31 (xyi x y i) (netN d) [] (.t (.v (.int .i64 (doubleP d x y i).2))) (netN (doubleP d x y i).1) [] := by
  unfold doubleP
  cases hl : isL d.n x y with
  | false => exact double_no d x y i (isL_no hl)
  | true =>
    obtain ⟨a, b, rfl, rfl, hk, hL⟩ := isL_spec hl
    cases hg : getP (d.row (kOf a b)) i with
    | none =>
      rw [hk] at hg
      exact double_none d hd a b i hL (getP_none hg)
    | some c =>
      obtain ⟨k, h1, rfl, h3, h4⟩ := getP_some hg
      simp only [hk] at h1 h4 ⊢
      subst h4
      by_cases hr : (d.row (a * 10 + b)).length < 32
      · simp only [cond_true, if_pos hr]
        exact double_ok d hd a b k hL h1 hr
      · simp only [cond_true, if_neg hr]
        exact double_full d hd a b k hL h1 (by omega)
theorem send_ (d : PNet) (hd : NetOk d) (x y : Int) (b : List UInt8) : LCalls Try.prog 34 [.bp 3000 0, .t (.v (.int .i64 x)), .t (.v (.int .i64 y)), .t (bysT b)] (netN d) [] (.t (.v (.int .i64 (sendP d x y b).2))) (netN (sendP d x y b).1) [] := by
  unfold sendP
  cases hl : isL d.n x y with
  | false => exact send_no d x y b (isL_no hl)
  | true =>
    obtain ⟨p, q, rfl, rfl, hk, hL⟩ := isL_spec hl
    simp only [hk, cond_true]
    by_cases h1 : 16384 < b.length
    · simp only [if_pos h1]; exact send_long d hd p q hL b h1
    · simp only [if_neg h1]
      by_cases hr : (d.row (p * 10 + q)).length < 32
      · simp only [if_pos hr]; exact send_ok d hd p q hL b (by omega) hr
      · simp only [if_neg hr]; exact send_full d hd p q hL b (by omega) (by omega)
theorem len_ (d : PNet) (hd : NetOk d) (x y : Int) : LCalls Try.prog 15 [.bp 3000 0, .t (.v (.int .i64 x)), .t (.v (.int .i64 y))] (netN d) [] (.t (.v (.int .i64 (lenP d x y)))) (netN d) [] := by
  unfold lenP
  cases hl : isL d.n x y with
  | false => exact len_no d x y (isL_no hl)
  | true =>
    obtain ⟨p, q, rfl, rfl, hk, hL⟩ := isL_spec hl
    simp only [hk, cond_true]
    exact len_ok d hd p q hL
end Go.Proofs.Ytgbcmjcaggnobaa.Sim

/- does: any call of a net. -/
namespace Go.Proofs.Ytgbcmjcaggnobaa.Sim
set_option linter.unusedVariables false
set_option linter.unusedSimpArgs false
open Go.RowKit Mem
section
variable {P : Program} {N : Nat} {Q : Exit → St → Prop} {ops : Array Oper} {rest : List Oper} {o : Oper} {tm : List (Nat × A)} {bx bx' : List (Nat × List A)} {ow ow' : List (Nat × Own)} {ρ : Operand → Option A} {r : A}
def slI (P : Program) (t : TypeId) : Bool := match P.underlying t with
  | some (.slice _) => true
  | _ => false
/-- clear of a row of none -/
theorem sops_clear0 {t i : Nat} {x : Operand} {y : A} (hg : GuardIs ops tm o true) (ho : o.op = .call { callee := .builtin .clear, args := #[x], argTypes := #[t] }) (hd : o.dst = none) (hx : evA tm x = some y) (hy : (∃ n, y = .own i n ∧ n = 0) ∨ y = .t (.v (.slice none 0 0)) ∨ y = .t (.sl 1 [])) (hT : slI P t = true)
    (h : SOps P N ops Q rest ⟨tm, bx, ow⟩) : SOps P N ops Q (o :: rest) ⟨tm, bx, ow⟩ := by
  refine sops_run hg (fun C a w m g hr => ?_) h
  obtain ⟨A0, c, hv⟩ : ∃ A0 c, a.eval x = .slice A0 0 c := by
    have h0 := hr.ev hx
    rcases hy with ⟨n, rfl, rfl⟩ | rfl | rfl
    · obtain ⟨_, _, ⟨A0, c, h1⟩, _⟩ := h0
      exact ⟨A0, c, h1⟩
    · exact ⟨none, 0, tr_v h0⟩
    · have h0 : TR m (.sl 1 []) (a.eval x) := h0
      generalize a.eval x = v at h0
      cases h0 with
      | sl sz rows A b off cap u => exact ⟨A, cap, rfl⟩
  obtain ⟨e, hu⟩ : ∃ e, P.underlying t = some (.slice e) := by
    unfold slI at hT
    split at hT
    · rename_i e hh; exact ⟨e, hh⟩
    · cases hT
  have hrun : (Builtin.clear_ #[t] o.type #[a.eval x]).run P w = .ok (.tuple #[]) w := by
    rw [hv]; cases A0 <;> simp [Builtin.clear_, run_underlying hu]
  refine ⟨.tuple #[], w, ?_, m, g, ?_⟩
  · simp only [execOp, ho, resolve, invoke, builtin, Sem.run_bind, Sem.run_pure, Result.andThen_ok, List.map_toArray, List.map_cons, List.map_nil, hrun]
  · rw [hd]; exact hr.put_none hr.env (fun x v h => h)
theorem weak_own_sfx {s i n sz : Nat} {e : TypeId} {rows : List (List T)} (hs : get tm s = some (.own i n)) (hi : get ow i = some ⟨e, sz, rows⟩) (hn : n = rows.length) (h0 : 0 < n) : Weak N ⟨tm, bx, ow⟩ ⟨(s, .sfx i n sz 0) :: tm, bx, ow⟩ := .mk fun C a w ⟨m, g, hr⟩ =>
  ⟨m, g, hr.env, hr.size, hr.defers, fun s' x hx => by
    rw [get_cons] at hx
    split at hx
    · rename_i e'; subst e'; injection hx with hx; subst hx
      obtain ⟨h1, h2, ⟨A0, c, h3⟩, h4⟩ := hr.tmps s _ hs
      refine ⟨h1, h2, ⟨A0, c, by rw [h3, Nat.sub_zero]⟩, fun hln => ?_⟩
      obtain ⟨vs, hown, _⟩ := hr.env.owns i _ hi
      obtain ⟨b, cap, cur, e1, _⟩ := own_form hown (by dsimp only; omega)
      dsimp only at e1
      rw [← hn] at e1
      refine ⟨b, cap, e1, ?_⟩
      have := h4 hln
      rw [this, e1, Nat.sub_zero, Nat.sub_zero, Nat.zero_mul]
      split <;> rfl
    · exact hr.tmps s' x hx⟩
theorem po_knd {t t2 : TypeId} {x y : Operand} {i : Int} (ho : o.op = .binOp .and t x y t2) (hx : ρ x = some (.t (.v (.int .i64 i)))) (hy : ρ y = some (.t (.v (.int .i64 7)))) : PureOp P bx ow o ρ (.t (.v (.int .i64 (knd i)))) := po_and ho hx hy
end
theorem uz : ((Try.prog.info? 5).bind (·.zero)).map (fun z => z.cells.toList) = some [.int .u8 0] := by kernel_rfl
def hopT (h : PHop) : T := .agg [.v (.int .i64 h.kind), .v (.int .i64 h.f), .v (.int .i64 h.t), .v (.int .i64 h.no), bysT h.load]
end Go.Proofs.Ytgbcmjcaggnobaa.Sim

/- A net's links, in plain Lean. -/
namespace Go.Proofs.Ytgbcmjcaggnobaa.Sim
set_option linter.unusedVariables false
set_option linter.unusedSimpArgs false
def lkP (d : PNet) (p : Nat × Nat) : Bool := decide (0 < lenP d p.1 p.2)
def inL (d : PNet) (a b : Nat) : List (Nat × Nat) := ((List.range b).map fun b => (a + 1, b + 1)).filter (lkP d)
def outL (d : PNet) (a : Nat) : List (Nat × Nat) := (List.range a).flatMap fun a => inL d a d.n
def linksP (d : PNet) : List (Nat × Nat) := outL d d.n
theorem inL_s (d : PNet) (a b : Nat) : inL d a (b + 1) = inL d a b ++ (if lkP d (a + 1, b + 1) = true then [(a + 1, b + 1)] else []) := by
  unfold inL
  rw [List.range_succ, List.map_append, List.filter_append]
  congr 1
  show List.filter (lkP d) [(a + 1, b + 1)] = _
  rw [List.filter_cons]; rfl
theorem outL_s (d : PNet) (a : Nat) : outL d (a + 1) = outL d a ++ inL d a d.n := by
  unfold outL
  rw [List.range_succ, List.flatMap_append]; simp
end Go.Proofs.Ytgbcmjcaggnobaa.Sim

/- A net's links, counted; a copy; any call. -/
namespace Go.Proofs.Ytgbcmjcaggnobaa.Sim
set_option linter.unusedVariables false
set_option linter.unusedSimpArgs false
open Go.RowKit Mem
def linkT (d : PNet) (p : Nat × Nat) : List T := [.v (.int .i64 (p.1 : Int)), .v (.int .i64 (p.2 : Int)), .v (.int .i64 (lenP d p.1 p.2))]
def SL1 (d : PNet) (a : Nat) : St := ⟨[(0, .bp 3000 0), (3, .own 100 ((outL d a).map (linkT d)).length), (8, .t (.v (.int .i64 (d.n : Int)))), (9, .t (.v (.int .i64 (a : Int))))], netN d, [(100, ⟨61, 3, (outL d a).map (linkT d)⟩)]⟩
def SL2 (d : PNet) (a b : Nat) : St := ⟨[(0, .bp 3000 0), (3, .own 100 ((outL d a ++ inL d a b).map (linkT d)).length), (4, .t (.v (.int .i64 (a : Int)))), (8, .t (.v (.int .i64 (d.n : Int)))), (9, .t (.v (.int .i64 (a : Int)))), (13, .t (.v (.int .i64 (d.n : Int)))), (14, .t (.v (.int .i64 (b : Int))))], netN d, [(100, ⟨61, 3, (outL d a ++ inL d a b).map (linkT d)⟩)]⟩
theorem inL_len (d : PNet) (a b : Nat) : (inL d a b).length ≤ b := by
  unfold inL
  refine Nat.le_trans (List.length_filter_le _ _) ?_
  rw [List.length_map, List.length_range]; exact Nat.le_refl _
theorem outL_len (d : PNet) (hn : d.n ≤ 9) (a : Nat) : (outL d a).length ≤ 9 * a := by
  induction a with
  | zero => exact Nat.le_refl _
  | succ a ih =>
    rw [outL_s, List.length_append]
    have := inL_len d a d.n
    omega
set_option maxRecDepth 100000 in
set_option maxHeartbeats 2000000 in
theorem links_ (d : PNet) (hd : NetOk d) : LCalls Try.prog 26 [.bp 3000 0] (netN d) [] (.t (.sl 3 ((linksP d).map (linkT d)))) (netN d) [] := by
  have hn := hd.n
  have c1 := nodes_ (lnk d.n) d
  refine lcalls_of Try.func26 rfl rfl Try.ntmps26 rfl ?_
  repeat' (first | (refine rg 0 ?_; refine oAs ?_; refine oN ?_) | (refine rg 1 ?_; refine oAs ?_; refine oN ?_) | (refine rg 2 ?_; refine oMv ?_; refine sops_lcall (c1) (fun i => i) (fun i => i) (fun _ => false) (.free rfl rfl) rfl rfl rfl (by ((repeat' (first | exact .nil | refine .cons rfl rfl rfl ?_)) <;> fail)) (.cons rfl rfl .nil) .nil rfl rfl (fun _ h => Bool.noConfusion h) ?_; refine oMv ?_; refine oN ?_) | refine gc ?_ | refine ct ?_ | refine cf ?_ | refine swp_cond rfl (fun hc => ?_) (fun hc => ?_) | refine rq rfl (rt .nil) ?_)
  refine swp_for (SL1 d) (fun _ => True) d.n ?_ trivial ?_
  · refine Weak.trans (weak_own0 (i := 100) 61 3 (s := 3) rfl rfl) ?_
    exact (weak_sub (.cons rfl rfl rfl (.cons rfl rfl rfl (.cons rfl rfl rfl (.cons rfl rfl rfl .nil)))) (.cons rfl rfl rfl .nil) (.cons rfl rfl .nil))
  intro a ha _
  unfold SL1
  by_cases hlt : a < d.n
  · have hlt' : (a : Int) < d.n := by omega
    repeat' (first | (refine rg 3 ?_; refine oCm ?_; refine oN ?_) | (refine rg 4 ?_; refine oMv ?_; refine oAs ?_; refine oN ?_) | (refine rg 5 ?_; refine oMv ?_; refine sops_lcall (c1) (fun i => i) (fun i => i) (fun _ => false) (.free rfl rfl) rfl rfl rfl (by ((repeat' (first | exact .nil | refine .cons rfl rfl rfl ?_)) <;> fail)) (.cons rfl rfl .nil) .nil rfl rfl (fun _ h => Bool.noConfusion h) ?_; refine oMv ?_; refine oN ?_) | refine gc ?_ | refine ct ?_ | refine cf ?_ | refine swp_cond rfl (fun hc => ?_) (fun hc => ?_) | refine rq rfl (rt .nil) ?_)
    refine swp_for (SL2 d a) (fun _ => True) d.n ?_ trivial ?_
    · have e0 : outL d a ++ inL d a 0 = outL d a := by unfold inL; simp
      exact (weak_sub (.cons rfl (by first | rfl | ((rw [e0]; try rfl))) rfl (.cons rfl (by first | rfl | ((rw [e0]; try rfl))) rfl (.cons rfl (by first | rfl | ((rw [e0]; try rfl))) rfl (.cons rfl (by first | rfl | ((rw [e0]; try rfl))) rfl (.cons rfl (by first | rfl | ((rw [e0]; try rfl))) rfl (.cons rfl (by first | rfl | ((rw [e0]; try rfl))) rfl (.cons rfl (by first | rfl | ((rw [e0]; try rfl))) rfl .nil))))))) (.cons rfl (by first | rfl | ((rw [e0]; try rfl))) rfl .nil) (.cons rfl (by first | rfl | ((rw [e0]; try rfl))) .nil))
    intro b hb _
    unfold SL2
    by_cases hlb : b < d.n
    · have hlb' : (b : Int) < d.n := by omega
      have q1 : IntKind.i64.wrap ((a : Int) + 1) = (a : Int) + 1 := wrap1 (by unfold maxLen; omega)
      have c2 := len_ d hd ((a + 1 : Nat) : Int) ((b + 1 : Nat) : Int)
      have hlen : ((outL d a ++ inL d a b).map (linkT d)).length ≤ 200 := by
        rw [List.length_map, List.length_append]
        have h1 := outL_len d hn a
        have h2 := inL_len d a b
        omega
      have hs := inL_s d a b
      by_cases hp : 0 < lenP d ((a + 1 : Nat) : Int) ((b + 1 : Nat) : Int)
      · rw [if_pos (show lkP d (a + 1, b + 1) = true from decide_eq_true hp)] at hs
        have hs' : (outL d a ++ inL d a (b + 1)).map (linkT d) = (outL d a ++ inL d a b).map (linkT d) ++ [linkT d (a + 1, b + 1)] := by rw [hs, ← List.append_assoc, List.map_append]; rfl
        repeat' (first | refine for_next hlb (weak_sub (.cons rfl (by rfl) rfl (.cons rfl (by first | rfl | ((rw [hs']; try rfl))) rfl (.cons rfl (by rfl) rfl (.cons rfl (by rfl) rfl (.cons rfl (by rfl) rfl (.cons rfl (by rfl) rfl (.cons rfl (by rfl) rfl .nil))))))) (.cons rfl (by rfl) rfl .nil) (.cons rfl (by first | rfl | ((rw [hs']; try rfl))) .nil)) trivial | (refine rg 6 ?_; refine oCm ?_; refine oN ?_) | (refine rg 7 ?_; refine oMv ?_; refine oAs ?_; refine oN ?_) | (refine rg 8 ?_; refine oMv ?_; refine oMv ?_; refine sp (xinc rfl) ?_; refine oMv ?_; refine sp (xinc rfl) ?_; refine sops_lcall (c2) (fun i => i) (fun i => i) (fun _ => false) (.free rfl rfl) rfl rfl rfl (by ((repeat' (first | exact .nil | refine .cons rfl rfl rfl ?_)) <;> fail)) (.cons rfl rfl .nil) .nil rfl rfl (fun _ h => Bool.noConfusion h) ?_; refine oAs ?_; refine oN ?_) | (refine rg 9 ?_; refine oMv ?_; refine oCm ?_; refine oN ?_) | (refine rg 10 ?_; refine oMv ?_; refine oMv ?_; refine sp (xinc rfl) ?_; refine oMv ?_; refine sp (xinc rfl) ?_; refine oMv ?_; refine sp (po_buildS str61 rfl (pc (pc (pc .nil))) rfl) ?_; refine sp (po_buildSlice rfl (tyE rfl) (dc (.nil _)) rfl rfl rfl) ?_; refine sap rfl (tyE rfl) ?_; refine oAs ?_; refine oN ?_) | (refine rg 11 ?_; refine sp (xinc rfl) ?_; refine oMv ?_; refine oN ?_) | refine gc ?_ | refine ct ?_)
      · rw [if_neg (show ¬ lkP d (a + 1, b + 1) = true by unfold lkP; simpa using hp), List.append_nil] at hs
        repeat' (first | refine for_next hlb (weak_sub (.cons rfl (by rfl) rfl (.cons rfl (by first | rfl | ((rw [hs]; try rfl))) rfl (.cons rfl (by rfl) rfl (.cons rfl (by rfl) rfl (.cons rfl (by rfl) rfl (.cons rfl (by rfl) rfl (.cons rfl (by rfl) rfl .nil))))))) (.cons rfl (by rfl) rfl .nil) (.cons rfl (by first | rfl | ((rw [hs]; try rfl))) .nil)) trivial | (refine rg 6 ?_; refine oCm ?_; refine oN ?_) | (refine rg 7 ?_; refine oMv ?_; refine oAs ?_; refine oN ?_) | (refine rg 8 ?_; refine oMv ?_; refine oMv ?_; refine sp (xinc rfl) ?_; refine oMv ?_; refine sp (xinc rfl) ?_; refine sops_lcall (c2) (fun i => i) (fun i => i) (fun _ => false) (.free rfl rfl) rfl rfl rfl (by ((repeat' (first | exact .nil | refine .cons rfl rfl rfl ?_)) <;> fail)) (.cons rfl rfl .nil) .nil rfl rfl (fun _ h => Bool.noConfusion h) ?_; refine oAs ?_; refine oN ?_) | (refine rg 9 ?_; refine oMv ?_; refine oCm ?_; refine oN ?_) | (refine rg 11 ?_; refine sp (xinc rfl) ?_; refine oMv ?_; refine oN ?_) | refine gc ?_ | refine ct ?_ | refine cf ?_)
    · obtain rfl : b = d.n := by omega
      have hs := outL_s d a
      repeat' (first | refine for_next hlt (weak_sub (.cons rfl (by rfl) rfl (.cons rfl (by first | rfl | ((rw [hs]; try rfl))) rfl (.cons rfl (by rfl) rfl (.cons rfl (by rfl) rfl .nil)))) (.cons rfl (by rfl) rfl .nil) (.cons rfl (by first | rfl | ((rw [hs]; try rfl))) .nil)) trivial | (refine rg 6 ?_; refine oCm ?_; refine oN ?_) | (refine rg 12 ?_; refine sp (xinc rfl) ?_; refine oMv ?_; refine oN ?_) | refine gc ?_ | refine ct ?_ | refine cf ?_)
  · obtain rfl : a = d.n := by omega
    repeat' (first | (refine rg 3 ?_; refine oCm ?_; refine oN ?_) | (refine rg 13 ?_; refine oMv ?_; refine oAs ?_; refine oN ?_) | refine gc ?_ | refine ct ?_ | refine cf ?_ | refine swp_cond rfl (fun hc => ?_) (fun hc => ?_) | refine retl (by exact .inr rfl) rfl (.tmpT rfl (by first | exact .t _ | exact .own rfl (by rfl) | exact .nil _ | exact .emp _ | exact .fn _) .nil) ?_ rfl (.cons rfl (by rfl) rfl .nil) .nil)
    rfl
end Go.Proofs.Ytgbcmjcaggnobaa.Sim

/- A net counted; copied. -/
namespace Go.Proofs.Ytgbcmjcaggnobaa.Sim
set_option linter.unusedVariables false
set_option linter.unusedSimpArgs false
open Go.RowKit Mem
def cntA (d : PNet) (l : List (Nat × Nat)) : Int := l.foldl (fun s p => s + lenP d p.1 p.2) 0
def cntP (d : PNet) : Int := cntA d (linksP d)
theorem cntA_s (d : PNet) (l : List (Nat × Nat)) (p : Nat × Nat) : cntA d (l ++ [p]) = cntA d l + lenP d p.1 p.2 := by unfold cntA; rw [List.foldl_append]; rfl
theorem lenP_le {d : PNet} (hd : NetOk d) (x y : Int) : 0 ≤ lenP d x y ∧ lenP d x y ≤ 32 := by
  unfold lenP
  cases isL d.n x y with
  | false => exact ⟨Int.le_refl _, by show (0 : Int) ≤ 32; omega⟩
  | true =>
    have := hd.len (kOf x y)
    show 0 ≤ ((d.row (kOf x y)).length : Int) ∧ ((d.row (kOf x y)).length : Int) ≤ 32
    omega
theorem cntA_le {d : PNet} (hd : NetOk d) (l : List (Nat × Nat)) : 0 ≤ cntA d l ∧ cntA d l ≤ 32 * l.length := by
  have key : ∀ (l : List (Nat × Nat)) (s : Int), 0 ≤ s → s ≤ l.foldl (fun s p => s + lenP d p.1 p.2) s ∧ l.foldl (fun s p => s + lenP d p.1 p.2) s ≤ s + 32 * l.length := by
    intro l
    induction l with
    | nil => intro s hs; simp
    | cons p l ih =>
      intro s hs
      have h1 := lenP_le hd p.1 p.2
      have h2 := ih (s + lenP d p.1 p.2) (by omega)
      simp only [List.foldl_cons, List.length_cons]
      omega
  have := key l 0 (Int.le_refl _)
  unfold cntA; omega
theorem links_len (d : PNet) (hn : d.n ≤ 9) : (linksP d).length ≤ 81 := by
  have := outL_len d hn d.n
  unfold linksP; omega
def SC (d : PNet) (k : Nat) : St := ⟨[(3, .t (.v (.int .i64 (cntA d ((linksP d).take k))))), (7, .t (.sl 3 ((linksP d).map (linkT d)))), (8, .t (.v (.int .i64 ((linksP d).length : Int)))), (9, .t (.v (.int .i64 (k : Int))))], netN d, []⟩
set_option maxRecDepth 100000 in
set_option maxHeartbeats 2000000 in
theorem count_ (d : PNet) (hd : NetOk d) : LCalls Try.prog 13 [.bp 3000 0] (netN d) [] (.t (.v (.int .i64 (cntP d)))) (netN d) [] := by
  have c1 := links_ d hd
  have hm : ((linksP d).map (linkT d)).length = (linksP d).length := List.length_map _
  refine lcalls_of Try.func13 rfl rfl Try.ntmps13 rfl ?_
  repeat' (first | (refine rg 0 ?_; refine oAs ?_; refine oN ?_) | (refine rg 1 ?_; refine oAs ?_; refine oN ?_) | (refine rg 2 ?_; refine oMv ?_; refine sops_lcall (c1) (fun i => i) (fun i => i) (fun _ => false) (.free rfl rfl) rfl rfl rfl (by ((repeat' (first | exact .nil | refine .cons rfl rfl rfl ?_)) <;> fail)) (.cons rfl rfl .nil) .nil rfl rfl (fun _ h => Bool.noConfusion h) ?_; refine sp (pln rfl (tyS rfl)) ?_; refine oMv ?_; refine oN ?_) | refine gc ?_ | refine ct ?_ | refine cf ?_ | refine swp_cond rfl (fun hc => ?_) (fun hc => ?_) | refine rq rfl (rt .nil) ?_)
  refine swp_for (SC d) (fun _ => True) (linksP d).length ?_ trivial ?_
  · exact (weak_sub (.cons rfl (by first | rfl | ((rw [hm]; try rfl))) rfl (.cons rfl (by first | rfl | ((rw [hm]; try rfl))) rfl (.cons rfl (by first | rfl | ((rw [hm]; try rfl))) rfl (.cons rfl (by first | rfl | ((rw [hm]; try rfl))) rfl .nil)))) (.cons rfl (by first | rfl | ((rw [hm]; try rfl))) rfl .nil) .nil)
  intro k hk _
  unfold SC
  by_cases hlt : k < (linksP d).length
  · have hlt' : (k : Int) < (linksP d).length := by omega
    have hat : ((linksP d).map (linkT d))[k]? = some (linkT d (linksP d)[k]) := by rw [List.getElem?_map, List.getElem?_eq_getElem hlt]; rfl
    have h1 := cntA_le hd ((linksP d).take k)
    have h2 := links_len d hd.n
    have h3 := lenP_le hd (linksP d)[k].1 (linksP d)[k].2
    have h4 : ((linksP d).take k).length ≤ 81 := by rw [List.length_take]; omega
    have e1 : cntA d ((linksP d).take (k + 1)) = cntA d ((linksP d).take k) + lenP d (linksP d)[k].1 (linksP d)[k].2 := by rw [← List.take_append_getElem hlt, cntA_s]
    repeat' (first | refine for_next hlt (weak_sub (.cons rfl (by first | rfl | ((rw [e1]; try rfl))) rfl (.cons rfl (by rfl) rfl (.cons rfl (by rfl) rfl (.cons rfl (by rfl) rfl .nil)))) (.cons rfl (by rfl) rfl .nil) .nil) trivial | (refine rg 3 ?_; refine oCm ?_; refine oN ?_) | (refine rg 4 ?_; (first | refine sp (po_index_arr rfl rfl rfl arr58 rfl (by first | omega | assumption)) ?_ | refine sp (pix rfl (tyS rfl)) ?_); (first | refine sp (po_load_bx_agg rfl rfl (tyT rfl) rfl (vc (vc (vc .nil))) rfl) ?_ | refine sp (po_load_agg rfl rfl (tyT rfl) rfl rfl) ?_); refine sal str61 ?_; refine oS ?_; refine oN ?_) | (refine rg 5 ?_; refine oMv ?_; refine oFb ?_; (first | refine sp (po_load_ntn rfl rfl (tyT rfl) rfl) ?_ | refine sp (po_load_ntk rfl rfl (tyT rfl) rfl (by first | assumption | omega) (by assumption) rfl) ?_ | refine oLb ?_); (first | refine sp (xinc rfl) ?_ | refine sp (xadd rfl) ?_); refine oAs ?_; refine oN ?_) | (refine rg 6 ?_; refine sp (xinc rfl) ?_; refine oMv ?_; refine oN ?_) | refine gc ?_ | refine ct ?_)
  · obtain rfl : k = (linksP d).length := by omega
    rw [List.take_length]
    repeat' (first | (refine rg 3 ?_; refine oCm ?_; refine oN ?_) | (refine rg 7 ?_; refine oMv ?_; refine oAs ?_; refine oN ?_) | refine gc ?_ | refine ct ?_ | refine cf ?_ | refine swp_cond rfl (fun hc => ?_) (fun hc => ?_) | exact retl1 (by exact .inr rfl) rfl (.tmp rfl rfl .nil) rfl (.cons rfl (by rfl) rfl .nil) .nil)
end Go.Proofs.Ytgbcmjcaggnobaa.Sim

/- A logic of states: a constant text's bytes. -/
namespace Go.Proofs.Ytgbcmjcaggnobaa.Sim
set_option linter.unusedVariables false
set_option linter.unusedSimpArgs false
open Go.RowKit Mem
section
variable {P : Program} {N : Nat} {Q : Exit → St → Prop} {ops : Array Oper} {rest : List Oper} {o : Oper} {tm : List (Nat × A)} {bx : List (Nat × List A)} {ow : List (Nat × Own)}
/-- behind a constant's row: its conversion comes next -/
structure SMk (P : Program) (N : Nat) (ops : Array Oper) (Q : Exit → St → Prop) (d e : Nat) (rows : List (List T)) (l : List Oper) (st : St) : Prop where
  go : ∀ C a w m g, RelG C N st a w m g → ∀ vs : List Value, vs.length = rows.length * 1 → (∀ r ∈ rows, r.length = 1) → CellsAre m rows.flatten vs → wpList P ops (Good C N Q) l (a.put (some d) (.slice (some ⟨w.heap.size, 0, none⟩) rows.length rows.length)) (w.alloc (.cells vs.toArray e))
theorem sops_cb1 {t e by_ len d : Nat} {xs : List (Nat × Operand)} {rows : List (List T)} (hg : GuardIs ops tm o true) (ho : o.op = .buildSlice t len xs.toArray) (hd : o.dst = some d) (hT : sliceE P t = some (e, 1, by_)) (hx : DParts ow (evA tm) 1 0 xs rows) (hlen : rows.length = len) (h0 : Nat.blt 0 len = true) (hsm : Nat.ble (len * 1) (2 ^ 24) = true)
    (k : SMk P N ops Q d e rows rest ⟨tm, bx, ow⟩) : SOps P N ops Q (o :: rest) ⟨tm, bx, ow⟩ := by
  refine .mk fun C a w ⟨m, g, hr⟩ => ?_
  obtain ⟨vs, h1, h2, h3, h4, h5⟩ := hx.ok hr.env (a := a) (fun x _ y hy => hr.ev hy)
  have hrun := built_run (P := P) hT w vs h3 (by omega) (Nat.lt_of_succ_le (Nat.le_of_ble_eq_true h0)) hsm
  refine wpList_step fun K hK => ?_
  rw [if_pos (hg.wanted (m := m) (g := g) fun j want e _ _ y hy => hr.tmps e y hy)]
  subst hlen
  refine wp_of_run (v := .slice (some ⟨w.heap.size, 0, none⟩) rows.length rows.length) (w' := w.alloc (.cells (vs.flatMap fun v => v.cells.toList).toArray e)) ?_ (hK _ _ ?_)
  · simp only [execOp, ho, List.map_toArray]
    rw [show (xs.map fun x => (x.1, a.eval x.2)) = (vs.zipIdx 0).map (fun x => (x.2, x.1)) from h1, Sem.run_bind, hrun]; rfl
  · rw [hd]
    exact k.go C a w m g hr _ (by rw [flatMap_cells_len h3, h2]) h4 h5
theorem sops_cb2 {t e d d2 : Nat} {rows : List (List T)} (hg : GuardIs ops ((d, .t (.sl 1 rows)) :: tm) o true) (ho : o.op = .convert t t (.tmp d)) (hd : o.dst = some d2) (hN : Nat.blt d N = true) (hN2 : Nat.blt d2 N = true) (hT : byE P t = some e) (hsm : Nat.ble rows.length (2 ^ 24) = true)
    (h : SOps P N ops Q rest ⟨(d2, .t (.sl 1 rows)) :: (d, .t (.sl 1 rows)) :: tm, bx, ow⟩) : SMk P N ops Q d e rows (o :: rest) ⟨tm, bx, ow⟩ := by
  refine .mk fun C a w m g hr vs hl h4 h5 => ?_
  obtain ⟨t1, t2⟩ := byE_spec hT
  have hle := Nat.le_of_ble_eq_true hsm
  have hrl : rows.length ≤ maxLen := by unfold maxLen; omega
  have hd1 : d < N := Nat.lt_of_succ_le (Nat.le_of_ble_eq_true hN)
  have hlo : Lo w (w.alloc (.cells vs.toArray e (vs.toArray.size, vs.toArray.size + 1))) := (Lo.refl w).alloc _
  have hs := upm_sub hr.env.sub hlo
  have he := ext_upm (w' := w.alloc (.cells vs.toArray e (vs.toArray.size, vs.toArray.size + 1))) hr.env.sub
  have hnew : (w.alloc (.cells vs.toArray e (vs.toArray.size, vs.toArray.size + 1))).heap[w.heap.size]? = some (.cells vs.toArray e (vs.toArray.size, vs.toArray.size + 1)) := heap_alloc_new w _
  have hTR : TR (upm m w (w.alloc (.cells vs.toArray e (vs.toArray.size, vs.toArray.size + 1)))) (.sl 1 rows) (.slice (some ⟨w.heap.size, 0, none⟩) rows.length rows.length) := by
    refine tr_owns (w := w.alloc (.cells vs.toArray e (vs.toArray.size, vs.toArray.size + 1))) (base := 0) (e := e) (vs := vs) ⟨hl, .inr ⟨w.heap.size, rows.length, vs.toArray, rfl, Nat.zero_le _, ⟨_, hnew, .inr (Nat.le_refl _)⟩, Nat.le_refl _, hrl, by simp [hl], ?_⟩⟩ h4 (h5.mono he.1) ?_
    · simp only; rw [← hl]; exact List.take_length
    · intro b hb k u hu
      injection hb with hb; subst hb
      unfold upm
      rw [if_neg (Nat.lt_irrefl _)]
      unfold World.cell?
      rw [hnew]
      simpa using hu
  have R1 := hr.put (x := .t (.sl 1 rows)) (v := .slice (some ⟨w.heap.size, 0, none⟩) rows.length rows.length) (hr.env.step hlo he hs) (fun x v h => h.mono he.1) hd1 hTR
  have R2 := R1.put (d := d2) (x := .t (.sl 1 rows)) (v := .slice (some ⟨w.heap.size, 0, none⟩) rows.length rows.length) R1.env (fun x v h => h) (Nat.lt_of_succ_le (Nat.le_of_ble_eq_true hN2)) hTR
  refine wpList_step fun K hK => ?_
  rw [if_pos (hg.wanted (m := upm m w (w.alloc (.cells vs.toArray e (vs.toArray.size, vs.toArray.size + 1)))) (g := g) fun j want e _ _ y hy => R1.tmps e y hy)]
  refine wp_of_run (v := .slice (some ⟨w.heap.size, 0, none⟩) rows.length rows.length) (w' := w.alloc (.cells vs.toArray e (vs.toArray.size, vs.toArray.size + 1))) ?_ (hK _ _ (h.go C _ _ ⟨_, _, by rw [hd]; exact R2⟩))
  have hev := eval_put_same (a := a) (.slice (some ⟨w.heap.size, 0, none⟩) rows.length rows.length) hr.size hd1
  have hc := Lib.run_convert_bytes_const (P := P) w t e vs.toArray rows.length rows.length t1 t2
  simp only [execOp, ho, hev, Sem.run_bind, hc]
  rfl
end
end Go.Proofs.Ytgbcmjcaggnobaa.Sim
