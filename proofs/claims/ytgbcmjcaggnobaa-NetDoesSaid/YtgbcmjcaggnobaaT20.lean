/- Merged by bundles.py: SimNv, SimNu, SimNua. -/
import Derived.Test.YtgbcmjcaggnobaaT19
/- The net's calls, as they are said in plain Lean. -/
namespace Go.Proofs.Ytgbcmjcaggnobaa.Sim
set_option linter.unusedVariables false
set_option linter.unusedSimpArgs false
open Go.RowKit Mem
theorem LCalls.res {P : Program} {f : FuncId} {args : List A} {bx0 bx1 : List (Nat × List A)} {ow0 ow1 : List (Nat × Own)} {r r' : A} (h : LCalls P f args bx0 ow0 r bx1 ow1) (hr : ∀ m g v, AR m g r v → AR m g r' v) : LCalls P f args bx0 ow0 r' bx1 ow1 where
  ent := h.ent
  run := fun m w g vals he hl hv => (h.run m w g vals he hl hv).mono fun e w' ⟨v, m', g', h1, h2, h3⟩ => ⟨v, m', g', h1, h2, hr m' g' v h3⟩
def msgA (m : PMsg) : T := msgT m.f m.t m.b
theorem le_msg0 (m : Mm) (v : Value) (h : TR m msg0 v) : TR m (msgA msgZ) v := by
  unfold msg0 at h
  unfold msgA msgZ msgT
  generalize hcs : [T.v (.int .i64 0), T.v (.int .i64 0), T.v (.slice none 0 0)] = cs at h
  cases h with
  | agg cs vs h0 h1 ht =>
    subst hcs
    refine .agg _ vs h0 h1 fun j t v hj hv => ?_
    match j, hj with
    | 0, hj => exact ht 0 t v hj hv
    | 1, hj => exact ht 1 t v hj hv
    | 2, hj =>
      injection hj with hj; subst hj
      have := ht 2 _ v rfl hv
      exact Le.nil 1 m v this
theorem le_tu {m : Mm} {g : Gh} {v : Value} {e : Int} (h : AR m g (.tu [.t msg0, .t (.v (.int .i64 e))]) v) : AR m g (.tu [.t (msgA msgZ), .t (.v (.int .i64 e))]) v := by
  obtain ⟨vs, h1, h2, h3⟩ := h
  refine ⟨vs, h1, h2, fun j x u hj hu => ?_⟩
  match j, hj with
  | 0, hj =>
    injection hj with hj; subst hj
    exact le_msg0 m u (h3 0 _ u rfl hu)
  | 1, hj => exact h3 1 x u hj hu
abbrev xyi (x y i : Int) : List A := [.bp 3000 0, .t (.v (.int .i64 x)), .t (.v (.int .i64 y)), .t (.v (.int .i64 i))]
theorem getP_row {l : List (List UInt8)} {k : Nat} (hk : k < l.length) : getP l (k : Int) = some l[k] := by
  unfold getP
  rw [if_pos (by omega), Int.toNat_natCast, List.getElem?_eq_getElem hk]
theorem at_ (d : PNet) (hd : NetOk d) (x y i : Int) : LCalls Try.prog 12 (xyi x y i) (netN d) [] (.tu [.t (msgA (atP d x y i).1), .t (.v (.int .i64 (atP d x y i).2))]) (netN d) [] := by
  unfold atP
  cases hl : isL d.n x y with
  | false => exact (at_no d x y i (isL_no hl)).res fun m g v => le_tu
  | true =>
    obtain ⟨a, b, rfl, rfl, hk, hL⟩ := isL_spec hl
    cases hg : getP (d.row (kOf a b)) i with
    | none =>
      rw [hk] at hg
      exact (at_none d hd a b i hL (getP_none hg)).res fun m g v => le_tu
    | some c =>
      obtain ⟨k, h1, rfl, h3, h4⟩ := getP_some hg
      simp only [hk] at h1 h4
      subst h4
      exact at_ok d hd a b k hL h1
theorem deliver_ (d : PNet) (hd : NetOk d) (x y i : Int) : LCalls Try.prog 29 (xyi x y i) (netN d) [] (.tu [.t (msgA (atP d x y i).1), .t (.v (.int .i64 (atP d x y i).2))]) (netN (delP d x y i)) [] := by
  unfold atP delP
  cases hl : isL d.n x y with
  | false => exact (deliver_no d x y i (isL_no hl)).res fun m g v => le_tu
  | true =>
    obtain ⟨a, b, rfl, rfl, hk, hL⟩ := isL_spec hl
    cases hg : getP (d.row (kOf a b)) i with
    | none =>
      rw [hk] at hg
      exact (deliver_none d hd a b i hL (getP_none hg)).res fun m g v => le_tu
    | some c =>
      obtain ⟨k, h1, rfl, h3, h4⟩ := getP_some hg
      simp only [hk] at h1 h4 ⊢
      subst h4
      exact deliver_ok d hd a b k hL h1
theorem drop_ (d : PNet) (hd : NetOk d) (x y i : Int) : LCalls Try.prog 27 (xyi x y i) (netN d) [] (.t (.v (.int .i64 (atP d x y i).2))) (netN (delP d x y i)) [] := by
  unfold atP delP
  cases hl : isL d.n x y with
  | false => exact drop_no d x y i (isL_no hl)
  | true =>
    obtain ⟨a, b, rfl, rfl, hk, hL⟩ := isL_spec hl
    cases hg : getP (d.row (kOf a b)) i with
    | none =>
      rw [hk] at hg
      exact drop_none d hd a b i hL (getP_none hg)
    | some c =>
      obtain ⟨k, h1, rfl, h3, h4⟩ := getP_some hg
      simp only [hk] at h1 h4 ⊢
      exact drop_ok d hd a b k hL h1
theorem front_ (d : PNet) (hd : NetOk d) (x y i : Int) : LCalls Try.prog 30 (xyi x y i) (netN d) [] (.t (.v (.int .i64 (atP d x y i).2))) (netN (frontP d x y i)) [] := by
  unfold atP frontP
  cases hl : isL d.n x y with
  | false => exact front_no d x y i (isL_no hl)
  | true =>
    obtain ⟨a, b, rfl, rfl, hk, hL⟩ := isL_spec hl
    cases hg : getP (d.row (kOf a b)) i with
    | none =>
      rw [hk] at hg
      exact front_none d hd a b i hL (getP_none hg)
    | some c =>
      obtain ⟨k, h1, rfl, h3, h4⟩ := getP_some hg
      simp only [hk] at h1 h4 ⊢
      subst h4
      exact front_ok d hd a b k hL h1
theorem double_ (d : PNet) (hd : NetOk d) (x y i : Int) : LCalls Try.prog 31 (xyi x y i) (netN d) [] (.t (.v (.int .i64 (doubleP d x y i).2))) (netN (doubleP d x y i).1) [] := by
  unfold doubleP
  cases hl : isL d.n x y with
  | false => exact double_no d x y i (isL_no hl)
  | true =>
    obtain ⟨a, b, rfl, rfl, hk, hL⟩ := isL_spec hl
    cases hg : getP (d.row (kOf a b)) i with
    | none =>
      rw [hk] at hg
      exact double_none d hd a b i hL (getP_none hg)
    | some c =>
      obtain ⟨k, h1, rfl, h3, h4⟩ := getP_some hg
      simp only [hk] at h1 h4 ⊢
      subst h4
      by_cases hr : (d.row (a * 10 + b)).length < 32
      · simp only [cond_true, if_pos hr]
        exact double_ok d hd a b k hL h1 hr
      · simp only [cond_true, if_neg hr]
        exact double_full d hd a b k hL h1 (by omega)
theorem send_ (d : PNet) (hd : NetOk d) (x y : Int) (b : List UInt8) : LCalls Try.prog 34 [.bp 3000 0, .t (.v (.int .i64 x)), .t (.v (.int .i64 y)), .t (bysT b)] (netN d) [] (.t (.v (.int .i64 (sendP d x y b).2))) (netN (sendP d x y b).1) [] := by
  unfold sendP
  cases hl : isL d.n x y with
  | false => exact send_no d x y b (isL_no hl)
  | true =>
    obtain ⟨p, q, rfl, rfl, hk, hL⟩ := isL_spec hl
    simp only [hk, cond_true]
    by_cases h1 : 16384 < b.length
    · simp only [if_pos h1]; exact send_long d hd p q hL b h1
    · simp only [if_neg h1]
      by_cases hr : (d.row (p * 10 + q)).length < 32
      · simp only [if_pos hr]; exact send_ok d hd p q hL b (by omega) hr
      · simp only [if_neg hr]; exact send_full d hd p q hL b (by omega) (by omega)
theorem osend_ (d : PNet) (hd : NetOk d) (x y : Int) (b : List UInt8) : LCalls Try.prog 34 [.bp 3000 0, .t (.v (.int .i64 x)), .t (.v (.int .i64 y)), .own 2000 (b.map byteT).length] (netN d) [(2000, bO b)] (.t (.v (.int .i64 (sendP d x y b).2))) (netN (sendP d x y b).1) [(2000, bO b)] := by
  unfold sendP
  cases hl : isL d.n x y with
  | false => exact osend_no d x y b (isL_no hl)
  | true =>
    obtain ⟨p, q, rfl, rfl, hk, hL⟩ := isL_spec hl
    simp only [hk, cond_true]
    by_cases h1 : 16384 < b.length
    · simp only [if_pos h1]; exact osend_long d hd p q hL b h1
    · simp only [if_neg h1]
      by_cases hr : (d.row (p * 10 + q)).length < 32
      · simp only [if_pos hr]; exact osend_ok d hd p q hL b (by omega) hr
      · simp only [if_neg hr]; exact osend_full d hd p q hL b (by omega) (by omega)
theorem len_ (d : PNet) (hd : NetOk d) (x y : Int) : LCalls Try.prog 15 [.bp 3000 0, .t (.v (.int .i64 x)), .t (.v (.int .i64 y))] (netN d) [] (.t (.v (.int .i64 (lenP d x y)))) (netN d) [] := by
  unfold lenP
  cases hl : isL d.n x y with
  | false => exact len_no d x y (isL_no hl)
  | true =>
    obtain ⟨p, q, rfl, rfl, hk, hL⟩ := isL_spec hl
    simp only [hk, cond_true]
    exact len_ok d hd p q hL
end Go.Proofs.Ytgbcmjcaggnobaa.Sim

/- does: any call of a net. -/
namespace Go.Proofs.Ytgbcmjcaggnobaa.Sim
set_option linter.unusedVariables false
set_option linter.unusedSimpArgs false
open Go.RowKit Mem
section
variable {P : Program} {N : Nat} {Q : Exit → St → Prop} {ops : Array Oper} {rest : List Oper} {o : Oper} {tm : List (Nat × A)} {bx bx' : List (Nat × List A)} {ow ow' : List (Nat × Own)} {ρ : Operand → Option A} {r : A}
def slI (P : Program) (t : TypeId) : Bool := match P.underlying t with
  | some (.slice _) => true
  | _ => false
/-- clear of a row of none -/
theorem sops_clear0 {t i : Nat} {x : Operand} {y : A} (hg : GuardIs ops tm o true) (ho : o.op = .call { callee := .builtin .clear, args := #[x], argTypes := #[t] }) (hd : o.dst = none) (hx : evA tm x = some y) (hy : (∃ n, y = .own i n ∧ n = 0) ∨ y = .t (.v (.slice none 0 0)) ∨ y = .t (.sl 1 [])) (hT : slI P t = true)
    (h : SOps P N ops Q rest ⟨tm, bx, ow⟩) : SOps P N ops Q (o :: rest) ⟨tm, bx, ow⟩ := by
  refine sops_run hg (fun C a w m g hr => ?_) h
  obtain ⟨A0, c, hv⟩ : ∃ A0 c, a.eval x = .slice A0 0 c := by
    have h0 := hr.ev hx
    rcases hy with ⟨n, rfl, rfl⟩ | rfl | rfl
    · obtain ⟨_, _, ⟨A0, c, h1⟩, _⟩ := h0
      exact ⟨A0, c, h1⟩
    · exact ⟨none, 0, tr_v h0⟩
    · have h0 : TR m (.sl 1 []) (a.eval x) := h0
      generalize a.eval x = v at h0
      cases h0 with
      | sl sz rows A b off cap u => exact ⟨A, cap, rfl⟩
  obtain ⟨e, hu⟩ : ∃ e, P.underlying t = some (.slice e) := by
    unfold slI at hT
    split at hT
    · rename_i e hh; exact ⟨e, hh⟩
    · cases hT
  have hrun : (Builtin.clear_ #[t] o.type #[a.eval x]).run P w = .ok (.tuple #[]) w := by
    rw [hv]; cases A0 <;> simp [Builtin.clear_, run_underlying hu]
  refine ⟨.tuple #[], w, ?_, m, g, ?_⟩
  · simp only [execOp, ho, resolve, invoke, builtin, Sem.run_bind, Sem.run_pure, Result.andThen_ok, List.map_toArray, List.map_cons, List.map_nil, hrun]
  · rw [hd]; exact hr.put_none hr.env (fun x v h => h)
theorem weak_own_sfx {s i n sz : Nat} {e : TypeId} {rows : List (List T)} (hs : get tm s = some (.own i n)) (hi : get ow i = some ⟨e, sz, rows⟩) (hn : n = rows.length) (h0 : 0 < n) : Weak N ⟨tm, bx, ow⟩ ⟨(s, .sfx i n sz 0) :: tm, bx, ow⟩ := .mk fun C a w ⟨m, g, hr⟩ =>
  ⟨m, g, hr.env, hr.size, hr.defers, fun s' x hx => by
    rw [get_cons] at hx
    split at hx
    · rename_i e'; subst e'; injection hx with hx; subst hx
      obtain ⟨h1, h2, ⟨A0, c, h3⟩, h4⟩ := hr.tmps s _ hs
      refine ⟨h1, h2, ⟨A0, c, by rw [h3, Nat.sub_zero]⟩, fun hln => ?_⟩
      obtain ⟨vs, hown, _⟩ := hr.env.owns i _ hi
      obtain ⟨b, cap, cur, e1, _⟩ := own_form hown (by dsimp only; omega)
      dsimp only at e1
      rw [← hn] at e1
      refine ⟨b, cap, e1, ?_⟩
      have := h4 hln
      rw [this, e1, Nat.sub_zero, Nat.sub_zero, Nat.zero_mul]
      split <;> rfl
    · exact hr.tmps s' x hx⟩
theorem po_knd {t t2 : TypeId} {x y : Operand} {i : Int} (ho : o.op = .binOp .and t x y t2) (hx : ρ x = some (.t (.v (.int .i64 i)))) (hy : ρ y = some (.t (.v (.int .i64 7)))) : PureOp P bx ow o ρ (.t (.v (.int .i64 (knd i)))) := po_and ho hx hy
end
theorem uz : ((Try.prog.info? 5).bind (·.zero)).map (fun z => z.cells.toList) = some [.int .u8 0] := by kernel_rfl
def hopT (h : PHop) : T := .agg [.v (.int .i64 h.kind), .v (.int .i64 h.f), .v (.int .i64 h.t), .v (.int .i64 h.no), bysT h.load]
def doesA (d : PNet) (h : PHop) : A := .tu [.t (msgA (doesR d h).1), .t (.v (.int .i64 (doesR d h).2.1)), .t (.v (.int .i64 (doesR d h).2.2))]
set_option maxRecDepth 100000 in
set_option maxHeartbeats 2000000 in
theorem does_send (d : PNet) (hd : NetOk d) (h : PHop) (hl : h.load.length ≤ 4000000) (hk : knd h.kind = 0 ∨ knd h.kind = 1) : LCalls Try.prog 14 [.bp 3000 0, .t (hopT h)] (netN d) [] (doesA d h) (netN (doesN d h)) [] := by
  have hr : doesR d h = (msgZ, 0, (sendP d h.f h.t h.load).2) := by unfold doesR; rw [if_pos hk]
  have hN : doesN d h = (sendP d h.f h.t h.load).1 := by unfold doesN; rw [if_pos hk]
  unfold doesA
  rw [hr, hN]
  refine LCalls.res (r := .tu [.t msg0, .t (.v (.int .i64 0)), .t (.v (.int .i64 (sendP d h.f h.t h.load).2))]) ?_ (fun m g v hv => by
    obtain ⟨vs, h1, h2, h3⟩ := hv
    refine ⟨vs, h1, h2, fun j x u hj hu => ?_⟩
    match j, hj with
    | 0, hj => injection hj with hj; subst hj; exact le_msg0 m u (h3 0 _ u rfl hu)
    | 1, hj => exact h3 1 x u hj hu
    | 2, hj => exact h3 2 x u hj hu)
  have hm : (h.load.map byteT).length = h.load.length := List.length_map _
  have hmx : (h.load.map byteT).length ≤ maxLen := by unfold maxLen; omega
  have c1 := osend_ d hd h.f h.t h.load
  unfold hopT bysT
  unfold bO at c1
  have hkeep := hk
  clear hr hN hk
  refine lcalls_of Try.func14 rfl rfl Try.ntmps14 rfl ?_
  by_cases k0 : knd h.kind = 0
  · repeat' (first | (refine rg 0 ?_; refine sbx ?_; refine sal str32 ?_; refine oAs ?_; refine oAs ?_; refine oN ?_) | (refine rg 1 ?_; refine sal str32 ?_; refine oN ?_) | (refine rg 2 ?_; refine oFb ?_; (first | refine sp (po_load_ntn rfl rfl (tyT rfl) rfl) ?_ | refine sp (po_load_ntk rfl rfl (tyT rfl) rfl (by first | assumption | omega) (by assumption) rfl) ?_ | refine oLb ?_); refine sp (po_knd rfl rfl rfl) ?_; refine oN ?_) | (refine rg 3 ?_; refine oCm ?_; refine oAs ?_; refine oN ?_) | (refine rg 5 ?_; refine sops_build0i 1001 (.free rfl rfl) rfl rfl rfl (tyE rfl) rfl ?_; refine oFb ?_; (first | refine sp (po_load_ntn rfl rfl (tyT rfl) rfl) ?_ | refine sp (po_load_ntk rfl rfl (tyT rfl) rfl (by first | assumption | omega) (by assumption) rfl) ?_ | refine oLb ?_); refine sap rfl (tyE rfl) ?_; refine oAs ?_; refine oN ?_) | (refine rg 6 ?_; refine oMv ?_; refine oFb ?_; (first | refine sp (po_load_ntn rfl rfl (tyT rfl) rfl) ?_ | refine sp (po_load_ntk rfl rfl (tyT rfl) rfl (by first | assumption | omega) (by assumption) rfl) ?_ | refine oLb ?_); refine oFb ?_; (first | refine sp (po_load_ntn rfl rfl (tyT rfl) rfl) ?_ | refine sp (po_load_ntk rfl rfl (tyT rfl) rfl (by first | assumption | omega) (by assumption) rfl) ?_ | refine oLb ?_); refine oMv ?_; refine sops_lcall (c1) (fun i => i) (fun i => 1001) (fun i => Nat.beq i 2000) (.free rfl rfl) rfl rfl rfl (by ((repeat' (first | exact .nil | refine .cons rfl rfl rfl ?_)) <;> fail)) (.cons rfl rfl .nil) (.cons rfl rfl .nil) rfl rfl (kp_one rfl rfl rfl) ?_; refine oAs ?_; refine oN ?_) | refine gc ?_ | refine ct ?_ | refine cf ?_ | refine swp_cond rfl (fun hc => ?_) (fun hc => ?_) | refine rq rfl (.cell rfl rfl (tyT rfl) (vc (vc (vc .nil))) rfl (rt (rt .nil))) ?_)
    by_cases hn : h.load = []
    · refine rg 7 ?_
      refine oMv ?_
      refine sops_clear0 (i := 1001) (.free rfl rfl) rfl rfl rfl (.inl ⟨_, rfl, by rw [hn]; rfl⟩) (by kernel_rfl) ?_
      refine oN ?_
      repeat' (first | (refine rg 8 ?_; (refine sp (po_load_bx_agg rfl rfl (tyT rfl) rfl (vc (vc (vc .nil))) rfl) ?_); refine oMv ?_; refine oS ?_; refine oAs ?_; refine oAs ?_; refine oN ?_) | refine gc ?_ | refine ct ?_ | refine cf ?_ | refine swp_cond rfl (fun hc => ?_) (fun hc => ?_) | refine retl (by exact .inr rfl) rfl (.cellT rfl rfl (tyT rfl) (vc (vc (vc .nil))) rfl (.tmpT rfl (by first | exact .t _ | exact .own rfl (by rfl) | exact .nil _ | exact .emp _ | exact .fn _) (.tmpT rfl (by first | exact .t _ | exact .own rfl (by rfl) | exact .nil _ | exact .emp _ | exact .fn _) .nil))) ?_ rfl (.cons rfl (by rfl) rfl .nil) .nil)
      rfl
    · have hpos := List.length_pos_iff.2 hn
      refine rg 7 ?_
      refine oMv ?_
      refine sops_weak (weak_own_sfx (s := 32) (sz := 1) rfl rfl rfl (by simp; omega)) ?_
      refine sops_clear (by rfl) (.free rfl rfl) rfl rfl rfl rfl rfl (by simp; omega) (tyE rfl) uz rfl ?_
      refine oN ?_
      repeat' (first | (refine rg 8 ?_; (refine sp (po_load_bx_agg rfl rfl (tyT rfl) rfl (vc (vc (vc .nil))) rfl) ?_); refine oMv ?_; refine oS ?_; refine oAs ?_; refine oAs ?_; refine oN ?_) | refine gc ?_ | refine ct ?_ | refine cf ?_ | refine swp_cond rfl (fun hc => ?_) (fun hc => ?_) | refine retl (by exact .inr rfl) rfl (.cellT rfl rfl (tyT rfl) (vc (vc (vc .nil))) rfl (.tmpT rfl (by first | exact .t _ | exact .own rfl (by rfl) | exact .nil _ | exact .emp _ | exact .fn _) (.tmpT rfl (by first | exact .t _ | exact .own rfl (by rfl) | exact .nil _ | exact .emp _ | exact .fn _) .nil))) ?_ rfl (.cons rfl (by rfl) rfl .nil) .nil)
      rfl
  · have k1 : knd h.kind = 1 := hkeep.resolve_left k0
    repeat' (first | (refine rg 0 ?_; refine sbx ?_; refine sal str32 ?_; refine oAs ?_; refine oAs ?_; refine oN ?_) | (refine rg 1 ?_; refine sal str32 ?_; refine oN ?_) | (refine rg 2 ?_; refine oFb ?_; (first | refine sp (po_load_ntn rfl rfl (tyT rfl) rfl) ?_ | refine sp (po_load_ntk rfl rfl (tyT rfl) rfl (by first | assumption | omega) (by assumption) rfl) ?_ | refine oLb ?_); refine sp (po_knd rfl rfl rfl) ?_; refine oN ?_) | (refine rg 3 ?_; refine oCm ?_; refine oAs ?_; refine oN ?_) | (refine rg 4 ?_; refine oCm ?_; refine oAs ?_; refine oN ?_) | (refine rg 5 ?_; refine sops_build0i 1001 (.free rfl rfl) rfl rfl rfl (tyE rfl) rfl ?_; refine oFb ?_; (first | refine sp (po_load_ntn rfl rfl (tyT rfl) rfl) ?_ | refine sp (po_load_ntk rfl rfl (tyT rfl) rfl (by first | assumption | omega) (by assumption) rfl) ?_ | refine oLb ?_); refine sap rfl (tyE rfl) ?_; refine oAs ?_; refine oN ?_) | (refine rg 6 ?_; refine oMv ?_; refine oFb ?_; (first | refine sp (po_load_ntn rfl rfl (tyT rfl) rfl) ?_ | refine sp (po_load_ntk rfl rfl (tyT rfl) rfl (by first | assumption | omega) (by assumption) rfl) ?_ | refine oLb ?_); refine oFb ?_; (first | refine sp (po_load_ntn rfl rfl (tyT rfl) rfl) ?_ | refine sp (po_load_ntk rfl rfl (tyT rfl) rfl (by first | assumption | omega) (by assumption) rfl) ?_ | refine oLb ?_); refine oMv ?_; refine sops_lcall (c1) (fun i => i) (fun i => 1001) (fun i => Nat.beq i 2000) (.free rfl rfl) rfl rfl rfl (by ((repeat' (first | exact .nil | refine .cons rfl rfl rfl ?_)) <;> fail)) (.cons rfl rfl .nil) (.cons rfl rfl .nil) rfl rfl (kp_one rfl rfl rfl) ?_; refine oAs ?_; refine oN ?_) | refine gc ?_ | refine ct ?_ | refine cf ?_ | refine swp_cond rfl (fun hc => ?_) (fun hc => ?_) | refine rq rfl (.cell rfl rfl (tyT rfl) (vc (vc (vc .nil))) rfl (rt (rt .nil))) ?_)
    by_cases hn : h.load = []
    · refine rg 7 ?_
      refine oMv ?_
      refine sops_clear0 (i := 1001) (.free rfl rfl) rfl rfl rfl (.inl ⟨_, rfl, by rw [hn]; rfl⟩) (by kernel_rfl) ?_
      refine oN ?_
      repeat' (first | (refine rg 8 ?_; (refine sp (po_load_bx_agg rfl rfl (tyT rfl) rfl (vc (vc (vc .nil))) rfl) ?_); refine oMv ?_; refine oS ?_; refine oAs ?_; refine oAs ?_; refine oN ?_) | refine gc ?_ | refine ct ?_ | refine cf ?_ | refine swp_cond rfl (fun hc => ?_) (fun hc => ?_) | refine retl (by exact .inr rfl) rfl (.cellT rfl rfl (tyT rfl) (vc (vc (vc .nil))) rfl (.tmpT rfl (by first | exact .t _ | exact .own rfl (by rfl) | exact .nil _ | exact .emp _ | exact .fn _) (.tmpT rfl (by first | exact .t _ | exact .own rfl (by rfl) | exact .nil _ | exact .emp _ | exact .fn _) .nil))) ?_ rfl (.cons rfl (by rfl) rfl .nil) .nil)
      rfl
    · have hpos := List.length_pos_iff.2 hn
      refine rg 7 ?_
      refine oMv ?_
      refine sops_weak (weak_own_sfx (s := 32) (sz := 1) rfl rfl rfl (by simp; omega)) ?_
      refine sops_clear (by rfl) (.free rfl rfl) rfl rfl rfl rfl rfl (by simp; omega) (tyE rfl) uz rfl ?_
      refine oN ?_
      repeat' (first | (refine rg 8 ?_; (refine sp (po_load_bx_agg rfl rfl (tyT rfl) rfl (vc (vc (vc .nil))) rfl) ?_); refine oMv ?_; refine oS ?_; refine oAs ?_; refine oAs ?_; refine oN ?_) | refine gc ?_ | refine ct ?_ | refine cf ?_ | refine swp_cond rfl (fun hc => ?_) (fun hc => ?_) | refine retl (by exact .inr rfl) rfl (.cellT rfl rfl (tyT rfl) (vc (vc (vc .nil))) rfl (.tmpT rfl (by first | exact .t _ | exact .own rfl (by rfl) | exact .nil _ | exact .emp _ | exact .fn _) (.tmpT rfl (by first | exact .t _ | exact .own rfl (by rfl) | exact .nil _ | exact .emp _ | exact .fn _) .nil))) ?_ rfl (.cons rfl (by rfl) rfl .nil) .nil)
      rfl
end Go.Proofs.Ytgbcmjcaggnobaa.Sim

/- does: any call of a net. -/
namespace Go.Proofs.Ytgbcmjcaggnobaa.Sim
set_option linter.unusedVariables false
set_option linter.unusedSimpArgs false
open Go.RowKit Mem
theorem le_tu3 {m : Mm} {g : Gh} {v : Value} {t t' : T} {k e : Int} (ht : ∀ u, TR m t u → TR m t' u) (h : AR m g (.tu [.t t, .t (.v (.int .i64 k)), .t (.v (.int .i64 e))]) v) : AR m g (.tu [.t t', .t (.v (.int .i64 k)), .t (.v (.int .i64 e))]) v := by
  obtain ⟨vs, h1, h2, h3⟩ := h
  refine ⟨vs, h1, h2, fun j x u hj hu => ?_⟩
  match j, hj with
  | 0, hj => injection hj with hj; subst hj; exact ht u (h3 0 _ u rfl hu)
  | 1, hj => exact h3 1 x u hj hu
  | 2, hj => exact h3 2 x u hj hu
set_option maxRecDepth 100000 in
set_option maxHeartbeats 2000000 in
theorem does_deliver (d : PNet) (hd : NetOk d) (h : PHop) (hk : knd h.kind = 2) : LCalls Try.prog 14 [.bp 3000 0, .t (hopT h)] (netN d) [] (doesA d h) (netN (doesN d h)) [] := by
  have hr : doesR d h = ((atP d h.f h.t h.no).1, 0, (atP d h.f h.t h.no).2) := by unfold doesR; rw [hk]; rfl
  have hN : doesN d h = delP d h.f h.t h.no := by unfold doesN; rw [hk]; rfl
  unfold doesA
  rw [hr, hN]
  have c1 := deliver_ d hd h.f h.t h.no
  unfold hopT
  clear hr hN
  generalize atP d h.f h.t h.no = q at *
  refine lcalls_of Try.func14 rfl rfl Try.ntmps14 rfl ?_
  repeat' (first | (refine rg 0 ?_; refine sbx ?_; refine sal str32 ?_; refine oAs ?_; refine oAs ?_; refine oN ?_) | (refine rg 1 ?_; refine sal str32 ?_; refine oN ?_) | (refine rg 2 ?_; refine oFb ?_; (first | refine sp (po_load_ntn rfl rfl (tyT rfl) rfl) ?_ | refine sp (po_load_ntk rfl rfl (tyT rfl) rfl (by first | assumption | omega) (by assumption) rfl) ?_ | refine oLb ?_); refine sp (po_knd rfl rfl rfl) ?_; refine oN ?_) | (refine rg 3 ?_; refine oCm ?_; refine oAs ?_; refine oN ?_) | (refine rg 4 ?_; refine oCm ?_; refine oAs ?_; refine oN ?_) | (refine rg 9 ?_; refine oCm ?_; refine oAs ?_; refine oN ?_) | (refine rg 10 ?_; refine oMv ?_; refine oFb ?_; (first | refine sp (po_load_ntn rfl rfl (tyT rfl) rfl) ?_ | refine sp (po_load_ntk rfl rfl (tyT rfl) rfl (by first | assumption | omega) (by assumption) rfl) ?_ | refine oLb ?_); refine oFb ?_; (first | refine sp (po_load_ntn rfl rfl (tyT rfl) rfl) ?_ | refine sp (po_load_ntk rfl rfl (tyT rfl) rfl (by first | assumption | omega) (by assumption) rfl) ?_ | refine oLb ?_); refine oFb ?_; (first | refine sp (po_load_ntn rfl rfl (tyT rfl) rfl) ?_ | refine sp (po_load_ntk rfl rfl (tyT rfl) rfl (by first | assumption | omega) (by assumption) rfl) ?_ | refine oLb ?_); refine sops_lcall (c1) (fun i => i) (fun i => i) (fun _ => false) (.free rfl rfl) rfl rfl rfl (by ((repeat' (first | exact .nil | refine .cons rfl rfl rfl ?_)) <;> fail)) (.cons rfl rfl .nil) .nil rfl rfl (fun _ h => Bool.noConfusion h) ?_; refine oMv ?_; (first | refine oEx ?_ | refine sp (po_extract_tu rfl rfl rfl) ?_); (first | refine oEx ?_ | refine sp (po_extract_tu rfl rfl rfl) ?_); refine sal str32 ?_; refine oS ?_; refine oAs ?_; refine oN ?_) | (refine rg 11 ?_; (refine sp (po_load_bx_agg rfl rfl (tyT rfl) rfl (vc (vc (vc .nil))) rfl) ?_); refine oMv ?_; refine oS ?_; refine oAs ?_; refine oAs ?_; refine oN ?_) | refine gc ?_ | refine ct ?_ | refine cf ?_ | refine swp_cond rfl (fun hc => ?_) (fun hc => ?_) | refine retl (by exact .inr rfl) rfl (.cellT rfl rfl (tyT rfl) (vc (vc (vc .nil))) rfl (.tmpT rfl (by first | exact .t _ | exact .own rfl (by rfl) | exact .nil _ | exact .emp _ | exact .fn _) (.tmpT rfl (by first | exact .t _ | exact .own rfl (by rfl) | exact .nil _ | exact .emp _ | exact .fn _) .nil))) ?_ rfl (.cons rfl (by rfl) rfl .nil) .nil)
  rfl
set_option maxRecDepth 100000 in
set_option maxHeartbeats 2000000 in
theorem does_drop (d : PNet) (hd : NetOk d) (h : PHop) (hk : knd h.kind = 3) : LCalls Try.prog 14 [.bp 3000 0, .t (hopT h)] (netN d) [] (doesA d h) (netN (doesN d h)) [] := by
  have hr : doesR d h = (msgZ, 0, (atP d h.f h.t h.no).2) := by unfold doesR; rw [hk]; rfl
  have hN : doesN d h = delP d h.f h.t h.no := by unfold doesN; rw [hk]; rfl
  unfold doesA
  rw [hr, hN]
  have c1 := drop_ d hd h.f h.t h.no
  refine LCalls.res (r := .tu [.t msg0, .t (.v (.int .i64 0)), .t (.v (.int .i64 (atP d h.f h.t h.no).2))]) ?_ (fun m g v hv => le_tu3 (le_msg0 m) hv)
  unfold hopT
  clear hr hN
  generalize atP d h.f h.t h.no = q at *
  refine lcalls_of Try.func14 rfl rfl Try.ntmps14 rfl ?_
  repeat' (first | (refine rg 0 ?_; refine sbx ?_; refine sal str32 ?_; refine oAs ?_; refine oAs ?_; refine oN ?_) | (refine rg 1 ?_; refine sal str32 ?_; refine oN ?_) | (refine rg 2 ?_; refine oFb ?_; (first | refine sp (po_load_ntn rfl rfl (tyT rfl) rfl) ?_ | refine sp (po_load_ntk rfl rfl (tyT rfl) rfl (by first | assumption | omega) (by assumption) rfl) ?_ | refine oLb ?_); refine sp (po_knd rfl rfl rfl) ?_; refine oN ?_) | (refine rg 3 ?_; refine oCm ?_; refine oAs ?_; refine oN ?_) | (refine rg 4 ?_; refine oCm ?_; refine oAs ?_; refine oN ?_) | (refine rg 9 ?_; refine oCm ?_; refine oAs ?_; refine oN ?_) | (refine rg 12 ?_; refine oCm ?_; refine oAs ?_; refine oN ?_) | ((refine swp_any (id := 13) [[], [], [], [], [], [], [], [], [3000], [4], [], []] [[3000], [], [], [], [], [], [], [], [], [], [], []] mixed (by kernel_rfl) ?_) <;> (first | refine yp (fun _ _ => po_knd rfl rfl rfl) ?_ | refine yp (fun _ _ => po_load_bx_agg rfl rfl (tyT rfl) rfl (vc (vc (vc .nil))) rfl) ?_) <;> (first | refine yp (fun _ _ => po_knd rfl rfl rfl) ?_ | refine yp (fun _ _ => po_move rfl rfl) ?_) <;> (first | refine yp (fun _ _ => po_knd rfl rfl rfl) ?_ | refine yp (fun _ _ => po_field_bx rfl rfl (tyF rfl)) ?_) <;> (first | refine yp (fun _ _ => po_knd rfl rfl rfl) ?_ | refine yp (fun _ _ => po_load_ntn rfl rfl (tyT rfl) rfl) ?_ | refine yp (fun _ _ => po_load_ntk rfl rfl (tyT rfl) rfl (by first | assumption | omega) (by assumption) rfl) ?_ | refine yp (fun _ _ => po_load_bx rfl rfl (tyT rfl) rfl rfl) ?_) <;> (first | refine yp (fun _ _ => po_knd rfl rfl rfl) ?_ | refine yp (fun _ _ => po_field_bx rfl rfl (tyF rfl)) ?_) <;> (first | refine yp (fun _ _ => po_knd rfl rfl rfl) ?_ | refine yp (fun _ _ => po_load_ntn rfl rfl (tyT rfl) rfl) ?_ | refine yp (fun _ _ => po_load_ntk rfl rfl (tyT rfl) rfl (by first | assumption | omega) (by assumption) rfl) ?_ | refine yp (fun _ _ => po_load_bx rfl rfl (tyT rfl) rfl rfl) ?_) <;> (first | refine yp (fun _ _ => po_knd rfl rfl rfl) ?_ | refine yp (fun _ _ => po_field_bx rfl rfl (tyF rfl)) ?_) <;> (first | refine yp (fun _ _ => po_knd rfl rfl rfl) ?_ | refine yp (fun _ _ => po_load_ntn rfl rfl (tyT rfl) rfl) ?_ | refine yp (fun _ _ => po_load_ntk rfl rfl (tyT rfl) rfl (by first | assumption | omega) (by assumption) rfl) ?_ | refine yp (fun _ _ => po_load_bx rfl rfl (tyT rfl) rfl rfl) ?_) <;> (refine sany_eff [(3000, _)] [] (.free rfl rfl) rfl rfl (fun _ _ hb ho => e_lcall (c1) (fun i => i) (fun i => i) rfl (by ((repeat' (first | exact .nil | refine .cons rfl rfl rfl ?_)) <;> fail)) (.cons rfl rfl .nil) .nil rfl rfl (by ((repeat' (first | exact .nil | refine .old rfl ?_)) <;> fail)) (by ((repeat' (exact .nil)) <;> fail)) .nil) ?_) <;> refine sany_eff [(4, _)] [] (.free rfl rfl) rfl rfl (fun _ _ _ _ => e_store rfl rfl rfl rfl rfl rfl (tyT rfl) rfl rfl) ?_ <;> (first | refine yp (fun _ _ => po_knd rfl rfl rfl) ?_ | refine yp (fun _ _ => po_assign rfl rfl) ?_) <;> (first | refine yp (fun _ _ => po_knd rfl rfl rfl) ?_ | refine yp (fun _ _ => po_assign rfl rfl) ?_) <;> refine sany_nil ?_) | refine gc ?_ | refine ct ?_ | refine cf ?_ | refine swp_cond rfl (fun hc => ?_) (fun hc => ?_) | refine retl (by exact .inr rfl) rfl (.cellT rfl rfl (tyT rfl) (vc (vc (vc .nil))) rfl (.tmpT rfl (by first | exact .t _ | exact .own rfl (by rfl) | exact .nil _ | exact .emp _ | exact .fn _) (.tmpT rfl (by first | exact .t _ | exact .own rfl (by rfl) | exact .nil _ | exact .emp _ | exact .fn _) .nil))) ?_ rfl (.cons rfl (by rfl) rfl .nil) .nil)
  rfl
set_option maxRecDepth 100000 in
set_option maxHeartbeats 2000000 in
theorem does_double (d : PNet) (hd : NetOk d) (h : PHop) (hk : knd h.kind = 4) : LCalls Try.prog 14 [.bp 3000 0, .t (hopT h)] (netN d) [] (doesA d h) (netN (doesN d h)) [] := by
  have hr : doesR d h = (msgZ, 0, (doubleP d h.f h.t h.no).2) := by unfold doesR; rw [hk]; rfl
  have hN : doesN d h = (doubleP d h.f h.t h.no).1 := by unfold doesN; rw [hk]; rfl
  unfold doesA
  rw [hr, hN]
  have c1 := double_ d hd h.f h.t h.no
  refine LCalls.res (r := .tu [.t msg0, .t (.v (.int .i64 0)), .t (.v (.int .i64 (doubleP d h.f h.t h.no).2))]) ?_ (fun m g v hv => le_tu3 (le_msg0 m) hv)
  unfold hopT
  clear hr hN
  generalize doubleP d h.f h.t h.no = q at *
  refine lcalls_of Try.func14 rfl rfl Try.ntmps14 rfl ?_
  repeat' (first | (refine rg 0 ?_; refine sbx ?_; refine sal str32 ?_; refine oAs ?_; refine oAs ?_; refine oN ?_) | (refine rg 1 ?_; refine sal str32 ?_; refine oN ?_) | (refine rg 2 ?_; refine oFb ?_; (first | refine sp (po_load_ntn rfl rfl (tyT rfl) rfl) ?_ | refine sp (po_load_ntk rfl rfl (tyT rfl) rfl (by first | assumption | omega) (by assumption) rfl) ?_ | refine oLb ?_); refine sp (po_knd rfl rfl rfl) ?_; refine oN ?_) | (refine rg 3 ?_; refine oCm ?_; refine oAs ?_; refine oN ?_) | (refine rg 4 ?_; refine oCm ?_; refine oAs ?_; refine oN ?_) | (refine rg 9 ?_; refine oCm ?_; refine oAs ?_; refine oN ?_) | (refine rg 12 ?_; refine oCm ?_; refine oAs ?_; refine oN ?_) | (refine rg 14 ?_; refine oCm ?_; refine oAs ?_; refine oN ?_) | ((refine swp_any (id := 15) [[], [], [], [], [], [], [], [], [3000], [4], [], []] [[3000], [], [], [], [], [], [], [], [], [], [], []] mixed (by kernel_rfl) ?_) <;> (first | refine yp (fun _ _ => po_knd rfl rfl rfl) ?_ | refine yp (fun _ _ => po_load_bx_agg rfl rfl (tyT rfl) rfl (vc (vc (vc .nil))) rfl) ?_) <;> (first | refine yp (fun _ _ => po_knd rfl rfl rfl) ?_ | refine yp (fun _ _ => po_move rfl rfl) ?_) <;> (first | refine yp (fun _ _ => po_knd rfl rfl rfl) ?_ | refine yp (fun _ _ => po_field_bx rfl rfl (tyF rfl)) ?_) <;> (first | refine yp (fun _ _ => po_knd rfl rfl rfl) ?_ | refine yp (fun _ _ => po_load_ntn rfl rfl (tyT rfl) rfl) ?_ | refine yp (fun _ _ => po_load_ntk rfl rfl (tyT rfl) rfl (by first | assumption | omega) (by assumption) rfl) ?_ | refine yp (fun _ _ => po_load_bx rfl rfl (tyT rfl) rfl rfl) ?_) <;> (first | refine yp (fun _ _ => po_knd rfl rfl rfl) ?_ | refine yp (fun _ _ => po_field_bx rfl rfl (tyF rfl)) ?_) <;> (first | refine yp (fun _ _ => po_knd rfl rfl rfl) ?_ | refine yp (fun _ _ => po_load_ntn rfl rfl (tyT rfl) rfl) ?_ | refine yp (fun _ _ => po_load_ntk rfl rfl (tyT rfl) rfl (by first | assumption | omega) (by assumption) rfl) ?_ | refine yp (fun _ _ => po_load_bx rfl rfl (tyT rfl) rfl rfl) ?_) <;> (first | refine yp (fun _ _ => po_knd rfl rfl rfl) ?_ | refine yp (fun _ _ => po_field_bx rfl rfl (tyF rfl)) ?_) <;> (first | refine yp (fun _ _ => po_knd rfl rfl rfl) ?_ | refine yp (fun _ _ => po_load_ntn rfl rfl (tyT rfl) rfl) ?_ | refine yp (fun _ _ => po_load_ntk rfl rfl (tyT rfl) rfl (by first | assumption | omega) (by assumption) rfl) ?_ | refine yp (fun _ _ => po_load_bx rfl rfl (tyT rfl) rfl rfl) ?_) <;> (refine sany_eff [(3000, _)] [] (.free rfl rfl) rfl rfl (fun _ _ hb ho => e_lcall (c1) (fun i => i) (fun i => i) rfl (by ((repeat' (first | exact .nil | refine .cons rfl rfl rfl ?_)) <;> fail)) (.cons rfl rfl .nil) .nil rfl rfl (by ((repeat' (first | exact .nil | refine .old rfl ?_)) <;> fail)) (by ((repeat' (exact .nil)) <;> fail)) .nil) ?_) <;> refine sany_eff [(4, _)] [] (.free rfl rfl) rfl rfl (fun _ _ _ _ => e_store rfl rfl rfl rfl rfl rfl (tyT rfl) rfl rfl) ?_ <;> (first | refine yp (fun _ _ => po_knd rfl rfl rfl) ?_ | refine yp (fun _ _ => po_assign rfl rfl) ?_) <;> (first | refine yp (fun _ _ => po_knd rfl rfl rfl) ?_ | refine yp (fun _ _ => po_assign rfl rfl) ?_) <;> refine sany_nil ?_) | refine gc ?_ | refine ct ?_ | refine cf ?_ | refine swp_cond rfl (fun hc => ?_) (fun hc => ?_) | refine retl (by exact .inr rfl) rfl (.cellT rfl rfl (tyT rfl) (vc (vc (vc .nil))) rfl (.tmpT rfl (by first | exact .t _ | exact .own rfl (by rfl) | exact .nil _ | exact .emp _ | exact .fn _) (.tmpT rfl (by first | exact .t _ | exact .own rfl (by rfl) | exact .nil _ | exact .emp _ | exact .fn _) .nil))) ?_ rfl (.cons rfl (by rfl) rfl .nil) .nil)
  rfl
set_option maxRecDepth 100000 in
set_option maxHeartbeats 2000000 in
theorem does_front (d : PNet) (hd : NetOk d) (h : PHop) (hk : knd h.kind = 5) : LCalls Try.prog 14 [.bp 3000 0, .t (hopT h)] (netN d) [] (doesA d h) (netN (doesN d h)) [] := by
  have hr : doesR d h = (msgZ, 0, (atP d h.f h.t h.no).2) := by unfold doesR; rw [hk]; rfl
  have hN : doesN d h = frontP d h.f h.t h.no := by unfold doesN; rw [hk]; rfl
  unfold doesA
  rw [hr, hN]
  have c1 := front_ d hd h.f h.t h.no
  refine LCalls.res (r := .tu [.t msg0, .t (.v (.int .i64 0)), .t (.v (.int .i64 (atP d h.f h.t h.no).2))]) ?_ (fun m g v hv => le_tu3 (le_msg0 m) hv)
  unfold hopT
  clear hr hN
  generalize atP d h.f h.t h.no = q at *
  refine lcalls_of Try.func14 rfl rfl Try.ntmps14 rfl ?_
  repeat' (first | (refine rg 0 ?_; refine sbx ?_; refine sal str32 ?_; refine oAs ?_; refine oAs ?_; refine oN ?_) | (refine rg 1 ?_; refine sal str32 ?_; refine oN ?_) | (refine rg 2 ?_; refine oFb ?_; (first | refine sp (po_load_ntn rfl rfl (tyT rfl) rfl) ?_ | refine sp (po_load_ntk rfl rfl (tyT rfl) rfl (by first | assumption | omega) (by assumption) rfl) ?_ | refine oLb ?_); refine sp (po_knd rfl rfl rfl) ?_; refine oN ?_) | (refine rg 3 ?_; refine oCm ?_; refine oAs ?_; refine oN ?_) | (refine rg 4 ?_; refine oCm ?_; refine oAs ?_; refine oN ?_) | (refine rg 9 ?_; refine oCm ?_; refine oAs ?_; refine oN ?_) | (refine rg 12 ?_; refine oCm ?_; refine oAs ?_; refine oN ?_) | (refine rg 14 ?_; refine oCm ?_; refine oAs ?_; refine oN ?_) | (refine rg 16 ?_; refine oCm ?_; refine oAs ?_; refine oN ?_) | ((refine swp_any (id := 17) [[], [], [], [], [], [], [], [], [3000], [4], [], []] [[3000], [], [], [], [], [], [], [], [], [], [], []] mixed (by kernel_rfl) ?_) <;> (first | refine yp (fun _ _ => po_knd rfl rfl rfl) ?_ | refine yp (fun _ _ => po_load_bx_agg rfl rfl (tyT rfl) rfl (vc (vc (vc .nil))) rfl) ?_) <;> (first | refine yp (fun _ _ => po_knd rfl rfl rfl) ?_ | refine yp (fun _ _ => po_move rfl rfl) ?_) <;> (first | refine yp (fun _ _ => po_knd rfl rfl rfl) ?_ | refine yp (fun _ _ => po_field_bx rfl rfl (tyF rfl)) ?_) <;> (first | refine yp (fun _ _ => po_knd rfl rfl rfl) ?_ | refine yp (fun _ _ => po_load_ntn rfl rfl (tyT rfl) rfl) ?_ | refine yp (fun _ _ => po_load_ntk rfl rfl (tyT rfl) rfl (by first | assumption | omega) (by assumption) rfl) ?_ | refine yp (fun _ _ => po_load_bx rfl rfl (tyT rfl) rfl rfl) ?_) <;> (first | refine yp (fun _ _ => po_knd rfl rfl rfl) ?_ | refine yp (fun _ _ => po_field_bx rfl rfl (tyF rfl)) ?_) <;> (first | refine yp (fun _ _ => po_knd rfl rfl rfl) ?_ | refine yp (fun _ _ => po_load_ntn rfl rfl (tyT rfl) rfl) ?_ | refine yp (fun _ _ => po_load_ntk rfl rfl (tyT rfl) rfl (by first | assumption | omega) (by assumption) rfl) ?_ | refine yp (fun _ _ => po_load_bx rfl rfl (tyT rfl) rfl rfl) ?_) <;> (first | refine yp (fun _ _ => po_knd rfl rfl rfl) ?_ | refine yp (fun _ _ => po_field_bx rfl rfl (tyF rfl)) ?_) <;> (first | refine yp (fun _ _ => po_knd rfl rfl rfl) ?_ | refine yp (fun _ _ => po_load_ntn rfl rfl (tyT rfl) rfl) ?_ | refine yp (fun _ _ => po_load_ntk rfl rfl (tyT rfl) rfl (by first | assumption | omega) (by assumption) rfl) ?_ | refine yp (fun _ _ => po_load_bx rfl rfl (tyT rfl) rfl rfl) ?_) <;> (refine sany_eff [(3000, _)] [] (.free rfl rfl) rfl rfl (fun _ _ hb ho => e_lcall (c1) (fun i => i) (fun i => i) rfl (by ((repeat' (first | exact .nil | refine .cons rfl rfl rfl ?_)) <;> fail)) (.cons rfl rfl .nil) .nil rfl rfl (by ((repeat' (first | exact .nil | refine .old rfl ?_)) <;> fail)) (by ((repeat' (exact .nil)) <;> fail)) .nil) ?_) <;> refine sany_eff [(4, _)] [] (.free rfl rfl) rfl rfl (fun _ _ _ _ => e_store rfl rfl rfl rfl rfl rfl (tyT rfl) rfl rfl) ?_ <;> (first | refine yp (fun _ _ => po_knd rfl rfl rfl) ?_ | refine yp (fun _ _ => po_assign rfl rfl) ?_) <;> (first | refine yp (fun _ _ => po_knd rfl rfl rfl) ?_ | refine yp (fun _ _ => po_assign rfl rfl) ?_) <;> refine sany_nil ?_) | refine gc ?_ | refine ct ?_ | refine cf ?_ | refine swp_cond rfl (fun hc => ?_) (fun hc => ?_) | refine retl (by exact .inr rfl) rfl (.cellT rfl rfl (tyT rfl) (vc (vc (vc .nil))) rfl (.tmpT rfl (by first | exact .t _ | exact .own rfl (by rfl) | exact .nil _ | exact .emp _ | exact .fn _) (.tmpT rfl (by first | exact .t _ | exact .own rfl (by rfl) | exact .nil _ | exact .emp _ | exact .fn _) .nil))) ?_ rfl (.cons rfl (by rfl) rfl .nil) .nil)
  rfl
set_option maxRecDepth 100000 in
set_option maxHeartbeats 2000000 in
theorem does_len (d : PNet) (hd : NetOk d) (h : PHop) (h0 : knd h.kind ≠ 0) (h1 : knd h.kind ≠ 1) (h2 : knd h.kind ≠ 2) (h3 : knd h.kind ≠ 3) (h4 : knd h.kind ≠ 4) (h5 : knd h.kind ≠ 5) (h6 : knd h.kind ≠ 6) : LCalls Try.prog 14 [.bp 3000 0, .t (hopT h)] (netN d) [] (doesA d h) (netN (doesN d h)) [] := by
  have hr : doesR d h = (msgZ, lenP d h.f h.t, 0) := by unfold doesR; rw [if_neg (by rintro (h | h) <;> contradiction), if_neg h2, if_neg h3, if_neg h4, if_neg h5, if_neg h6]
  have hN : doesN d h = d := by unfold doesN; rw [if_neg (by rintro (h | h) <;> contradiction), if_neg (by rintro (h | h) <;> contradiction), if_neg h4, if_neg h5]
  unfold doesA
  rw [hr, hN]
  have c1 := len_ d hd h.f h.t
  refine LCalls.res (r := .tu [.t msg0, .t (.v (.int .i64 (lenP d h.f h.t))), .t (.v (.int .i64 0))]) ?_ (fun m g v hv => le_tu3 (le_msg0 m) hv)
  unfold hopT
  clear hr hN
  generalize lenP d h.f h.t = q at *
  refine lcalls_of Try.func14 rfl rfl Try.ntmps14 rfl ?_
  repeat' (first | (refine rg 0 ?_; refine sbx ?_; refine sal str32 ?_; refine oAs ?_; refine oAs ?_; refine oN ?_) | (refine rg 1 ?_; refine sal str32 ?_; refine oN ?_) | (refine rg 2 ?_; refine oFb ?_; (first | refine sp (po_load_ntn rfl rfl (tyT rfl) rfl) ?_ | refine sp (po_load_ntk rfl rfl (tyT rfl) rfl (by first | assumption | omega) (by assumption) rfl) ?_ | refine oLb ?_); refine sp (po_knd rfl rfl rfl) ?_; refine oN ?_) | (refine rg 3 ?_; refine oCm ?_; refine oAs ?_; refine oN ?_) | (refine rg 4 ?_; refine oCm ?_; refine oAs ?_; refine oN ?_) | (refine rg 9 ?_; refine oCm ?_; refine oAs ?_; refine oN ?_) | (refine rg 12 ?_; refine oCm ?_; refine oAs ?_; refine oN ?_) | (refine rg 14 ?_; refine oCm ?_; refine oAs ?_; refine oN ?_) | (refine rg 16 ?_; refine oCm ?_; refine oAs ?_; refine oN ?_) | (refine rg 18 ?_; refine oCm ?_; refine oAs ?_; refine oN ?_) | ((refine swp_any (id := 23) [[], [], [], [], [], [], [3000], [4], [], []] [[3000], [], [], [], [], [], [], [], [], []] mixed (by kernel_rfl) ?_) <;> (first | refine yp (fun _ _ => po_knd rfl rfl rfl) ?_ | refine yp (fun _ _ => po_load_bx_agg rfl rfl (tyT rfl) rfl (vc (vc (vc .nil))) rfl) ?_) <;> (first | refine yp (fun _ _ => po_knd rfl rfl rfl) ?_ | refine yp (fun _ _ => po_move rfl rfl) ?_) <;> (first | refine yp (fun _ _ => po_knd rfl rfl rfl) ?_ | refine yp (fun _ _ => po_field_bx rfl rfl (tyF rfl)) ?_) <;> (first | refine yp (fun _ _ => po_knd rfl rfl rfl) ?_ | refine yp (fun _ _ => po_load_ntn rfl rfl (tyT rfl) rfl) ?_ | refine yp (fun _ _ => po_load_ntk rfl rfl (tyT rfl) rfl (by first | assumption | omega) (by assumption) rfl) ?_ | refine yp (fun _ _ => po_load_bx rfl rfl (tyT rfl) rfl rfl) ?_) <;> (first | refine yp (fun _ _ => po_knd rfl rfl rfl) ?_ | refine yp (fun _ _ => po_field_bx rfl rfl (tyF rfl)) ?_) <;> (first | refine yp (fun _ _ => po_knd rfl rfl rfl) ?_ | refine yp (fun _ _ => po_load_ntn rfl rfl (tyT rfl) rfl) ?_ | refine yp (fun _ _ => po_load_ntk rfl rfl (tyT rfl) rfl (by first | assumption | omega) (by assumption) rfl) ?_ | refine yp (fun _ _ => po_load_bx rfl rfl (tyT rfl) rfl rfl) ?_) <;> (refine sany_eff [(3000, _)] [] (.free rfl rfl) rfl rfl (fun _ _ hb ho => e_lcall (c1) (fun i => i) (fun i => i) rfl (by ((repeat' (first | exact .nil | refine .cons rfl rfl rfl ?_)) <;> fail)) (.cons rfl rfl .nil) .nil rfl rfl (by ((repeat' (first | exact .nil | refine .old rfl ?_)) <;> fail)) (by ((repeat' (exact .nil)) <;> fail)) .nil) ?_) <;> refine sany_eff [(4, _)] [] (.free rfl rfl) rfl rfl (fun _ _ _ _ => e_store rfl rfl rfl rfl rfl rfl (tyT rfl) rfl rfl) ?_ <;> (first | refine yp (fun _ _ => po_knd rfl rfl rfl) ?_ | refine yp (fun _ _ => po_assign rfl rfl) ?_) <;> (first | refine yp (fun _ _ => po_knd rfl rfl rfl) ?_ | refine yp (fun _ _ => po_assign rfl rfl) ?_) <;> refine sany_nil ?_) | refine gc ?_ | refine ct ?_ | refine cf ?_ | refine swp_cond rfl (fun hc => ?_) (fun hc => ?_) | refine retl (by exact .inr rfl) rfl (.cellT rfl rfl (tyT rfl) (vc (vc (vc .nil))) rfl (.tmpT rfl (by first | exact .t _ | exact .own rfl (by rfl) | exact .nil _ | exact .emp _ | exact .fn _) (.tmpT rfl (by first | exact .t _ | exact .own rfl (by rfl) | exact .nil _ | exact .emp _ | exact .fn _) .nil))) ?_ rfl (.cons rfl (by rfl) rfl .nil) .nil)
  rfl
end Go.Proofs.Ytgbcmjcaggnobaa.Sim
