/- Merged by bundles.py: SimNle. -/
import Derived.Test.YtabejnjnkpdjbaaT31
import Derived.Test.YtabejnjnkpdjbaaT38
import Derived.Test.YtabejnjnkpdjbaaT15
/- PoolOnce: a call. -/
namespace Go.Proofs.Ytabejnjnkpdjbaa.Sim
set_option linter.unusedVariables false
set_option linter.unusedSimpArgs false
open Go.RowKit Mem R21
theorem swp_joinE_r {α : Type} {P : Program} {N : Nat} {Q : Exit → St → Prop} {st : St} {id : Nat} {l : Array Oper} {b : Bool} {x : Code} (S : α → St) (I : α → Prop) (h : Hold (SWp P N (.seq (.region id l b) x) (JoinE N S I Q) st)) (k : ∀ x, I x → Q .normal (S x)) : SWp P N (.seq (.region id l b) x) Q st := swp_joinE S I h k
def AtOk (n : Nat) (a : Int) : Prop := a = -1 ∨ ∃ k : Nat, k < n ∧ a = (k : Int)
def SOa (l : List PAct) (x : OnX) (a : PAct) (at_ : Int) : St := ⟨onT l x [(13, .bp 13 0), (14, .t (.sl 18 [])), (15, .t (.sl 2 [])), (16, .t (i64T at_))], [(5, (poolT x.p).map .t), (13, (actL a).map .t)], onO x⟩
structure OnOk (l : List PAct) (x : OnX) : Prop where
  inv : OnI x.p x.taken x.told x.i
  hi : x.i ≤ l.length
  len : x.ids.length = x.peers.length
  few : x.ids.length ≤ 200 * x.i
  tak : x.taken.length ≤ x.i
structure JOk (x : OnX) (y : OnX × List PDo × List PFail) : Prop where
  inv : OnI y.1.p y.1.taken (y.1.told ++ y.2.2.map PFail.id) (x.i + 1)
  hi : y.1.i = x.i
  len : y.1.ids.length = y.1.peers.length
  few : y.1.ids.length ≤ 200 * x.i
  tak : y.1.taken.length ≤ x.i + 1
  dos : y.2.1.length ≤ 200
theorem ands (i : Int) : ∃ k : Nat, k < 65536 ∧ IntKind.i64.wrap ((BitVec.ofInt IntKind.i64.bits i &&& BitVec.ofInt IntKind.i64.bits 65535).toNat : Int) = (k : Int) := by
  refine ⟨(BitVec.ofInt IntKind.i64.bits i &&& BitVec.ofInt IntKind.i64.bits 65535).toNat, ?_, ?_⟩
  · have h : (BitVec.ofInt IntKind.i64.bits i &&& BitVec.ofInt IntKind.i64.bits 65535).toNat ≤ 65535 := by
      rw [BitVec.toNat_and]
      exact Nat.le_trans Nat.and_le_right (by decide)
    omega
  · have h : (BitVec.ofInt IntKind.i64.bits i &&& BitVec.ofInt IntKind.i64.bits 65535).toNat ≤ 65535 := by
      rw [BitVec.toNat_and]
      exact Nat.le_trans Nat.and_le_right (by decide)
    generalize (BitVec.ofInt IntKind.i64.bits i &&& BitVec.ofInt IntKind.i64.bits 65535).toNat = n at *
    exact wrap_i64 (by omega)
theorem po_andk {P : Program} {bx : List (Nat × List A)} {ow : List (Nat × Own)} {o : Oper} {ρ : Operand → Option A} {t t2 : TypeId} {x y : Operand} {i : Int} {c : Int} (hc : IntKind.i64.wrap ((BitVec.ofInt IntKind.i64.bits i &&& BitVec.ofInt IntKind.i64.bits 65535).toNat : Int) = c) (ho : o.op = .binOp .and t x y t2) (hx : ρ x = some (.t (.v (.int .i64 i)))) (hy : ρ y = some (.t (.v (.int .i64 65535)))) : PureOp P bx ow o ρ (.t (.v (.int .i64 c))) := by
  subst hc; exact po_and ho hx hy
theorem po_remk {P : Program} {bx : List (Nat × List A)} {ow : List (Nat × Own)} {o : Oper} {ρ : Operand → Option A} {t t2 : TypeId} {x y : Operand} {a b : Nat} (hb : 0 < b) (ho : o.op = .binOp .rem t x y t2) (hx : ρ x = some (.t (.v (.int .i64 (a : Int))))) (hy : ρ y = some (.t (.v (.int .i64 (b : Int))))) : PureOp P bx ow o ρ (.t (.v (.int .i64 ((a % b : Nat) : Int)))) := by
  have h := po_rem (P := P) (bx := bx) (ow := ow) ho hx hy (by omega)
  rwa [show ((a : Int).tmod (b : Int)) = ((a % b : Nat) : Int) from rfl] at h
theorem OnI.stp' {p p' : PPool} {taken told out : List Int} {i : Nat} (h : OnI p taken told i) (e : ({ p with tuns := p'.tuns } : PPool) = p') (k : Stp p.tuns p'.tuns out) : OnI p' taken (told ++ out) (i + 1) := e ▸ h.stp k
theorem shut_eq (p : PPool) (f : PTun → Bool) : ({ p with tuns := (shutP p f).tuns } : PPool) = shutP p f := by unfold shutP; split <;> rfl
theorem ref_eq (p : PPool) (f : PTun → Bool) : ({ p with tuns := (refP p f).tuns } : PPool) = refP p f := by unfold refP; split <;> first | rfl | (split <;> rfl)
theorem acc_eq (p : PPool) (now : Int) (f : PTun → Bool) : ({ p with tuns := (accP p now f).tuns } : PPool) = accP p now f := by unfold accP; split <;> first | rfl | (split <;> rfl)
theorem rep_eq (p : PPool) (now : Int) (f : PTun → Bool) (n : Int) : ({ p with tuns := (repR p now f n).1.tuns } : PPool) = (repR p now f n).1 := by
  unfold repR
  split
  · rfl
  · split
    · rfl
    · split <;> rfl
theorem on0 (node : Int) : OnI ⟨node, 1, 1, []⟩ [] [] 0 := ⟨.refl _, .nil, fun n h => (by cases h), ⟨Nat.zero_le _, fun t h => (by cases h), fun t h => (by cases h), fun t h => (by cases h), fun t h => (by cases h), .nil⟩, fun t h => (by cases h), by show (0 : Int) ≤ 1; decide, by show (1 : Int) ≤ ((0 : Nat) : Int) + 1; decide⟩
theorem askOl_do (p : PPool) (now : Int) (q : PQ) (A B : List PTun) (t : PTun) : (askOl p now q A B t).2.1.length ≤ 1 := by
  unfold askOl
  split
  · exact Nat.zero_le _
  · split <;> simp
theorem ask_do (p : PPool) (now peer src a b c : Int) (q : PQ) : (askP p now peer src a b c q).2.1.length ≤ 2 := by
  unfold askP
  split
  · exact Nat.zero_le _
  split
  · exact Nat.zero_le _
  split
  · exact Nat.le_trans (askOl_do _ _ _ _ _ _) (by decide)
  · split
    · exact Nat.zero_le _
    · rename_i l D h
      have hD : D.length ≤ 1 := by
        unfold askMs at h
        split at h
        · split at h
          · cases h
          · split at h
            · cases h
            · injection h with h; injection h with h1 h2; subst h2; exact Nat.le_refl _
        · injection h with h; injection h with h1 h2; subst h2; exact Nat.zero_le _
      unfold addT
      dsimp only
      rw [List.length_append]
      show D.length + 1 ≤ 2
      omega
theorem acc_do {p : PPool} (hp : PoOk p) (now : Int) (f : PTun → Bool) : (accD p now f).length ≤ 8 := by
  unfold accD
  split
  · exact Nat.zero_le _
  · rename_i A t B h
    split
    · have h1 := cutT_some h
      have h2 := hp.asks t (by rw [h1]; simp)
      have h3 := (accK_asks now t t.asks.length (Nat.le_refl _)).2.2
      unfold acc
      omega
    · exact Nat.zero_le _
theorem sum8 : ∀ (l : List PTun), (∀ t ∈ l, t.asks.length ≤ 8) → (l.map fun t => t.asks.length).sum ≤ l.length * 8
  | [], _ => Nat.le_refl _
  | t :: l, hl => by
    have := sum8 l fun s hs => hl s (List.mem_cons_of_mem _ hs)
    have := hl t List.mem_cons_self
    rw [List.map_cons, List.sum_cons, List.length_cons]; omega
theorem tick_do {p : PPool} (hp : PoOk p) (now : Int) : (tickD now p.tuns).length ≤ 200 := by
  have h1 := tickD_len now p.tuns
  have h2 := sum8 p.tuns hp.asks
  have h3 := hp.len
  omega
set_option maxRecDepth 100000 in
set_option maxHeartbeats 8000000 in
theorem acts_ {c : Code} (hc : fS 17 (bodyOf Try.f5) = some c) {Q : Exit → St → Prop} (l : List PAct) (x : OnX) (a : PAct) (at_ : Int) (h300 : x.i < 300) (hinv : OnI x.p x.taken x.told x.i) (hlen : x.ids.length = x.peers.length) (hfew : x.ids.length ≤ 200 * x.i) (htk : x.taken.length ≤ x.i) (hat : AtOk x.ids.length at_) (h : ∀ (y : OnX × List PDo × List PFail) (st : St), Weak 320 st (SOj l y.1 y.2.1 y.2.2) → JOk x y → Q .normal st) : SWp Try.prog 320 c Q (SOa l x a at_) := by
  obtain rfl := Option.some.inj hc
  clear hc
  obtain ⟨i, p, ids, peers, taken, told, now⟩ := x
  obtain ⟨do_, ai, ak, apeer, aby, src, duid, daddr, dport⟩ := a
  dsimp only at h300 hinv hlen hfew htk hat
  have hF := hinv.few1000
  have hgo : JOk (⟨i, p, ids, peers, taken, told, now⟩ : OnX) ((⟨i, p, ids, peers, taken, told, now⟩ : OnX), [], []) := ⟨by show OnI p taken (told ++ []) (i + 1); rw [List.append_nil]; exact hinv.go, rfl, hlen, hfew, by show taken.length ≤ i + 1; omega, Nat.zero_le _⟩
  have him : (ids.map tidL).length = ids.length := List.length_map _
  have hpm : (peers.map pT).length = peers.length := List.length_map _
  have htm : (taken.map nT).length = taken.length := List.length_map _
  have hom : (told.map nT).length = told.length := List.length_map _
  have htold : told.length ≤ taken.length := by have := hinv.len; omega
  unfold SOa onT onO actL
  try dsimp only
  by_cases d0 : do_ = 0
  · subst d0
    have kq := query_ ((i + 1 : Nat) : Int)
    have ka := ask_ p now apeer src duid daddr dport (qry ((i + 1 : Nat) : Int)) hF.1 hF.2.1 ⟨by show 1 ≤ 1000000; decide⟩
    have hs := ask_stp p now apeer src duid daddr dport (qry ((i + 1 : Nat) : Int)) hinv.ok hinv.few (by show 1 ≤ 1; decide) (by have := hinv.next; omega)
    have hdo := ask_do p now apeer src duid daddr dport (qry ((i + 1 : Nat) : Int))
    generalize askP p now apeer src duid daddr dport (qry ((i + 1 : Nat) : Int)) = X at *
    obtain ⟨p2, D, e⟩ := X
    have cq := LCalls.pc (args := [.agg (poolT p), u64T now, i64T apeer, u64T src, dstT duid daddr dport, .agg (askR (qry ((i + 1 : Nat) : Int)))]) ka (ar_tu (rs := [.agg (poolT p2), .sl 18 (D.map doR), i64T e]))
    clear ka
    dsimp only at hs hdo
    have hw : IntKind.u64.wrap ((i + 1 : Nat) : Int) = ((i + 1 : Nat) : Int) := by show ((i + 1 : Nat) : Int) % 18446744073709551616 = _; omega
    by_cases he : e = 0
    · subst he
      have hs := hs rfl
      have hto : Own.mk 24 1 (taken.map nT ++ [[u64T ((i + 1 : Nat) : Int)]]) = Own.mk 24 1 ((taken ++ [((i + 1 : Nat) : Int)]).map nT) := by rw [List.map_append]; rfl
      have htl : Sim.A.own 102 (taken.map nT ++ [[u64T ((i + 1 : Nat) : Int)]]).length = Sim.A.own 102 (taken ++ [((i + 1 : Nat) : Int)]).length := by rw [List.length_append, List.length_append, htm]; rfl
      have hj : JOk (⟨i, p, ids, peers, taken, told, now⟩ : OnX) ((⟨i, p2, ids, peers, taken ++ [((i + 1 : Nat) : Int)], told, now⟩ : OnX), D, []) := ⟨by show OnI p2 _ (told ++ []) (i + 1); rw [List.append_nil]; exact hinv.ask hs (by show ((i + 1 : Nat) : Int) = _; omega), rfl, hlen, hfew, by show (taken ++ _).length ≤ i + 1; rw [List.length_append]; show taken.length + 1 ≤ i + 1; omega, by show D.length ≤ 200; omega⟩
      repeat' (first | refine gc ?_ | refine h _ _ (weak_sub (.cons rfl (by rfl) rfl (.cons rfl (by rfl) rfl (.cons rfl (by rfl) rfl (.cons rfl (by rfl) rfl (.cons rfl (by first | rfl | (first | (exact hto) | (exact htl))) rfl (.cons rfl (by rfl) rfl (.cons rfl (by rfl) rfl (.cons rfl (by rfl) rfl (.cons rfl (by rfl) rfl (.cons rfl (by rfl) rfl .nil)))))))))) (.cons rfl (by rfl) rfl .nil) (.cons rfl (by rfl) (.cons rfl (by rfl) (.cons rfl (by first | rfl | ((exact hto))) (.cons rfl (by rfl) .nil))))) hj | refine rg 17 (aq93 ?_) | ((refine swp_any (id := 18) [[], [], [], [], [], [], [], [], [], [], [], [], [], [], [], [], [], [17], [17], [], []] [[17], [17], [17], [17], [17], [17], [17], [17], [17], [17], [17], [17], [17], [17], [17], [17], [17], [], [], [], []] mixed (by kernel_rfl) ?_) <;> (first | refine yp (fun _ _ => po_conv_int (c := ((i + 1 : Nat) : Int)) rfl rfl (tyK rfl) (tyK rfl) hw) ?_ | refine yp (fun _ _ => po_load_bx_agg rfl rfl (tyT rfl) rfl (vc (vc (vc (vc .nil)))) rfl) ?_) <;> (first | refine yp (fun _ _ => po_conv_int (c := ((i + 1 : Nat) : Int)) rfl rfl (tyK rfl) (tyK rfl) hw) ?_ | refine yp (fun _ _ => po_move rfl rfl) ?_) <;> (first | refine yp (fun _ _ => po_conv_int (c := ((i + 1 : Nat) : Int)) rfl rfl (tyK rfl) (tyK rfl) hw) ?_ | refine yp (fun _ _ => po_field_bx rfl rfl (tyF rfl)) ?_) <;> (first | refine yp (fun _ _ => po_conv_int (c := ((i + 1 : Nat) : Int)) rfl rfl (tyK rfl) (tyK rfl) hw) ?_ | refine yp (fun _ _ => po_load_bx rfl rfl (tyT rfl) rfl rfl) ?_) <;> (first | refine yp (fun _ _ => po_conv_int (c := ((i + 1 : Nat) : Int)) rfl rfl (tyK rfl) (tyK rfl) hw) ?_ | refine yp (fun _ _ => po_field_bx rfl rfl (tyF rfl)) ?_) <;> (first | refine yp (fun _ _ => po_conv_int (c := ((i + 1 : Nat) : Int)) rfl rfl (tyK rfl) (tyK rfl) hw) ?_ | refine yp (fun _ _ => po_load_bx rfl rfl (tyT rfl) rfl rfl) ?_) <;> (first | refine yp (fun _ _ => po_conv_int (c := ((i + 1 : Nat) : Int)) rfl rfl (tyK rfl) (tyK rfl) hw) ?_ | refine yp (fun _ _ => po_field_bx rfl rfl (tyF rfl)) ?_) <;> (first | refine yp (fun _ _ => po_conv_int (c := ((i + 1 : Nat) : Int)) rfl rfl (tyK rfl) (tyK rfl) hw) ?_ | refine yp (fun _ _ => po_load_bx_agg rfl rfl (tyT rfl) rfl (vc (vc (vc .nil))) rfl) ?_) <;> (first | refine yp (fun _ _ => po_conv_int (c := ((i + 1 : Nat) : Int)) rfl rfl (tyK rfl) (tyK rfl) hw) ?_ | refine yp (fun _ _ => po_move rfl rfl) ?_) <;> (first | refine yp (fun _ _ => po_conv_int (c := ((i + 1 : Nat) : Int)) rfl rfl (tyK rfl) (tyK rfl) hw) ?_ | refine yp (fun _ _ => po_inc rfl rfl rfl (by omega)) ?_) <;> (refine yp (fun _ _ => po_conv_int (c := ((i + 1 : Nat) : Int)) rfl rfl (tyK rfl) (tyK rfl) hw) ?_) <;> (first | refine yp (fun _ _ => po_conv_int (c := ((i + 1 : Nat) : Int)) rfl rfl (tyK rfl) (tyK rfl) hw) ?_ | refine yp (fun _ _ => po_call (kq) rfl (ac .nil)) ?_) <;> (first | refine yp (fun _ _ => po_conv_int (c := ((i + 1 : Nat) : Int)) rfl rfl (tyK rfl) (tyK rfl) hw) ?_ | refine yp (fun _ _ => po_call (cq) rfl (ac (ac (ac (ac (ac (ac .nil))))))) ?_) <;> (first | refine yp (fun _ _ => po_conv_int (c := ((i + 1 : Nat) : Int)) rfl rfl (tyK rfl) (tyK rfl) hw) ?_ | refine yp (fun _ _ => po_move rfl rfl) ?_) <;> (first | refine yp (fun _ _ => po_conv_int (c := ((i + 1 : Nat) : Int)) rfl rfl (tyK rfl) (tyK rfl) hw) ?_ | refine yp (fun _ _ => po_extract rfl rfl rfl) ?_) <;> (first | refine yp (fun _ _ => po_conv_int (c := ((i + 1 : Nat) : Int)) rfl rfl (tyK rfl) (tyK rfl) hw) ?_ | refine yp (fun _ _ => po_extract rfl rfl rfl) ?_) <;> (first | refine yp (fun _ _ => po_conv_int (c := ((i + 1 : Nat) : Int)) rfl rfl (tyK rfl) (tyK rfl) hw) ?_ | refine yp (fun _ _ => po_extract rfl rfl rfl) ?_) <;> refine sany_eff [(17, _)] [] (.free rfl rfl) rfl rfl (fun _ _ hb _ => e_allocS str58 rfl (hb 17 rfl rfl)) ?_ <;> refine sany_eff [(17, _)] [] (.free rfl rfl) rfl rfl (fun _ _ _ _ => e_store rfl rfl rfl rfl rfl rfl (tyT rfl) rfl rfl) ?_ <;> (first | refine yp (fun _ _ => po_conv_int (c := ((i + 1 : Nat) : Int)) rfl rfl (tyK rfl) (tyK rfl) hw) ?_ | refine yp (fun _ _ => po_assign rfl rfl) ?_) <;> (first | refine yp (fun _ _ => po_conv_int (c := ((i + 1 : Nat) : Int)) rfl rfl (tyK rfl) (tyK rfl) hw) ?_ | refine yp (fun _ _ => po_assign rfl rfl) ?_) <;> refine sany_nil ?_) | refine rg 19 (aq27 ?_) | (refine rg 20 ?_; (refine sp (po_load_bx_agg rfl rfl (tyT rfl) rfl (vc (vc (vc (vc .nil)))) rfl) ?_); refine oMv ?_; refine oS ?_; refine oAs ?_; refine oN ?_) | (refine rg 21 ?_; refine oMv ?_; refine oMv ?_; refine sp (xinc rfl) ?_; (refine sp (po_conv_int (c := ((i + 1 : Nat) : Int)) rfl rfl (tyK rfl) (tyK rfl) hw) ?_); refine sp (po_buildSlice rfl (tyE rfl) (dc (.nil _)) rfl rfl rfl) ?_; refine sap rfl (tyE rfl) ?_; refine oAs ?_; refine oN ?_) | refine ct ?_)
    · repeat' (first | refine gc ?_ | refine h _ _ (weak_sub (.cons rfl rfl rfl (.cons rfl rfl rfl (.cons rfl rfl rfl (.cons rfl rfl rfl (.cons rfl rfl rfl (.cons rfl rfl rfl (.cons rfl rfl rfl (.cons rfl rfl rfl (.cons rfl rfl rfl (.cons rfl rfl rfl .nil)))))))))) (.cons rfl rfl rfl .nil) (.cons rfl rfl (.cons rfl rfl (.cons rfl rfl (.cons rfl rfl .nil))))) hgo | refine rg 17 (aq93 ?_) | ((refine swp_any (id := 18) [[], [], [], [], [], [], [], [], [], [], [], [], [], [], [], [], [], [17], [17], [], []] [[17], [17], [17], [17], [17], [17], [17], [17], [17], [17], [17], [17], [17], [17], [17], [17], [17], [], [], [], []] mixed (by kernel_rfl) ?_) <;> (first | refine yp (fun _ _ => po_conv_int (c := ((i + 1 : Nat) : Int)) rfl rfl (tyK rfl) (tyK rfl) hw) ?_ | refine yp (fun _ _ => po_load_bx_agg rfl rfl (tyT rfl) rfl (vc (vc (vc (vc .nil)))) rfl) ?_) <;> (first | refine yp (fun _ _ => po_conv_int (c := ((i + 1 : Nat) : Int)) rfl rfl (tyK rfl) (tyK rfl) hw) ?_ | refine yp (fun _ _ => po_move rfl rfl) ?_) <;> (first | refine yp (fun _ _ => po_conv_int (c := ((i + 1 : Nat) : Int)) rfl rfl (tyK rfl) (tyK rfl) hw) ?_ | refine yp (fun _ _ => po_field_bx rfl rfl (tyF rfl)) ?_) <;> (first | refine yp (fun _ _ => po_conv_int (c := ((i + 1 : Nat) : Int)) rfl rfl (tyK rfl) (tyK rfl) hw) ?_ | refine yp (fun _ _ => po_load_bx rfl rfl (tyT rfl) rfl rfl) ?_) <;> (first | refine yp (fun _ _ => po_conv_int (c := ((i + 1 : Nat) : Int)) rfl rfl (tyK rfl) (tyK rfl) hw) ?_ | refine yp (fun _ _ => po_field_bx rfl rfl (tyF rfl)) ?_) <;> (first | refine yp (fun _ _ => po_conv_int (c := ((i + 1 : Nat) : Int)) rfl rfl (tyK rfl) (tyK rfl) hw) ?_ | refine yp (fun _ _ => po_load_bx rfl rfl (tyT rfl) rfl rfl) ?_) <;> (first | refine yp (fun _ _ => po_conv_int (c := ((i + 1 : Nat) : Int)) rfl rfl (tyK rfl) (tyK rfl) hw) ?_ | refine yp (fun _ _ => po_field_bx rfl rfl (tyF rfl)) ?_) <;> (first | refine yp (fun _ _ => po_conv_int (c := ((i + 1 : Nat) : Int)) rfl rfl (tyK rfl) (tyK rfl) hw) ?_ | refine yp (fun _ _ => po_load_bx_agg rfl rfl (tyT rfl) rfl (vc (vc (vc .nil))) rfl) ?_) <;> (first | refine yp (fun _ _ => po_conv_int (c := ((i + 1 : Nat) : Int)) rfl rfl (tyK rfl) (tyK rfl) hw) ?_ | refine yp (fun _ _ => po_move rfl rfl) ?_) <;> (first | refine yp (fun _ _ => po_conv_int (c := ((i + 1 : Nat) : Int)) rfl rfl (tyK rfl) (tyK rfl) hw) ?_ | refine yp (fun _ _ => po_inc rfl rfl rfl (by omega)) ?_) <;> (refine yp (fun _ _ => po_conv_int (c := ((i + 1 : Nat) : Int)) rfl rfl (tyK rfl) (tyK rfl) hw) ?_) <;> (first | refine yp (fun _ _ => po_conv_int (c := ((i + 1 : Nat) : Int)) rfl rfl (tyK rfl) (tyK rfl) hw) ?_ | refine yp (fun _ _ => po_call (kq) rfl (ac .nil)) ?_) <;> (first | refine yp (fun _ _ => po_conv_int (c := ((i + 1 : Nat) : Int)) rfl rfl (tyK rfl) (tyK rfl) hw) ?_ | refine yp (fun _ _ => po_call (cq) rfl (ac (ac (ac (ac (ac (ac .nil))))))) ?_) <;> (first | refine yp (fun _ _ => po_conv_int (c := ((i + 1 : Nat) : Int)) rfl rfl (tyK rfl) (tyK rfl) hw) ?_ | refine yp (fun _ _ => po_move rfl rfl) ?_) <;> (first | refine yp (fun _ _ => po_conv_int (c := ((i + 1 : Nat) : Int)) rfl rfl (tyK rfl) (tyK rfl) hw) ?_ | refine yp (fun _ _ => po_extract rfl rfl rfl) ?_) <;> (first | refine yp (fun _ _ => po_conv_int (c := ((i + 1 : Nat) : Int)) rfl rfl (tyK rfl) (tyK rfl) hw) ?_ | refine yp (fun _ _ => po_extract rfl rfl rfl) ?_) <;> (first | refine yp (fun _ _ => po_conv_int (c := ((i + 1 : Nat) : Int)) rfl rfl (tyK rfl) (tyK rfl) hw) ?_ | refine yp (fun _ _ => po_extract rfl rfl rfl) ?_) <;> refine sany_eff [(17, _)] [] (.free rfl rfl) rfl rfl (fun _ _ hb _ => e_allocS str58 rfl (hb 17 rfl rfl)) ?_ <;> refine sany_eff [(17, _)] [] (.free rfl rfl) rfl rfl (fun _ _ _ _ => e_store rfl rfl rfl rfl rfl rfl (tyT rfl) rfl rfl) ?_ <;> (first | refine yp (fun _ _ => po_conv_int (c := ((i + 1 : Nat) : Int)) rfl rfl (tyK rfl) (tyK rfl) hw) ?_ | refine yp (fun _ _ => po_assign rfl rfl) ?_) <;> (first | refine yp (fun _ _ => po_conv_int (c := ((i + 1 : Nat) : Int)) rfl rfl (tyK rfl) (tyK rfl) hw) ?_ | refine yp (fun _ _ => po_assign rfl rfl) ?_) <;> refine sany_nil ?_) | refine rg 19 (aq27 ?_) | refine ct ?_ | refine cf ?_)
  by_cases d5 : do_ = 5
  · subst d5
    have ka := gone_ p src hF.1 hF.2.1 hF.2.2
    have cq := LCalls.pc (args := [.agg (poolT p), u64T src]) ka (ar_tu (rs := [.agg (poolT (gonP p src)), .sl 18 ((gonD src p.tuns).map doR), .sl 2 ((gonF src p.tuns).map failR)]))
    clear ka
    have hj : JOk (⟨i, p, ids, peers, taken, told, now⟩ : OnX) ((⟨i, gonP p src, ids, peers, taken, told, now⟩ : OnX), gonD src p.tuns, gonF src p.tuns) := ⟨hinv.stp' rfl (gon_stp p src), rfl, hlen, hfew, by show taken.length ≤ i + 1; omega, by show (gonD src p.tuns).length ≤ 200; have := gonD_len src p.tuns; have := hinv.ok.len; omega⟩
    repeat' (first | refine gc ?_ | refine h _ _ (weak_sub (.cons rfl rfl rfl (.cons rfl rfl rfl (.cons rfl rfl rfl (.cons rfl rfl rfl (.cons rfl rfl rfl (.cons rfl rfl rfl (.cons rfl rfl rfl (.cons rfl rfl rfl (.cons rfl rfl rfl (.cons rfl rfl rfl .nil)))))))))) (.cons rfl rfl rfl .nil) (.cons rfl rfl (.cons rfl rfl (.cons rfl rfl (.cons rfl rfl .nil))))) hj | refine rg 17 (aq93 ?_) | refine rg 22 (aq94 ?_) | refine rg 24 (aq94 ?_) | refine rg 26 (aq94 ?_) | refine rg 31 (aq94 ?_) | refine rg 33 (aq93 ?_) | (refine rg 34 ?_; refine sp (po_load_bx_agg rfl rfl (tyT rfl) rfl (vc (vc (vc (vc .nil)))) rfl) ?_; refine oFb ?_; refine oLb ?_; refine oC (cq) rfl (ac (ac .nil)) ?_; refine aq88 ?_) | refine ct ?_ | refine cf ?_)
  by_cases d6 : do_ = 6
  · subst d6
    generalize hnow : IntKind.u64.wrap (now + IntKind.u64.wrap (IntKind.i64.wrap ((BitVec.ofInt IntKind.i64.bits aby &&& BitVec.ofInt IntKind.i64.bits 31).toNat : Int))) = now2
    have ka := tick_ p now2 hF.1 hF.2.1 hF.2.2
    have cq := LCalls.pc (args := [.agg (poolT p), u64T now2]) ka (ar_tu (rs := [.agg (poolT (tickP p now2)), .sl 18 ((tickD now2 p.tuns).map doR), .sl 2 ((tickF now2 p.tuns).map failR)]))
    clear ka
    subst hnow
    have hj := fun n2 => (⟨hinv.stp' rfl (tick_stp p n2), rfl, hlen, hfew, by show taken.length ≤ i + 1; omega, tick_do hinv.ok n2⟩ : JOk (⟨i, p, ids, peers, taken, told, now⟩ : OnX) ((⟨i, tickP p n2, ids, peers, taken, told, n2⟩ : OnX), tickD n2 p.tuns, tickF n2 p.tuns))
    repeat' (first | refine gc ?_ | refine h _ _ (weak_sub (.cons rfl rfl rfl (.cons rfl rfl rfl (.cons rfl rfl rfl (.cons rfl rfl rfl (.cons rfl rfl rfl (.cons rfl rfl rfl (.cons rfl rfl rfl (.cons rfl rfl rfl (.cons rfl rfl rfl (.cons rfl rfl rfl .nil)))))))))) (.cons rfl rfl rfl .nil) (.cons rfl rfl (.cons rfl rfl (.cons rfl rfl (.cons rfl rfl .nil))))) (hj _) | refine rg 17 (aq93 ?_) | refine rg 22 (aq94 ?_) | refine rg 24 (aq94 ?_) | refine rg 26 (aq94 ?_) | refine rg 31 (aq94 ?_) | refine rg 33 (aq93 ?_) | refine rg 35 (aq93 ?_) | (refine rg 36 ?_; refine oMv ?_; refine oFb ?_; refine oLb ?_; refine sp (po_and rfl rfl rfl) ?_; refine sp (po_conv_int rfl rfl (tyK rfl) (tyK rfl) (by first | (refine wrap_i64 ?_; omega) | rfl)) ?_; refine sp (po_addu rfl rfl rfl) ?_; refine aq0 ?_) | (refine rg 37 ?_; refine sp (po_load_bx_agg rfl rfl (tyT rfl) rfl (vc (vc (vc (vc .nil)))) rfl) ?_; refine oMv ?_; refine oC (cq) rfl (ac (ac .nil)) ?_; refine aq88 ?_) | refine ct ?_ | refine cf ?_)
  rcases hat with rfl | ⟨k, hk, rfl⟩
  · by_cases d1 : do_ = 1
    · subst d1
      repeat' (first | refine gc ?_ | refine h _ _ (weak_sub (.cons rfl rfl rfl (.cons rfl rfl rfl (.cons rfl rfl rfl (.cons rfl rfl rfl (.cons rfl rfl rfl (.cons rfl rfl rfl (.cons rfl rfl rfl (.cons rfl rfl rfl (.cons rfl rfl rfl (.cons rfl rfl rfl .nil)))))))))) (.cons rfl rfl rfl .nil) (.cons rfl rfl (.cons rfl rfl (.cons rfl rfl (.cons rfl rfl .nil))))) hgo | refine rg 17 (aq93 ?_) | refine rg 22 (aq95 ?_) | refine rg 24 (aq94 ?_) | refine rg 26 (aq94 ?_) | refine rg 31 (aq94 ?_) | refine rg 33 (aq93 ?_) | refine rg 35 (aq93 ?_) | refine ct ?_ | refine cf ?_)
    by_cases d2 : do_ = 2
    · subst d2
      repeat' (first | refine gc ?_ | refine h _ _ (weak_sub (.cons rfl rfl rfl (.cons rfl rfl rfl (.cons rfl rfl rfl (.cons rfl rfl rfl (.cons rfl rfl rfl (.cons rfl rfl rfl (.cons rfl rfl rfl (.cons rfl rfl rfl (.cons rfl rfl rfl (.cons rfl rfl rfl .nil)))))))))) (.cons rfl rfl rfl .nil) (.cons rfl rfl (.cons rfl rfl (.cons rfl rfl (.cons rfl rfl .nil))))) hgo | refine rg 17 (aq93 ?_) | refine rg 22 (aq94 ?_) | refine rg 24 (aq95 ?_) | refine rg 26 (aq94 ?_) | refine rg 31 (aq94 ?_) | refine rg 33 (aq93 ?_) | refine rg 35 (aq93 ?_) | refine ct ?_ | refine cf ?_)
    by_cases d3 : do_ = 3
    · subst d3
      repeat' (first | refine gc ?_ | refine h _ _ (weak_sub (.cons rfl rfl rfl (.cons rfl rfl rfl (.cons rfl rfl rfl (.cons rfl rfl rfl (.cons rfl rfl rfl (.cons rfl rfl rfl (.cons rfl rfl rfl (.cons rfl rfl rfl (.cons rfl rfl rfl (.cons rfl rfl rfl .nil)))))))))) (.cons rfl rfl rfl .nil) (.cons rfl rfl (.cons rfl rfl (.cons rfl rfl (.cons rfl rfl .nil))))) hgo | refine rg 17 (aq93 ?_) | refine rg 22 (aq94 ?_) | refine rg 24 (aq94 ?_) | refine rg 26 (aq95 ?_) | refine rg 31 (aq94 ?_) | refine rg 33 (aq93 ?_) | refine rg 35 (aq93 ?_) | refine ct ?_ | refine cf ?_)
    by_cases d4 : do_ = 4
    · subst d4
      repeat' (first | refine gc ?_ | refine h _ _ (weak_sub (.cons rfl rfl rfl (.cons rfl rfl rfl (.cons rfl rfl rfl (.cons rfl rfl rfl (.cons rfl rfl rfl (.cons rfl rfl rfl (.cons rfl rfl rfl (.cons rfl rfl rfl (.cons rfl rfl rfl (.cons rfl rfl rfl .nil)))))))))) (.cons rfl rfl rfl .nil) (.cons rfl rfl (.cons rfl rfl (.cons rfl rfl (.cons rfl rfl .nil))))) hgo | refine rg 17 (aq93 ?_) | refine rg 22 (aq94 ?_) | refine rg 24 (aq94 ?_) | refine rg 26 (aq94 ?_) | refine rg 31 (aq95 ?_) | refine rg 33 (aq93 ?_) | refine rg 35 (aq93 ?_) | refine ct ?_ | refine cf ?_)
    have e0 := decide_eq_false d0
    have e1 := decide_eq_false d1
    have e2 := decide_eq_false d2
    have e3 := decide_eq_false d3
    have e4 := decide_eq_false d4
    have e5 := decide_eq_false d5
    have e6 := decide_eq_false d6
    repeat' (first | refine gc ?_ | refine h _ _ (weak_sub (.cons rfl rfl rfl (.cons rfl rfl rfl (.cons rfl rfl rfl (.cons rfl rfl rfl (.cons rfl rfl rfl (.cons rfl rfl rfl (.cons rfl rfl rfl (.cons rfl rfl rfl (.cons rfl rfl rfl (.cons rfl rfl rfl .nil)))))))))) (.cons rfl rfl rfl .nil) (.cons rfl rfl (.cons rfl rfl (.cons rfl rfl (.cons rfl rfl .nil))))) hgo | refine rg 17 (aq93 ?_) | refine rg 22 (aq94 ?_) | refine rg 24 (aq94 ?_) | refine rg 26 (aq94 ?_) | refine rg 31 (aq94 ?_) | refine rg 33 (aq93 ?_) | refine rg 35 (aq93 ?_) | refine ct ?_ | refine cf ?_)
  have hk2 : k < (ids.map tidL).length := by omega
  have hk3 : k < (peers.map pT).length := by omega
  have hri : (ids.map tidL)[k]? = some (tidL ids[k]) := map_at_some hk
  have hrp : (peers.map pT)[k]? = some (pT (peers[k]'(by omega))) := map_at_some (by omega)
  have hge : (0 : Int) ≤ (k : Int) := by omega
  have hged : decide ((0 : Int) ≤ (k : Int)) = true := decide_eq_true hge
  obtain ⟨na, nb, nc, hid⟩ : ∃ na nb nc, ids[k] = (na, nb, nc) := ⟨_, _, _, rfl⟩
  rw [hid] at hri
  unfold tidL at hri
  unfold pT at hrp
  dsimp only at hri
  generalize peers[k]'(by omega) = pk at *
  by_cases d1 : do_ = 1
  · subst d1
    have ka := accepted_ p now pk na nb nc hF.1 hF.2.1
    have cq := LCalls.pc (args := [.agg (poolT p), u64T now, i64T pk, idT na nb nc]) ka (ar_tu (rs := [.agg (poolT (accP p now (pAt pk na nb nc))), .sl 18 ((accD p now (pAt pk na nb nc)).map doR)]))
    clear ka
    have hj : JOk (⟨i, p, ids, peers, taken, told, now⟩ : OnX) ((⟨i, accP p now (pAt pk na nb nc), ids, peers, taken, told, now⟩ : OnX), accD p now (pAt pk na nb nc), []) := ⟨hinv.stp' (acc_eq _ _ _) (acc_stp p now _), rfl, hlen, hfew, by show taken.length ≤ i + 1; omega, by show (accD p now _).length ≤ 200; have := acc_do hinv.ok now (pAt pk na nb nc); omega⟩
    repeat' (first | refine gc ?_ | refine h _ _ (weak_sub (.cons rfl rfl rfl (.cons rfl rfl rfl (.cons rfl rfl rfl (.cons rfl rfl rfl (.cons rfl rfl rfl (.cons rfl rfl rfl (.cons rfl rfl rfl (.cons rfl rfl rfl (.cons rfl rfl rfl (.cons rfl rfl rfl .nil)))))))))) (.cons rfl rfl rfl .nil) (.cons rfl rfl (.cons rfl rfl (.cons rfl rfl (.cons rfl rfl .nil))))) hj | refine rg 17 (aq93 ?_) | refine rg 22 (aq95 ?_) | ((refine swp_any (id := 23) [[], [], [], [], [], [], [], [], [], [], [], [], [], [], [5], []] [[], [], [], [], [], [], [], [], [], [], [], [], [], [5], [], []] mixed (by kernel_rfl) ?_) <;> (refine yp (fun _ _ => po_load_bx_agg rfl rfl (tyT rfl) rfl (vc (vc (vc (vc .nil)))) rfl) ?_) <;> refine yp (fun _ _ => po_move rfl rfl) ?_ <;> refine yp (fun _ _ => po_move rfl rfl) ?_ <;> refine yp (fun _ _ => po_move rfl rfl) ?_ <;> refine yp (fun _ _ => pix rfl (tyS rfl)) ?_ <;> (first | refine yp (fun _ _ => po_load_bx rfl rfl (tyT rfl) rfl rfl) ?_ | refine yp (fun _ _ => po_load rfl rfl (tyT rfl) rfl) ?_) <;> refine yp (fun _ _ => po_move rfl rfl) ?_ <;> refine yp (fun _ _ => po_move rfl rfl) ?_ <;> refine yp (fun _ _ => pix rfl (tyS rfl)) ?_ <;> (first | refine yp (fun _ _ => po_load_bx_agg rfl rfl (tyT rfl) rfl (vc (vc (vc .nil))) rfl) ?_ | refine yp (fun _ _ => po_load_agg rfl rfl (tyT rfl) rfl rfl) ?_) <;> (refine yp (fun _ _ => po_call (cq) rfl (ac (ac (ac (ac .nil))))) ?_) <;> refine yp (fun _ _ => po_move rfl rfl) ?_ <;> refine yp (fun _ _ => po_extract rfl rfl rfl) ?_ <;> refine yp (fun _ _ => po_extract rfl rfl rfl) ?_ <;> refine sany_eff [(5, _)] [] (.free rfl rfl) rfl rfl (fun _ _ _ _ => e_store rfl rfl rfl rfl rfl rfl (tyT rfl) rfl rfl) ?_ <;> refine yp (fun _ _ => po_assign rfl rfl) ?_ <;> refine sany_nil ?_) | refine ct ?_ | refine cf ?_)
  by_cases d2 : do_ = 2
  · subst d2
    have ka := refused_ p pk na nb nc 8 hF.1 hF.2.1
    have cq := LCalls.pc (args := [.agg (poolT p), i64T pk, idT na nb nc, i64T 8]) ka (ar_tu (rs := [.agg (poolT (refP p (pAt pk na nb nc))), .sl 2 ((refF p (pAt pk na nb nc) 8).map failR)]))
    clear ka
    have hj : JOk (⟨i, p, ids, peers, taken, told, now⟩ : OnX) ((⟨i, refP p (pAt pk na nb nc), ids, peers, taken, told, now⟩ : OnX), [], refF p (pAt pk na nb nc) 8) := ⟨hinv.stp' (ref_eq _ _) (ref_stp p _ 8), rfl, hlen, hfew, by show taken.length ≤ i + 1; omega, Nat.zero_le _⟩
    repeat' (first | refine gc ?_ | refine h _ _ (weak_sub (.cons rfl rfl rfl (.cons rfl rfl rfl (.cons rfl rfl rfl (.cons rfl rfl rfl (.cons rfl rfl rfl (.cons rfl rfl rfl (.cons rfl rfl rfl (.cons rfl rfl rfl (.cons rfl rfl rfl (.cons rfl rfl rfl .nil)))))))))) (.cons rfl rfl rfl .nil) (.cons rfl rfl (.cons rfl rfl (.cons rfl rfl (.cons rfl rfl .nil))))) hj | refine rg 17 (aq93 ?_) | refine rg 22 (aq94 ?_) | refine rg 24 (aq95 ?_) | ((refine swp_any (id := 25) [[], [], [], [], [], [], [], [], [], [], [], [], [], [5], []] [[], [], [], [], [], [], [], [], [], [], [], [], [5], [], []] mixed (by kernel_rfl) ?_) <;> (refine yp (fun _ _ => po_load_bx_agg rfl rfl (tyT rfl) rfl (vc (vc (vc (vc .nil)))) rfl) ?_) <;> refine yp (fun _ _ => po_move rfl rfl) ?_ <;> refine yp (fun _ _ => po_move rfl rfl) ?_ <;> refine yp (fun _ _ => pix rfl (tyS rfl)) ?_ <;> (first | refine yp (fun _ _ => po_load_bx rfl rfl (tyT rfl) rfl rfl) ?_ | refine yp (fun _ _ => po_load rfl rfl (tyT rfl) rfl) ?_) <;> refine yp (fun _ _ => po_move rfl rfl) ?_ <;> refine yp (fun _ _ => po_move rfl rfl) ?_ <;> refine yp (fun _ _ => pix rfl (tyS rfl)) ?_ <;> (first | refine yp (fun _ _ => po_load_bx_agg rfl rfl (tyT rfl) rfl (vc (vc (vc .nil))) rfl) ?_ | refine yp (fun _ _ => po_load_agg rfl rfl (tyT rfl) rfl rfl) ?_) <;> (refine yp (fun _ _ => po_call (cq) rfl (ac (ac (ac (ac .nil))))) ?_) <;> refine yp (fun _ _ => po_move rfl rfl) ?_ <;> refine yp (fun _ _ => po_extract rfl rfl rfl) ?_ <;> refine yp (fun _ _ => po_extract rfl rfl rfl) ?_ <;> refine sany_eff [(5, _)] [] (.free rfl rfl) rfl rfl (fun _ _ _ _ => e_store rfl rfl rfl rfl rfl rfl (tyT rfl) rfl rfl) ?_ <;> refine yp (fun _ _ => po_assign rfl rfl) ?_ <;> refine sany_nil ?_) | refine ct ?_ | refine cf ?_)
  by_cases d3 : do_ = 3
  · subst d3
    generalize hkn : IntKind.u64.wrap (IntKind.i64.wrap ((BitVec.ofInt IntKind.i64.bits ak &&& BitVec.ofInt IntKind.i64.bits 15).toNat : Int)) = n3
    have ka := replied_ p now pk na nb nc n3 hF.1 hF.2.1
    have hst := rep_stp p now (pAt pk na nb nc) n3
    have heq := rep_eq p now (pAt pk na nb nc) n3
    subst hkn
    generalize repR p now (pAt pk na nb nc) _ = X at *
    obtain ⟨p2, id, ok⟩ := X
    have cq := LCalls.pc (args := [.agg (poolT p), u64T now, i64T pk, idT na nb nc, u64T (IntKind.u64.wrap (IntKind.i64.wrap ((BitVec.ofInt IntKind.i64.bits ak &&& BitVec.ofInt IntKind.i64.bits 15).toNat : Int)))]) ka (ar_tu (rs := [.agg (poolT p2), u64T id, .v (.bool ok)]))
    clear ka
    have hoo : Own.mk 24 1 (told.map nT ++ [[u64T id]]) = Own.mk 24 1 ((told ++ [id]).map nT) := by rw [List.map_append]; rfl
    have hol : Sim.A.own 103 (told.map nT ++ [[u64T id]]).length = Sim.A.own 103 (told ++ [id]).length := by rw [List.length_append, List.length_append, hom]; rfl
    cases ok with
    | true =>
      have hj : JOk (⟨i, p, ids, peers, taken, told, now⟩ : OnX) ((⟨i, p2, ids, peers, taken, told ++ [id], now⟩ : OnX), [], []) := ⟨by show OnI p2 taken ((told ++ [id]) ++ []) (i + 1); rw [List.append_nil]; exact hinv.stp' heq hst, rfl, hlen, hfew, by show taken.length ≤ i + 1; omega, Nat.zero_le _⟩
      repeat' (first | refine gc ?_ | refine h _ _ (weak_sub (.cons rfl (by rfl) rfl (.cons rfl (by rfl) rfl (.cons rfl (by rfl) rfl (.cons rfl (by rfl) rfl (.cons rfl (by rfl) rfl (.cons rfl (by first | rfl | (first | (exact hoo) | (exact hol))) rfl (.cons rfl (by rfl) rfl (.cons rfl (by rfl) rfl (.cons rfl (by rfl) rfl (.cons rfl (by rfl) rfl .nil)))))))))) (.cons rfl (by rfl) rfl .nil) (.cons rfl (by rfl) (.cons rfl (by rfl) (.cons rfl (by rfl) (.cons rfl (by first | rfl | ((exact hoo))) .nil))))) hj | refine rg 17 (aq93 ?_) | refine rg 22 (aq94 ?_) | refine rg 24 (aq94 ?_) | refine rg 26 (aq95 ?_) | ((refine swp_any (id := 27) [[], [], [], [], [], [], [], [], [], [], [], [], [], [], [], [], [], [], [], [20], [20], [], []] [[20], [20], [20], [20], [20], [20], [20], [20], [20], [20], [20], [20], [20], [20], [20], [20], [20], [20], [20], [], [], [], []] mixed (by kernel_rfl) ?_) <;> (refine yp (fun _ _ => po_load_bx_agg rfl rfl (tyT rfl) rfl (vc (vc (vc (vc .nil)))) rfl) ?_) <;> refine yp (fun _ _ => po_move rfl rfl) ?_ <;> refine yp (fun _ _ => po_move rfl rfl) ?_ <;> refine yp (fun _ _ => po_move rfl rfl) ?_ <;> refine yp (fun _ _ => pix rfl (tyS rfl)) ?_ <;> (first | refine yp (fun _ _ => po_load_bx rfl rfl (tyT rfl) rfl rfl) ?_ | refine yp (fun _ _ => po_load rfl rfl (tyT rfl) rfl) ?_) <;> refine yp (fun _ _ => po_move rfl rfl) ?_ <;> refine yp (fun _ _ => po_move rfl rfl) ?_ <;> refine yp (fun _ _ => pix rfl (tyS rfl)) ?_ <;> (first | refine yp (fun _ _ => po_load_bx_agg rfl rfl (tyT rfl) rfl (vc (vc (vc .nil))) rfl) ?_ | refine yp (fun _ _ => po_load_agg rfl rfl (tyT rfl) rfl rfl) ?_) <;> refine yp (fun _ _ => po_field_bx rfl rfl (tyF rfl)) ?_ <;> refine yp (fun _ _ => po_load_bx rfl rfl (tyT rfl) rfl rfl) ?_ <;> refine yp (fun _ _ => po_and rfl rfl rfl) ?_ <;> refine yp (fun _ _ => po_conv_int rfl rfl (tyK rfl) (tyK rfl) (by first | (refine wrap_i64 ?_; omega) | rfl)) ?_ <;> (refine yp (fun _ _ => po_call (cq) rfl (ac (ac (ac (ac (ac .nil)))))) ?_) <;> refine yp (fun _ _ => po_move rfl rfl) ?_ <;> refine yp (fun _ _ => po_extract rfl rfl rfl) ?_ <;> refine yp (fun _ _ => po_extract rfl rfl rfl) ?_ <;> refine yp (fun _ _ => po_extract rfl rfl rfl) ?_ <;> refine sany_eff [(20, _)] [] (.free rfl rfl) rfl rfl (fun _ _ hb _ => e_allocS str58 rfl (hb 20 rfl rfl)) ?_ <;> refine sany_eff [(20, _)] [] (.free rfl rfl) rfl rfl (fun _ _ _ _ => e_store rfl rfl rfl rfl rfl rfl (tyT rfl) rfl rfl) ?_ <;> refine yp (fun _ _ => po_assign rfl rfl) ?_ <;> refine yp (fun _ _ => po_assign rfl rfl) ?_ <;> refine sany_nil ?_) | refine rg 28 (aq53 ?_) | refine rg 29 (aq62 ?_) | (refine rg 30 ?_; refine oMv ?_; refine oMv ?_; refine sp (po_buildSlice rfl (tyE rfl) (dc (.nil _)) rfl rfl rfl) ?_; refine sap rfl (tyE rfl) ?_; refine oAs ?_; refine oN ?_) | refine ct ?_ | refine cf ?_)
    | false =>
      have hj : JOk (⟨i, p, ids, peers, taken, told, now⟩ : OnX) ((⟨i, p2, ids, peers, taken, told, now⟩ : OnX), [], []) := ⟨hinv.stp' heq hst, rfl, hlen, hfew, by show taken.length ≤ i + 1; omega, Nat.zero_le _⟩
      repeat' (first | refine gc ?_ | refine h _ _ (weak_sub (.cons rfl rfl rfl (.cons rfl rfl rfl (.cons rfl rfl rfl (.cons rfl rfl rfl (.cons rfl rfl rfl (.cons rfl rfl rfl (.cons rfl rfl rfl (.cons rfl rfl rfl (.cons rfl rfl rfl (.cons rfl rfl rfl .nil)))))))))) (.cons rfl rfl rfl .nil) (.cons rfl rfl (.cons rfl rfl (.cons rfl rfl (.cons rfl rfl .nil))))) hj | refine rg 17 (aq93 ?_) | refine rg 22 (aq94 ?_) | refine rg 24 (aq94 ?_) | refine rg 26 (aq95 ?_) | ((refine swp_any (id := 27) [[], [], [], [], [], [], [], [], [], [], [], [], [], [], [], [], [], [], [], [20], [20], [], []] [[20], [20], [20], [20], [20], [20], [20], [20], [20], [20], [20], [20], [20], [20], [20], [20], [20], [20], [20], [], [], [], []] mixed (by kernel_rfl) ?_) <;> (refine yp (fun _ _ => po_load_bx_agg rfl rfl (tyT rfl) rfl (vc (vc (vc (vc .nil)))) rfl) ?_) <;> refine yp (fun _ _ => po_move rfl rfl) ?_ <;> refine yp (fun _ _ => po_move rfl rfl) ?_ <;> refine yp (fun _ _ => po_move rfl rfl) ?_ <;> refine yp (fun _ _ => pix rfl (tyS rfl)) ?_ <;> (first | refine yp (fun _ _ => po_load_bx rfl rfl (tyT rfl) rfl rfl) ?_ | refine yp (fun _ _ => po_load rfl rfl (tyT rfl) rfl) ?_) <;> refine yp (fun _ _ => po_move rfl rfl) ?_ <;> refine yp (fun _ _ => po_move rfl rfl) ?_ <;> refine yp (fun _ _ => pix rfl (tyS rfl)) ?_ <;> (first | refine yp (fun _ _ => po_load_bx_agg rfl rfl (tyT rfl) rfl (vc (vc (vc .nil))) rfl) ?_ | refine yp (fun _ _ => po_load_agg rfl rfl (tyT rfl) rfl rfl) ?_) <;> refine yp (fun _ _ => po_field_bx rfl rfl (tyF rfl)) ?_ <;> refine yp (fun _ _ => po_load_bx rfl rfl (tyT rfl) rfl rfl) ?_ <;> refine yp (fun _ _ => po_and rfl rfl rfl) ?_ <;> refine yp (fun _ _ => po_conv_int rfl rfl (tyK rfl) (tyK rfl) (by first | (refine wrap_i64 ?_; omega) | rfl)) ?_ <;> (refine yp (fun _ _ => po_call (cq) rfl (ac (ac (ac (ac (ac .nil)))))) ?_) <;> refine yp (fun _ _ => po_move rfl rfl) ?_ <;> refine yp (fun _ _ => po_extract rfl rfl rfl) ?_ <;> refine yp (fun _ _ => po_extract rfl rfl rfl) ?_ <;> refine yp (fun _ _ => po_extract rfl rfl rfl) ?_ <;> refine sany_eff [(20, _)] [] (.free rfl rfl) rfl rfl (fun _ _ hb _ => e_allocS str58 rfl (hb 20 rfl rfl)) ?_ <;> refine sany_eff [(20, _)] [] (.free rfl rfl) rfl rfl (fun _ _ _ _ => e_store rfl rfl rfl rfl rfl rfl (tyT rfl) rfl rfl) ?_ <;> refine yp (fun _ _ => po_assign rfl rfl) ?_ <;> refine yp (fun _ _ => po_assign rfl rfl) ?_ <;> refine sany_nil ?_) | refine rg 28 (aq53 ?_) | refine rg 29 (aq62 ?_) | refine ct ?_ | refine cf ?_)
  by_cases d4 : do_ = 4
  · subst d4
    have ka := shut_ p pk na nb nc hF.1 hF.2.1
    have cq := LCalls.pc (args := [.agg (poolT p), i64T pk, idT na nb nc]) ka (ar_tu (rs := [.agg (poolT (shutP p (pAt pk na nb nc))), .sl 2 ((shutF p (pAt pk na nb nc)).map failR)]))
    clear ka
    have hj : JOk (⟨i, p, ids, peers, taken, told, now⟩ : OnX) ((⟨i, shutP p (pAt pk na nb nc), ids, peers, taken, told, now⟩ : OnX), [], shutF p (pAt pk na nb nc)) := ⟨hinv.stp' (shut_eq _ _) (shut_stp p _), rfl, hlen, hfew, by show taken.length ≤ i + 1; omega, Nat.zero_le _⟩
    repeat' (first | refine gc ?_ | refine h _ _ (weak_sub (.cons rfl rfl rfl (.cons rfl rfl rfl (.cons rfl rfl rfl (.cons rfl rfl rfl (.cons rfl rfl rfl (.cons rfl rfl rfl (.cons rfl rfl rfl (.cons rfl rfl rfl (.cons rfl rfl rfl (.cons rfl rfl rfl .nil)))))))))) (.cons rfl rfl rfl .nil) (.cons rfl rfl (.cons rfl rfl (.cons rfl rfl (.cons rfl rfl .nil))))) hj | refine rg 17 (aq93 ?_) | refine rg 22 (aq94 ?_) | refine rg 24 (aq94 ?_) | refine rg 26 (aq94 ?_) | refine rg 31 (aq95 ?_) | ((refine swp_any (id := 32) [[], [], [], [], [], [], [], [], [], [], [], [], [], [5], []] [[], [], [], [], [], [], [], [], [], [], [], [], [5], [], []] mixed (by kernel_rfl) ?_) <;> (refine yp (fun _ _ => po_load_bx_agg rfl rfl (tyT rfl) rfl (vc (vc (vc (vc .nil)))) rfl) ?_) <;> refine yp (fun _ _ => po_move rfl rfl) ?_ <;> refine yp (fun _ _ => po_move rfl rfl) ?_ <;> refine yp (fun _ _ => pix rfl (tyS rfl)) ?_ <;> (first | refine yp (fun _ _ => po_load_bx rfl rfl (tyT rfl) rfl rfl) ?_ | refine yp (fun _ _ => po_load rfl rfl (tyT rfl) rfl) ?_) <;> refine yp (fun _ _ => po_move rfl rfl) ?_ <;> refine yp (fun _ _ => po_move rfl rfl) ?_ <;> refine yp (fun _ _ => pix rfl (tyS rfl)) ?_ <;> (first | refine yp (fun _ _ => po_load_bx_agg rfl rfl (tyT rfl) rfl (vc (vc (vc .nil))) rfl) ?_ | refine yp (fun _ _ => po_load_agg rfl rfl (tyT rfl) rfl rfl) ?_) <;> (refine yp (fun _ _ => po_call (cq) rfl (ac (ac (ac .nil)))) ?_) <;> refine yp (fun _ _ => po_move rfl rfl) ?_ <;> refine yp (fun _ _ => po_extract rfl rfl rfl) ?_ <;> refine yp (fun _ _ => po_extract rfl rfl rfl) ?_ <;> refine sany_eff [(5, _)] [] (.free rfl rfl) rfl rfl (fun _ _ _ _ => e_store rfl rfl rfl rfl rfl rfl (tyT rfl) rfl rfl) ?_ <;> refine yp (fun _ _ => po_assign rfl rfl) ?_ <;> refine sany_nil ?_) | refine ct ?_ | refine cf ?_)
  have e0 := decide_eq_false d0
  have e1 := decide_eq_false d1
  have e2 := decide_eq_false d2
  have e3 := decide_eq_false d3
  have e4 := decide_eq_false d4
  have e5 := decide_eq_false d5
  have e6 := decide_eq_false d6
  repeat' (first | refine gc ?_ | refine h _ _ (weak_sub (.cons rfl rfl rfl (.cons rfl rfl rfl (.cons rfl rfl rfl (.cons rfl rfl rfl (.cons rfl rfl rfl (.cons rfl rfl rfl (.cons rfl rfl rfl (.cons rfl rfl rfl (.cons rfl rfl rfl (.cons rfl rfl rfl .nil)))))))))) (.cons rfl rfl rfl .nil) (.cons rfl rfl (.cons rfl rfl (.cons rfl rfl (.cons rfl rfl .nil))))) hgo | refine rg 17 (aq93 ?_) | refine rg 22 (aq94 ?_) | refine rg 24 (aq94 ?_) | refine rg 26 (aq94 ?_) | refine rg 31 (aq94 ?_) | refine rg 33 (aq93 ?_) | refine rg 35 (aq93 ?_) | refine ct ?_ | refine cf ?_)
end Go.Proofs.Ytabejnjnkpdjbaa.Sim
