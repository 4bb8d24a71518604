/- Merged by bundles.py: SimSq3. -/
import Derived.Test.YtnclifgiakmmoaaGreatH17
import Derived.Test.YtnclifgiakmmoaaGreatH11
import Derived.Laws.StructEq
/- Comparing: terms, rules, policies, tables; any two. (Printed by mk_sq3.py.) -/
namespace Go.Proofs.YtnclifgiakmmoaaGreat.Pol
set_option linter.unusedVariables false
set_option linter.unusedSimpArgs false
open Go.RowKit Mem Sim Opn
def all2 {α : Type} (f : α → α → Bool) : List α → List α → Bool
  | [], [] => true
  | x :: xs, y :: ys => f x y && all2 f xs ys
  | _, _ => false
theorem all2_len {α : Type} {f : α → α → Bool} : ∀ {xs ys : List α}, ¬ xs.length = ys.length → all2 f xs ys = false
  | [], [], h => absurd rfl h
  | [], _ :: _, _ => rfl
  | _ :: _, [], _ => rfl
  | x :: xs, y :: ys, h => by
    show (f x y && all2 f xs ys) = false
    rw [all2_len (fun e => h (by rw [List.length_cons, List.length_cons, e])), Bool.and_false]
theorem all2_yes {α : Type} {f : α → α → Bool} : ∀ {xs ys : List α}, xs.length = ys.length → (∀ j (h1 : j < xs.length) (h2 : j < ys.length), f xs[j] ys[j] = true) → all2 f xs ys = true
  | [], [], _, _ => rfl
  | [], _ :: _, h, _ => by simp at h
  | _ :: _, [], h, _ => by simp at h
  | x :: xs, y :: ys, h, k => by
    show (f x y && all2 f xs ys) = true
    have h0 : f x y = true := k 0 (by simp) (by simp)
    rw [h0, all2_yes (by simpa using h) fun j h1 h2 => k (j + 1) (Nat.succ_lt_succ h1) (Nat.succ_lt_succ h2)]; rfl
theorem all2_no {α : Type} {f : α → α → Bool} : ∀ {xs ys : List α} {k : Nat} (h1 : k < xs.length) (h2 : k < ys.length), f xs[k] ys[k] = false → all2 f xs ys = false
  | [], _, _, h1, _, _ => by simp at h1
  | _ :: _, [], _, _, h2, _ => by simp at h2
  | x :: xs, y :: ys, 0, _, _, h => by
    show (f x y && all2 f xs ys) = false
    have h : f x y = false := h
    rw [h]; rfl
  | x :: xs, y :: ys, k + 1, h1, h2, h => by
    show (f x y && all2 f xs ys) = false
    rw [all2_no (k := k) (by simpa using h1) (by simpa using h2) (by simpa using h), Bool.and_false]
theorem all2_refl {α : Type} {f : α → α → Bool} (hf : ∀ x, f x x = true) : ∀ l : List α, all2 f l l = true
  | [] => rfl
  | x :: l => by show (f x x && all2 f l l) = true; rw [hf x, all2_refl hf l]; rfl

theorem map_at_some {α β : Type} {f : α → β} {l : List α} {k : Nat} (h : k < l.length) : (l.map f)[k]? = some (f l[k]) := by rw [List.getElem?_map, List.getElem?_eq_getElem h]; rfl
def termB (x y : Pl.Term) : Bool := decide (x.k = y.k) && decide (x.s.toList = y.s.toList)
def cidrB (x y : Pl.Cidr) : Bool := decide (x.addr = y.addr) && decide (x.bits = y.bits)
def intB (x y : Int) : Bool := decide (x = y)
def sourceB (x y : Pl.Source) : Bool := (all2 termB x.names y.names && all2 termB x.spaces y.spaces) && all2 cidrB x.nets y.nets
def targetB (x y : Pl.Target) : Bool := ((all2 intB x.ports y.ports && all2 termB x.methods y.methods) && all2 termB x.paths y.paths) && all2 termB x.hosts y.hosts
def whenB (x y : Pl.When) : Bool := decide (x.head = y.head) && all2 termB x.terms y.terms
def ruleB (x y : Pl.Rule) : Bool := (all2 sourceB x.from_ y.from_ && all2 targetB x.to_ y.to_) && all2 whenB x.when_ y.when_
def polB (x y : Pl.Policy) : Bool := (((decide (x.id = y.id) && decide (x.ns = y.ns)) && decide (x.service = y.service)) && decide (x.deny = y.deny)) && all2 ruleB x.rules y.rules
def tabB (l : List Pl.Policy) (a : Int) (m : List Pl.Policy) (b : Int) : Bool := decide (a = b) && all2 polB l m
theorem termB_refl (x : Pl.Term) : termB x x = true := by simp [termB]
theorem cidrB_refl (x : Pl.Cidr) : cidrB x x = true := by simp [cidrB]
theorem intB_refl (x : Int) : intB x x = true := by simp [intB]
theorem sourceB_refl (x : Pl.Source) : sourceB x x = true := by simp [sourceB, all2_refl termB_refl, all2_refl cidrB_refl]
theorem targetB_refl (x : Pl.Target) : targetB x x = true := by simp [targetB, all2_refl termB_refl, all2_refl intB_refl]
theorem whenB_refl (x : Pl.When) : whenB x x = true := by simp [whenB, all2_refl termB_refl]
theorem ruleB_refl (x : Pl.Rule) : ruleB x x = true := by simp [ruleB, all2_refl sourceB_refl, all2_refl targetB_refl, all2_refl whenB_refl]
theorem polB_refl (x : Pl.Policy) : polB x x = true := by simp [polB, all2_refl ruleB_refl]
theorem tabB_refl (l : List Pl.Policy) (a : Int) : tabB l a l a = true := by simp [tabB, all2_refl polB_refl]
theorem tr_aggv {m : Mm} {l : List Value} {u : Value} (h : TR m (.agg (l.map .v)) u) : u = .agg l.toArray := by
  generalize ht : T.agg (l.map .v) = t at h
  cases h with
  | agg cs vs hl h1 h2 =>
    injection ht with ht; subst ht
    congr 1
    apply Array.ext'
    refine List.ext_getElem? fun j => ?_
    simp only [List.length_map] at hl
    by_cases hj : j < l.length
    · have hv : vs.toList[j]? = some (vs[j]'(by omega)) := by simp
      have := h2 j (.v l[j]) _ (by rw [List.getElem?_map, List.getElem?_eq_getElem hj]; rfl) (Array.getElem?_eq_getElem (by omega))
      rw [hv, tr_v this, List.toList_toArray, List.getElem?_eq_getElem hj]
    · rw [List.getElem?_eq_none (by simp only [Array.length_toList]; omega), List.getElem?_eq_none (by simp only [List.toList_toArray]; omega)]
  | _ => cases ht
theorem eqTerm (x y : Pl.Term) (w : World) : (Op.equalIn 10000 79 (.agg #[.int .i64 x.k, .string x.s]) (.agg #[.int .i64 y.k, .string y.s])).run Tryz.prog w = .ok (termB x y) w := by
  have u_int := Tryz.underlying3
  have a_int := Tryz.isAgg3
  have z_int := Tryz.sizeOf3
  have u_string := Tryz.underlying9
  have a_string := Tryz.isAgg9
  have z_string := Tryz.sizeOf9
  have hS : Tryz.prog.underlying 79 = some (.struct (Tryz.prog.fieldsOf 79)) := by kernel_rfl
  have hp : Tryz.prog.stoodInHeld 79 = false := by kernel_rfl
  rw [show (10000 : Nat) = 9999 + 1 from rfl, run_equalIn_agg w 9999 79 _ _ hS hp]
  simp only [Program.fieldsOf, Tryz.underlying79]
  go_simp
  by_cases h1 : x.k = y.k <;> by_cases h2 : x.s.toList = y.s.toList <;> simp [termB, h1, h2]
theorem po_neTerm {bx : List (Nat × List A)} {ow : List (Nat × Own)} {o : Oper} {ρ : Operand → Option A} {t2 : TypeId} {a b : Operand} {x y : Pl.Term} (ho : o.op = .binOp .neq 79 a b t2) (hx : ρ a = some (.t (.agg (termT x)))) (hy : ρ b = some (.t (.agg (termT y)))) : PureOp Tryz.prog bx ow o ρ (.t (.v (.bool (!termB x y)))) := pure_run fun C m g w a he h => by
  have h1 := tr_aggv (l := [.int .i64 x.k, .string x.s]) (show TR m _ (a.eval _) from h _ (by simp [ho, Op.operands]) _ hx)
  have h2 := tr_aggv (l := [.int .i64 y.k, .string y.s]) (show TR m _ (a.eval _) from h _ (by simp [ho, Op.operands]) _ hy)
  refine ⟨.bool (!termB x y), ?_, .v _⟩
  simp only [execOp, ho, h1, h2, Sem.run_bind]
  rw [run_eqGuard_agg w _ _ _ _ _ _ (by kernel_rfl : Tryz.prog.eqGuardType Tryz.prog.depth 79 = false)]
  simp only [Result.andThen_ok]
  rw [run_neq_struct, eqTerm x y w]
  rfl
theorem eqCidr (x y : Pl.Cidr) (w : World) : (Op.equalIn 10000 89 (.agg #[.int .u32 x.addr, .int .i64 x.bits]) (.agg #[.int .u32 y.addr, .int .i64 y.bits])).run Tryz.prog w = .ok (cidrB x y) w := by
  have u_uint32 := Tryz.underlying31
  have a_uint32 := Tryz.isAgg31
  have z_uint32 := Tryz.sizeOf31
  have u_int := Tryz.underlying3
  have a_int := Tryz.isAgg3
  have z_int := Tryz.sizeOf3
  have hS : Tryz.prog.underlying 89 = some (.struct (Tryz.prog.fieldsOf 89)) := by kernel_rfl
  have hp : Tryz.prog.stoodInHeld 89 = false := by kernel_rfl
  rw [show (10000 : Nat) = 9999 + 1 from rfl, run_equalIn_agg w 9999 89 _ _ hS hp]
  simp only [Program.fieldsOf, Tryz.underlying89]
  go_simp
  by_cases h1 : x.addr = y.addr <;> by_cases h2 : x.bits = y.bits <;> simp [cidrB, h1, h2]
theorem po_neCidr {bx : List (Nat × List A)} {ow : List (Nat × Own)} {o : Oper} {ρ : Operand → Option A} {t2 : TypeId} {a b : Operand} {x y : Pl.Cidr} (ho : o.op = .binOp .neq 89 a b t2) (hx : ρ a = some (.t (.agg (cidrT x)))) (hy : ρ b = some (.t (.agg (cidrT y)))) : PureOp Tryz.prog bx ow o ρ (.t (.v (.bool (!cidrB x y)))) := pure_run fun C m g w a he h => by
  have h1 := tr_aggv (l := [.int .u32 x.addr, .int .i64 x.bits]) (show TR m _ (a.eval _) from h _ (by simp [ho, Op.operands]) _ hx)
  have h2 := tr_aggv (l := [.int .u32 y.addr, .int .i64 y.bits]) (show TR m _ (a.eval _) from h _ (by simp [ho, Op.operands]) _ hy)
  refine ⟨.bool (!cidrB x y), ?_, .v _⟩
  simp only [execOp, ho, h1, h2, Sem.run_bind]
  rw [run_eqGuard_agg w _ _ _ _ _ _ (by kernel_rfl : Tryz.prog.eqGuardType Tryz.prog.depth 89 = false)]
  simp only [Result.andThen_ok]
  rw [run_neq_struct, eqCidr x y w]
  rfl
set_option maxRecDepth 100000 in
set_option maxHeartbeats 2000000 in
theorem equalGTerm (xs ys : List Pl.Term) (hx : xs.length ≤ 1000) (hy : ys.length ≤ 1000) : PCalls Tryz.prog 72 [.sl 2 (xs.map termT), .sl 2 (ys.map termT)] (.v (.bool (all2 termB xs ys))) := by
  have hma : (xs.map termT).length = xs.length := List.length_map _
  have hmb : (ys.map termT).length = ys.length := List.length_map _
  refine pcalls_of Tryz.func72 rfl rfl Tryz.ntmps72 rfl ?_
  by_cases hl : xs.length = ys.length
  · have h0 : (!decide (((xs.map termT).length : Int) = ((ys.map termT).length : Int))) = false := by rw [hma, hmb, hl]; simp
    repeat' (first | (refine rg 0 ?_; refine oAs ?_; refine oN ?_) | (refine rg 1 ?_; refine oMv ?_; refine sp (pln rfl (tyS rfl)) ?_; refine oMv ?_; refine sp (pln rfl (tyS rfl)) ?_; refine oCm ?_; refine oN ?_) | (refine rg 3 ?_; refine oMv ?_; refine sp (pln rfl (tyS rfl)) ?_; refine oMv ?_; refine oN ?_) | refine gc ?_ | refine ct ?_ | refine cf ?_ | refine swp_cond rfl (fun hc => ?_) (fun hc => ?_) | refine rq rfl (rt .nil) ?_)
    refine swp_for (fun k => ⟨[(0, .t (.sl 2 (xs.map termT))), (1, .t (.sl 2 (ys.map termT))), (12, .t (.v (.int .i64 ((xs.map termT).length : Int)))), (13, .t (.v (.int .i64 (k : Int))))], [], []⟩) (fun k => ∀ j (h1 : j < xs.length) (h2 : j < ys.length), j < k → termB xs[j] ys[j] = true) xs.length (weak_sub (.cons rfl rfl rfl (.cons rfl rfl rfl (.cons rfl rfl rfl (.cons rfl rfl rfl .nil)))) .nil .nil) (fun j _ _ h => by omega) ?_
    intro k hk hI
    by_cases hlt : k < xs.length
    · have hltb : k < ys.length := by omega
      have hr1 : (xs.map termT)[k]? = some (termT xs[k]) := map_at_some hlt
      have hr2 : (ys.map termT)[k]? = some (termT ys[k]) := map_at_some hltb
      have hlt2 : k < (xs.map termT).length := by omega
      have hltb2 : k < (ys.map termT).length := by omega
      cases hq : termB xs[k] ys[k] with
      | true =>
        have hst : ∀ j (h1 : j < xs.length) (h2 : j < ys.length), j < k + 1 → termB xs[j] ys[j] = true := fun j h1 h2 h => by
          by_cases e : j = k
          · subst e; exact hq
          · exact hI j h1 h2 (by omega)
        have hq' : (!termB xs[k] ys[k]) = false := by rw [hq]; rfl
        generalize xs[k] = x at *
        generalize ys[k] = y at *
        repeat' (first | refine for_next hlt (weak_sub (.cons rfl rfl rfl (.cons rfl rfl rfl (.cons rfl rfl rfl (.cons rfl rfl rfl .nil)))) .nil .nil) hst | (refine rg 4 ?_; (first | refine sp (po_neTerm rfl rfl rfl) ?_ | refine oCm ?_); refine oN ?_) | (refine rg 5 ?_; refine oMv ?_; refine oAs ?_; refine oN ?_) | (refine rd 6 ?_; refine dMv ?_; refine dMv ?_; refine dp (pix rfl (tyS rfl)) ?_; (first | refine dp (po_load_bx_agg rfl rfl (tyT rfl) rfl (vc (vc .nil)) rfl) ?_ | refine dp (po_load_agg rfl rfl (tyT rfl) rfl rfl) ?_); refine dMv ?_; refine dMv ?_; refine dp (pix rfl (tyS rfl)) ?_; (first | refine dp (po_load_bx_agg rfl rfl (tyT rfl) rfl (vc (vc .nil)) rfl) ?_ | refine dp (po_load_agg rfl rfl (tyT rfl) rfl rfl) ?_); refine dp (po_neTerm rfl rfl rfl) ?_; refine dN ?_; refine oN ?_) | (refine rg 8 ?_; refine sp (xinc rfl) ?_; refine oMv ?_; refine oN ?_) | refine gc ?_ | refine ct ?_ | refine cf ?_)
      | false =>
        have hr : all2 termB xs ys = false := all2_no hlt hltb hq
        rw [hr]
        have hq' : (!termB xs[k] ys[k]) = true := by rw [hq]; rfl
        generalize xs[k] = x at *
        generalize ys[k] = y at *
        repeat' (first | (refine rg 4 ?_; (first | refine sp (po_neTerm rfl rfl rfl) ?_ | refine oCm ?_); refine oN ?_) | (refine rg 5 ?_; refine oMv ?_; refine oAs ?_; refine oN ?_) | (refine rd 6 ?_; refine dMv ?_; refine dMv ?_; refine dp (pix rfl (tyS rfl)) ?_; (first | refine dp (po_load_bx_agg rfl rfl (tyT rfl) rfl (vc (vc .nil)) rfl) ?_ | refine dp (po_load_agg rfl rfl (tyT rfl) rfl rfl) ?_); refine dMv ?_; refine dMv ?_; refine dp (pix rfl (tyS rfl)) ?_; (first | refine dp (po_load_bx_agg rfl rfl (tyT rfl) rfl (vc (vc .nil)) rfl) ?_ | refine dp (po_load_agg rfl rfl (tyT rfl) rfl rfl) ?_); refine dp (po_neTerm rfl rfl rfl) ?_; refine dN ?_; refine oN ?_) | (refine rg 7 ?_; refine oAs ?_; refine oN ?_) | refine gc ?_ | refine ct ?_ | refine cf ?_ | refine swp_cond rfl (fun hc => ?_) (fun hc => ?_) | refine rq rfl (rt .nil) ?_)
        all_goals rfl
    · obtain rfl : k = xs.length := by omega
      have hr : all2 termB xs ys = true := all2_yes hl fun j h1 h2 => hI j h1 h2 h1
      rw [hr]
      repeat' (first | (refine rg 4 ?_; refine oCm ?_; refine oN ?_) | (refine rg 9 ?_; refine oAs ?_; refine oN ?_) | refine gc ?_ | refine ct ?_ | refine cf ?_ | refine swp_cond rfl (fun hc => ?_) (fun hc => ?_) | refine rq rfl (rt .nil) ?_)
      all_goals rfl
  · have h0 : (!decide (((xs.map termT).length : Int) = ((ys.map termT).length : Int))) = true := by rw [hma, hmb, decide_eq_false (by omega)]; rfl
    have hr : all2 termB xs ys = false := all2_len hl
    rw [hr]
    repeat' (first | (refine rg 0 ?_; refine oAs ?_; refine oN ?_) | (refine rg 1 ?_; refine oMv ?_; refine sp (pln rfl (tyS rfl)) ?_; refine oMv ?_; refine sp (pln rfl (tyS rfl)) ?_; refine oCm ?_; refine oN ?_) | (refine rg 2 ?_; refine oAs ?_; refine oN ?_) | refine gc ?_ | refine ct ?_ | refine cf ?_ | refine swp_cond rfl (fun hc => ?_) (fun hc => ?_) | refine rq rfl (rt .nil) ?_)
    all_goals rfl
set_option maxRecDepth 100000 in
set_option maxHeartbeats 2000000 in
theorem equalGCidr (xs ys : List Pl.Cidr) (hx : xs.length ≤ 1000) (hy : ys.length ≤ 1000) : PCalls Tryz.prog 73 [.sl 2 (xs.map cidrT), .sl 2 (ys.map cidrT)] (.v (.bool (all2 cidrB xs ys))) := by
  have hma : (xs.map cidrT).length = xs.length := List.length_map _
  have hmb : (ys.map cidrT).length = ys.length := List.length_map _
  refine pcalls_of Tryz.func73 rfl rfl Tryz.ntmps73 rfl ?_
  by_cases hl : xs.length = ys.length
  · have h0 : (!decide (((xs.map cidrT).length : Int) = ((ys.map cidrT).length : Int))) = false := by rw [hma, hmb, hl]; simp
    repeat' (first | (refine rg 0 ?_; refine oAs ?_; refine oN ?_) | (refine rg 1 ?_; refine oMv ?_; refine sp (pln rfl (tyS rfl)) ?_; refine oMv ?_; refine sp (pln rfl (tyS rfl)) ?_; refine oCm ?_; refine oN ?_) | (refine rg 3 ?_; refine oMv ?_; refine sp (pln rfl (tyS rfl)) ?_; refine oMv ?_; refine oN ?_) | refine gc ?_ | refine ct ?_ | refine cf ?_ | refine swp_cond rfl (fun hc => ?_) (fun hc => ?_) | refine rq rfl (rt .nil) ?_)
    refine swp_for (fun k => ⟨[(0, .t (.sl 2 (xs.map cidrT))), (1, .t (.sl 2 (ys.map cidrT))), (12, .t (.v (.int .i64 ((xs.map cidrT).length : Int)))), (13, .t (.v (.int .i64 (k : Int))))], [], []⟩) (fun k => ∀ j (h1 : j < xs.length) (h2 : j < ys.length), j < k → cidrB xs[j] ys[j] = true) xs.length (weak_sub (.cons rfl rfl rfl (.cons rfl rfl rfl (.cons rfl rfl rfl (.cons rfl rfl rfl .nil)))) .nil .nil) (fun j _ _ h => by omega) ?_
    intro k hk hI
    by_cases hlt : k < xs.length
    · have hltb : k < ys.length := by omega
      have hr1 : (xs.map cidrT)[k]? = some (cidrT xs[k]) := map_at_some hlt
      have hr2 : (ys.map cidrT)[k]? = some (cidrT ys[k]) := map_at_some hltb
      have hlt2 : k < (xs.map cidrT).length := by omega
      have hltb2 : k < (ys.map cidrT).length := by omega
      cases hq : cidrB xs[k] ys[k] with
      | true =>
        have hst : ∀ j (h1 : j < xs.length) (h2 : j < ys.length), j < k + 1 → cidrB xs[j] ys[j] = true := fun j h1 h2 h => by
          by_cases e : j = k
          · subst e; exact hq
          · exact hI j h1 h2 (by omega)
        have hq' : (!cidrB xs[k] ys[k]) = false := by rw [hq]; rfl
        generalize xs[k] = x at *
        generalize ys[k] = y at *
        repeat' (first | refine for_next hlt (weak_sub (.cons rfl rfl rfl (.cons rfl rfl rfl (.cons rfl rfl rfl (.cons rfl rfl rfl .nil)))) .nil .nil) hst | (refine rg 4 ?_; (first | refine sp (po_neCidr rfl rfl rfl) ?_ | refine oCm ?_); refine oN ?_) | (refine rg 5 ?_; refine oMv ?_; refine oAs ?_; refine oN ?_) | (refine rd 6 ?_; refine dMv ?_; refine dMv ?_; refine dp (pix rfl (tyS rfl)) ?_; (first | refine dp (po_load_bx_agg rfl rfl (tyT rfl) rfl (vc (vc .nil)) rfl) ?_ | refine dp (po_load_agg rfl rfl (tyT rfl) rfl rfl) ?_); refine dMv ?_; refine dMv ?_; refine dp (pix rfl (tyS rfl)) ?_; (first | refine dp (po_load_bx_agg rfl rfl (tyT rfl) rfl (vc (vc .nil)) rfl) ?_ | refine dp (po_load_agg rfl rfl (tyT rfl) rfl rfl) ?_); refine dp (po_neCidr rfl rfl rfl) ?_; refine dN ?_; refine oN ?_) | (refine rg 8 ?_; refine sp (xinc rfl) ?_; refine oMv ?_; refine oN ?_) | refine gc ?_ | refine ct ?_ | refine cf ?_)
      | false =>
        have hr : all2 cidrB xs ys = false := all2_no hlt hltb hq
        rw [hr]
        have hq' : (!cidrB xs[k] ys[k]) = true := by rw [hq]; rfl
        generalize xs[k] = x at *
        generalize ys[k] = y at *
        repeat' (first | (refine rg 4 ?_; (first | refine sp (po_neCidr rfl rfl rfl) ?_ | refine oCm ?_); refine oN ?_) | (refine rg 5 ?_; refine oMv ?_; refine oAs ?_; refine oN ?_) | (refine rd 6 ?_; refine dMv ?_; refine dMv ?_; refine dp (pix rfl (tyS rfl)) ?_; (first | refine dp (po_load_bx_agg rfl rfl (tyT rfl) rfl (vc (vc .nil)) rfl) ?_ | refine dp (po_load_agg rfl rfl (tyT rfl) rfl rfl) ?_); refine dMv ?_; refine dMv ?_; refine dp (pix rfl (tyS rfl)) ?_; (first | refine dp (po_load_bx_agg rfl rfl (tyT rfl) rfl (vc (vc .nil)) rfl) ?_ | refine dp (po_load_agg rfl rfl (tyT rfl) rfl rfl) ?_); refine dp (po_neCidr rfl rfl rfl) ?_; refine dN ?_; refine oN ?_) | (refine rg 7 ?_; refine oAs ?_; refine oN ?_) | refine gc ?_ | refine ct ?_ | refine cf ?_ | refine swp_cond rfl (fun hc => ?_) (fun hc => ?_) | refine rq rfl (rt .nil) ?_)
        all_goals rfl
    · obtain rfl : k = xs.length := by omega
      have hr : all2 cidrB xs ys = true := all2_yes hl fun j h1 h2 => hI j h1 h2 h1
      rw [hr]
      repeat' (first | (refine rg 4 ?_; refine oCm ?_; refine oN ?_) | (refine rg 9 ?_; refine oAs ?_; refine oN ?_) | refine gc ?_ | refine ct ?_ | refine cf ?_ | refine swp_cond rfl (fun hc => ?_) (fun hc => ?_) | refine rq rfl (rt .nil) ?_)
      all_goals rfl
  · have h0 : (!decide (((xs.map cidrT).length : Int) = ((ys.map cidrT).length : Int))) = true := by rw [hma, hmb, decide_eq_false (by omega)]; rfl
    have hr : all2 cidrB xs ys = false := all2_len hl
    rw [hr]
    repeat' (first | (refine rg 0 ?_; refine oAs ?_; refine oN ?_) | (refine rg 1 ?_; refine oMv ?_; refine sp (pln rfl (tyS rfl)) ?_; refine oMv ?_; refine sp (pln rfl (tyS rfl)) ?_; refine oCm ?_; refine oN ?_) | (refine rg 2 ?_; refine oAs ?_; refine oN ?_) | refine gc ?_ | refine ct ?_ | refine cf ?_ | refine swp_cond rfl (fun hc => ?_) (fun hc => ?_) | refine rq rfl (rt .nil) ?_)
    all_goals rfl
set_option maxRecDepth 100000 in
set_option maxHeartbeats 2000000 in
theorem equalGInt (xs ys : List Int) (hx : xs.length ≤ 1000) (hy : ys.length ≤ 1000) : PCalls Tryz.prog 74 [.sl 1 (xs.map intT), .sl 1 (ys.map intT)] (.v (.bool (all2 intB xs ys))) := by
  have hma : (xs.map intT).length = xs.length := List.length_map _
  have hmb : (ys.map intT).length = ys.length := List.length_map _
  refine pcalls_of Tryz.func74 rfl rfl Tryz.ntmps74 rfl ?_
  by_cases hl : xs.length = ys.length
  · have h0 : (!decide (((xs.map intT).length : Int) = ((ys.map intT).length : Int))) = false := by rw [hma, hmb, hl]; simp
    repeat' (first | (refine rg 0 ?_; refine oAs ?_; refine oN ?_) | (refine rg 1 ?_; refine oMv ?_; refine sp (pln rfl (tyS rfl)) ?_; refine oMv ?_; refine sp (pln rfl (tyS rfl)) ?_; refine oCm ?_; refine oN ?_) | (refine rg 3 ?_; refine oMv ?_; refine sp (pln rfl (tyS rfl)) ?_; refine oMv ?_; refine oN ?_) | refine gc ?_ | refine ct ?_ | refine cf ?_ | refine swp_cond rfl (fun hc => ?_) (fun hc => ?_) | refine rq rfl (rt .nil) ?_)
    refine swp_for (fun k => ⟨[(0, .t (.sl 1 (xs.map intT))), (1, .t (.sl 1 (ys.map intT))), (12, .t (.v (.int .i64 ((xs.map intT).length : Int)))), (13, .t (.v (.int .i64 (k : Int))))], [], []⟩) (fun k => ∀ j (h1 : j < xs.length) (h2 : j < ys.length), j < k → intB xs[j] ys[j] = true) xs.length (weak_sub (.cons rfl rfl rfl (.cons rfl rfl rfl (.cons rfl rfl rfl (.cons rfl rfl rfl .nil)))) .nil .nil) (fun j _ _ h => by omega) ?_
    intro k hk hI
    by_cases hlt : k < xs.length
    · have hltb : k < ys.length := by omega
      have hr1 : (xs.map intT)[k]? = some (intT xs[k]) := map_at_some hlt
      have hr2 : (ys.map intT)[k]? = some (intT ys[k]) := map_at_some hltb
      have hlt2 : k < (xs.map intT).length := by omega
      have hltb2 : k < (ys.map intT).length := by omega
      cases hq : intB xs[k] ys[k] with
      | true =>
        have hst : ∀ j (h1 : j < xs.length) (h2 : j < ys.length), j < k + 1 → intB xs[j] ys[j] = true := fun j h1 h2 h => by
          by_cases e : j = k
          · subst e; exact hq
          · exact hI j h1 h2 (by omega)
        have hq' : (!intB xs[k] ys[k]) = false := by rw [hq]; rfl
        generalize xs[k] = x at *
        generalize ys[k] = y at *
        repeat' (first | refine for_next hlt (weak_sub (.cons rfl rfl rfl (.cons rfl rfl rfl (.cons rfl rfl rfl (.cons rfl rfl rfl .nil)))) .nil .nil) hst | (refine rg 4 ?_; refine oCm ?_; refine oN ?_) | (refine rg 5 ?_; refine oMv ?_; refine oAs ?_; refine oN ?_) | (refine rd 6 ?_; refine dMv ?_; refine dMv ?_; refine dp (pix rfl (tyS rfl)) ?_; (first | refine dLb ?_ | refine dLd ?_); refine dMv ?_; refine dMv ?_; refine dp (pix rfl (tyS rfl)) ?_; (first | refine dLb ?_ | refine dLd ?_); refine dCm ?_; refine dN ?_; refine oN ?_) | (refine rg 8 ?_; refine sp (xinc rfl) ?_; refine oMv ?_; refine oN ?_) | refine gc ?_ | refine ct ?_ | refine cf ?_)
      | false =>
        have hr : all2 intB xs ys = false := all2_no hlt hltb hq
        rw [hr]
        have hq' : (!intB xs[k] ys[k]) = true := by rw [hq]; rfl
        generalize xs[k] = x at *
        generalize ys[k] = y at *
        repeat' (first | (refine rg 4 ?_; refine oCm ?_; refine oN ?_) | (refine rg 5 ?_; refine oMv ?_; refine oAs ?_; refine oN ?_) | (refine rd 6 ?_; refine dMv ?_; refine dMv ?_; refine dp (pix rfl (tyS rfl)) ?_; (first | refine dLb ?_ | refine dLd ?_); refine dMv ?_; refine dMv ?_; refine dp (pix rfl (tyS rfl)) ?_; (first | refine dLb ?_ | refine dLd ?_); refine dCm ?_; refine dN ?_; refine oN ?_) | (refine rg 7 ?_; refine oAs ?_; refine oN ?_) | refine gc ?_ | refine ct ?_ | refine cf ?_ | refine swp_cond rfl (fun hc => ?_) (fun hc => ?_) | refine rq rfl (rt .nil) ?_)
        all_goals rfl
    · obtain rfl : k = xs.length := by omega
      have hr : all2 intB xs ys = true := all2_yes hl fun j h1 h2 => hI j h1 h2 h1
      rw [hr]
      repeat' (first | (refine rg 4 ?_; refine oCm ?_; refine oN ?_) | (refine rg 9 ?_; refine oAs ?_; refine oN ?_) | refine gc ?_ | refine ct ?_ | refine cf ?_ | refine swp_cond rfl (fun hc => ?_) (fun hc => ?_) | refine rq rfl (rt .nil) ?_)
      all_goals rfl
  · have h0 : (!decide (((xs.map intT).length : Int) = ((ys.map intT).length : Int))) = true := by rw [hma, hmb, decide_eq_false (by omega)]; rfl
    have hr : all2 intB xs ys = false := all2_len hl
    rw [hr]
    repeat' (first | (refine rg 0 ?_; refine oAs ?_; refine oN ?_) | (refine rg 1 ?_; refine oMv ?_; refine sp (pln rfl (tyS rfl)) ?_; refine oMv ?_; refine sp (pln rfl (tyS rfl)) ?_; refine oCm ?_; refine oN ?_) | (refine rg 2 ?_; refine oAs ?_; refine oN ?_) | refine gc ?_ | refine ct ?_ | refine cf ?_ | refine swp_cond rfl (fun hc => ?_) (fun hc => ?_) | refine rq rfl (rt .nil) ?_)
    all_goals rfl
set_option maxRecDepth 100000 in
set_option maxHeartbeats 2000000 in
theorem sameSourceG (x y : Pl.Source) (h : x.names.length ≤ 1000 ∧ x.spaces.length ≤ 1000 ∧ x.nets.length ≤ 1000) (g : y.names.length ≤ 1000 ∧ y.spaces.length ≤ 1000 ∧ y.nets.length ≤ 1000) : PCalls Tryz.prog 57 [.agg (sourceT x), .agg (sourceT y)] (.v (.bool (sourceB x y))) := by
  have c0 := equalGTerm x.names y.names h.1 g.1
  have c1 := equalGTerm x.spaces y.spaces h.2.1 g.2.1
  have c2 := equalGCidr x.nets y.nets h.2.2 g.2.2
  refine pcalls_of Tryz.func57 rfl rfl Tryz.ntmps57 rfl ?_
  unfold sourceB
  cases k0 : all2 termB x.names y.names with
  | false =>
    rw [k0] at c0
    repeat' (first | (refine rg 0 ?_; refine sbx ?_; refine sbx ?_; refine oAs ?_; refine oN ?_) | (refine rg 1 ?_; refine oFb ?_; refine oLb ?_; refine oFb ?_; refine oLb ?_; refine oC (c0) rfl (ac (ac .nil)) ?_; refine oMv ?_; (first | refine oFb ?_ | refine oFd ?_ | refine oK ?_) <;> (first | refine oLb ?_ | refine oLd ?_ | refine oK ?_) <;> (first | refine oFb ?_ | refine oFd ?_ | refine oK ?_) <;> (first | refine oLb ?_ | refine oLd ?_ | refine oK ?_) <;> (first | refine oC (c0) rfl (ac (ac .nil)) ?_ | refine oC (c1) rfl (ac (ac .nil)) ?_ | refine oC (c2) rfl (ac (ac .nil)) ?_ | refine oK ?_) <;> (first | refine oPt ?_ | refine oPf ?_) <;> refine oMv ?_ <;> (first | refine oFb ?_ | refine oFd ?_ | refine oK ?_) <;> (first | refine oLb ?_ | refine oLd ?_ | refine oK ?_) <;> (first | refine oFb ?_ | refine oFd ?_ | refine oK ?_) <;> (first | refine oLb ?_ | refine oLd ?_ | refine oK ?_) <;> (first | refine oC (c0) rfl (ac (ac .nil)) ?_ | refine oC (c1) rfl (ac (ac .nil)) ?_ | refine oC (c2) rfl (ac (ac .nil)) ?_ | refine oK ?_) <;> (first | refine oPt ?_ | refine oPf ?_) <;> refine oAs ?_ <;> refine oN ?_) | refine gc ?_ | refine ct ?_ | refine cf ?_ | refine swp_cond rfl (fun hc => ?_) (fun hc => ?_) | refine rq rfl (rt .nil) ?_)
    all_goals rfl
  | true =>
    rw [k0] at c0
    cases k1 : all2 termB x.spaces y.spaces with
    | false =>
      rw [k1] at c1
      repeat' (first | (refine rg 0 ?_; refine sbx ?_; refine sbx ?_; refine oAs ?_; refine oN ?_) | (refine rg 1 ?_; refine oFb ?_; refine oLb ?_; refine oFb ?_; refine oLb ?_; refine oC (c0) rfl (ac (ac .nil)) ?_; refine oMv ?_; refine oFb ?_ <;> refine oLb ?_ <;> refine oFb ?_ <;> refine oLb ?_ <;> (first | refine oC (c0) rfl (ac (ac .nil)) ?_ | refine oC (c1) rfl (ac (ac .nil)) ?_) <;> refine oPt ?_ <;> refine oMv ?_ <;> (first | refine oFb ?_ | refine oFd ?_ | refine oK ?_) <;> (first | refine oLb ?_ | refine oLd ?_ | refine oK ?_) <;> (first | refine oFb ?_ | refine oFd ?_ | refine oK ?_) <;> (first | refine oLb ?_ | refine oLd ?_ | refine oK ?_) <;> (first | refine oC (c0) rfl (ac (ac .nil)) ?_ | refine oC (c1) rfl (ac (ac .nil)) ?_ | refine oC (c2) rfl (ac (ac .nil)) ?_ | refine oK ?_) <;> (first | refine oPt ?_ | refine oPf ?_) <;> refine oAs ?_ <;> refine oN ?_) | refine gc ?_ | refine ct ?_ | refine cf ?_ | refine swp_cond rfl (fun hc => ?_) (fun hc => ?_) | refine rq rfl (rt .nil) ?_)
      all_goals rfl
    | true =>
      rw [k1] at c1
      cases k2 : all2 cidrB x.nets y.nets with
      | false =>
        rw [k2] at c2
        repeat' (first | (refine rg 0 ?_; refine sbx ?_; refine sbx ?_; refine oAs ?_; refine oN ?_) | (refine rg 1 ?_; refine oFb ?_; refine oLb ?_; refine oFb ?_; refine oLb ?_; refine oC (c0) rfl (ac (ac .nil)) ?_; refine oMv ?_; refine oFb ?_ <;> refine oLb ?_ <;> refine oFb ?_ <;> refine oLb ?_ <;> (first | refine oC (c0) rfl (ac (ac .nil)) ?_ | refine oC (c1) rfl (ac (ac .nil)) ?_) <;> refine oPt ?_ <;> refine oMv ?_ <;> refine oFb ?_ <;> refine oLb ?_ <;> refine oFb ?_ <;> refine oLb ?_ <;> (first | refine oC (c0) rfl (ac (ac .nil)) ?_ | refine oC (c1) rfl (ac (ac .nil)) ?_ | refine oC (c2) rfl (ac (ac .nil)) ?_) <;> refine oPt ?_ <;> refine oAs ?_ <;> refine oN ?_) | refine gc ?_ | refine ct ?_ | refine cf ?_ | refine swp_cond rfl (fun hc => ?_) (fun hc => ?_) | refine rq rfl (rt .nil) ?_)
        all_goals rfl
      | true =>
        rw [k2] at c2
        repeat' (first | (refine rg 0 ?_; refine sbx ?_; refine sbx ?_; refine oAs ?_; refine oN ?_) | (refine rg 1 ?_; refine oFb ?_; refine oLb ?_; refine oFb ?_; refine oLb ?_; refine oC (c0) rfl (ac (ac .nil)) ?_; refine oMv ?_; refine oFb ?_ <;> refine oLb ?_ <;> refine oFb ?_ <;> refine oLb ?_ <;> (first | refine oC (c0) rfl (ac (ac .nil)) ?_ | refine oC (c1) rfl (ac (ac .nil)) ?_) <;> refine oPt ?_ <;> refine oMv ?_ <;> refine oFb ?_ <;> refine oLb ?_ <;> refine oFb ?_ <;> refine oLb ?_ <;> (first | refine oC (c0) rfl (ac (ac .nil)) ?_ | refine oC (c1) rfl (ac (ac .nil)) ?_ | refine oC (c2) rfl (ac (ac .nil)) ?_) <;> refine oPt ?_ <;> refine oAs ?_ <;> refine oN ?_) | refine gc ?_ | refine ct ?_ | refine cf ?_ | refine swp_cond rfl (fun hc => ?_) (fun hc => ?_) | refine rq rfl (rt .nil) ?_)
        all_goals rfl
set_option maxRecDepth 100000 in
set_option maxHeartbeats 2000000 in
theorem sameTargetG (x y : Pl.Target) (h : x.ports.length ≤ 1000 ∧ x.methods.length ≤ 1000 ∧ x.paths.length ≤ 1000 ∧ x.hosts.length ≤ 1000) (g : y.ports.length ≤ 1000 ∧ y.methods.length ≤ 1000 ∧ y.paths.length ≤ 1000 ∧ y.hosts.length ≤ 1000) : PCalls Tryz.prog 59 [.agg (targetT x), .agg (targetT y)] (.v (.bool (targetB x y))) := by
  have c0 := equalGInt x.ports y.ports h.1 g.1
  have c1 := equalGTerm x.methods y.methods h.2.1 g.2.1
  have c2 := equalGTerm x.paths y.paths h.2.2.1 g.2.2.1
  have c3 := equalGTerm x.hosts y.hosts h.2.2.2 g.2.2.2
  refine pcalls_of Tryz.func59 rfl rfl Tryz.ntmps59 rfl ?_
  unfold targetB
  cases k0 : all2 intB x.ports y.ports with
  | false =>
    rw [k0] at c0
    repeat' (first | (refine rg 0 ?_; refine sbx ?_; refine sbx ?_; refine oAs ?_; refine oN ?_) | (refine rg 1 ?_; refine oFb ?_; refine oLb ?_; refine oFb ?_; refine oLb ?_; refine oC (c0) rfl (ac (ac .nil)) ?_; refine oMv ?_; (first | refine oFb ?_ | refine oFd ?_ | refine oK ?_) <;> (first | refine oLb ?_ | refine oLd ?_ | refine oK ?_) <;> (first | refine oFb ?_ | refine oFd ?_ | refine oK ?_) <;> (first | refine oLb ?_ | refine oLd ?_ | refine oK ?_) <;> (first | refine oC (c0) rfl (ac (ac .nil)) ?_ | refine oC (c1) rfl (ac (ac .nil)) ?_ | refine oC (c2) rfl (ac (ac .nil)) ?_ | refine oC (c3) rfl (ac (ac .nil)) ?_ | refine oK ?_) <;> (first | refine oPt ?_ | refine oPf ?_) <;> refine oMv ?_ <;> (first | refine oFb ?_ | refine oFd ?_ | refine oK ?_) <;> (first | refine oLb ?_ | refine oLd ?_ | refine oK ?_) <;> (first | refine oFb ?_ | refine oFd ?_ | refine oK ?_) <;> (first | refine oLb ?_ | refine oLd ?_ | refine oK ?_) <;> (first | refine oC (c0) rfl (ac (ac .nil)) ?_ | refine oC (c1) rfl (ac (ac .nil)) ?_ | refine oC (c2) rfl (ac (ac .nil)) ?_ | refine oC (c3) rfl (ac (ac .nil)) ?_ | refine oK ?_) <;> (first | refine oPt ?_ | refine oPf ?_) <;> refine oMv ?_ <;> (first | refine oFb ?_ | refine oFd ?_ | refine oK ?_) <;> (first | refine oLb ?_ | refine oLd ?_ | refine oK ?_) <;> (first | refine oFb ?_ | refine oFd ?_ | refine oK ?_) <;> (first | refine oLb ?_ | refine oLd ?_ | refine oK ?_) <;> (first | refine oC (c0) rfl (ac (ac .nil)) ?_ | refine oC (c1) rfl (ac (ac .nil)) ?_ | refine oC (c2) rfl (ac (ac .nil)) ?_ | refine oC (c3) rfl (ac (ac .nil)) ?_ | refine oK ?_) <;> (first | refine oPt ?_ | refine oPf ?_) <;> refine oAs ?_ <;> refine oN ?_) | refine gc ?_ | refine ct ?_ | refine cf ?_ | refine swp_cond rfl (fun hc => ?_) (fun hc => ?_) | refine rq rfl (rt .nil) ?_)
    all_goals rfl
  | true =>
    rw [k0] at c0
    cases k1 : all2 termB x.methods y.methods with
    | false =>
      rw [k1] at c1
      repeat' (first | (refine rg 0 ?_; refine sbx ?_; refine sbx ?_; refine oAs ?_; refine oN ?_) | (refine rg 1 ?_; refine oFb ?_; refine oLb ?_; refine oFb ?_; refine oLb ?_; refine oC (c0) rfl (ac (ac .nil)) ?_; refine oMv ?_; refine oFb ?_ <;> refine oLb ?_ <;> refine oFb ?_ <;> refine oLb ?_ <;> (first | refine oC (c0) rfl (ac (ac .nil)) ?_ | refine oC (c1) rfl (ac (ac .nil)) ?_) <;> refine oPt ?_ <;> refine oMv ?_ <;> (first | refine oFb ?_ | refine oFd ?_ | refine oK ?_) <;> (first | refine oLb ?_ | refine oLd ?_ | refine oK ?_) <;> (first | refine oFb ?_ | refine oFd ?_ | refine oK ?_) <;> (first | refine oLb ?_ | refine oLd ?_ | refine oK ?_) <;> (first | refine oC (c0) rfl (ac (ac .nil)) ?_ | refine oC (c1) rfl (ac (ac .nil)) ?_ | refine oC (c2) rfl (ac (ac .nil)) ?_ | refine oC (c3) rfl (ac (ac .nil)) ?_ | refine oK ?_) <;> (first | refine oPt ?_ | refine oPf ?_) <;> refine oMv ?_ <;> (first | refine oFb ?_ | refine oFd ?_ | refine oK ?_) <;> (first | refine oLb ?_ | refine oLd ?_ | refine oK ?_) <;> (first | refine oFb ?_ | refine oFd ?_ | refine oK ?_) <;> (first | refine oLb ?_ | refine oLd ?_ | refine oK ?_) <;> (first | refine oC (c0) rfl (ac (ac .nil)) ?_ | refine oC (c1) rfl (ac (ac .nil)) ?_ | refine oC (c2) rfl (ac (ac .nil)) ?_ | refine oC (c3) rfl (ac (ac .nil)) ?_ | refine oK ?_) <;> (first | refine oPt ?_ | refine oPf ?_) <;> refine oAs ?_ <;> refine oN ?_) | refine gc ?_ | refine ct ?_ | refine cf ?_ | refine swp_cond rfl (fun hc => ?_) (fun hc => ?_) | refine rq rfl (rt .nil) ?_)
      all_goals rfl
    | true =>
      rw [k1] at c1
      cases k2 : all2 termB x.paths y.paths with
      | false =>
        rw [k2] at c2
        repeat' (first | (refine rg 0 ?_; refine sbx ?_; refine sbx ?_; refine oAs ?_; refine oN ?_) | (refine rg 1 ?_; refine oFb ?_; refine oLb ?_; refine oFb ?_; refine oLb ?_; refine oC (c0) rfl (ac (ac .nil)) ?_; refine oMv ?_; refine oFb ?_ <;> refine oLb ?_ <;> refine oFb ?_ <;> refine oLb ?_ <;> (first | refine oC (c0) rfl (ac (ac .nil)) ?_ | refine oC (c1) rfl (ac (ac .nil)) ?_) <;> refine oPt ?_ <;> refine oMv ?_ <;> refine oFb ?_ <;> refine oLb ?_ <;> refine oFb ?_ <;> refine oLb ?_ <;> (first | refine oC (c0) rfl (ac (ac .nil)) ?_ | refine oC (c1) rfl (ac (ac .nil)) ?_ | refine oC (c2) rfl (ac (ac .nil)) ?_) <;> refine oPt ?_ <;> refine oMv ?_ <;> (first | refine oFb ?_ | refine oFd ?_ | refine oK ?_) <;> (first | refine oLb ?_ | refine oLd ?_ | refine oK ?_) <;> (first | refine oFb ?_ | refine oFd ?_ | refine oK ?_) <;> (first | refine oLb ?_ | refine oLd ?_ | refine oK ?_) <;> (first | refine oC (c0) rfl (ac (ac .nil)) ?_ | refine oC (c1) rfl (ac (ac .nil)) ?_ | refine oC (c2) rfl (ac (ac .nil)) ?_ | refine oC (c3) rfl (ac (ac .nil)) ?_ | refine oK ?_) <;> (first | refine oPt ?_ | refine oPf ?_) <;> refine oAs ?_ <;> refine oN ?_) | refine gc ?_ | refine ct ?_ | refine cf ?_ | refine swp_cond rfl (fun hc => ?_) (fun hc => ?_) | refine rq rfl (rt .nil) ?_)
        all_goals rfl
      | true =>
        rw [k2] at c2
        cases k3 : all2 termB x.hosts y.hosts with
        | false =>
          rw [k3] at c3
          repeat' (first | (refine rg 0 ?_; refine sbx ?_; refine sbx ?_; refine oAs ?_; refine oN ?_) | (refine rg 1 ?_; refine oFb ?_; refine oLb ?_; refine oFb ?_; refine oLb ?_; refine oC (c0) rfl (ac (ac .nil)) ?_; refine oMv ?_; refine oFb ?_ <;> refine oLb ?_ <;> refine oFb ?_ <;> refine oLb ?_ <;> (first | refine oC (c0) rfl (ac (ac .nil)) ?_ | refine oC (c1) rfl (ac (ac .nil)) ?_) <;> refine oPt ?_ <;> refine oMv ?_ <;> refine oFb ?_ <;> refine oLb ?_ <;> refine oFb ?_ <;> refine oLb ?_ <;> (first | refine oC (c0) rfl (ac (ac .nil)) ?_ | refine oC (c1) rfl (ac (ac .nil)) ?_ | refine oC (c2) rfl (ac (ac .nil)) ?_) <;> refine oPt ?_ <;> refine oMv ?_ <;> refine oFb ?_ <;> refine oLb ?_ <;> refine oFb ?_ <;> refine oLb ?_ <;> (first | refine oC (c0) rfl (ac (ac .nil)) ?_ | refine oC (c1) rfl (ac (ac .nil)) ?_ | refine oC (c2) rfl (ac (ac .nil)) ?_ | refine oC (c3) rfl (ac (ac .nil)) ?_) <;> refine oPt ?_ <;> refine oAs ?_ <;> refine oN ?_) | refine gc ?_ | refine ct ?_ | refine cf ?_ | refine swp_cond rfl (fun hc => ?_) (fun hc => ?_) | refine rq rfl (rt .nil) ?_)
          all_goals rfl
        | true =>
          rw [k3] at c3
          repeat' (first | (refine rg 0 ?_; refine sbx ?_; refine sbx ?_; refine oAs ?_; refine oN ?_) | (refine rg 1 ?_; refine oFb ?_; refine oLb ?_; refine oFb ?_; refine oLb ?_; refine oC (c0) rfl (ac (ac .nil)) ?_; refine oMv ?_; refine oFb ?_ <;> refine oLb ?_ <;> refine oFb ?_ <;> refine oLb ?_ <;> (first | refine oC (c0) rfl (ac (ac .nil)) ?_ | refine oC (c1) rfl (ac (ac .nil)) ?_) <;> refine oPt ?_ <;> refine oMv ?_ <;> refine oFb ?_ <;> refine oLb ?_ <;> refine oFb ?_ <;> refine oLb ?_ <;> (first | refine oC (c0) rfl (ac (ac .nil)) ?_ | refine oC (c1) rfl (ac (ac .nil)) ?_ | refine oC (c2) rfl (ac (ac .nil)) ?_) <;> refine oPt ?_ <;> refine oMv ?_ <;> refine oFb ?_ <;> refine oLb ?_ <;> refine oFb ?_ <;> refine oLb ?_ <;> (first | refine oC (c0) rfl (ac (ac .nil)) ?_ | refine oC (c1) rfl (ac (ac .nil)) ?_ | refine oC (c2) rfl (ac (ac .nil)) ?_ | refine oC (c3) rfl (ac (ac .nil)) ?_) <;> refine oPt ?_ <;> refine oAs ?_ <;> refine oN ?_) | refine gc ?_ | refine ct ?_ | refine cf ?_ | refine swp_cond rfl (fun hc => ?_) (fun hc => ?_) | refine rq rfl (rt .nil) ?_)
          all_goals rfl
set_option maxRecDepth 100000 in
set_option maxHeartbeats 2000000 in
theorem sameWhenG (x y : Pl.When) (h : x.terms.length ≤ 1000) (g : y.terms.length ≤ 1000) : PCalls Tryz.prog 61 [.agg (whenT x), .agg (whenT y)] (.v (.bool (whenB x y))) := by
  have c0 := equalGTerm x.terms y.terms h g
  refine pcalls_of Tryz.func61 rfl rfl Tryz.ntmps61 rfl ?_
  unfold whenB
  cases k0 : decide (x.head = y.head) with
  | false =>
    repeat' (first | (refine rg 0 ?_; refine sbx ?_; refine sbx ?_; refine oAs ?_; refine oN ?_) | (refine rg 1 ?_; refine oFb ?_; refine oLb ?_; refine oFb ?_; refine oLb ?_; refine sp (po_str rfl rfl rfl rfl) ?_; refine oMv ?_; (first | refine oFb ?_ | refine oFd ?_ | refine oK ?_) <;> (first | refine oLb ?_ | refine oLd ?_ | refine oK ?_) <;> (first | refine oFb ?_ | refine oFd ?_ | refine oK ?_) <;> (first | refine oLb ?_ | refine oLd ?_ | refine oK ?_) <;> (first | refine oC (c0) rfl (ac (ac .nil)) ?_ | refine oK ?_) <;> (first | refine oPt ?_ | refine oPf ?_) <;> refine oAs ?_ <;> refine oN ?_) | refine gc ?_ | refine ct ?_ | refine cf ?_ | refine swp_cond rfl (fun hc => ?_) (fun hc => ?_) | refine rq rfl (rt .nil) ?_)
    all_goals rfl
  | true =>
    cases k1 : all2 termB x.terms y.terms with
    | false =>
      rw [k1] at c0
      repeat' (first | (refine rg 0 ?_; refine sbx ?_; refine sbx ?_; refine oAs ?_; refine oN ?_) | (refine rg 1 ?_; refine oFb ?_; refine oLb ?_; refine oFb ?_; refine oLb ?_; refine sp (po_str rfl rfl rfl rfl) ?_; refine oMv ?_; refine oFb ?_ <;> refine oLb ?_ <;> refine oFb ?_ <;> refine oLb ?_ <;> refine oC (c0) rfl (ac (ac .nil)) ?_ <;> refine oPt ?_ <;> refine oAs ?_ <;> refine oN ?_) | refine gc ?_ | refine ct ?_ | refine cf ?_ | refine swp_cond rfl (fun hc => ?_) (fun hc => ?_) | refine rq rfl (rt .nil) ?_)
      all_goals rfl
    | true =>
      rw [k1] at c0
      repeat' (first | (refine rg 0 ?_; refine sbx ?_; refine sbx ?_; refine oAs ?_; refine oN ?_) | (refine rg 1 ?_; refine oFb ?_; refine oLb ?_; refine oFb ?_; refine oLb ?_; refine sp (po_str rfl rfl rfl rfl) ?_; refine oMv ?_; refine oFb ?_ <;> refine oLb ?_ <;> refine oFb ?_ <;> refine oLb ?_ <;> refine oC (c0) rfl (ac (ac .nil)) ?_ <;> refine oPt ?_ <;> refine oAs ?_ <;> refine oN ?_) | refine gc ?_ | refine ct ?_ | refine cf ?_ | refine swp_cond rfl (fun hc => ?_) (fun hc => ?_) | refine rq rfl (rt .nil) ?_)
      all_goals rfl
set_option maxRecDepth 100000 in
set_option maxHeartbeats 2000000 in
theorem equalGSource (xs ys : List Pl.Source) (hx : xs.length ≤ 1000) (hy : ys.length ≤ 1000) (b1 : ∀ s ∈ xs, s.names.length ≤ 1000 ∧ s.spaces.length ≤ 1000 ∧ s.nets.length ≤ 1000) (b2 : ∀ s ∈ ys, s.names.length ≤ 1000 ∧ s.spaces.length ≤ 1000 ∧ s.nets.length ≤ 1000) : PCalls Tryz.prog 56 [.sl 3 (xs.map sourceT), .sl 3 (ys.map sourceT), .clo 57 []] (.v (.bool (all2 sourceB xs ys))) := by
  have hma : (xs.map sourceT).length = xs.length := List.length_map _
  have hmb : (ys.map sourceT).length = ys.length := List.length_map _
  refine pcalls_of Tryz.func56 rfl rfl Tryz.ntmps56 rfl ?_
  by_cases hl : xs.length = ys.length
  · have h0 : (!decide (((xs.map sourceT).length : Int) = ((ys.map sourceT).length : Int))) = false := by rw [hma, hmb, hl]; simp
    repeat' (first | (refine rg 0 ?_; refine oAs ?_; refine oN ?_) | (refine rg 1 ?_; refine oMv ?_; refine sp (pln rfl (tyS rfl)) ?_; refine oMv ?_; refine sp (pln rfl (tyS rfl)) ?_; refine oCm ?_; refine oN ?_) | (refine rg 3 ?_; refine oMv ?_; refine sp (pln rfl (tyS rfl)) ?_; refine oMv ?_; refine oN ?_) | refine gc ?_ | refine ct ?_ | refine cf ?_ | refine swp_cond rfl (fun hc => ?_) (fun hc => ?_) | refine rq rfl (rt .nil) ?_)
    refine swp_for (fun k => ⟨[(0, .t (.sl 3 (xs.map sourceT))), (1, .t (.sl 3 (ys.map sourceT))), (2, .t (.clo 57 [])), (15, .t (.sl 3 (xs.map sourceT))), (16, .t (.v (.int .i64 ((xs.map sourceT).length : Int)))), (17, .t (.v (.int .i64 (k : Int))))], [], []⟩) (fun k => ∀ j (h1 : j < xs.length) (h2 : j < ys.length), j < k → sourceB xs[j] ys[j] = true) xs.length (weak_sub (.cons rfl rfl rfl (.cons rfl rfl rfl (.cons rfl rfl rfl (.cons rfl rfl rfl (.cons rfl rfl rfl (.cons rfl rfl rfl .nil)))))) .nil .nil) (fun j _ _ h => by omega) ?_
    intro k hk hI
    by_cases hlt : k < xs.length
    · have hltb : k < ys.length := by omega
      have hr1 : (xs.map sourceT)[k]? = some (sourceT xs[k]) := map_at_some hlt
      have hr2 : (ys.map sourceT)[k]? = some (sourceT ys[k]) := map_at_some hltb
      have hlt2 : k < (xs.map sourceT).length := by omega
      have hltb2 : k < (ys.map sourceT).length := by omega
      have c1 := sameSourceG xs[k] ys[k] (b1 _ (List.getElem_mem hlt)) (b2 _ (List.getElem_mem hltb))
      cases hq : sourceB xs[k] ys[k] with
      | true =>
        have hst : ∀ j (h1 : j < xs.length) (h2 : j < ys.length), j < k + 1 → sourceB xs[j] ys[j] = true := fun j h1 h2 h => by
          by_cases e : j = k
          · subst e; exact hq
          · exact hI j h1 h2 (by omega)
        rw [hq] at c1
        generalize xs[k] = x at *
        generalize ys[k] = y at *
        repeat' (first | refine for_next hlt (weak_sub (.cons rfl rfl rfl (.cons rfl rfl rfl (.cons rfl rfl rfl (.cons rfl rfl rfl (.cons rfl rfl rfl (.cons rfl rfl rfl .nil)))))) .nil .nil) hst | (refine rg 4 ?_; refine oCm ?_; refine oN ?_) | (refine rg 5 ?_; refine oMv ?_; refine sp (pix rfl (tyS rfl)) ?_; (first | refine sp (po_load_bx_agg rfl rfl (tyT rfl) rfl (vc (vc (vc .nil))) rfl) ?_ | refine sp (po_load_agg rfl rfl (tyT rfl) rfl rfl) ?_); refine sal str61 ?_; refine oAs ?_; refine oS ?_; refine oN ?_) | (refine rg 6 ?_; refine oMv ?_; refine oMv ?_; refine sp (pix rfl (tyS rfl)) ?_; (first | refine sp (po_load_bx_agg rfl rfl (tyT rfl) rfl (vc (vc (vc .nil))) rfl) ?_ | refine sp (po_load_agg rfl rfl (tyT rfl) rfl rfl) ?_); refine sal str61 ?_; refine oS ?_; refine oN ?_) | (refine rg 7 ?_; refine oMv ?_; (refine sp (po_load_bx_agg rfl rfl (tyT rfl) rfl (vc (vc (vc .nil))) rfl) ?_); (refine sp (po_load_bx_agg rfl rfl (tyT rfl) rfl (vc (vc (vc .nil))) rfl) ?_); refine sp (po_call_clo rfl rfl (ac (ac .nil)) (c1)) ?_; refine sp (po_not rfl rfl) ?_; refine oN ?_) | (refine rg 9 ?_; refine sp (xinc rfl) ?_; refine oMv ?_; refine oN ?_) | refine gc ?_ | refine ct ?_ | refine cf ?_)
      | false =>
        have hr : all2 sourceB xs ys = false := all2_no hlt hltb hq
        rw [hr]
        rw [hq] at c1
        generalize xs[k] = x at *
        generalize ys[k] = y at *
        repeat' (first | (refine rg 4 ?_; refine oCm ?_; refine oN ?_) | (refine rg 5 ?_; refine oMv ?_; refine sp (pix rfl (tyS rfl)) ?_; (first | refine sp (po_load_bx_agg rfl rfl (tyT rfl) rfl (vc (vc (vc .nil))) rfl) ?_ | refine sp (po_load_agg rfl rfl (tyT rfl) rfl rfl) ?_); refine sal str61 ?_; refine oAs ?_; refine oS ?_; refine oN ?_) | (refine rg 6 ?_; refine oMv ?_; refine oMv ?_; refine sp (pix rfl (tyS rfl)) ?_; (first | refine sp (po_load_bx_agg rfl rfl (tyT rfl) rfl (vc (vc (vc .nil))) rfl) ?_ | refine sp (po_load_agg rfl rfl (tyT rfl) rfl rfl) ?_); refine sal str61 ?_; refine oS ?_; refine oN ?_) | (refine rg 7 ?_; refine oMv ?_; (refine sp (po_load_bx_agg rfl rfl (tyT rfl) rfl (vc (vc (vc .nil))) rfl) ?_); (refine sp (po_load_bx_agg rfl rfl (tyT rfl) rfl (vc (vc (vc .nil))) rfl) ?_); refine sp (po_call_clo rfl rfl (ac (ac .nil)) (c1)) ?_; refine sp (po_not rfl rfl) ?_; refine oN ?_) | (refine rg 8 ?_; refine oAs ?_; refine oN ?_) | refine gc ?_ | refine ct ?_ | refine cf ?_ | refine swp_cond rfl (fun hc => ?_) (fun hc => ?_) | refine rq rfl (rt .nil) ?_)
        all_goals rfl
    · obtain rfl : k = xs.length := by omega
      have hr : all2 sourceB xs ys = true := all2_yes hl fun j h1 h2 => hI j h1 h2 h1
      rw [hr]
      repeat' (first | (refine rg 4 ?_; refine oCm ?_; refine oN ?_) | (refine rg 10 ?_; refine oAs ?_; refine oN ?_) | refine gc ?_ | refine ct ?_ | refine cf ?_ | refine swp_cond rfl (fun hc => ?_) (fun hc => ?_) | refine rq rfl (rt .nil) ?_)
      all_goals rfl
  · have h0 : (!decide (((xs.map sourceT).length : Int) = ((ys.map sourceT).length : Int))) = true := by rw [hma, hmb, decide_eq_false (by omega)]; rfl
    have hr : all2 sourceB xs ys = false := all2_len hl
    rw [hr]
    repeat' (first | (refine rg 0 ?_; refine oAs ?_; refine oN ?_) | (refine rg 1 ?_; refine oMv ?_; refine sp (pln rfl (tyS rfl)) ?_; refine oMv ?_; refine sp (pln rfl (tyS rfl)) ?_; refine oCm ?_; refine oN ?_) | (refine rg 2 ?_; refine oAs ?_; refine oN ?_) | refine gc ?_ | refine ct ?_ | refine cf ?_ | refine swp_cond rfl (fun hc => ?_) (fun hc => ?_) | refine rq rfl (rt .nil) ?_)
    all_goals rfl
set_option maxRecDepth 100000 in
set_option maxHeartbeats 2000000 in
theorem equalGTarget (xs ys : List Pl.Target) (hx : xs.length ≤ 1000) (hy : ys.length ≤ 1000) (b1 : ∀ s ∈ xs, s.ports.length ≤ 1000 ∧ s.methods.length ≤ 1000 ∧ s.paths.length ≤ 1000 ∧ s.hosts.length ≤ 1000) (b2 : ∀ s ∈ ys, s.ports.length ≤ 1000 ∧ s.methods.length ≤ 1000 ∧ s.paths.length ≤ 1000 ∧ s.hosts.length ≤ 1000) : PCalls Tryz.prog 58 [.sl 4 (xs.map targetT), .sl 4 (ys.map targetT), .clo 59 []] (.v (.bool (all2 targetB xs ys))) := by
  have hma : (xs.map targetT).length = xs.length := List.length_map _
  have hmb : (ys.map targetT).length = ys.length := List.length_map _
  refine pcalls_of Tryz.func58 rfl rfl Tryz.ntmps58 rfl ?_
  by_cases hl : xs.length = ys.length
  · have h0 : (!decide (((xs.map targetT).length : Int) = ((ys.map targetT).length : Int))) = false := by rw [hma, hmb, hl]; simp
    repeat' (first | (refine rg 0 ?_; refine oAs ?_; refine oN ?_) | (refine rg 1 ?_; refine oMv ?_; refine sp (pln rfl (tyS rfl)) ?_; refine oMv ?_; refine sp (pln rfl (tyS rfl)) ?_; refine oCm ?_; refine oN ?_) | (refine rg 3 ?_; refine oMv ?_; refine sp (pln rfl (tyS rfl)) ?_; refine oMv ?_; refine oN ?_) | refine gc ?_ | refine ct ?_ | refine cf ?_ | refine swp_cond rfl (fun hc => ?_) (fun hc => ?_) | refine rq rfl (rt .nil) ?_)
    refine swp_for (fun k => ⟨[(0, .t (.sl 4 (xs.map targetT))), (1, .t (.sl 4 (ys.map targetT))), (2, .t (.clo 59 [])), (15, .t (.sl 4 (xs.map targetT))), (16, .t (.v (.int .i64 ((xs.map targetT).length : Int)))), (17, .t (.v (.int .i64 (k : Int))))], [], []⟩) (fun k => ∀ j (h1 : j < xs.length) (h2 : j < ys.length), j < k → targetB xs[j] ys[j] = true) xs.length (weak_sub (.cons rfl rfl rfl (.cons rfl rfl rfl (.cons rfl rfl rfl (.cons rfl rfl rfl (.cons rfl rfl rfl (.cons rfl rfl rfl .nil)))))) .nil .nil) (fun j _ _ h => by omega) ?_
    intro k hk hI
    by_cases hlt : k < xs.length
    · have hltb : k < ys.length := by omega
      have hr1 : (xs.map targetT)[k]? = some (targetT xs[k]) := map_at_some hlt
      have hr2 : (ys.map targetT)[k]? = some (targetT ys[k]) := map_at_some hltb
      have hlt2 : k < (xs.map targetT).length := by omega
      have hltb2 : k < (ys.map targetT).length := by omega
      have c1 := sameTargetG xs[k] ys[k] (b1 _ (List.getElem_mem hlt)) (b2 _ (List.getElem_mem hltb))
      cases hq : targetB xs[k] ys[k] with
      | true =>
        have hst : ∀ j (h1 : j < xs.length) (h2 : j < ys.length), j < k + 1 → targetB xs[j] ys[j] = true := fun j h1 h2 h => by
          by_cases e : j = k
          · subst e; exact hq
          · exact hI j h1 h2 (by omega)
        rw [hq] at c1
        generalize xs[k] = x at *
        generalize ys[k] = y at *
        repeat' (first | refine for_next hlt (weak_sub (.cons rfl rfl rfl (.cons rfl rfl rfl (.cons rfl rfl rfl (.cons rfl rfl rfl (.cons rfl rfl rfl (.cons rfl rfl rfl .nil)))))) .nil .nil) hst | (refine rg 4 ?_; refine oCm ?_; refine oN ?_) | (refine rg 5 ?_; refine oMv ?_; refine sp (pix rfl (tyS rfl)) ?_; (first | refine sp (po_load_bx_agg rfl rfl (tyT rfl) rfl (vc (vc (vc (vc .nil)))) rfl) ?_ | refine sp (po_load_agg rfl rfl (tyT rfl) rfl rfl) ?_); refine sal str64 ?_; refine oAs ?_; refine oS ?_; refine oN ?_) | (refine rg 6 ?_; refine oMv ?_; refine oMv ?_; refine sp (pix rfl (tyS rfl)) ?_; (first | refine sp (po_load_bx_agg rfl rfl (tyT rfl) rfl (vc (vc (vc (vc .nil)))) rfl) ?_ | refine sp (po_load_agg rfl rfl (tyT rfl) rfl rfl) ?_); refine sal str64 ?_; refine oS ?_; refine oN ?_) | (refine rg 7 ?_; refine oMv ?_; (refine sp (po_load_bx_agg rfl rfl (tyT rfl) rfl (vc (vc (vc (vc .nil)))) rfl) ?_); (refine sp (po_load_bx_agg rfl rfl (tyT rfl) rfl (vc (vc (vc (vc .nil)))) rfl) ?_); refine sp (po_call_clo rfl rfl (ac (ac .nil)) (c1)) ?_; refine sp (po_not rfl rfl) ?_; refine oN ?_) | (refine rg 9 ?_; refine sp (xinc rfl) ?_; refine oMv ?_; refine oN ?_) | refine gc ?_ | refine ct ?_ | refine cf ?_)
      | false =>
        have hr : all2 targetB xs ys = false := all2_no hlt hltb hq
        rw [hr]
        rw [hq] at c1
        generalize xs[k] = x at *
        generalize ys[k] = y at *
        repeat' (first | (refine rg 4 ?_; refine oCm ?_; refine oN ?_) | (refine rg 5 ?_; refine oMv ?_; refine sp (pix rfl (tyS rfl)) ?_; (first | refine sp (po_load_bx_agg rfl rfl (tyT rfl) rfl (vc (vc (vc (vc .nil)))) rfl) ?_ | refine sp (po_load_agg rfl rfl (tyT rfl) rfl rfl) ?_); refine sal str64 ?_; refine oAs ?_; refine oS ?_; refine oN ?_) | (refine rg 6 ?_; refine oMv ?_; refine oMv ?_; refine sp (pix rfl (tyS rfl)) ?_; (first | refine sp (po_load_bx_agg rfl rfl (tyT rfl) rfl (vc (vc (vc (vc .nil)))) rfl) ?_ | refine sp (po_load_agg rfl rfl (tyT rfl) rfl rfl) ?_); refine sal str64 ?_; refine oS ?_; refine oN ?_) | (refine rg 7 ?_; refine oMv ?_; (refine sp (po_load_bx_agg rfl rfl (tyT rfl) rfl (vc (vc (vc (vc .nil)))) rfl) ?_); (refine sp (po_load_bx_agg rfl rfl (tyT rfl) rfl (vc (vc (vc (vc .nil)))) rfl) ?_); refine sp (po_call_clo rfl rfl (ac (ac .nil)) (c1)) ?_; refine sp (po_not rfl rfl) ?_; refine oN ?_) | (refine rg 8 ?_; refine oAs ?_; refine oN ?_) | refine gc ?_ | refine ct ?_ | refine cf ?_ | refine swp_cond rfl (fun hc => ?_) (fun hc => ?_) | refine rq rfl (rt .nil) ?_)
        all_goals rfl
    · obtain rfl : k = xs.length := by omega
      have hr : all2 targetB xs ys = true := all2_yes hl fun j h1 h2 => hI j h1 h2 h1
      rw [hr]
      repeat' (first | (refine rg 4 ?_; refine oCm ?_; refine oN ?_) | (refine rg 10 ?_; refine oAs ?_; refine oN ?_) | refine gc ?_ | refine ct ?_ | refine cf ?_ | refine swp_cond rfl (fun hc => ?_) (fun hc => ?_) | refine rq rfl (rt .nil) ?_)
      all_goals rfl
  · have h0 : (!decide (((xs.map targetT).length : Int) = ((ys.map targetT).length : Int))) = true := by rw [hma, hmb, decide_eq_false (by omega)]; rfl
    have hr : all2 targetB xs ys = false := all2_len hl
    rw [hr]
    repeat' (first | (refine rg 0 ?_; refine oAs ?_; refine oN ?_) | (refine rg 1 ?_; refine oMv ?_; refine sp (pln rfl (tyS rfl)) ?_; refine oMv ?_; refine sp (pln rfl (tyS rfl)) ?_; refine oCm ?_; refine oN ?_) | (refine rg 2 ?_; refine oAs ?_; refine oN ?_) | refine gc ?_ | refine ct ?_ | refine cf ?_ | refine swp_cond rfl (fun hc => ?_) (fun hc => ?_) | refine rq rfl (rt .nil) ?_)
    all_goals rfl
set_option maxRecDepth 100000 in
set_option maxHeartbeats 2000000 in
theorem equalGWhen (xs ys : List Pl.When) (hx : xs.length ≤ 1000) (hy : ys.length ≤ 1000) (b1 : ∀ s ∈ xs, s.terms.length ≤ 1000) (b2 : ∀ s ∈ ys, s.terms.length ≤ 1000) : PCalls Tryz.prog 60 [.sl 2 (xs.map whenT), .sl 2 (ys.map whenT), .clo 61 []] (.v (.bool (all2 whenB xs ys))) := by
  have hma : (xs.map whenT).length = xs.length := List.length_map _
  have hmb : (ys.map whenT).length = ys.length := List.length_map _
  refine pcalls_of Tryz.func60 rfl rfl Tryz.ntmps60 rfl ?_
  by_cases hl : xs.length = ys.length
  · have h0 : (!decide (((xs.map whenT).length : Int) = ((ys.map whenT).length : Int))) = false := by rw [hma, hmb, hl]; simp
    repeat' (first | (refine rg 0 ?_; refine oAs ?_; refine oN ?_) | (refine rg 1 ?_; refine oMv ?_; refine sp (pln rfl (tyS rfl)) ?_; refine oMv ?_; refine sp (pln rfl (tyS rfl)) ?_; refine oCm ?_; refine oN ?_) | (refine rg 3 ?_; refine oMv ?_; refine sp (pln rfl (tyS rfl)) ?_; refine oMv ?_; refine oN ?_) | refine gc ?_ | refine ct ?_ | refine cf ?_ | refine swp_cond rfl (fun hc => ?_) (fun hc => ?_) | refine rq rfl (rt .nil) ?_)
    refine swp_for (fun k => ⟨[(0, .t (.sl 2 (xs.map whenT))), (1, .t (.sl 2 (ys.map whenT))), (2, .t (.clo 61 [])), (15, .t (.sl 2 (xs.map whenT))), (16, .t (.v (.int .i64 ((xs.map whenT).length : Int)))), (17, .t (.v (.int .i64 (k : Int))))], [], []⟩) (fun k => ∀ j (h1 : j < xs.length) (h2 : j < ys.length), j < k → whenB xs[j] ys[j] = true) xs.length (weak_sub (.cons rfl rfl rfl (.cons rfl rfl rfl (.cons rfl rfl rfl (.cons rfl rfl rfl (.cons rfl rfl rfl (.cons rfl rfl rfl .nil)))))) .nil .nil) (fun j _ _ h => by omega) ?_
    intro k hk hI
    by_cases hlt : k < xs.length
    · have hltb : k < ys.length := by omega
      have hr1 : (xs.map whenT)[k]? = some (whenT xs[k]) := map_at_some hlt
      have hr2 : (ys.map whenT)[k]? = some (whenT ys[k]) := map_at_some hltb
      have hlt2 : k < (xs.map whenT).length := by omega
      have hltb2 : k < (ys.map whenT).length := by omega
      have c1 := sameWhenG xs[k] ys[k] (b1 _ (List.getElem_mem hlt)) (b2 _ (List.getElem_mem hltb))
      cases hq : whenB xs[k] ys[k] with
      | true =>
        have hst : ∀ j (h1 : j < xs.length) (h2 : j < ys.length), j < k + 1 → whenB xs[j] ys[j] = true := fun j h1 h2 h => by
          by_cases e : j = k
          · subst e; exact hq
          · exact hI j h1 h2 (by omega)
        rw [hq] at c1
        generalize xs[k] = x at *
        generalize ys[k] = y at *
        repeat' (first | refine for_next hlt (weak_sub (.cons rfl rfl rfl (.cons rfl rfl rfl (.cons rfl rfl rfl (.cons rfl rfl rfl (.cons rfl rfl rfl (.cons rfl rfl rfl .nil)))))) .nil .nil) hst | (refine rg 4 ?_; refine oCm ?_; refine oN ?_) | (refine rg 5 ?_; refine oMv ?_; refine sp (pix rfl (tyS rfl)) ?_; (first | refine sp (po_load_bx_agg rfl rfl (tyT rfl) rfl (vc (vc .nil)) rfl) ?_ | refine sp (po_load_agg rfl rfl (tyT rfl) rfl rfl) ?_); refine sal str66 ?_; refine oAs ?_; refine oS ?_; refine oN ?_) | (refine rg 6 ?_; refine oMv ?_; refine oMv ?_; refine sp (pix rfl (tyS rfl)) ?_; (first | refine sp (po_load_bx_agg rfl rfl (tyT rfl) rfl (vc (vc .nil)) rfl) ?_ | refine sp (po_load_agg rfl rfl (tyT rfl) rfl rfl) ?_); refine sal str66 ?_; refine oS ?_; refine oN ?_) | (refine rg 7 ?_; refine oMv ?_; refine sp (po_load_bx_agg rfl rfl (tyT rfl) rfl (vc (vc .nil)) rfl) ?_; refine sp (po_load_bx_agg rfl rfl (tyT rfl) rfl (vc (vc .nil)) rfl) ?_; refine sp (po_call_clo rfl rfl (ac (ac .nil)) (c1)) ?_; refine sp (po_not rfl rfl) ?_; refine oN ?_) | (refine rg 9 ?_; refine sp (xinc rfl) ?_; refine oMv ?_; refine oN ?_) | refine gc ?_ | refine ct ?_ | refine cf ?_)
      | false =>
        have hr : all2 whenB xs ys = false := all2_no hlt hltb hq
        rw [hr]
        rw [hq] at c1
        generalize xs[k] = x at *
        generalize ys[k] = y at *
        repeat' (first | (refine rg 4 ?_; refine oCm ?_; refine oN ?_) | (refine rg 5 ?_; refine oMv ?_; refine sp (pix rfl (tyS rfl)) ?_; (first | refine sp (po_load_bx_agg rfl rfl (tyT rfl) rfl (vc (vc .nil)) rfl) ?_ | refine sp (po_load_agg rfl rfl (tyT rfl) rfl rfl) ?_); refine sal str66 ?_; refine oAs ?_; refine oS ?_; refine oN ?_) | (refine rg 6 ?_; refine oMv ?_; refine oMv ?_; refine sp (pix rfl (tyS rfl)) ?_; (first | refine sp (po_load_bx_agg rfl rfl (tyT rfl) rfl (vc (vc .nil)) rfl) ?_ | refine sp (po_load_agg rfl rfl (tyT rfl) rfl rfl) ?_); refine sal str66 ?_; refine oS ?_; refine oN ?_) | (refine rg 7 ?_; refine oMv ?_; refine sp (po_load_bx_agg rfl rfl (tyT rfl) rfl (vc (vc .nil)) rfl) ?_; refine sp (po_load_bx_agg rfl rfl (tyT rfl) rfl (vc (vc .nil)) rfl) ?_; refine sp (po_call_clo rfl rfl (ac (ac .nil)) (c1)) ?_; refine sp (po_not rfl rfl) ?_; refine oN ?_) | (refine rg 8 ?_; refine oAs ?_; refine oN ?_) | refine gc ?_ | refine ct ?_ | refine cf ?_ | refine swp_cond rfl (fun hc => ?_) (fun hc => ?_) | refine rq rfl (rt .nil) ?_)
        all_goals rfl
    · obtain rfl : k = xs.length := by omega
      have hr : all2 whenB xs ys = true := all2_yes hl fun j h1 h2 => hI j h1 h2 h1
      rw [hr]
      repeat' (first | (refine rg 4 ?_; refine oCm ?_; refine oN ?_) | (refine rg 10 ?_; refine oAs ?_; refine oN ?_) | refine gc ?_ | refine ct ?_ | refine cf ?_ | refine swp_cond rfl (fun hc => ?_) (fun hc => ?_) | refine rq rfl (rt .nil) ?_)
      all_goals rfl
  · have h0 : (!decide (((xs.map whenT).length : Int) = ((ys.map whenT).length : Int))) = true := by rw [hma, hmb, decide_eq_false (by omega)]; rfl
    have hr : all2 whenB xs ys = false := all2_len hl
    rw [hr]
    repeat' (first | (refine rg 0 ?_; refine oAs ?_; refine oN ?_) | (refine rg 1 ?_; refine oMv ?_; refine sp (pln rfl (tyS rfl)) ?_; refine oMv ?_; refine sp (pln rfl (tyS rfl)) ?_; refine oCm ?_; refine oN ?_) | (refine rg 2 ?_; refine oAs ?_; refine oN ?_) | refine gc ?_ | refine ct ?_ | refine cf ?_ | refine swp_cond rfl (fun hc => ?_) (fun hc => ?_) | refine rq rfl (rt .nil) ?_)
    all_goals rfl
set_option maxRecDepth 100000 in
set_option maxHeartbeats 2000000 in
theorem sameRuleG (x y : Pl.Rule) (h : FewR x) (g : FewR y) : PCalls Tryz.prog 48 [.agg (ruleT x), .agg (ruleT y)] (.v (.bool (ruleB x y))) := by
  have c0 := equalGSource x.from_ y.from_ h.f g.f h.fs g.fs
  have c1 := equalGTarget x.to_ y.to_ h.t g.t h.ts g.ts
  have c2 := equalGWhen x.when_ y.when_ h.w g.w h.ws g.ws
  refine pcalls_of Tryz.func48 rfl rfl Tryz.ntmps48 rfl ?_
  unfold ruleB
  cases k0 : all2 sourceB x.from_ y.from_ with
  | false =>
    rw [k0] at c0
    repeat' (first | (refine rg 0 ?_; refine sbx ?_; refine sbx ?_; refine oAs ?_; refine oN ?_) | (refine rg 1 ?_; refine oFb ?_; refine oLb ?_; refine oFb ?_; refine oLb ?_; refine oC (c0) rfl (ac (ac (ac .nil))) ?_; refine oMv ?_; (first | refine oFb ?_ | refine oFd ?_ | refine oK ?_) <;> (first | refine oLb ?_ | refine oLd ?_ | refine oK ?_) <;> (first | refine oFb ?_ | refine oFd ?_ | refine oK ?_) <;> (first | refine oLb ?_ | refine oLd ?_ | refine oK ?_) <;> (first | refine oC (c0) rfl (ac (ac (ac .nil))) ?_ | refine oC (c1) rfl (ac (ac (ac .nil))) ?_ | refine oC (c2) rfl (ac (ac (ac .nil))) ?_ | refine oK ?_) <;> (first | refine oPt ?_ | refine oPf ?_) <;> refine oMv ?_ <;> (first | refine oFb ?_ | refine oFd ?_ | refine oK ?_) <;> (first | refine oLb ?_ | refine oLd ?_ | refine oK ?_) <;> (first | refine oFb ?_ | refine oFd ?_ | refine oK ?_) <;> (first | refine oLb ?_ | refine oLd ?_ | refine oK ?_) <;> (first | refine oC (c0) rfl (ac (ac (ac .nil))) ?_ | refine oC (c1) rfl (ac (ac (ac .nil))) ?_ | refine oC (c2) rfl (ac (ac (ac .nil))) ?_ | refine oK ?_) <;> (first | refine oPt ?_ | refine oPf ?_) <;> refine oAs ?_ <;> refine oN ?_) | refine gc ?_ | refine ct ?_ | refine cf ?_ | refine swp_cond rfl (fun hc => ?_) (fun hc => ?_) | refine rq rfl (rt .nil) ?_)
    all_goals rfl
  | true =>
    rw [k0] at c0
    cases k1 : all2 targetB x.to_ y.to_ with
    | false =>
      rw [k1] at c1
      repeat' (first | (refine rg 0 ?_; refine sbx ?_; refine sbx ?_; refine oAs ?_; refine oN ?_) | (refine rg 1 ?_; refine oFb ?_; refine oLb ?_; refine oFb ?_; refine oLb ?_; refine oC (c0) rfl (ac (ac (ac .nil))) ?_; refine oMv ?_; refine oFb ?_ <;> refine oLb ?_ <;> refine oFb ?_ <;> refine oLb ?_ <;> (first | refine oC (c0) rfl (ac (ac (ac .nil))) ?_ | refine oC (c1) rfl (ac (ac (ac .nil))) ?_) <;> refine oPt ?_ <;> refine oMv ?_ <;> (first | refine oFb ?_ | refine oFd ?_ | refine oK ?_) <;> (first | refine oLb ?_ | refine oLd ?_ | refine oK ?_) <;> (first | refine oFb ?_ | refine oFd ?_ | refine oK ?_) <;> (first | refine oLb ?_ | refine oLd ?_ | refine oK ?_) <;> (first | refine oC (c0) rfl (ac (ac (ac .nil))) ?_ | refine oC (c1) rfl (ac (ac (ac .nil))) ?_ | refine oC (c2) rfl (ac (ac (ac .nil))) ?_ | refine oK ?_) <;> (first | refine oPt ?_ | refine oPf ?_) <;> refine oAs ?_ <;> refine oN ?_) | refine gc ?_ | refine ct ?_ | refine cf ?_ | refine swp_cond rfl (fun hc => ?_) (fun hc => ?_) | refine rq rfl (rt .nil) ?_)
      all_goals rfl
    | true =>
      rw [k1] at c1
      cases k2 : all2 whenB x.when_ y.when_ with
      | false =>
        rw [k2] at c2
        repeat' (first | (refine rg 0 ?_; refine sbx ?_; refine sbx ?_; refine oAs ?_; refine oN ?_) | (refine rg 1 ?_; refine oFb ?_; refine oLb ?_; refine oFb ?_; refine oLb ?_; refine oC (c0) rfl (ac (ac (ac .nil))) ?_; refine oMv ?_; refine oFb ?_ <;> refine oLb ?_ <;> refine oFb ?_ <;> refine oLb ?_ <;> (first | refine oC (c0) rfl (ac (ac (ac .nil))) ?_ | refine oC (c1) rfl (ac (ac (ac .nil))) ?_) <;> refine oPt ?_ <;> refine oMv ?_ <;> refine oFb ?_ <;> refine oLb ?_ <;> refine oFb ?_ <;> refine oLb ?_ <;> (first | refine oC (c0) rfl (ac (ac (ac .nil))) ?_ | refine oC (c1) rfl (ac (ac (ac .nil))) ?_ | refine oC (c2) rfl (ac (ac (ac .nil))) ?_) <;> refine oPt ?_ <;> refine oAs ?_ <;> refine oN ?_) | refine gc ?_ | refine ct ?_ | refine cf ?_ | refine swp_cond rfl (fun hc => ?_) (fun hc => ?_) | refine rq rfl (rt .nil) ?_)
        all_goals rfl
      | true =>
        rw [k2] at c2
        repeat' (first | (refine rg 0 ?_; refine sbx ?_; refine sbx ?_; refine oAs ?_; refine oN ?_) | (refine rg 1 ?_; refine oFb ?_; refine oLb ?_; refine oFb ?_; refine oLb ?_; refine oC (c0) rfl (ac (ac (ac .nil))) ?_; refine oMv ?_; refine oFb ?_ <;> refine oLb ?_ <;> refine oFb ?_ <;> refine oLb ?_ <;> (first | refine oC (c0) rfl (ac (ac (ac .nil))) ?_ | refine oC (c1) rfl (ac (ac (ac .nil))) ?_) <;> refine oPt ?_ <;> refine oMv ?_ <;> refine oFb ?_ <;> refine oLb ?_ <;> refine oFb ?_ <;> refine oLb ?_ <;> (first | refine oC (c0) rfl (ac (ac (ac .nil))) ?_ | refine oC (c1) rfl (ac (ac (ac .nil))) ?_ | refine oC (c2) rfl (ac (ac (ac .nil))) ?_) <;> refine oPt ?_ <;> refine oAs ?_ <;> refine oN ?_) | refine gc ?_ | refine ct ?_ | refine cf ?_ | refine swp_cond rfl (fun hc => ?_) (fun hc => ?_) | refine rq rfl (rt .nil) ?_)
        all_goals rfl
set_option maxRecDepth 100000 in
set_option maxHeartbeats 2000000 in
theorem equalGRule (xs ys : List Pl.Rule) (hx : xs.length ≤ 1000) (hy : ys.length ≤ 1000) (b1 : ∀ s ∈ xs, FewR s) (b2 : ∀ s ∈ ys, FewR s) : PCalls Tryz.prog 47 [.sl 3 (xs.map ruleT), .sl 3 (ys.map ruleT), .clo 48 []] (.v (.bool (all2 ruleB xs ys))) := by
  have hma : (xs.map ruleT).length = xs.length := List.length_map _
  have hmb : (ys.map ruleT).length = ys.length := List.length_map _
  refine pcalls_of Tryz.func47 rfl rfl Tryz.ntmps47 rfl ?_
  by_cases hl : xs.length = ys.length
  · have h0 : (!decide (((xs.map ruleT).length : Int) = ((ys.map ruleT).length : Int))) = false := by rw [hma, hmb, hl]; simp
    repeat' (first | (refine rg 0 ?_; refine oAs ?_; refine oN ?_) | (refine rg 1 ?_; refine oMv ?_; refine sp (pln rfl (tyS rfl)) ?_; refine oMv ?_; refine sp (pln rfl (tyS rfl)) ?_; refine oCm ?_; refine oN ?_) | (refine rg 3 ?_; refine oMv ?_; refine sp (pln rfl (tyS rfl)) ?_; refine oMv ?_; refine oN ?_) | refine gc ?_ | refine ct ?_ | refine cf ?_ | refine swp_cond rfl (fun hc => ?_) (fun hc => ?_) | refine rq rfl (rt .nil) ?_)
    refine swp_for (fun k => ⟨[(0, .t (.sl 3 (xs.map ruleT))), (1, .t (.sl 3 (ys.map ruleT))), (2, .t (.clo 48 [])), (15, .t (.sl 3 (xs.map ruleT))), (16, .t (.v (.int .i64 ((xs.map ruleT).length : Int)))), (17, .t (.v (.int .i64 (k : Int))))], [], []⟩) (fun k => ∀ j (h1 : j < xs.length) (h2 : j < ys.length), j < k → ruleB xs[j] ys[j] = true) xs.length (weak_sub (.cons rfl rfl rfl (.cons rfl rfl rfl (.cons rfl rfl rfl (.cons rfl rfl rfl (.cons rfl rfl rfl (.cons rfl rfl rfl .nil)))))) .nil .nil) (fun j _ _ h => by omega) ?_
    intro k hk hI
    by_cases hlt : k < xs.length
    · have hltb : k < ys.length := by omega
      have hr1 : (xs.map ruleT)[k]? = some (ruleT xs[k]) := map_at_some hlt
      have hr2 : (ys.map ruleT)[k]? = some (ruleT ys[k]) := map_at_some hltb
      have hlt2 : k < (xs.map ruleT).length := by omega
      have hltb2 : k < (ys.map ruleT).length := by omega
      have c1 := sameRuleG xs[k] ys[k] (b1 _ (List.getElem_mem hlt)) (b2 _ (List.getElem_mem hltb))
      cases hq : ruleB xs[k] ys[k] with
      | true =>
        have hst : ∀ j (h1 : j < xs.length) (h2 : j < ys.length), j < k + 1 → ruleB xs[j] ys[j] = true := fun j h1 h2 h => by
          by_cases e : j = k
          · subst e; exact hq
          · exact hI j h1 h2 (by omega)
        rw [hq] at c1
        generalize xs[k] = x at *
        generalize ys[k] = y at *
        repeat' (first | refine for_next hlt (weak_sub (.cons rfl rfl rfl (.cons rfl rfl rfl (.cons rfl rfl rfl (.cons rfl rfl rfl (.cons rfl rfl rfl (.cons rfl rfl rfl .nil)))))) .nil .nil) hst | (refine rg 4 ?_; refine oCm ?_; refine oN ?_) | (refine rg 5 ?_; refine oMv ?_; refine sp (pix rfl (tyS rfl)) ?_; (first | refine sp (po_load_bx_agg rfl rfl (tyT rfl) rfl (vc (vc (vc .nil))) rfl) ?_ | refine sp (po_load_agg rfl rfl (tyT rfl) rfl rfl) ?_); refine sal str27 ?_; refine oAs ?_; refine oS ?_; refine oN ?_) | (refine rg 6 ?_; refine oMv ?_; refine oMv ?_; refine sp (pix rfl (tyS rfl)) ?_; (first | refine sp (po_load_bx_agg rfl rfl (tyT rfl) rfl (vc (vc (vc .nil))) rfl) ?_ | refine sp (po_load_agg rfl rfl (tyT rfl) rfl rfl) ?_); refine sal str27 ?_; refine oS ?_; refine oN ?_) | (refine rg 7 ?_; refine oMv ?_; (refine sp (po_load_bx_agg rfl rfl (tyT rfl) rfl (vc (vc (vc .nil))) rfl) ?_); (refine sp (po_load_bx_agg rfl rfl (tyT rfl) rfl (vc (vc (vc .nil))) rfl) ?_); refine sp (po_call_clo rfl rfl (ac (ac .nil)) (c1)) ?_; refine sp (po_not rfl rfl) ?_; refine oN ?_) | (refine rg 9 ?_; refine sp (xinc rfl) ?_; refine oMv ?_; refine oN ?_) | refine gc ?_ | refine ct ?_ | refine cf ?_)
      | false =>
        have hr : all2 ruleB xs ys = false := all2_no hlt hltb hq
        rw [hr]
        rw [hq] at c1
        generalize xs[k] = x at *
        generalize ys[k] = y at *
        repeat' (first | (refine rg 4 ?_; refine oCm ?_; refine oN ?_) | (refine rg 5 ?_; refine oMv ?_; refine sp (pix rfl (tyS rfl)) ?_; (first | refine sp (po_load_bx_agg rfl rfl (tyT rfl) rfl (vc (vc (vc .nil))) rfl) ?_ | refine sp (po_load_agg rfl rfl (tyT rfl) rfl rfl) ?_); refine sal str27 ?_; refine oAs ?_; refine oS ?_; refine oN ?_) | (refine rg 6 ?_; refine oMv ?_; refine oMv ?_; refine sp (pix rfl (tyS rfl)) ?_; (first | refine sp (po_load_bx_agg rfl rfl (tyT rfl) rfl (vc (vc (vc .nil))) rfl) ?_ | refine sp (po_load_agg rfl rfl (tyT rfl) rfl rfl) ?_); refine sal str27 ?_; refine oS ?_; refine oN ?_) | (refine rg 7 ?_; refine oMv ?_; (refine sp (po_load_bx_agg rfl rfl (tyT rfl) rfl (vc (vc (vc .nil))) rfl) ?_); (refine sp (po_load_bx_agg rfl rfl (tyT rfl) rfl (vc (vc (vc .nil))) rfl) ?_); refine sp (po_call_clo rfl rfl (ac (ac .nil)) (c1)) ?_; refine sp (po_not rfl rfl) ?_; refine oN ?_) | (refine rg 8 ?_; refine oAs ?_; refine oN ?_) | refine gc ?_ | refine ct ?_ | refine cf ?_ | refine swp_cond rfl (fun hc => ?_) (fun hc => ?_) | refine rq rfl (rt .nil) ?_)
        all_goals rfl
    · obtain rfl : k = xs.length := by omega
      have hr : all2 ruleB xs ys = true := all2_yes hl fun j h1 h2 => hI j h1 h2 h1
      rw [hr]
      repeat' (first | (refine rg 4 ?_; refine oCm ?_; refine oN ?_) | (refine rg 10 ?_; refine oAs ?_; refine oN ?_) | refine gc ?_ | refine ct ?_ | refine cf ?_ | refine swp_cond rfl (fun hc => ?_) (fun hc => ?_) | refine rq rfl (rt .nil) ?_)
      all_goals rfl
  · have h0 : (!decide (((xs.map ruleT).length : Int) = ((ys.map ruleT).length : Int))) = true := by rw [hma, hmb, decide_eq_false (by omega)]; rfl
    have hr : all2 ruleB xs ys = false := all2_len hl
    rw [hr]
    repeat' (first | (refine rg 0 ?_; refine oAs ?_; refine oN ?_) | (refine rg 1 ?_; refine oMv ?_; refine sp (pln rfl (tyS rfl)) ?_; refine oMv ?_; refine sp (pln rfl (tyS rfl)) ?_; refine oCm ?_; refine oN ?_) | (refine rg 2 ?_; refine oAs ?_; refine oN ?_) | refine gc ?_ | refine ct ?_ | refine cf ?_ | refine swp_cond rfl (fun hc => ?_) (fun hc => ?_) | refine rq rfl (rt .nil) ?_)
    all_goals rfl
set_option maxRecDepth 100000 in
set_option maxHeartbeats 2000000 in
theorem samePolG (x y : Pl.Policy) (h : FewP x) (g : FewP y) : PCalls Tryz.prog 37 [.agg (polT x), .agg (polT y)] (.v (.bool (polB x y))) := by
  have c0 := equalGRule x.rules y.rules h.n g.n h.r g.r
  refine pcalls_of Tryz.func37 rfl rfl Tryz.ntmps37 rfl ?_
  unfold polB
  cases k0 : decide (x.id = y.id) with
  | false =>
    repeat' (first | (refine rg 0 ?_; refine sbx ?_; refine sbx ?_; refine oAs ?_; refine oN ?_) | (refine rg 1 ?_; refine oFb ?_; refine oLb ?_; refine oFb ?_; refine oLb ?_; refine oCm ?_; refine oMv ?_; (first | refine oFb ?_ | refine oFd ?_ | refine oK ?_) <;> (first | refine oLb ?_ | refine oLd ?_ | refine oK ?_) <;> (first | refine oFb ?_ | refine oFd ?_ | refine oK ?_) <;> (first | refine oLb ?_ | refine oLd ?_ | refine oK ?_) <;> (first | refine sp (po_str rfl rfl rfl rfl) ?_ | refine oK ?_) <;> (first | refine oPt ?_ | refine oPf ?_) <;> refine oMv ?_ <;> (first | refine oFb ?_ | refine oFd ?_ | refine oK ?_) <;> (first | refine oLb ?_ | refine oLd ?_ | refine oK ?_) <;> (first | refine oFb ?_ | refine oFd ?_ | refine oK ?_) <;> (first | refine oLb ?_ | refine oLd ?_ | refine oK ?_) <;> (first | refine oCm ?_ | refine oK ?_) <;> (first | refine oPt ?_ | refine oPf ?_) <;> refine oMv ?_ <;> (first | refine oFb ?_ | refine oFd ?_ | refine oK ?_) <;> (first | refine oLb ?_ | refine oLd ?_ | refine oK ?_) <;> (first | refine oFb ?_ | refine oFd ?_ | refine oK ?_) <;> (first | refine oLb ?_ | refine oLd ?_ | refine oK ?_) <;> (first | refine oCm ?_ | refine oK ?_) <;> (first | refine oPt ?_ | refine oPf ?_) <;> refine oMv ?_ <;> (first | refine oFb ?_ | refine oFd ?_ | refine oK ?_) <;> (first | refine oLb ?_ | refine oLd ?_ | refine oK ?_) <;> (first | refine oFb ?_ | refine oFd ?_ | refine oK ?_) <;> (first | refine oLb ?_ | refine oLd ?_ | refine oK ?_) <;> (first | refine oC (c0) rfl (ac (ac (ac .nil))) ?_ | refine oK ?_) <;> (first | refine oPt ?_ | refine oPf ?_) <;> refine oAs ?_ <;> refine oN ?_) | refine gc ?_ | refine ct ?_ | refine cf ?_ | refine swp_cond rfl (fun hc => ?_) (fun hc => ?_) | refine rq rfl (rt .nil) ?_)
    all_goals rfl
  | true =>
    cases k1 : decide (x.ns = y.ns) with
    | false =>
      repeat' (first | (refine rg 0 ?_; refine sbx ?_; refine sbx ?_; refine oAs ?_; refine oN ?_) | (refine rg 1 ?_; refine oFb ?_; refine oLb ?_; refine oFb ?_; refine oLb ?_; refine oCm ?_; refine oMv ?_; refine oFb ?_ <;> refine oLb ?_ <;> refine oFb ?_ <;> refine oLb ?_ <;> refine sp (po_str rfl rfl rfl rfl) ?_ <;> refine oPt ?_ <;> refine oMv ?_ <;> (first | refine oFb ?_ | refine oFd ?_ | refine oK ?_) <;> (first | refine oLb ?_ | refine oLd ?_ | refine oK ?_) <;> (first | refine oFb ?_ | refine oFd ?_ | refine oK ?_) <;> (first | refine oLb ?_ | refine oLd ?_ | refine oK ?_) <;> (first | refine oCm ?_ | refine oK ?_) <;> (first | refine oPt ?_ | refine oPf ?_) <;> refine oMv ?_ <;> (first | refine oFb ?_ | refine oFd ?_ | refine oK ?_) <;> (first | refine oLb ?_ | refine oLd ?_ | refine oK ?_) <;> (first | refine oFb ?_ | refine oFd ?_ | refine oK ?_) <;> (first | refine oLb ?_ | refine oLd ?_ | refine oK ?_) <;> (first | refine oCm ?_ | refine oK ?_) <;> (first | refine oPt ?_ | refine oPf ?_) <;> refine oMv ?_ <;> (first | refine oFb ?_ | refine oFd ?_ | refine oK ?_) <;> (first | refine oLb ?_ | refine oLd ?_ | refine oK ?_) <;> (first | refine oFb ?_ | refine oFd ?_ | refine oK ?_) <;> (first | refine oLb ?_ | refine oLd ?_ | refine oK ?_) <;> (first | refine oC (c0) rfl (ac (ac (ac .nil))) ?_ | refine oK ?_) <;> (first | refine oPt ?_ | refine oPf ?_) <;> refine oAs ?_ <;> refine oN ?_) | refine gc ?_ | refine ct ?_ | refine cf ?_ | refine swp_cond rfl (fun hc => ?_) (fun hc => ?_) | refine rq rfl (rt .nil) ?_)
      all_goals rfl
    | true =>
      cases k2 : decide (x.service = y.service) with
      | false =>
        repeat' (first | (refine rg 0 ?_; refine sbx ?_; refine sbx ?_; refine oAs ?_; refine oN ?_) | (refine rg 1 ?_; refine oFb ?_; refine oLb ?_; refine oFb ?_; refine oLb ?_; refine oCm ?_; refine oMv ?_; refine oFb ?_ <;> refine oLb ?_ <;> refine oFb ?_ <;> refine oLb ?_ <;> refine sp (po_str rfl rfl rfl rfl) ?_ <;> refine oPt ?_ <;> refine oMv ?_ <;> refine oFb ?_ <;> refine oLb ?_ <;> refine oFb ?_ <;> refine oLb ?_ <;> refine oCm ?_ <;> refine oPt ?_ <;> refine oMv ?_ <;> (first | refine oFb ?_ | refine oFd ?_ | refine oK ?_) <;> (first | refine oLb ?_ | refine oLd ?_ | refine oK ?_) <;> (first | refine oFb ?_ | refine oFd ?_ | refine oK ?_) <;> (first | refine oLb ?_ | refine oLd ?_ | refine oK ?_) <;> (first | refine oCm ?_ | refine oK ?_) <;> (first | refine oPt ?_ | refine oPf ?_) <;> refine oMv ?_ <;> (first | refine oFb ?_ | refine oFd ?_ | refine oK ?_) <;> (first | refine oLb ?_ | refine oLd ?_ | refine oK ?_) <;> (first | refine oFb ?_ | refine oFd ?_ | refine oK ?_) <;> (first | refine oLb ?_ | refine oLd ?_ | refine oK ?_) <;> (first | refine oC (c0) rfl (ac (ac (ac .nil))) ?_ | refine oK ?_) <;> (first | refine oPt ?_ | refine oPf ?_) <;> refine oAs ?_ <;> refine oN ?_) | refine gc ?_ | refine ct ?_ | refine cf ?_ | refine swp_cond rfl (fun hc => ?_) (fun hc => ?_) | refine rq rfl (rt .nil) ?_)
        all_goals rfl
      | true =>
        cases k3 : decide (x.deny = y.deny) with
        | false =>
          repeat' (first | (refine rg 0 ?_; refine sbx ?_; refine sbx ?_; refine oAs ?_; refine oN ?_) | (refine rg 1 ?_; refine oFb ?_; refine oLb ?_; refine oFb ?_; refine oLb ?_; refine oCm ?_; refine oMv ?_; refine oFb ?_ <;> refine oLb ?_ <;> refine oFb ?_ <;> refine oLb ?_ <;> refine sp (po_str rfl rfl rfl rfl) ?_ <;> refine oPt ?_ <;> refine oMv ?_ <;> refine oFb ?_ <;> refine oLb ?_ <;> refine oFb ?_ <;> refine oLb ?_ <;> refine oCm ?_ <;> refine oPt ?_ <;> refine oMv ?_ <;> refine oFb ?_ <;> refine oLb ?_ <;> refine oFb ?_ <;> refine oLb ?_ <;> refine oCm ?_ <;> refine oPt ?_ <;> refine oMv ?_ <;> (first | refine oFb ?_ | refine oFd ?_ | refine oK ?_) <;> (first | refine oLb ?_ | refine oLd ?_ | refine oK ?_) <;> (first | refine oFb ?_ | refine oFd ?_ | refine oK ?_) <;> (first | refine oLb ?_ | refine oLd ?_ | refine oK ?_) <;> (first | refine oC (c0) rfl (ac (ac (ac .nil))) ?_ | refine oK ?_) <;> (first | refine oPt ?_ | refine oPf ?_) <;> refine oAs ?_ <;> refine oN ?_) | refine gc ?_ | refine ct ?_ | refine cf ?_ | refine swp_cond rfl (fun hc => ?_) (fun hc => ?_) | refine rq rfl (rt .nil) ?_)
          all_goals rfl
        | true =>
          cases k4 : all2 ruleB x.rules y.rules with
          | false =>
            rw [k4] at c0
            repeat' (first | (refine rg 0 ?_; refine sbx ?_; refine sbx ?_; refine oAs ?_; refine oN ?_) | (refine rg 1 ?_; refine oFb ?_; refine oLb ?_; refine oFb ?_; refine oLb ?_; refine oCm ?_; refine oMv ?_; refine oFb ?_ <;> refine oLb ?_ <;> refine oFb ?_ <;> refine oLb ?_ <;> refine sp (po_str rfl rfl rfl rfl) ?_ <;> refine oPt ?_ <;> refine oMv ?_ <;> refine oFb ?_ <;> refine oLb ?_ <;> refine oFb ?_ <;> refine oLb ?_ <;> refine oCm ?_ <;> refine oPt ?_ <;> refine oMv ?_ <;> refine oFb ?_ <;> refine oLb ?_ <;> refine oFb ?_ <;> refine oLb ?_ <;> refine oCm ?_ <;> refine oPt ?_ <;> refine oMv ?_ <;> refine oFb ?_ <;> refine oLb ?_ <;> refine oFb ?_ <;> refine oLb ?_ <;> refine oC (c0) rfl (ac (ac (ac .nil))) ?_ <;> refine oPt ?_ <;> refine oAs ?_ <;> refine oN ?_) | refine gc ?_ | refine ct ?_ | refine cf ?_ | refine swp_cond rfl (fun hc => ?_) (fun hc => ?_) | refine rq rfl (rt .nil) ?_)
            all_goals rfl
          | true =>
            rw [k4] at c0
            repeat' (first | (refine rg 0 ?_; refine sbx ?_; refine sbx ?_; refine oAs ?_; refine oN ?_) | (refine rg 1 ?_; refine oFb ?_; refine oLb ?_; refine oFb ?_; refine oLb ?_; refine oCm ?_; refine oMv ?_; refine oFb ?_ <;> refine oLb ?_ <;> refine oFb ?_ <;> refine oLb ?_ <;> refine sp (po_str rfl rfl rfl rfl) ?_ <;> refine oPt ?_ <;> refine oMv ?_ <;> refine oFb ?_ <;> refine oLb ?_ <;> refine oFb ?_ <;> refine oLb ?_ <;> refine oCm ?_ <;> refine oPt ?_ <;> refine oMv ?_ <;> refine oFb ?_ <;> refine oLb ?_ <;> refine oFb ?_ <;> refine oLb ?_ <;> refine oCm ?_ <;> refine oPt ?_ <;> refine oMv ?_ <;> refine oFb ?_ <;> refine oLb ?_ <;> refine oFb ?_ <;> refine oLb ?_ <;> refine oC (c0) rfl (ac (ac (ac .nil))) ?_ <;> refine oPt ?_ <;> refine oAs ?_ <;> refine oN ?_) | refine gc ?_ | refine ct ?_ | refine cf ?_ | refine swp_cond rfl (fun hc => ?_) (fun hc => ?_) | refine rq rfl (rt .nil) ?_)
            all_goals rfl
set_option maxRecDepth 100000 in
set_option maxHeartbeats 2000000 in
theorem equalGPolicy (xs ys : List Pl.Policy) (hx : xs.length ≤ 1000) (hy : ys.length ≤ 1000) (b1 : ∀ s ∈ xs, FewP s) (b2 : ∀ s ∈ ys, FewP s) : PCalls Tryz.prog 36 [.sl 5 (xs.map polT), .sl 5 (ys.map polT), .clo 37 []] (.v (.bool (all2 polB xs ys))) := by
  have hma : (xs.map polT).length = xs.length := List.length_map _
  have hmb : (ys.map polT).length = ys.length := List.length_map _
  refine pcalls_of Tryz.func36 rfl rfl Tryz.ntmps36 rfl ?_
  by_cases hl : xs.length = ys.length
  · have h0 : (!decide (((xs.map polT).length : Int) = ((ys.map polT).length : Int))) = false := by rw [hma, hmb, hl]; simp
    repeat' (first | (refine rg 0 ?_; refine oAs ?_; refine oN ?_) | (refine rg 1 ?_; refine oMv ?_; refine sp (pln rfl (tyS rfl)) ?_; refine oMv ?_; refine sp (pln rfl (tyS rfl)) ?_; refine oCm ?_; refine oN ?_) | (refine rg 3 ?_; refine oMv ?_; refine sp (pln rfl (tyS rfl)) ?_; refine oMv ?_; refine oN ?_) | refine gc ?_ | refine ct ?_ | refine cf ?_ | refine swp_cond rfl (fun hc => ?_) (fun hc => ?_) | refine rq rfl (rt .nil) ?_)
    refine swp_for (fun k => ⟨[(0, .t (.sl 5 (xs.map polT))), (1, .t (.sl 5 (ys.map polT))), (2, .t (.clo 37 [])), (15, .t (.sl 5 (xs.map polT))), (16, .t (.v (.int .i64 ((xs.map polT).length : Int)))), (17, .t (.v (.int .i64 (k : Int))))], [], []⟩) (fun k => ∀ j (h1 : j < xs.length) (h2 : j < ys.length), j < k → polB xs[j] ys[j] = true) xs.length (weak_sub (.cons rfl rfl rfl (.cons rfl rfl rfl (.cons rfl rfl rfl (.cons rfl rfl rfl (.cons rfl rfl rfl (.cons rfl rfl rfl .nil)))))) .nil .nil) (fun j _ _ h => by omega) ?_
    intro k hk hI
    by_cases hlt : k < xs.length
    · have hltb : k < ys.length := by omega
      have hr1 : (xs.map polT)[k]? = some (polT xs[k]) := map_at_some hlt
      have hr2 : (ys.map polT)[k]? = some (polT ys[k]) := map_at_some hltb
      have hlt2 : k < (xs.map polT).length := by omega
      have hltb2 : k < (ys.map polT).length := by omega
      have c1 := samePolG xs[k] ys[k] (b1 _ (List.getElem_mem hlt)) (b2 _ (List.getElem_mem hltb))
      cases hq : polB xs[k] ys[k] with
      | true =>
        have hst : ∀ j (h1 : j < xs.length) (h2 : j < ys.length), j < k + 1 → polB xs[j] ys[j] = true := fun j h1 h2 h => by
          by_cases e : j = k
          · subst e; exact hq
          · exact hI j h1 h2 (by omega)
        rw [hq] at c1
        generalize xs[k] = x at *
        generalize ys[k] = y at *
        repeat' (first | refine for_next hlt (weak_sub (.cons rfl rfl rfl (.cons rfl rfl rfl (.cons rfl rfl rfl (.cons rfl rfl rfl (.cons rfl rfl rfl (.cons rfl rfl rfl .nil)))))) .nil .nil) hst | (refine rg 4 ?_; refine oCm ?_; refine oN ?_) | (refine rg 5 ?_; refine oMv ?_; refine sp (pix rfl (tyS rfl)) ?_; (first | refine sp (po_load_bx_agg rfl rfl (tyT rfl) rfl (vc (vc (vc (vc (vc .nil))))) rfl) ?_ | refine sp (po_load_agg rfl rfl (tyT rfl) rfl rfl) ?_); refine sal str43 ?_; refine oAs ?_; refine oS ?_; refine oN ?_) | (refine rg 6 ?_; refine oMv ?_; refine oMv ?_; refine sp (pix rfl (tyS rfl)) ?_; (first | refine sp (po_load_bx_agg rfl rfl (tyT rfl) rfl (vc (vc (vc (vc (vc .nil))))) rfl) ?_ | refine sp (po_load_agg rfl rfl (tyT rfl) rfl rfl) ?_); refine sal str43 ?_; refine oS ?_; refine oN ?_) | (refine rg 7 ?_; refine oMv ?_; (refine sp (po_load_bx_agg rfl rfl (tyT rfl) rfl (vc (vc (vc (vc (vc .nil))))) rfl) ?_); (refine sp (po_load_bx_agg rfl rfl (tyT rfl) rfl (vc (vc (vc (vc (vc .nil))))) rfl) ?_); refine sp (po_call_clo rfl rfl (ac (ac .nil)) (c1)) ?_; refine sp (po_not rfl rfl) ?_; refine oN ?_) | (refine rg 9 ?_; refine sp (xinc rfl) ?_; refine oMv ?_; refine oN ?_) | refine gc ?_ | refine ct ?_ | refine cf ?_)
      | false =>
        have hr : all2 polB xs ys = false := all2_no hlt hltb hq
        rw [hr]
        rw [hq] at c1
        generalize xs[k] = x at *
        generalize ys[k] = y at *
        repeat' (first | (refine rg 4 ?_; refine oCm ?_; refine oN ?_) | (refine rg 5 ?_; refine oMv ?_; refine sp (pix rfl (tyS rfl)) ?_; (first | refine sp (po_load_bx_agg rfl rfl (tyT rfl) rfl (vc (vc (vc (vc (vc .nil))))) rfl) ?_ | refine sp (po_load_agg rfl rfl (tyT rfl) rfl rfl) ?_); refine sal str43 ?_; refine oAs ?_; refine oS ?_; refine oN ?_) | (refine rg 6 ?_; refine oMv ?_; refine oMv ?_; refine sp (pix rfl (tyS rfl)) ?_; (first | refine sp (po_load_bx_agg rfl rfl (tyT rfl) rfl (vc (vc (vc (vc (vc .nil))))) rfl) ?_ | refine sp (po_load_agg rfl rfl (tyT rfl) rfl rfl) ?_); refine sal str43 ?_; refine oS ?_; refine oN ?_) | (refine rg 7 ?_; refine oMv ?_; (refine sp (po_load_bx_agg rfl rfl (tyT rfl) rfl (vc (vc (vc (vc (vc .nil))))) rfl) ?_); (refine sp (po_load_bx_agg rfl rfl (tyT rfl) rfl (vc (vc (vc (vc (vc .nil))))) rfl) ?_); refine sp (po_call_clo rfl rfl (ac (ac .nil)) (c1)) ?_; refine sp (po_not rfl rfl) ?_; refine oN ?_) | (refine rg 8 ?_; refine oAs ?_; refine oN ?_) | refine gc ?_ | refine ct ?_ | refine cf ?_ | refine swp_cond rfl (fun hc => ?_) (fun hc => ?_) | refine rq rfl (rt .nil) ?_)
        all_goals rfl
    · obtain rfl : k = xs.length := by omega
      have hr : all2 polB xs ys = true := all2_yes hl fun j h1 h2 => hI j h1 h2 h1
      rw [hr]
      repeat' (first | (refine rg 4 ?_; refine oCm ?_; refine oN ?_) | (refine rg 10 ?_; refine oAs ?_; refine oN ?_) | refine gc ?_ | refine ct ?_ | refine cf ?_ | refine swp_cond rfl (fun hc => ?_) (fun hc => ?_) | refine rq rfl (rt .nil) ?_)
      all_goals rfl
  · have h0 : (!decide (((xs.map polT).length : Int) = ((ys.map polT).length : Int))) = true := by rw [hma, hmb, decide_eq_false (by omega)]; rfl
    have hr : all2 polB xs ys = false := all2_len hl
    rw [hr]
    repeat' (first | (refine rg 0 ?_; refine oAs ?_; refine oN ?_) | (refine rg 1 ?_; refine oMv ?_; refine sp (pln rfl (tyS rfl)) ?_; refine oMv ?_; refine sp (pln rfl (tyS rfl)) ?_; refine oCm ?_; refine oN ?_) | (refine rg 2 ?_; refine oAs ?_; refine oN ?_) | refine gc ?_ | refine ct ?_ | refine cf ?_ | refine swp_cond rfl (fun hc => ?_) (fun hc => ?_) | refine rq rfl (rt .nil) ?_)
    all_goals rfl
set_option maxRecDepth 100000 in
set_option maxHeartbeats 2000000 in
theorem sameTabG (l m : List Pl.Policy) (a b : Int) (hl : l.length ≤ 1000) (hm : m.length ≤ 1000) (h : ∀ p ∈ l, FewP p) (g : ∀ p ∈ m, FewP p) : PCalls Tryz.prog 16 [.agg [.sl 5 (l.map polT), .v (.int .i64 a)], .agg [.sl 5 (m.map polT), .v (.int .i64 b)]] (.v (.bool (tabB l a m b))) := by
  have c0 := equalGPolicy l m hl hm h g
  refine pcalls_of Tryz.func16 rfl rfl Tryz.ntmps16 rfl ?_
  unfold tabB
  cases k0 : decide (a = b) with
  | false =>
    repeat' (first | (refine rg 0 ?_; refine sbx ?_; refine sbx ?_; refine oAs ?_; refine oN ?_) | (refine rg 1 ?_; refine oFb ?_; refine oLb ?_; refine oFb ?_; refine oLb ?_; refine oCm ?_; refine oMv ?_; (first | refine oFb ?_ | refine oFd ?_ | refine oK ?_) <;> (first | refine oLb ?_ | refine oLd ?_ | refine oK ?_) <;> (first | refine oFb ?_ | refine oFd ?_ | refine oK ?_) <;> (first | refine oLb ?_ | refine oLd ?_ | refine oK ?_) <;> (first | refine oC (c0) rfl (ac (ac (ac .nil))) ?_ | refine oK ?_) <;> (first | refine oPt ?_ | refine oPf ?_) <;> refine oAs ?_ <;> refine oN ?_) | refine gc ?_ | refine ct ?_ | refine cf ?_ | refine swp_cond rfl (fun hc => ?_) (fun hc => ?_) | refine rq rfl (rt .nil) ?_)
    all_goals rfl
  | true =>
    cases k1 : all2 polB l m with
    | false =>
      rw [k1] at c0
      repeat' (first | (refine rg 0 ?_; refine sbx ?_; refine sbx ?_; refine oAs ?_; refine oN ?_) | (refine rg 1 ?_; refine oFb ?_; refine oLb ?_; refine oFb ?_; refine oLb ?_; refine oCm ?_; refine oMv ?_; refine oFb ?_ <;> refine oLb ?_ <;> refine oFb ?_ <;> refine oLb ?_ <;> refine oC (c0) rfl (ac (ac (ac .nil))) ?_ <;> refine oPt ?_ <;> refine oAs ?_ <;> refine oN ?_) | refine gc ?_ | refine ct ?_ | refine cf ?_ | refine swp_cond rfl (fun hc => ?_) (fun hc => ?_) | refine rq rfl (rt .nil) ?_)
      all_goals rfl
    | true =>
      rw [k1] at c0
      repeat' (first | (refine rg 0 ?_; refine sbx ?_; refine sbx ?_; refine oAs ?_; refine oN ?_) | (refine rg 1 ?_; refine oFb ?_; refine oLb ?_; refine oFb ?_; refine oLb ?_; refine oCm ?_; refine oMv ?_; refine oFb ?_ <;> refine oLb ?_ <;> refine oFb ?_ <;> refine oLb ?_ <;> refine oC (c0) rfl (ac (ac (ac .nil))) ?_ <;> refine oPt ?_ <;> refine oAs ?_ <;> refine oN ?_) | refine gc ?_ | refine ct ?_ | refine cf ?_ | refine swp_cond rfl (fun hc => ?_) (fun hc => ?_) | refine rq rfl (rt .nil) ?_)
      all_goals rfl
end Go.Proofs.YtnclifgiakmmoaaGreat.Pol
