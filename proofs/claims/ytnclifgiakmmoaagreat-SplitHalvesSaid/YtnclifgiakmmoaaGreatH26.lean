/- Merged by bundles.py: SimSq4. -/
import Derived.Test.YtnclifgiakmmoaaGreatH25
import Derived.Test.YtnclifgiakmmoaaGreatH13
/- The document's comparing of rules, policies, tables; any two. (Printed by mk_sq4.py.) -/
namespace Go.Proofs.YtnclifgiakmmoaaGreat.Pol
set_option linter.unusedVariables false
set_option linter.unusedSimpArgs false
open Go.RowKit Mem Sim Opn
set_option maxRecDepth 100000 in
set_option maxHeartbeats 2000000 in
theorem termsG (xs ys : List Pl.Term) (hx : xs.length ≤ 1000) (hy : ys.length ≤ 1000) : PCalls Tryz.prog 31 [.sl 2 (xs.map termT), .sl 2 (ys.map termT)] (.v (.bool (all2 termB xs ys))) := by
  have hma : (xs.map termT).length = xs.length := List.length_map _
  have hmb : (ys.map termT).length = ys.length := List.length_map _
  refine pcalls_of Tryz.func31 rfl rfl Tryz.ntmps31 rfl ?_
  by_cases hl : xs.length = ys.length
  · have h0 : (!decide (((xs.map termT).length : Int) = ((ys.map termT).length : Int))) = false := by rw [hma, hmb, hl]; simp
    repeat' (first | (refine rg 0 ?_; refine oAs ?_; refine oN ?_) | (refine rg 1 ?_; refine oMv ?_; refine sp (pln rfl (tyS rfl)) ?_; refine oMv ?_; refine sp (pln rfl (tyS rfl)) ?_; refine oCm ?_; refine oN ?_) | (refine rg 3 ?_; refine oAs ?_; refine oN ?_) | refine gc ?_ | refine ct ?_ | refine cf ?_ | refine swp_cond rfl (fun hc => ?_) (fun hc => ?_) | refine rq rfl (rt .nil) ?_)
    refine swp_for (fun k => ⟨[(0, .t (.sl 2 (xs.map termT))), (1, .t (.sl 2 (ys.map termT))), (5, .t (.v (.int .i64 (k : Int))))], [], []⟩) (fun k => ∀ j (h1 : j < xs.length) (h2 : j < ys.length), j < k → termB xs[j] ys[j] = true) xs.length (weak_sub (.cons rfl rfl rfl (.cons rfl rfl rfl (.cons rfl rfl rfl .nil))) .nil .nil) (fun j _ _ h => by omega) ?_
    intro k hk hI
    by_cases hlt : k < xs.length
    · have hltb : k < ys.length := by omega
      have hr1 : (xs.map termT)[k]? = some (termT xs[k]) := map_at_some hlt
      have hr2 : (ys.map termT)[k]? = some (termT ys[k]) := map_at_some hltb
      have hlt2 : k < (xs.map termT).length := by omega
      have hltb2 : k < (ys.map termT).length := by omega
      cases hq : termB xs[k] ys[k] with
      | true =>
        have hst : ∀ j (h1 : j < xs.length) (h2 : j < ys.length), j < k + 1 → termB xs[j] ys[j] = true := fun j h1 h2 h => by
          by_cases e : j = k
          · subst e; exact hq
          · exact hI j h1 h2 (by omega)
        have hq' : (!termB xs[k] ys[k]) = false := by rw [hq]; rfl
        generalize xs[k] = x at *
        generalize ys[k] = y at *
        repeat' (first | refine for_next hlt (weak_sub (.cons rfl rfl rfl (.cons rfl rfl rfl (.cons rfl rfl rfl .nil))) .nil .nil) hst | (refine rg 4 ?_; refine oMv ?_; refine oMv ?_; refine sp (pln rfl (tyS rfl)) ?_; (first | refine sp (po_neTerm rfl rfl rfl) ?_ | refine oCm ?_); refine oN ?_) | (refine rd 6 ?_; refine dMv ?_; refine dMv ?_; refine dp (pix rfl (tyS rfl)) ?_; (first | refine dp (po_load_bx_agg rfl rfl (tyT rfl) rfl (vc (vc .nil)) rfl) ?_ | refine dp (po_load_agg rfl rfl (tyT rfl) rfl rfl) ?_); refine dMv ?_; refine dMv ?_; refine dp (pix rfl (tyS rfl)) ?_; (first | refine dp (po_load_bx_agg rfl rfl (tyT rfl) rfl (vc (vc .nil)) rfl) ?_ | refine dp (po_load_agg rfl rfl (tyT rfl) rfl rfl) ?_); refine dp (po_neTerm rfl rfl rfl) ?_; refine dN ?_; refine oN ?_) | (refine rg 5 ?_; refine oMv ?_; refine sp (xinc rfl) ?_; refine oAs ?_; refine oN ?_) | refine gc ?_ | refine ct ?_ | refine cf ?_)
      | false =>
        have hr : all2 termB xs ys = false := all2_no hlt hltb hq
        rw [hr]
        have hq' : (!termB xs[k] ys[k]) = true := by rw [hq]; rfl
        generalize xs[k] = x at *
        generalize ys[k] = y at *
        repeat' (first | (refine rg 4 ?_; refine oMv ?_; refine oMv ?_; refine sp (pln rfl (tyS rfl)) ?_; (first | refine sp (po_neTerm rfl rfl rfl) ?_ | refine oCm ?_); refine oN ?_) | (refine rd 6 ?_; refine dMv ?_; refine dMv ?_; refine dp (pix rfl (tyS rfl)) ?_; (first | refine dp (po_load_bx_agg rfl rfl (tyT rfl) rfl (vc (vc .nil)) rfl) ?_ | refine dp (po_load_agg rfl rfl (tyT rfl) rfl rfl) ?_); refine dMv ?_; refine dMv ?_; refine dp (pix rfl (tyS rfl)) ?_; (first | refine dp (po_load_bx_agg rfl rfl (tyT rfl) rfl (vc (vc .nil)) rfl) ?_ | refine dp (po_load_agg rfl rfl (tyT rfl) rfl rfl) ?_); refine dp (po_neTerm rfl rfl rfl) ?_; refine dN ?_; refine oN ?_) | (refine rg 7 ?_; refine oAs ?_; refine oN ?_) | refine gc ?_ | refine ct ?_ | refine cf ?_ | refine swp_cond rfl (fun hc => ?_) (fun hc => ?_) | refine rq rfl (rt .nil) ?_)
        all_goals rfl
    · obtain rfl : k = xs.length := by omega
      have hr : all2 termB xs ys = true := all2_yes hl fun j h1 h2 => hI j h1 h2 h1
      rw [hr]
      repeat' (first | (refine rg 4 ?_; refine oMv ?_; refine oMv ?_; refine sp (pln rfl (tyS rfl)) ?_; refine oCm ?_; refine oN ?_) | (refine rg 8 ?_; refine oAs ?_; refine oN ?_) | refine gc ?_ | refine ct ?_ | refine cf ?_ | refine swp_cond rfl (fun hc => ?_) (fun hc => ?_) | refine rq rfl (rt .nil) ?_)
      all_goals rfl
  · have h0 : (!decide (((xs.map termT).length : Int) = ((ys.map termT).length : Int))) = true := by rw [hma, hmb, decide_eq_false (by omega)]; rfl
    have hr : all2 termB xs ys = false := all2_len hl
    rw [hr]
    repeat' (first | (refine rg 0 ?_; refine oAs ?_; refine oN ?_) | (refine rg 1 ?_; refine oMv ?_; refine sp (pln rfl (tyS rfl)) ?_; refine oMv ?_; refine sp (pln rfl (tyS rfl)) ?_; refine oCm ?_; refine oN ?_) | (refine rg 2 ?_; refine oAs ?_; refine oN ?_) | refine gc ?_ | refine ct ?_ | refine cf ?_ | refine swp_cond rfl (fun hc => ?_) (fun hc => ?_) | refine rq rfl (rt .nil) ?_)
    all_goals rfl
set_option maxRecDepth 100000 in
set_option maxHeartbeats 2000000 in
theorem netsG (xs ys : List Pl.Cidr) (hx : xs.length ≤ 1000) (hy : ys.length ≤ 1000) : PCalls Tryz.prog 32 [.sl 2 (xs.map cidrT), .sl 2 (ys.map cidrT)] (.v (.bool (all2 cidrB xs ys))) := by
  have hma : (xs.map cidrT).length = xs.length := List.length_map _
  have hmb : (ys.map cidrT).length = ys.length := List.length_map _
  refine pcalls_of Tryz.func32 rfl rfl Tryz.ntmps32 rfl ?_
  by_cases hl : xs.length = ys.length
  · have h0 : (!decide (((xs.map cidrT).length : Int) = ((ys.map cidrT).length : Int))) = false := by rw [hma, hmb, hl]; simp
    repeat' (first | (refine rg 0 ?_; refine oAs ?_; refine oN ?_) | (refine rg 1 ?_; refine oMv ?_; refine sp (pln rfl (tyS rfl)) ?_; refine oMv ?_; refine sp (pln rfl (tyS rfl)) ?_; refine oCm ?_; refine oN ?_) | (refine rg 3 ?_; refine oAs ?_; refine oN ?_) | refine gc ?_ | refine ct ?_ | refine cf ?_ | refine swp_cond rfl (fun hc => ?_) (fun hc => ?_) | refine rq rfl (rt .nil) ?_)
    refine swp_for (fun k => ⟨[(0, .t (.sl 2 (xs.map cidrT))), (1, .t (.sl 2 (ys.map cidrT))), (5, .t (.v (.int .i64 (k : Int))))], [], []⟩) (fun k => ∀ j (h1 : j < xs.length) (h2 : j < ys.length), j < k → cidrB xs[j] ys[j] = true) xs.length (weak_sub (.cons rfl rfl rfl (.cons rfl rfl rfl (.cons rfl rfl rfl .nil))) .nil .nil) (fun j _ _ h => by omega) ?_
    intro k hk hI
    by_cases hlt : k < xs.length
    · have hltb : k < ys.length := by omega
      have hr1 : (xs.map cidrT)[k]? = some (cidrT xs[k]) := map_at_some hlt
      have hr2 : (ys.map cidrT)[k]? = some (cidrT ys[k]) := map_at_some hltb
      have hlt2 : k < (xs.map cidrT).length := by omega
      have hltb2 : k < (ys.map cidrT).length := by omega
      cases hq : cidrB xs[k] ys[k] with
      | true =>
        have hst : ∀ j (h1 : j < xs.length) (h2 : j < ys.length), j < k + 1 → cidrB xs[j] ys[j] = true := fun j h1 h2 h => by
          by_cases e : j = k
          · subst e; exact hq
          · exact hI j h1 h2 (by omega)
        have hq' : (!cidrB xs[k] ys[k]) = false := by rw [hq]; rfl
        generalize xs[k] = x at *
        generalize ys[k] = y at *
        repeat' (first | refine for_next hlt (weak_sub (.cons rfl rfl rfl (.cons rfl rfl rfl (.cons rfl rfl rfl .nil))) .nil .nil) hst | (refine rg 4 ?_; refine oMv ?_; refine oMv ?_; refine sp (pln rfl (tyS rfl)) ?_; (first | refine sp (po_neCidr rfl rfl rfl) ?_ | refine oCm ?_); refine oN ?_) | (refine rd 6 ?_; refine dMv ?_; refine dMv ?_; refine dp (pix rfl (tyS rfl)) ?_; (first | refine dp (po_load_bx_agg rfl rfl (tyT rfl) rfl (vc (vc .nil)) rfl) ?_ | refine dp (po_load_agg rfl rfl (tyT rfl) rfl rfl) ?_); refine dMv ?_; refine dMv ?_; refine dp (pix rfl (tyS rfl)) ?_; (first | refine dp (po_load_bx_agg rfl rfl (tyT rfl) rfl (vc (vc .nil)) rfl) ?_ | refine dp (po_load_agg rfl rfl (tyT rfl) rfl rfl) ?_); refine dp (po_neCidr rfl rfl rfl) ?_; refine dN ?_; refine oN ?_) | (refine rg 5 ?_; refine oMv ?_; refine sp (xinc rfl) ?_; refine oAs ?_; refine oN ?_) | refine gc ?_ | refine ct ?_ | refine cf ?_)
      | false =>
        have hr : all2 cidrB xs ys = false := all2_no hlt hltb hq
        rw [hr]
        have hq' : (!cidrB xs[k] ys[k]) = true := by rw [hq]; rfl
        generalize xs[k] = x at *
        generalize ys[k] = y at *
        repeat' (first | (refine rg 4 ?_; refine oMv ?_; refine oMv ?_; refine sp (pln rfl (tyS rfl)) ?_; (first | refine sp (po_neCidr rfl rfl rfl) ?_ | refine oCm ?_); refine oN ?_) | (refine rd 6 ?_; refine dMv ?_; refine dMv ?_; refine dp (pix rfl (tyS rfl)) ?_; (first | refine dp (po_load_bx_agg rfl rfl (tyT rfl) rfl (vc (vc .nil)) rfl) ?_ | refine dp (po_load_agg rfl rfl (tyT rfl) rfl rfl) ?_); refine dMv ?_; refine dMv ?_; refine dp (pix rfl (tyS rfl)) ?_; (first | refine dp (po_load_bx_agg rfl rfl (tyT rfl) rfl (vc (vc .nil)) rfl) ?_ | refine dp (po_load_agg rfl rfl (tyT rfl) rfl rfl) ?_); refine dp (po_neCidr rfl rfl rfl) ?_; refine dN ?_; refine oN ?_) | (refine rg 7 ?_; refine oAs ?_; refine oN ?_) | refine gc ?_ | refine ct ?_ | refine cf ?_ | refine swp_cond rfl (fun hc => ?_) (fun hc => ?_) | refine rq rfl (rt .nil) ?_)
        all_goals rfl
    · obtain rfl : k = xs.length := by omega
      have hr : all2 cidrB xs ys = true := all2_yes hl fun j h1 h2 => hI j h1 h2 h1
      rw [hr]
      repeat' (first | (refine rg 4 ?_; refine oMv ?_; refine oMv ?_; refine sp (pln rfl (tyS rfl)) ?_; refine oCm ?_; refine oN ?_) | (refine rg 8 ?_; refine oAs ?_; refine oN ?_) | refine gc ?_ | refine ct ?_ | refine cf ?_ | refine swp_cond rfl (fun hc => ?_) (fun hc => ?_) | refine rq rfl (rt .nil) ?_)
      all_goals rfl
  · have h0 : (!decide (((xs.map cidrT).length : Int) = ((ys.map cidrT).length : Int))) = true := by rw [hma, hmb, decide_eq_false (by omega)]; rfl
    have hr : all2 cidrB xs ys = false := all2_len hl
    rw [hr]
    repeat' (first | (refine rg 0 ?_; refine oAs ?_; refine oN ?_) | (refine rg 1 ?_; refine oMv ?_; refine sp (pln rfl (tyS rfl)) ?_; refine oMv ?_; refine sp (pln rfl (tyS rfl)) ?_; refine oCm ?_; refine oN ?_) | (refine rg 2 ?_; refine oAs ?_; refine oN ?_) | refine gc ?_ | refine ct ?_ | refine cf ?_ | refine swp_cond rfl (fun hc => ?_) (fun hc => ?_) | refine rq rfl (rt .nil) ?_)
    all_goals rfl
abbrev tcells (t : Pl.Target) : List A := [.t (.sl 1 (t.ports.map intT)), .t (.sl 2 (t.methods.map termT)), .t (.sl 2 (t.paths.map termT)), .t (.sl 2 (t.hosts.map termT))]
def G1 (a b : Pl.Rule) (k : Nat) : St := ⟨[(2, .bp 2 0), (3, .bp 3 0), (5, .t (.v (.int .i64 (k : Int))))], [(2, rcells a), (3, rcells b)], []⟩
def G2 (a b : Pl.Rule) (k : Nat) : St := ⟨[(2, .bp 2 0), (3, .bp 3 0), (8, .t (.v (.int .i64 (k : Int))))], [(2, rcells a), (3, rcells b)], []⟩
def G2b (a b : Pl.Rule) (k : Nat) (x y : Pl.Target) (j : Nat) : St := ⟨[(2, .bp 2 0), (3, .bp 3 0), (8, .t (.v (.int .i64 (k : Int)))), (9, .bp 9 0), (10, .bp 10 0), (11, .t (.v (.int .i64 (j : Int))))], [(2, rcells a), (3, rcells b), (9, tcells x), (10, tcells y)], []⟩
def G3 (a b : Pl.Rule) (k : Nat) : St := ⟨[(2, .bp 2 0), (3, .bp 3 0), (12, .t (.v (.int .i64 (k : Int))))], [(2, rcells a), (3, rcells b)], []⟩
theorem len_eq0 {α β : Type} {f : α → β} {xs ys : List α} (h : xs.length = ys.length) : (!decide (((xs.map f).length : Int) = ((ys.map f).length : Int))) = false := by rw [List.length_map, List.length_map, h]; simp
theorem len_ne0 {α β : Type} {f : α → β} {xs ys : List α} (h : ¬ xs.length = ys.length) : (!decide (((xs.map f).length : Int) = ((ys.map f).length : Int))) = true := by rw [List.length_map, List.length_map, decide_eq_false (by omega)]; rfl
/-- behind k elements all were alike -/
def UpTo {α : Type} (f : α → α → Bool) (xs ys : List α) (k : Nat) : Prop := ∀ j (h1 : j < xs.length) (h2 : j < ys.length), j < k → f xs[j] ys[j] = true
theorem UpTo.zero {α : Type} {f : α → α → Bool} {xs ys : List α} : UpTo f xs ys 0 := fun j _ _ h => by omega
theorem UpTo.succ {α : Type} {f : α → α → Bool} {xs ys : List α} {k : Nat} (h : UpTo f xs ys k) (h1 : k < xs.length) (h2 : k < ys.length) {x y : α} (hx : xs[k] = x) (hy : ys[k] = y) (hq : f x y = true) : UpTo f xs ys (k + 1) := fun j g1 g2 hj => by
  by_cases e : j = k
  · subst e; rw [hx, hy]; exact hq
  · exact h j g1 g2 (by omega)
theorem UpTo.all {α : Type} {f : α → α → Bool} {xs ys : List α} (h : UpTo f xs ys xs.length) (hl : xs.length = ys.length) : all2 f xs ys = true := all2_yes hl fun j h1 h2 => h j h1 h2 h1
set_option maxRecDepth 100000 in
set_option maxHeartbeats 2000000 in
theorem sameRuleR (a b : Pl.Rule) (ha : FewR a) (hb : FewR b) : PCalls Tryz.prog 13 [.agg (ruleT a), .agg (ruleT b)] (.v (.bool (ruleB a b))) := by
  have hm1 : (a.from_.map sourceT).length = a.from_.length := List.length_map _
  have hm2 : (a.to_.map targetT).length = a.to_.length := List.length_map _
  have hm3 : (a.when_.map whenT).length = a.when_.length := List.length_map _
  have n1 := ha.f
  have n2 := ha.t
  have n3 := ha.w
  have m1 := hb.f
  have m2 := hb.t
  have m3 := hb.w
  refine pcalls_of Tryz.func13 rfl rfl Tryz.ntmps13 rfl ?_
  by_cases l0 : a.from_.length = b.from_.length
  case neg =>
    have hr : ruleB a b = false := by unfold ruleB; rw [all2_len l0]; simp
    rw [hr]
    have e0 := len_ne0 (f := sourceT) l0
    repeat' (first | (refine rg 0 ?_; refine sbx ?_; refine sbx ?_; refine oAs ?_; refine oN ?_) | (refine rg 1 ?_; refine oFb ?_; refine oLb ?_; refine sp (pln rfl (tyS rfl)) ?_; refine oFb ?_; refine oLb ?_; refine sp (pln rfl (tyS rfl)) ?_; refine oCm ?_; refine oMv ?_; (first | refine oFb ?_ | refine oFd ?_ | refine oK ?_) <;> (first | refine oLb ?_ | refine oLd ?_ | refine oK ?_) <;> (first | refine sp (pln rfl (tyS rfl)) ?_ | refine oK ?_) <;> (first | refine oFb ?_ | refine oFd ?_ | refine oK ?_) <;> (first | refine oLb ?_ | refine oLd ?_ | refine oK ?_) <;> (first | refine sp (pln rfl (tyS rfl)) ?_ | refine oK ?_) <;> (first | refine oCm ?_ | refine oK ?_) <;> refine oPt ?_ <;> refine oMv ?_ <;> (first | refine oFb ?_ | refine oFd ?_ | refine oK ?_) <;> (first | refine oLb ?_ | refine oLd ?_ | refine oK ?_) <;> (first | refine sp (pln rfl (tyS rfl)) ?_ | refine oK ?_) <;> (first | refine oFb ?_ | refine oFd ?_ | refine oK ?_) <;> (first | refine oLb ?_ | refine oLd ?_ | refine oK ?_) <;> (first | refine sp (pln rfl (tyS rfl)) ?_ | refine oK ?_) <;> (first | refine oCm ?_ | refine oK ?_) <;> refine oPt ?_ <;> refine oN ?_) | (refine rg 2 ?_; refine oAs ?_; refine oN ?_) | refine gc ?_ | refine ct ?_ | refine cf ?_ | refine swp_cond rfl (fun hc => ?_) (fun hc => ?_) | refine rq rfl (rt .nil) ?_)
    all_goals rfl
  have e0 := len_eq0 (f := sourceT) l0
  by_cases l1 : a.to_.length = b.to_.length
  case neg =>
    have hr : ruleB a b = false := by unfold ruleB; rw [all2_len l1]; simp
    rw [hr]
    have e1 := len_ne0 (f := targetT) l1
    repeat' (first | (refine rg 0 ?_; refine sbx ?_; refine sbx ?_; refine oAs ?_; refine oN ?_) | (refine rg 1 ?_; refine oFb ?_; refine oLb ?_; refine sp (pln rfl (tyS rfl)) ?_; refine oFb ?_; refine oLb ?_; refine sp (pln rfl (tyS rfl)) ?_; refine oCm ?_; refine oMv ?_; refine oFb ?_ <;> refine oLb ?_ <;> refine sp (pln rfl (tyS rfl)) ?_ <;> refine oFb ?_ <;> refine oLb ?_ <;> refine sp (pln rfl (tyS rfl)) ?_ <;> refine oCm ?_ <;> (first | refine oPt ?_ | refine oPf ?_) <;> refine oMv ?_ <;> (first | refine oFb ?_ | refine oFd ?_ | refine oK ?_) <;> (first | refine oLb ?_ | refine oLd ?_ | refine oK ?_) <;> (first | refine sp (pln rfl (tyS rfl)) ?_ | refine oK ?_) <;> (first | refine oFb ?_ | refine oFd ?_ | refine oK ?_) <;> (first | refine oLb ?_ | refine oLd ?_ | refine oK ?_) <;> (first | refine sp (pln rfl (tyS rfl)) ?_ | refine oK ?_) <;> (first | refine oCm ?_ | refine oK ?_) <;> refine oPt ?_ <;> refine oN ?_) | (refine rg 2 ?_; refine oAs ?_; refine oN ?_) | refine gc ?_ | refine ct ?_ | refine cf ?_ | refine swp_cond rfl (fun hc => ?_) (fun hc => ?_) | refine rq rfl (rt .nil) ?_)
    all_goals rfl
  have e1 := len_eq0 (f := targetT) l1
  by_cases l2 : a.when_.length = b.when_.length
  case neg =>
    have hr : ruleB a b = false := by unfold ruleB; rw [all2_len l2]; simp
    rw [hr]
    have e2 := len_ne0 (f := whenT) l2
    repeat' (first | (refine rg 0 ?_; refine sbx ?_; refine sbx ?_; refine oAs ?_; refine oN ?_) | (refine rg 1 ?_; refine oFb ?_; refine oLb ?_; refine sp (pln rfl (tyS rfl)) ?_; refine oFb ?_; refine oLb ?_; refine sp (pln rfl (tyS rfl)) ?_; refine oCm ?_; refine oMv ?_; refine oFb ?_ <;> refine oLb ?_ <;> refine sp (pln rfl (tyS rfl)) ?_ <;> refine oFb ?_ <;> refine oLb ?_ <;> refine sp (pln rfl (tyS rfl)) ?_ <;> refine oCm ?_ <;> (first | refine oPt ?_ | refine oPf ?_) <;> refine oMv ?_ <;> refine oFb ?_ <;> refine oLb ?_ <;> refine sp (pln rfl (tyS rfl)) ?_ <;> refine oFb ?_ <;> refine oLb ?_ <;> refine sp (pln rfl (tyS rfl)) ?_ <;> refine oCm ?_ <;> (first | refine oPt ?_ | refine oPf ?_) <;> refine oN ?_) | (refine rg 2 ?_; refine oAs ?_; refine oN ?_) | refine gc ?_ | refine ct ?_ | refine cf ?_ | refine swp_cond rfl (fun hc => ?_) (fun hc => ?_) | refine rq rfl (rt .nil) ?_)
    all_goals rfl
  have e2 := len_eq0 (f := whenT) l2
  repeat' (first | (refine rg 0 ?_; refine sbx ?_; refine sbx ?_; refine oAs ?_; refine oN ?_) | (refine rg 1 ?_; refine oFb ?_; refine oLb ?_; refine sp (pln rfl (tyS rfl)) ?_; refine oFb ?_; refine oLb ?_; refine sp (pln rfl (tyS rfl)) ?_; refine oCm ?_; refine oMv ?_; refine oFb ?_ <;> refine oLb ?_ <;> refine sp (pln rfl (tyS rfl)) ?_ <;> refine oFb ?_ <;> refine oLb ?_ <;> refine sp (pln rfl (tyS rfl)) ?_ <;> refine oCm ?_ <;> (first | refine oPt ?_ | refine oPf ?_) <;> refine oMv ?_ <;> refine oFb ?_ <;> refine oLb ?_ <;> refine sp (pln rfl (tyS rfl)) ?_ <;> refine oFb ?_ <;> refine oLb ?_ <;> refine sp (pln rfl (tyS rfl)) ?_ <;> refine oCm ?_ <;> (first | refine oPt ?_ | refine oPf ?_) <;> refine oN ?_) | (refine rg 3 ?_; refine oAs ?_; refine oN ?_) | refine gc ?_ | refine ct ?_ | refine cf ?_ | refine swp_cond rfl (fun hc => ?_) (fun hc => ?_) | refine rq rfl (rt .nil) ?_)
  refine swp_for (G1 a b) (UpTo sourceB a.from_ b.from_) a.from_.length (weak_sub (.cons rfl rfl rfl (.cons rfl rfl rfl (.cons rfl rfl rfl .nil))) (.cons rfl rfl rfl (.cons rfl rfl rfl .nil)) .nil) .zero ?_
  intro k hk hI
  unfold G1
  by_cases hlt : k < a.from_.length
  case pos =>
    have hltb : k < b.from_.length := by omega
    obtain ⟨x, hx⟩ : ∃ x, a.from_[k] = x := ⟨_, rfl⟩
    obtain ⟨y, hy⟩ : ∃ y, b.from_[k] = y := ⟨_, rfl⟩
    have r1 : (a.from_.map sourceT)[k]? = some (sourceT x) := by rw [map_at_some hlt, hx]
    have r2 : (b.from_.map sourceT)[k]? = some (sourceT y) := by rw [map_at_some hltb, hy]
    have r3 : k < (a.from_.map sourceT).length := by rw [List.length_map]; exact hlt
    have r4 : k < (b.from_.map sourceT).length := by rw [List.length_map]; exact hltb
    obtain ⟨b0, b1, b2⟩ := hx ▸ ha.fs _ (List.getElem_mem hlt)
    obtain ⟨d0, d1, d2⟩ := hy ▸ hb.fs _ (List.getElem_mem hltb)
    have c0 := termsG x.names y.names b0 d0
    have c1 := termsG x.spaces y.spaces b1 d1
    have c2 := netsG x.nets y.nets b2 d2
    cases k0 : all2 termB x.names y.names with
    | false =>
      rw [k0] at c0
      have hq : sourceB x y = false := by unfold sourceB; rw [k0]; simp
      have hr : ruleB a b = false := by unfold ruleB; rw [all2_no hlt hltb (by rw [hx, hy]; exact hq)]; simp
      rw [hr]
      repeat' (first | (refine rg 4 ?_; refine oMv ?_; refine oFb ?_; refine oLb ?_; refine sp (pln rfl (tyS rfl)) ?_; refine oCm ?_; refine oN ?_) | ((refine swp_any (id := 6) [[], [], [], [], [], [], [], [], [], [], [6], [7], [6], [7]] [[6, 7], [6, 7], [6, 7], [6, 7], [6, 7], [6, 7], [6, 7], [6, 7], [6, 7], [6, 7], [7], [6], [], []] mixed (by kernel_rfl) ?_) <;> refine yp (fun _ _ => po_field_bx rfl rfl (tyF rfl)) ?_ <;> refine yp (fun _ _ => po_load_bx rfl rfl (tyT rfl) rfl rfl) ?_ <;> refine yp (fun _ _ => po_move rfl rfl) ?_ <;> refine yp (fun _ _ => pix rfl (tyS rfl)) ?_ <;> (first | refine yp (fun _ _ => po_load_bx_agg rfl rfl (tyT rfl) rfl (vc (vc (vc .nil))) rfl) ?_ | refine yp (fun _ _ => po_load_agg rfl rfl (tyT rfl) rfl rfl) ?_) <;> refine yp (fun _ _ => po_field_bx rfl rfl (tyF rfl)) ?_ <;> refine yp (fun _ _ => po_load_bx rfl rfl (tyT rfl) rfl rfl) ?_ <;> refine yp (fun _ _ => po_move rfl rfl) ?_ <;> refine yp (fun _ _ => pix rfl (tyS rfl)) ?_ <;> (first | refine yp (fun _ _ => po_load_bx_agg rfl rfl (tyT rfl) rfl (vc (vc (vc .nil))) rfl) ?_ | refine yp (fun _ _ => po_load_agg rfl rfl (tyT rfl) rfl rfl) ?_) <;> refine sany_eff [(6, _)] [] (.free rfl rfl) rfl rfl (fun _ _ hb _ => e_allocS str61 rfl (hb 6 rfl rfl)) ?_ <;> refine sany_eff [(7, _)] [] (.free rfl rfl) rfl rfl (fun _ _ hb _ => e_allocS str61 rfl (hb 7 rfl rfl)) ?_ <;> refine sany_eff [(6, _)] [] (.free rfl rfl) rfl rfl (fun _ _ _ _ => e_store rfl rfl rfl rfl rfl rfl (tyT rfl) rfl rfl) ?_ <;> refine sany_eff [(7, _)] [] (.free rfl rfl) rfl rfl (fun _ _ _ _ => e_store rfl rfl rfl rfl rfl rfl (tyT rfl) rfl rfl) ?_ <;> refine sany_nil ?_) | (refine rg 7 ?_; refine oFb ?_; refine oLb ?_; refine oFb ?_; refine oLb ?_; refine oC (c0) rfl (ac (ac .nil)) ?_; refine sp (po_not rfl rfl) ?_; refine oMv ?_; (first | refine oFb ?_ | refine oFd ?_ | refine oK ?_) <;> (first | refine oLb ?_ | refine oLd ?_ | refine oK ?_) <;> (first | refine oFb ?_ | refine oFd ?_ | refine oK ?_) <;> (first | refine oLb ?_ | refine oLd ?_ | refine oK ?_) <;> (first | refine oC (c0) rfl (ac (ac .nil)) ?_ | refine oC (c1) rfl (ac (ac .nil)) ?_ | refine oK ?_) <;> (first | refine sp (po_not rfl rfl) ?_ | refine oK ?_) <;> refine oPt ?_ <;> refine oMv ?_ <;> (first | refine oFb ?_ | refine oFd ?_ | refine oK ?_) <;> (first | refine oLb ?_ | refine oLd ?_ | refine oK ?_) <;> (first | refine oFb ?_ | refine oFd ?_ | refine oK ?_) <;> (first | refine oLb ?_ | refine oLd ?_ | refine oK ?_) <;> (first | refine oC (c2) rfl (ac (ac .nil)) ?_ | refine oK ?_) <;> (first | refine sp (po_not rfl rfl) ?_ | refine oK ?_) <;> refine oPt ?_ <;> refine oN ?_) | (refine rg 8 ?_; refine oAs ?_; refine oN ?_) | refine gc ?_ | refine ct ?_ | refine cf ?_ | refine swp_cond rfl (fun hc => ?_) (fun hc => ?_) | refine rq rfl (rt .nil) ?_)
      all_goals rfl
    | true =>
      rw [k0] at c0
      cases k1 : all2 termB x.spaces y.spaces with
      | false =>
        rw [k1] at c1
        have hq : sourceB x y = false := by unfold sourceB; rw [k1]; simp
        have hr : ruleB a b = false := by unfold ruleB; rw [all2_no hlt hltb (by rw [hx, hy]; exact hq)]; simp
        rw [hr]
        repeat' (first | (refine rg 4 ?_; refine oMv ?_; refine oFb ?_; refine oLb ?_; refine sp (pln rfl (tyS rfl)) ?_; refine oCm ?_; refine oN ?_) | ((refine swp_any (id := 6) [[], [], [], [], [], [], [], [], [], [], [6], [7], [6], [7]] [[6, 7], [6, 7], [6, 7], [6, 7], [6, 7], [6, 7], [6, 7], [6, 7], [6, 7], [6, 7], [7], [6], [], []] mixed (by kernel_rfl) ?_) <;> refine yp (fun _ _ => po_field_bx rfl rfl (tyF rfl)) ?_ <;> refine yp (fun _ _ => po_load_bx rfl rfl (tyT rfl) rfl rfl) ?_ <;> refine yp (fun _ _ => po_move rfl rfl) ?_ <;> refine yp (fun _ _ => pix rfl (tyS rfl)) ?_ <;> (first | refine yp (fun _ _ => po_load_bx_agg rfl rfl (tyT rfl) rfl (vc (vc (vc .nil))) rfl) ?_ | refine yp (fun _ _ => po_load_agg rfl rfl (tyT rfl) rfl rfl) ?_) <;> refine yp (fun _ _ => po_field_bx rfl rfl (tyF rfl)) ?_ <;> refine yp (fun _ _ => po_load_bx rfl rfl (tyT rfl) rfl rfl) ?_ <;> refine yp (fun _ _ => po_move rfl rfl) ?_ <;> refine yp (fun _ _ => pix rfl (tyS rfl)) ?_ <;> (first | refine yp (fun _ _ => po_load_bx_agg rfl rfl (tyT rfl) rfl (vc (vc (vc .nil))) rfl) ?_ | refine yp (fun _ _ => po_load_agg rfl rfl (tyT rfl) rfl rfl) ?_) <;> refine sany_eff [(6, _)] [] (.free rfl rfl) rfl rfl (fun _ _ hb _ => e_allocS str61 rfl (hb 6 rfl rfl)) ?_ <;> refine sany_eff [(7, _)] [] (.free rfl rfl) rfl rfl (fun _ _ hb _ => e_allocS str61 rfl (hb 7 rfl rfl)) ?_ <;> refine sany_eff [(6, _)] [] (.free rfl rfl) rfl rfl (fun _ _ _ _ => e_store rfl rfl rfl rfl rfl rfl (tyT rfl) rfl rfl) ?_ <;> refine sany_eff [(7, _)] [] (.free rfl rfl) rfl rfl (fun _ _ _ _ => e_store rfl rfl rfl rfl rfl rfl (tyT rfl) rfl rfl) ?_ <;> refine sany_nil ?_) | (refine rg 7 ?_; refine oFb ?_; refine oLb ?_; refine oFb ?_; refine oLb ?_; refine oC (c0) rfl (ac (ac .nil)) ?_; refine sp (po_not rfl rfl) ?_; refine oMv ?_; refine oFb ?_ <;> refine oLb ?_ <;> refine oFb ?_ <;> refine oLb ?_ <;> (first | refine oC (c0) rfl (ac (ac .nil)) ?_ | refine oC (c1) rfl (ac (ac .nil)) ?_) <;> refine sp (po_not rfl rfl) ?_ <;> (first | refine oPt ?_ | refine oPf ?_) <;> refine oMv ?_ <;> (first | refine oFb ?_ | refine oFd ?_ | refine oK ?_) <;> (first | refine oLb ?_ | refine oLd ?_ | refine oK ?_) <;> (first | refine oFb ?_ | refine oFd ?_ | refine oK ?_) <;> (first | refine oLb ?_ | refine oLd ?_ | refine oK ?_) <;> (first | refine oC (c2) rfl (ac (ac .nil)) ?_ | refine oK ?_) <;> (first | refine sp (po_not rfl rfl) ?_ | refine oK ?_) <;> refine oPt ?_ <;> refine oN ?_) | (refine rg 8 ?_; refine oAs ?_; refine oN ?_) | refine gc ?_ | refine ct ?_ | refine cf ?_ | refine swp_cond rfl (fun hc => ?_) (fun hc => ?_) | refine rq rfl (rt .nil) ?_)
        all_goals rfl
      | true =>
        rw [k1] at c1
        cases k2 : all2 cidrB x.nets y.nets with
        | false =>
          rw [k2] at c2
          have hq : sourceB x y = false := by unfold sourceB; rw [k2]; simp
          have hr : ruleB a b = false := by unfold ruleB; rw [all2_no hlt hltb (by rw [hx, hy]; exact hq)]; simp
          rw [hr]
          repeat' (first | (refine rg 4 ?_; refine oMv ?_; refine oFb ?_; refine oLb ?_; refine sp (pln rfl (tyS rfl)) ?_; refine oCm ?_; refine oN ?_) | ((refine swp_any (id := 6) [[], [], [], [], [], [], [], [], [], [], [6], [7], [6], [7]] [[6, 7], [6, 7], [6, 7], [6, 7], [6, 7], [6, 7], [6, 7], [6, 7], [6, 7], [6, 7], [7], [6], [], []] mixed (by kernel_rfl) ?_) <;> refine yp (fun _ _ => po_field_bx rfl rfl (tyF rfl)) ?_ <;> refine yp (fun _ _ => po_load_bx rfl rfl (tyT rfl) rfl rfl) ?_ <;> refine yp (fun _ _ => po_move rfl rfl) ?_ <;> refine yp (fun _ _ => pix rfl (tyS rfl)) ?_ <;> (first | refine yp (fun _ _ => po_load_bx_agg rfl rfl (tyT rfl) rfl (vc (vc (vc .nil))) rfl) ?_ | refine yp (fun _ _ => po_load_agg rfl rfl (tyT rfl) rfl rfl) ?_) <;> refine yp (fun _ _ => po_field_bx rfl rfl (tyF rfl)) ?_ <;> refine yp (fun _ _ => po_load_bx rfl rfl (tyT rfl) rfl rfl) ?_ <;> refine yp (fun _ _ => po_move rfl rfl) ?_ <;> refine yp (fun _ _ => pix rfl (tyS rfl)) ?_ <;> (first | refine yp (fun _ _ => po_load_bx_agg rfl rfl (tyT rfl) rfl (vc (vc (vc .nil))) rfl) ?_ | refine yp (fun _ _ => po_load_agg rfl rfl (tyT rfl) rfl rfl) ?_) <;> refine sany_eff [(6, _)] [] (.free rfl rfl) rfl rfl (fun _ _ hb _ => e_allocS str61 rfl (hb 6 rfl rfl)) ?_ <;> refine sany_eff [(7, _)] [] (.free rfl rfl) rfl rfl (fun _ _ hb _ => e_allocS str61 rfl (hb 7 rfl rfl)) ?_ <;> refine sany_eff [(6, _)] [] (.free rfl rfl) rfl rfl (fun _ _ _ _ => e_store rfl rfl rfl rfl rfl rfl (tyT rfl) rfl rfl) ?_ <;> refine sany_eff [(7, _)] [] (.free rfl rfl) rfl rfl (fun _ _ _ _ => e_store rfl rfl rfl rfl rfl rfl (tyT rfl) rfl rfl) ?_ <;> refine sany_nil ?_) | (refine rg 7 ?_; refine oFb ?_; refine oLb ?_; refine oFb ?_; refine oLb ?_; refine oC (c0) rfl (ac (ac .nil)) ?_; refine sp (po_not rfl rfl) ?_; refine oMv ?_; refine oFb ?_ <;> refine oLb ?_ <;> refine oFb ?_ <;> refine oLb ?_ <;> (first | refine oC (c0) rfl (ac (ac .nil)) ?_ | refine oC (c1) rfl (ac (ac .nil)) ?_) <;> refine sp (po_not rfl rfl) ?_ <;> (first | refine oPt ?_ | refine oPf ?_) <;> refine oMv ?_ <;> refine oFb ?_ <;> refine oLb ?_ <;> refine oFb ?_ <;> refine oLb ?_ <;> refine oC (c2) rfl (ac (ac .nil)) ?_ <;> refine sp (po_not rfl rfl) ?_ <;> (first | refine oPt ?_ | refine oPf ?_) <;> refine oN ?_) | (refine rg 8 ?_; refine oAs ?_; refine oN ?_) | refine gc ?_ | refine ct ?_ | refine cf ?_ | refine swp_cond rfl (fun hc => ?_) (fun hc => ?_) | refine rq rfl (rt .nil) ?_)
          all_goals rfl
        | true =>
          rw [k2] at c2
          have hq : sourceB x y = true := by unfold sourceB; rw [k0, k1, k2]; rfl
          repeat' (first | refine for_next hlt (weak_sub (.cons rfl rfl rfl (.cons rfl rfl rfl (.cons rfl rfl rfl .nil))) (.cons rfl rfl rfl (.cons rfl rfl rfl .nil)) .nil) (hI.succ hlt hltb hx hy hq) | (refine rg 4 ?_; refine oMv ?_; refine oFb ?_; refine oLb ?_; refine sp (pln rfl (tyS rfl)) ?_; refine oCm ?_; refine oN ?_) | ((refine swp_any (id := 6) [[], [], [], [], [], [], [], [], [], [], [6], [7], [6], [7]] [[6, 7], [6, 7], [6, 7], [6, 7], [6, 7], [6, 7], [6, 7], [6, 7], [6, 7], [6, 7], [7], [6], [], []] mixed (by kernel_rfl) ?_) <;> refine yp (fun _ _ => po_field_bx rfl rfl (tyF rfl)) ?_ <;> refine yp (fun _ _ => po_load_bx rfl rfl (tyT rfl) rfl rfl) ?_ <;> refine yp (fun _ _ => po_move rfl rfl) ?_ <;> refine yp (fun _ _ => pix rfl (tyS rfl)) ?_ <;> (first | refine yp (fun _ _ => po_load_bx_agg rfl rfl (tyT rfl) rfl (vc (vc (vc .nil))) rfl) ?_ | refine yp (fun _ _ => po_load_agg rfl rfl (tyT rfl) rfl rfl) ?_) <;> refine yp (fun _ _ => po_field_bx rfl rfl (tyF rfl)) ?_ <;> refine yp (fun _ _ => po_load_bx rfl rfl (tyT rfl) rfl rfl) ?_ <;> refine yp (fun _ _ => po_move rfl rfl) ?_ <;> refine yp (fun _ _ => pix rfl (tyS rfl)) ?_ <;> (first | refine yp (fun _ _ => po_load_bx_agg rfl rfl (tyT rfl) rfl (vc (vc (vc .nil))) rfl) ?_ | refine yp (fun _ _ => po_load_agg rfl rfl (tyT rfl) rfl rfl) ?_) <;> refine sany_eff [(6, _)] [] (.free rfl rfl) rfl rfl (fun _ _ hb _ => e_allocS str61 rfl (hb 6 rfl rfl)) ?_ <;> refine sany_eff [(7, _)] [] (.free rfl rfl) rfl rfl (fun _ _ hb _ => e_allocS str61 rfl (hb 7 rfl rfl)) ?_ <;> refine sany_eff [(6, _)] [] (.free rfl rfl) rfl rfl (fun _ _ _ _ => e_store rfl rfl rfl rfl rfl rfl (tyT rfl) rfl rfl) ?_ <;> refine sany_eff [(7, _)] [] (.free rfl rfl) rfl rfl (fun _ _ _ _ => e_store rfl rfl rfl rfl rfl rfl (tyT rfl) rfl rfl) ?_ <;> refine sany_nil ?_) | (refine rg 7 ?_; refine oFb ?_; refine oLb ?_; refine oFb ?_; refine oLb ?_; refine oC (c0) rfl (ac (ac .nil)) ?_; refine sp (po_not rfl rfl) ?_; refine oMv ?_; refine oFb ?_ <;> refine oLb ?_ <;> refine oFb ?_ <;> refine oLb ?_ <;> (first | refine oC (c0) rfl (ac (ac .nil)) ?_ | refine oC (c1) rfl (ac (ac .nil)) ?_) <;> refine sp (po_not rfl rfl) ?_ <;> (first | refine oPt ?_ | refine oPf ?_) <;> refine oMv ?_ <;> refine oFb ?_ <;> refine oLb ?_ <;> refine oFb ?_ <;> refine oLb ?_ <;> refine oC (c2) rfl (ac (ac .nil)) ?_ <;> refine sp (po_not rfl rfl) ?_ <;> (first | refine oPt ?_ | refine oPf ?_) <;> refine oN ?_) | (refine rg 5 ?_; refine oMv ?_; refine sp (xinc rfl) ?_; refine oAs ?_; refine oN ?_) | refine gc ?_ | refine ct ?_ | refine cf ?_)
  obtain rfl : k = a.from_.length := by omega
  have hS := hI.all l0
  repeat' (first | (refine rg 4 ?_; refine oMv ?_; refine oFb ?_; refine oLb ?_; refine sp (pln rfl (tyS rfl)) ?_; refine oCm ?_; refine oN ?_) | (refine rg 9 ?_; refine oAs ?_; refine oN ?_) | refine gc ?_ | refine ct ?_ | refine cf ?_ | refine swp_cond rfl (fun hc => ?_) (fun hc => ?_) | refine rq rfl (rt .nil) ?_)
  refine swp_for (G2 a b) (UpTo targetB a.to_ b.to_) a.to_.length (weak_sub (.cons rfl rfl rfl (.cons rfl rfl rfl (.cons rfl rfl rfl .nil))) (.cons rfl rfl rfl (.cons rfl rfl rfl .nil)) .nil) .zero ?_
  intro k hk hI
  unfold G2
  by_cases hlt : k < a.to_.length
  case pos =>
    have hltb : k < b.to_.length := by omega
    obtain ⟨x, hx⟩ : ∃ x, a.to_[k] = x := ⟨_, rfl⟩
    obtain ⟨y, hy⟩ : ∃ y, b.to_[k] = y := ⟨_, rfl⟩
    have r1 : (a.to_.map targetT)[k]? = some (targetT x) := by rw [map_at_some hlt, hx]
    have r2 : (b.to_.map targetT)[k]? = some (targetT y) := by rw [map_at_some hltb, hy]
    have r3 : k < (a.to_.map targetT).length := by rw [List.length_map]; exact hlt
    have r4 : k < (b.to_.map targetT).length := by rw [List.length_map]; exact hltb
    obtain ⟨b0, b1, b2, b3⟩ := hx ▸ ha.ts _ (List.getElem_mem hlt)
    obtain ⟨d0, d1, d2, d3⟩ := hy ▸ hb.ts _ (List.getElem_mem hltb)
    have c1 := termsG x.methods y.methods b1 d1
    have c2 := termsG x.paths y.paths b2 d2
    have c3 := termsG x.hosts y.hosts b3 d3
    have hm4 : (x.ports.map intT).length = x.ports.length := List.length_map _
    cases k0 : all2 termB x.methods y.methods with
    | false =>
      rw [k0] at c1
      have hq : targetB x y = false := by unfold targetB; rw [k0]; simp
      have hr : ruleB a b = false := by unfold ruleB; rw [all2_no hlt hltb (by rw [hx, hy]; exact hq)]; simp
      rw [hr]
      repeat' (first | (refine rg 10 ?_; refine oMv ?_; refine oFb ?_; refine oLb ?_; refine sp (pln rfl (tyS rfl)) ?_; refine oCm ?_; refine oN ?_) | ((refine swp_any (id := 12) [[], [], [], [], [], [], [], [], [], [], [9], [10], [9], [10]] [[9, 10], [9, 10], [9, 10], [9, 10], [9, 10], [9, 10], [9, 10], [9, 10], [9, 10], [9, 10], [10], [9], [], []] mixed (by kernel_rfl) ?_) <;> refine yp (fun _ _ => po_field_bx rfl rfl (tyF rfl)) ?_ <;> refine yp (fun _ _ => po_load_bx rfl rfl (tyT rfl) rfl rfl) ?_ <;> refine yp (fun _ _ => po_move rfl rfl) ?_ <;> refine yp (fun _ _ => pix rfl (tyS rfl)) ?_ <;> (first | refine yp (fun _ _ => po_load_bx_agg rfl rfl (tyT rfl) rfl (vc (vc (vc (vc .nil)))) rfl) ?_ | refine yp (fun _ _ => po_load_agg rfl rfl (tyT rfl) rfl rfl) ?_) <;> refine yp (fun _ _ => po_field_bx rfl rfl (tyF rfl)) ?_ <;> refine yp (fun _ _ => po_load_bx rfl rfl (tyT rfl) rfl rfl) ?_ <;> refine yp (fun _ _ => po_move rfl rfl) ?_ <;> refine yp (fun _ _ => pix rfl (tyS rfl)) ?_ <;> (first | refine yp (fun _ _ => po_load_bx_agg rfl rfl (tyT rfl) rfl (vc (vc (vc (vc .nil)))) rfl) ?_ | refine yp (fun _ _ => po_load_agg rfl rfl (tyT rfl) rfl rfl) ?_) <;> refine sany_eff [(9, _)] [] (.free rfl rfl) rfl rfl (fun _ _ hb _ => e_allocS str64 rfl (hb 9 rfl rfl)) ?_ <;> refine sany_eff [(10, _)] [] (.free rfl rfl) rfl rfl (fun _ _ hb _ => e_allocS str64 rfl (hb 10 rfl rfl)) ?_ <;> refine sany_eff [(9, _)] [] (.free rfl rfl) rfl rfl (fun _ _ _ _ => e_store rfl rfl rfl rfl rfl rfl (tyT rfl) rfl rfl) ?_ <;> refine sany_eff [(10, _)] [] (.free rfl rfl) rfl rfl (fun _ _ _ _ => e_store rfl rfl rfl rfl rfl rfl (tyT rfl) rfl rfl) ?_ <;> refine sany_nil ?_) | (refine rg 13 ?_; refine oFb ?_; refine oLb ?_; refine oFb ?_; refine oLb ?_; refine oC (c1) rfl (ac (ac .nil)) ?_; refine sp (po_not rfl rfl) ?_; refine oMv ?_; (first | refine oFb ?_ | refine oFd ?_ | refine oK ?_) <;> (first | refine oLb ?_ | refine oLd ?_ | refine oK ?_) <;> (first | refine oFb ?_ | refine oFd ?_ | refine oK ?_) <;> (first | refine oLb ?_ | refine oLd ?_ | refine oK ?_) <;> (first | refine oC (c1) rfl (ac (ac .nil)) ?_ | refine oC (c2) rfl (ac (ac .nil)) ?_ | refine oC (c3) rfl (ac (ac .nil)) ?_ | refine oK ?_) <;> (first | refine sp (po_not rfl rfl) ?_ | refine oK ?_) <;> refine oPt ?_ <;> refine oMv ?_ <;> (first | refine oFb ?_ | refine oFd ?_ | refine oK ?_) <;> (first | refine oLb ?_ | refine oLd ?_ | refine oK ?_) <;> (first | refine oFb ?_ | refine oFd ?_ | refine oK ?_) <;> (first | refine oLb ?_ | refine oLd ?_ | refine oK ?_) <;> (first | refine oC (c1) rfl (ac (ac .nil)) ?_ | refine oC (c2) rfl (ac (ac .nil)) ?_ | refine oC (c3) rfl (ac (ac .nil)) ?_ | refine oK ?_) <;> (first | refine sp (po_not rfl rfl) ?_ | refine oK ?_) <;> refine oPt ?_ <;> refine oMv ?_ <;> (first | refine oFb ?_ | refine oFd ?_ | refine oK ?_) <;> (first | refine oLb ?_ | refine oLd ?_ | refine oK ?_) <;> (first | refine sp (pln rfl (tyS rfl)) ?_ | refine oK ?_) <;> (first | refine oFb ?_ | refine oFd ?_ | refine oK ?_) <;> (first | refine oLb ?_ | refine oLd ?_ | refine oK ?_) <;> (first | refine sp (pln rfl (tyS rfl)) ?_ | refine oK ?_) <;> (first | refine oCm ?_ | refine oK ?_) <;> refine oPt ?_ <;> refine oN ?_) | (refine rg 14 ?_; refine oAs ?_; refine oN ?_) | refine gc ?_ | refine ct ?_ | refine cf ?_ | refine swp_cond rfl (fun hc => ?_) (fun hc => ?_) | refine rq rfl (rt .nil) ?_)
      all_goals rfl
    | true =>
      rw [k0] at c1
      cases k1 : all2 termB x.paths y.paths with
      | false =>
        rw [k1] at c2
        have hq : targetB x y = false := by unfold targetB; rw [k1]; simp
        have hr : ruleB a b = false := by unfold ruleB; rw [all2_no hlt hltb (by rw [hx, hy]; exact hq)]; simp
        rw [hr]
        repeat' (first | (refine rg 10 ?_; refine oMv ?_; refine oFb ?_; refine oLb ?_; refine sp (pln rfl (tyS rfl)) ?_; refine oCm ?_; refine oN ?_) | ((refine swp_any (id := 12) [[], [], [], [], [], [], [], [], [], [], [9], [10], [9], [10]] [[9, 10], [9, 10], [9, 10], [9, 10], [9, 10], [9, 10], [9, 10], [9, 10], [9, 10], [9, 10], [10], [9], [], []] mixed (by kernel_rfl) ?_) <;> refine yp (fun _ _ => po_field_bx rfl rfl (tyF rfl)) ?_ <;> refine yp (fun _ _ => po_load_bx rfl rfl (tyT rfl) rfl rfl) ?_ <;> refine yp (fun _ _ => po_move rfl rfl) ?_ <;> refine yp (fun _ _ => pix rfl (tyS rfl)) ?_ <;> (first | refine yp (fun _ _ => po_load_bx_agg rfl rfl (tyT rfl) rfl (vc (vc (vc (vc .nil)))) rfl) ?_ | refine yp (fun _ _ => po_load_agg rfl rfl (tyT rfl) rfl rfl) ?_) <;> refine yp (fun _ _ => po_field_bx rfl rfl (tyF rfl)) ?_ <;> refine yp (fun _ _ => po_load_bx rfl rfl (tyT rfl) rfl rfl) ?_ <;> refine yp (fun _ _ => po_move rfl rfl) ?_ <;> refine yp (fun _ _ => pix rfl (tyS rfl)) ?_ <;> (first | refine yp (fun _ _ => po_load_bx_agg rfl rfl (tyT rfl) rfl (vc (vc (vc (vc .nil)))) rfl) ?_ | refine yp (fun _ _ => po_load_agg rfl rfl (tyT rfl) rfl rfl) ?_) <;> refine sany_eff [(9, _)] [] (.free rfl rfl) rfl rfl (fun _ _ hb _ => e_allocS str64 rfl (hb 9 rfl rfl)) ?_ <;> refine sany_eff [(10, _)] [] (.free rfl rfl) rfl rfl (fun _ _ hb _ => e_allocS str64 rfl (hb 10 rfl rfl)) ?_ <;> refine sany_eff [(9, _)] [] (.free rfl rfl) rfl rfl (fun _ _ _ _ => e_store rfl rfl rfl rfl rfl rfl (tyT rfl) rfl rfl) ?_ <;> refine sany_eff [(10, _)] [] (.free rfl rfl) rfl rfl (fun _ _ _ _ => e_store rfl rfl rfl rfl rfl rfl (tyT rfl) rfl rfl) ?_ <;> refine sany_nil ?_) | (refine rg 13 ?_; refine oFb ?_; refine oLb ?_; refine oFb ?_; refine oLb ?_; refine oC (c1) rfl (ac (ac .nil)) ?_; refine sp (po_not rfl rfl) ?_; refine oMv ?_; refine oFb ?_ <;> refine oLb ?_ <;> refine oFb ?_ <;> refine oLb ?_ <;> (first | refine oC (c1) rfl (ac (ac .nil)) ?_ | refine oC (c2) rfl (ac (ac .nil)) ?_) <;> refine sp (po_not rfl rfl) ?_ <;> (first | refine oPt ?_ | refine oPf ?_) <;> refine oMv ?_ <;> (first | refine oFb ?_ | refine oFd ?_ | refine oK ?_) <;> (first | refine oLb ?_ | refine oLd ?_ | refine oK ?_) <;> (first | refine oFb ?_ | refine oFd ?_ | refine oK ?_) <;> (first | refine oLb ?_ | refine oLd ?_ | refine oK ?_) <;> (first | refine oC (c1) rfl (ac (ac .nil)) ?_ | refine oC (c2) rfl (ac (ac .nil)) ?_ | refine oC (c3) rfl (ac (ac .nil)) ?_ | refine oK ?_) <;> (first | refine sp (po_not rfl rfl) ?_ | refine oK ?_) <;> refine oPt ?_ <;> refine oMv ?_ <;> (first | refine oFb ?_ | refine oFd ?_ | refine oK ?_) <;> (first | refine oLb ?_ | refine oLd ?_ | refine oK ?_) <;> (first | refine sp (pln rfl (tyS rfl)) ?_ | refine oK ?_) <;> (first | refine oFb ?_ | refine oFd ?_ | refine oK ?_) <;> (first | refine oLb ?_ | refine oLd ?_ | refine oK ?_) <;> (first | refine sp (pln rfl (tyS rfl)) ?_ | refine oK ?_) <;> (first | refine oCm ?_ | refine oK ?_) <;> refine oPt ?_ <;> refine oN ?_) | (refine rg 14 ?_; refine oAs ?_; refine oN ?_) | refine gc ?_ | refine ct ?_ | refine cf ?_ | refine swp_cond rfl (fun hc => ?_) (fun hc => ?_) | refine rq rfl (rt .nil) ?_)
        all_goals rfl
      | true =>
        rw [k1] at c2
        cases k2 : all2 termB x.hosts y.hosts with
        | false =>
          rw [k2] at c3
          have hq : targetB x y = false := by unfold targetB; rw [k2]; simp
          have hr : ruleB a b = false := by unfold ruleB; rw [all2_no hlt hltb (by rw [hx, hy]; exact hq)]; simp
          rw [hr]
          repeat' (first | (refine rg 10 ?_; refine oMv ?_; refine oFb ?_; refine oLb ?_; refine sp (pln rfl (tyS rfl)) ?_; refine oCm ?_; refine oN ?_) | ((refine swp_any (id := 12) [[], [], [], [], [], [], [], [], [], [], [9], [10], [9], [10]] [[9, 10], [9, 10], [9, 10], [9, 10], [9, 10], [9, 10], [9, 10], [9, 10], [9, 10], [9, 10], [10], [9], [], []] mixed (by kernel_rfl) ?_) <;> refine yp (fun _ _ => po_field_bx rfl rfl (tyF rfl)) ?_ <;> refine yp (fun _ _ => po_load_bx rfl rfl (tyT rfl) rfl rfl) ?_ <;> refine yp (fun _ _ => po_move rfl rfl) ?_ <;> refine yp (fun _ _ => pix rfl (tyS rfl)) ?_ <;> (first | refine yp (fun _ _ => po_load_bx_agg rfl rfl (tyT rfl) rfl (vc (vc (vc (vc .nil)))) rfl) ?_ | refine yp (fun _ _ => po_load_agg rfl rfl (tyT rfl) rfl rfl) ?_) <;> refine yp (fun _ _ => po_field_bx rfl rfl (tyF rfl)) ?_ <;> refine yp (fun _ _ => po_load_bx rfl rfl (tyT rfl) rfl rfl) ?_ <;> refine yp (fun _ _ => po_move rfl rfl) ?_ <;> refine yp (fun _ _ => pix rfl (tyS rfl)) ?_ <;> (first | refine yp (fun _ _ => po_load_bx_agg rfl rfl (tyT rfl) rfl (vc (vc (vc (vc .nil)))) rfl) ?_ | refine yp (fun _ _ => po_load_agg rfl rfl (tyT rfl) rfl rfl) ?_) <;> refine sany_eff [(9, _)] [] (.free rfl rfl) rfl rfl (fun _ _ hb _ => e_allocS str64 rfl (hb 9 rfl rfl)) ?_ <;> refine sany_eff [(10, _)] [] (.free rfl rfl) rfl rfl (fun _ _ hb _ => e_allocS str64 rfl (hb 10 rfl rfl)) ?_ <;> refine sany_eff [(9, _)] [] (.free rfl rfl) rfl rfl (fun _ _ _ _ => e_store rfl rfl rfl rfl rfl rfl (tyT rfl) rfl rfl) ?_ <;> refine sany_eff [(10, _)] [] (.free rfl rfl) rfl rfl (fun _ _ _ _ => e_store rfl rfl rfl rfl rfl rfl (tyT rfl) rfl rfl) ?_ <;> refine sany_nil ?_) | (refine rg 13 ?_; refine oFb ?_; refine oLb ?_; refine oFb ?_; refine oLb ?_; refine oC (c1) rfl (ac (ac .nil)) ?_; refine sp (po_not rfl rfl) ?_; refine oMv ?_; refine oFb ?_ <;> refine oLb ?_ <;> refine oFb ?_ <;> refine oLb ?_ <;> (first | refine oC (c1) rfl (ac (ac .nil)) ?_ | refine oC (c2) rfl (ac (ac .nil)) ?_) <;> refine sp (po_not rfl rfl) ?_ <;> (first | refine oPt ?_ | refine oPf ?_) <;> refine oMv ?_ <;> refine oFb ?_ <;> refine oLb ?_ <;> refine oFb ?_ <;> refine oLb ?_ <;> (first | refine oC (c1) rfl (ac (ac .nil)) ?_ | refine oC (c2) rfl (ac (ac .nil)) ?_ | refine oC (c3) rfl (ac (ac .nil)) ?_) <;> refine sp (po_not rfl rfl) ?_ <;> (first | refine oPt ?_ | refine oPf ?_) <;> refine oMv ?_ <;> (first | refine oFb ?_ | refine oFd ?_ | refine oK ?_) <;> (first | refine oLb ?_ | refine oLd ?_ | refine oK ?_) <;> (first | refine sp (pln rfl (tyS rfl)) ?_ | refine oK ?_) <;> (first | refine oFb ?_ | refine oFd ?_ | refine oK ?_) <;> (first | refine oLb ?_ | refine oLd ?_ | refine oK ?_) <;> (first | refine sp (pln rfl (tyS rfl)) ?_ | refine oK ?_) <;> (first | refine oCm ?_ | refine oK ?_) <;> refine oPt ?_ <;> refine oN ?_) | (refine rg 14 ?_; refine oAs ?_; refine oN ?_) | refine gc ?_ | refine ct ?_ | refine cf ?_ | refine swp_cond rfl (fun hc => ?_) (fun hc => ?_) | refine rq rfl (rt .nil) ?_)
          all_goals rfl
        | true =>
          rw [k2] at c3
          by_cases l3 : x.ports.length = y.ports.length
          case neg =>
            have e3 := len_ne0 (f := intT) l3
            have hq : targetB x y = false := by unfold targetB; rw [all2_len l3]; simp
            have hr : ruleB a b = false := by unfold ruleB; rw [all2_no hlt hltb (by rw [hx, hy]; exact hq)]; simp
            rw [hr]
            repeat' (first | (refine rg 10 ?_; refine oMv ?_; refine oFb ?_; refine oLb ?_; refine sp (pln rfl (tyS rfl)) ?_; refine oCm ?_; refine oN ?_) | ((refine swp_any (id := 12) [[], [], [], [], [], [], [], [], [], [], [9], [10], [9], [10]] [[9, 10], [9, 10], [9, 10], [9, 10], [9, 10], [9, 10], [9, 10], [9, 10], [9, 10], [9, 10], [10], [9], [], []] mixed (by kernel_rfl) ?_) <;> refine yp (fun _ _ => po_field_bx rfl rfl (tyF rfl)) ?_ <;> refine yp (fun _ _ => po_load_bx rfl rfl (tyT rfl) rfl rfl) ?_ <;> refine yp (fun _ _ => po_move rfl rfl) ?_ <;> refine yp (fun _ _ => pix rfl (tyS rfl)) ?_ <;> (first | refine yp (fun _ _ => po_load_bx_agg rfl rfl (tyT rfl) rfl (vc (vc (vc (vc .nil)))) rfl) ?_ | refine yp (fun _ _ => po_load_agg rfl rfl (tyT rfl) rfl rfl) ?_) <;> refine yp (fun _ _ => po_field_bx rfl rfl (tyF rfl)) ?_ <;> refine yp (fun _ _ => po_load_bx rfl rfl (tyT rfl) rfl rfl) ?_ <;> refine yp (fun _ _ => po_move rfl rfl) ?_ <;> refine yp (fun _ _ => pix rfl (tyS rfl)) ?_ <;> (first | refine yp (fun _ _ => po_load_bx_agg rfl rfl (tyT rfl) rfl (vc (vc (vc (vc .nil)))) rfl) ?_ | refine yp (fun _ _ => po_load_agg rfl rfl (tyT rfl) rfl rfl) ?_) <;> refine sany_eff [(9, _)] [] (.free rfl rfl) rfl rfl (fun _ _ hb _ => e_allocS str64 rfl (hb 9 rfl rfl)) ?_ <;> refine sany_eff [(10, _)] [] (.free rfl rfl) rfl rfl (fun _ _ hb _ => e_allocS str64 rfl (hb 10 rfl rfl)) ?_ <;> refine sany_eff [(9, _)] [] (.free rfl rfl) rfl rfl (fun _ _ _ _ => e_store rfl rfl rfl rfl rfl rfl (tyT rfl) rfl rfl) ?_ <;> refine sany_eff [(10, _)] [] (.free rfl rfl) rfl rfl (fun _ _ _ _ => e_store rfl rfl rfl rfl rfl rfl (tyT rfl) rfl rfl) ?_ <;> refine sany_nil ?_) | (refine rg 13 ?_; refine oFb ?_; refine oLb ?_; refine oFb ?_; refine oLb ?_; refine oC (c1) rfl (ac (ac .nil)) ?_; refine sp (po_not rfl rfl) ?_; refine oMv ?_; refine oFb ?_ <;> refine oLb ?_ <;> refine oFb ?_ <;> refine oLb ?_ <;> (first | refine oC (c1) rfl (ac (ac .nil)) ?_ | refine oC (c2) rfl (ac (ac .nil)) ?_) <;> refine sp (po_not rfl rfl) ?_ <;> (first | refine oPt ?_ | refine oPf ?_) <;> refine oMv ?_ <;> refine oFb ?_ <;> refine oLb ?_ <;> refine oFb ?_ <;> refine oLb ?_ <;> (first | refine oC (c1) rfl (ac (ac .nil)) ?_ | refine oC (c2) rfl (ac (ac .nil)) ?_ | refine oC (c3) rfl (ac (ac .nil)) ?_) <;> refine sp (po_not rfl rfl) ?_ <;> (first | refine oPt ?_ | refine oPf ?_) <;> refine oMv ?_ <;> refine oFb ?_ <;> refine oLb ?_ <;> refine sp (pln rfl (tyS rfl)) ?_ <;> refine oFb ?_ <;> refine oLb ?_ <;> refine sp (pln rfl (tyS rfl)) ?_ <;> refine oCm ?_ <;> (first | refine oPt ?_ | refine oPf ?_) <;> refine oN ?_) | (refine rg 14 ?_; refine oAs ?_; refine oN ?_) | refine gc ?_ | refine ct ?_ | refine cf ?_ | refine swp_cond rfl (fun hc => ?_) (fun hc => ?_) | refine rq rfl (rt .nil) ?_)
            all_goals rfl
          have e3 := len_eq0 (f := intT) l3
          repeat' (first | (refine rg 10 ?_; refine oMv ?_; refine oFb ?_; refine oLb ?_; refine sp (pln rfl (tyS rfl)) ?_; refine oCm ?_; refine oN ?_) | ((refine swp_any (id := 12) [[], [], [], [], [], [], [], [], [], [], [9], [10], [9], [10]] [[9, 10], [9, 10], [9, 10], [9, 10], [9, 10], [9, 10], [9, 10], [9, 10], [9, 10], [9, 10], [10], [9], [], []] mixed (by kernel_rfl) ?_) <;> refine yp (fun _ _ => po_field_bx rfl rfl (tyF rfl)) ?_ <;> refine yp (fun _ _ => po_load_bx rfl rfl (tyT rfl) rfl rfl) ?_ <;> refine yp (fun _ _ => po_move rfl rfl) ?_ <;> refine yp (fun _ _ => pix rfl (tyS rfl)) ?_ <;> (first | refine yp (fun _ _ => po_load_bx_agg rfl rfl (tyT rfl) rfl (vc (vc (vc (vc .nil)))) rfl) ?_ | refine yp (fun _ _ => po_load_agg rfl rfl (tyT rfl) rfl rfl) ?_) <;> refine yp (fun _ _ => po_field_bx rfl rfl (tyF rfl)) ?_ <;> refine yp (fun _ _ => po_load_bx rfl rfl (tyT rfl) rfl rfl) ?_ <;> refine yp (fun _ _ => po_move rfl rfl) ?_ <;> refine yp (fun _ _ => pix rfl (tyS rfl)) ?_ <;> (first | refine yp (fun _ _ => po_load_bx_agg rfl rfl (tyT rfl) rfl (vc (vc (vc (vc .nil)))) rfl) ?_ | refine yp (fun _ _ => po_load_agg rfl rfl (tyT rfl) rfl rfl) ?_) <;> refine sany_eff [(9, _)] [] (.free rfl rfl) rfl rfl (fun _ _ hb _ => e_allocS str64 rfl (hb 9 rfl rfl)) ?_ <;> refine sany_eff [(10, _)] [] (.free rfl rfl) rfl rfl (fun _ _ hb _ => e_allocS str64 rfl (hb 10 rfl rfl)) ?_ <;> refine sany_eff [(9, _)] [] (.free rfl rfl) rfl rfl (fun _ _ _ _ => e_store rfl rfl rfl rfl rfl rfl (tyT rfl) rfl rfl) ?_ <;> refine sany_eff [(10, _)] [] (.free rfl rfl) rfl rfl (fun _ _ _ _ => e_store rfl rfl rfl rfl rfl rfl (tyT rfl) rfl rfl) ?_ <;> refine sany_nil ?_) | (refine rg 13 ?_; refine oFb ?_; refine oLb ?_; refine oFb ?_; refine oLb ?_; refine oC (c1) rfl (ac (ac .nil)) ?_; refine sp (po_not rfl rfl) ?_; refine oMv ?_; refine oFb ?_ <;> refine oLb ?_ <;> refine oFb ?_ <;> refine oLb ?_ <;> (first | refine oC (c1) rfl (ac (ac .nil)) ?_ | refine oC (c2) rfl (ac (ac .nil)) ?_) <;> refine sp (po_not rfl rfl) ?_ <;> (first | refine oPt ?_ | refine oPf ?_) <;> refine oMv ?_ <;> refine oFb ?_ <;> refine oLb ?_ <;> refine oFb ?_ <;> refine oLb ?_ <;> (first | refine oC (c1) rfl (ac (ac .nil)) ?_ | refine oC (c2) rfl (ac (ac .nil)) ?_ | refine oC (c3) rfl (ac (ac .nil)) ?_) <;> refine sp (po_not rfl rfl) ?_ <;> (first | refine oPt ?_ | refine oPf ?_) <;> refine oMv ?_ <;> refine oFb ?_ <;> refine oLb ?_ <;> refine sp (pln rfl (tyS rfl)) ?_ <;> refine oFb ?_ <;> refine oLb ?_ <;> refine sp (pln rfl (tyS rfl)) ?_ <;> refine oCm ?_ <;> (first | refine oPt ?_ | refine oPf ?_) <;> refine oN ?_) | (refine rg 15 ?_; refine oAs ?_; refine oN ?_) | refine gc ?_ | refine ct ?_ | refine cf ?_ | refine swp_cond rfl (fun hc => ?_) (fun hc => ?_) | refine rq rfl (rt .nil) ?_)
          refine swp_for (G2b a b k x y) (UpTo intB x.ports y.ports) x.ports.length (weak_sub (.cons rfl rfl rfl (.cons rfl rfl rfl (.cons rfl rfl rfl (.cons rfl rfl rfl (.cons rfl rfl rfl (.cons rfl rfl rfl .nil)))))) (.cons rfl rfl rfl (.cons rfl rfl rfl (.cons rfl rfl rfl (.cons rfl rfl rfl .nil)))) .nil) .zero ?_
          intro j hj hJ
          unfold G2b
          by_cases hjl : j < x.ports.length
          case pos =>
            have hjlb : j < y.ports.length := by omega
            obtain ⟨p, hp⟩ : ∃ p, x.ports[j] = p := ⟨_, rfl⟩
            obtain ⟨q, hq⟩ : ∃ q, y.ports[j] = q := ⟨_, rfl⟩
            have s1 : (x.ports.map intT)[j]? = some (intT p) := by rw [map_at_some hjl, hp]
            have s2 : (y.ports.map intT)[j]? = some (intT q) := by rw [map_at_some hjlb, hq]
            have s3 : j < (x.ports.map intT).length := by rw [List.length_map]; exact hjl
            have s4 : j < (y.ports.map intT).length := by rw [List.length_map]; exact hjlb
            cases kj : decide (p = q) with
            | false =>
              have kj' : (!decide (p = q)) = true := by rw [kj]; rfl
              have hz : all2 intB x.ports y.ports = false := all2_no hjl hjlb (by rw [hp, hq]; exact kj)
              have hq : targetB x y = false := by unfold targetB; rw [hz]; simp
              have hr : ruleB a b = false := by unfold ruleB; rw [all2_no hlt hltb (by rw [hx, hy]; exact hq)]; simp
              rw [hr]
              repeat' (first | (refine rg 16 ?_; refine oMv ?_; refine oFb ?_; refine oLb ?_; refine sp (pln rfl (tyS rfl)) ?_; refine oCm ?_; refine oN ?_) | (refine rd 18 ?_; refine dFb ?_; refine dLb ?_; refine dMv ?_; refine dp (pix rfl (tyS rfl)) ?_; (first | refine dLb ?_ | refine dLd ?_); refine dFb ?_; refine dLb ?_; refine dMv ?_; refine dp (pix rfl (tyS rfl)) ?_; (first | refine dLb ?_ | refine dLd ?_); refine dCm ?_; refine dN ?_; refine oN ?_) | (refine rg 19 ?_; refine oAs ?_; refine oN ?_) | refine gc ?_ | refine ct ?_ | refine cf ?_ | refine swp_cond rfl (fun hc => ?_) (fun hc => ?_) | refine rq rfl (rt .nil) ?_)
              all_goals rfl
            | true =>
              have kj' : (!decide (p = q)) = false := by rw [kj]; rfl
              repeat' (first | refine for_next hjl (weak_sub (.cons rfl rfl rfl (.cons rfl rfl rfl (.cons rfl rfl rfl (.cons rfl rfl rfl (.cons rfl rfl rfl (.cons rfl rfl rfl .nil)))))) (.cons rfl rfl rfl (.cons rfl rfl rfl (.cons rfl rfl rfl (.cons rfl rfl rfl .nil)))) .nil) (hJ.succ hjl hjlb hp hq kj) | (refine rg 16 ?_; refine oMv ?_; refine oFb ?_; refine oLb ?_; refine sp (pln rfl (tyS rfl)) ?_; refine oCm ?_; refine oN ?_) | (refine rd 18 ?_; refine dFb ?_; refine dLb ?_; refine dMv ?_; refine dp (pix rfl (tyS rfl)) ?_; (first | refine dLb ?_ | refine dLd ?_); refine dFb ?_; refine dLb ?_; refine dMv ?_; refine dp (pix rfl (tyS rfl)) ?_; (first | refine dLb ?_ | refine dLd ?_); refine dCm ?_; refine dN ?_; refine oN ?_) | (refine rg 17 ?_; refine oMv ?_; refine sp (xinc rfl) ?_; refine oAs ?_; refine oN ?_) | refine gc ?_ | refine ct ?_ | refine cf ?_)
          obtain rfl : j = x.ports.length := by omega
          have hq : targetB x y = true := by unfold targetB; rw [hJ.all l3, k0, k1, k2]; rfl
          repeat' (first | refine for_next hlt (weak_sub (.cons rfl rfl rfl (.cons rfl rfl rfl (.cons rfl rfl rfl .nil))) (.cons rfl rfl rfl (.cons rfl rfl rfl .nil)) .nil) (hI.succ hlt hltb hx hy hq) | (refine rg 16 ?_; refine oMv ?_; refine oFb ?_; refine oLb ?_; refine sp (pln rfl (tyS rfl)) ?_; refine oCm ?_; refine oN ?_) | (refine rg 11 ?_; refine oMv ?_; refine sp (xinc rfl) ?_; refine oAs ?_; refine oN ?_) | refine gc ?_ | refine ct ?_ | refine cf ?_)
  obtain rfl : k = a.to_.length := by omega
  have hT := hI.all l1
  repeat' (first | (refine rg 10 ?_; refine oMv ?_; refine oFb ?_; refine oLb ?_; refine sp (pln rfl (tyS rfl)) ?_; refine oCm ?_; refine oN ?_) | (refine rg 20 ?_; refine oAs ?_; refine oN ?_) | refine gc ?_ | refine ct ?_ | refine cf ?_ | refine swp_cond rfl (fun hc => ?_) (fun hc => ?_) | refine rq rfl (rt .nil) ?_)
  refine swp_for (G3 a b) (UpTo whenB a.when_ b.when_) a.when_.length (weak_sub (.cons rfl rfl rfl (.cons rfl rfl rfl (.cons rfl rfl rfl .nil))) (.cons rfl rfl rfl (.cons rfl rfl rfl .nil)) .nil) .zero ?_
  intro k hk hI
  unfold G3
  by_cases hlt : k < a.when_.length
  case pos =>
    have hltb : k < b.when_.length := by omega
    obtain ⟨x, hx⟩ : ∃ x, a.when_[k] = x := ⟨_, rfl⟩
    obtain ⟨y, hy⟩ : ∃ y, b.when_[k] = y := ⟨_, rfl⟩
    have r1 : (a.when_.map whenT)[k]? = some (whenT x) := by rw [map_at_some hlt, hx]
    have r2 : (b.when_.map whenT)[k]? = some (whenT y) := by rw [map_at_some hltb, hy]
    have r3 : k < (a.when_.map whenT).length := by rw [List.length_map]; exact hlt
    have r4 : k < (b.when_.map whenT).length := by rw [List.length_map]; exact hltb
    have b0 := hx ▸ ha.ws _ (List.getElem_mem hlt)
    have d0 := hy ▸ hb.ws _ (List.getElem_mem hltb)
    have c1 := termsG x.terms y.terms b0 d0
    cases k0 : decide (x.head = y.head) with
    | false =>
      have k0' : (!decide (x.head = y.head)) = true := by rw [k0]; rfl
      have hq : whenB x y = false := by unfold whenB; rw [k0]; simp
      have hr : ruleB a b = false := by unfold ruleB; rw [all2_no hlt hltb (by rw [hx, hy]; exact hq)]; simp
      rw [hr]
      repeat' (first | (refine rg 21 ?_; refine oMv ?_; refine oFb ?_; refine oLb ?_; refine sp (pln rfl (tyS rfl)) ?_; refine oCm ?_; refine oN ?_) | (refine rd 23 ?_; refine dFb ?_; refine dLb ?_; refine dMv ?_; refine dp (pix rfl (tyS rfl)) ?_; (first | refine dFb ?_ | refine dFd ?_); (first | refine dLb ?_ | refine dLd ?_); refine dFb ?_; refine dLb ?_; refine dMv ?_; refine dp (pix rfl (tyS rfl)) ?_; (first | refine dFb ?_ | refine dFd ?_); (first | refine dLb ?_ | refine dLd ?_); refine dp (po_str rfl rfl rfl rfl) ?_; refine dMv ?_; (first | refine dFb ?_ | refine dFd ?_ | refine dK ?_) <;> (first | refine dLb ?_ | refine dLd ?_ | refine dK ?_) <;> (first | refine dMv ?_ | refine dK ?_) <;> (first | refine dp (pix rfl (tyS rfl)) ?_ | refine dK ?_) <;> (first | refine dFb ?_ | refine dFd ?_ | refine dK ?_) <;> (first | refine dLb ?_ | refine dLd ?_ | refine dK ?_) <;> (first | refine dFb ?_ | refine dFd ?_ | refine dK ?_) <;> (first | refine dLb ?_ | refine dLd ?_ | refine dK ?_) <;> (first | refine dMv ?_ | refine dK ?_) <;> (first | refine dp (pix rfl (tyS rfl)) ?_ | refine dK ?_) <;> (first | refine dFb ?_ | refine dFd ?_ | refine dK ?_) <;> (first | refine dLb ?_ | refine dLd ?_ | refine dK ?_) <;> (first | refine dC (c1) rfl (ac (ac .nil)) ?_ | refine dK ?_) <;> (first | refine dp (po_not rfl rfl) ?_ | refine dK ?_) <;> refine dPt ?_ <;> refine dN ?_ <;> refine oN ?_) | (refine rg 24 ?_; refine oAs ?_; refine oN ?_) | refine gc ?_ | refine ct ?_ | refine cf ?_ | refine swp_cond rfl (fun hc => ?_) (fun hc => ?_) | refine rq rfl (rt .nil) ?_)
      all_goals rfl
    | true =>
      have k0' : (!decide (x.head = y.head)) = false := by rw [k0]; rfl
      cases k1 : all2 termB x.terms y.terms with
      | false =>
        rw [k1] at c1
        have hq : whenB x y = false := by unfold whenB; rw [k1]; simp
        have hr : ruleB a b = false := by unfold ruleB; rw [all2_no hlt hltb (by rw [hx, hy]; exact hq)]; simp
        rw [hr]
        repeat' (first | (refine rg 21 ?_; refine oMv ?_; refine oFb ?_; refine oLb ?_; refine sp (pln rfl (tyS rfl)) ?_; refine oCm ?_; refine oN ?_) | (refine rd 23 ?_; refine dFb ?_; refine dLb ?_; refine dMv ?_; refine dp (pix rfl (tyS rfl)) ?_; (first | refine dFb ?_ | refine dFd ?_); (first | refine dLb ?_ | refine dLd ?_); refine dFb ?_; refine dLb ?_; refine dMv ?_; refine dp (pix rfl (tyS rfl)) ?_; (first | refine dFb ?_ | refine dFd ?_); (first | refine dLb ?_ | refine dLd ?_); refine dp (po_str rfl rfl rfl rfl) ?_; refine dMv ?_; refine dFb ?_ <;> refine dLb ?_ <;> refine dMv ?_ <;> refine dp (pix rfl (tyS rfl)) ?_ <;> (first | refine dFb ?_ | refine dFd ?_) <;> (first | refine dLb ?_ | refine dLd ?_) <;> refine dFb ?_ <;> refine dLb ?_ <;> refine dMv ?_ <;> refine dp (pix rfl (tyS rfl)) ?_ <;> (first | refine dFb ?_ | refine dFd ?_) <;> (first | refine dLb ?_ | refine dLd ?_) <;> refine dC (c1) rfl (ac (ac .nil)) ?_ <;> refine dp (po_not rfl rfl) ?_ <;> (first | refine dPt ?_ | refine dPf ?_) <;> refine dN ?_ <;> refine oN ?_) | (refine rg 24 ?_; refine oAs ?_; refine oN ?_) | refine gc ?_ | refine ct ?_ | refine cf ?_ | refine swp_cond rfl (fun hc => ?_) (fun hc => ?_) | refine rq rfl (rt .nil) ?_)
        all_goals rfl
      | true =>
        rw [k1] at c1
        have hq : whenB x y = true := by unfold whenB; rw [k0, k1]; rfl
        repeat' (first | refine for_next hlt (weak_sub (.cons rfl rfl rfl (.cons rfl rfl rfl (.cons rfl rfl rfl .nil))) (.cons rfl rfl rfl (.cons rfl rfl rfl .nil)) .nil) (hI.succ hlt hltb hx hy hq) | (refine rg 21 ?_; refine oMv ?_; refine oFb ?_; refine oLb ?_; refine sp (pln rfl (tyS rfl)) ?_; refine oCm ?_; refine oN ?_) | (refine rd 23 ?_; refine dFb ?_; refine dLb ?_; refine dMv ?_; refine dp (pix rfl (tyS rfl)) ?_; (first | refine dFb ?_ | refine dFd ?_); (first | refine dLb ?_ | refine dLd ?_); refine dFb ?_; refine dLb ?_; refine dMv ?_; refine dp (pix rfl (tyS rfl)) ?_; (first | refine dFb ?_ | refine dFd ?_); (first | refine dLb ?_ | refine dLd ?_); refine dp (po_str rfl rfl rfl rfl) ?_; refine dMv ?_; refine dFb ?_ <;> refine dLb ?_ <;> refine dMv ?_ <;> refine dp (pix rfl (tyS rfl)) ?_ <;> (first | refine dFb ?_ | refine dFd ?_) <;> (first | refine dLb ?_ | refine dLd ?_) <;> refine dFb ?_ <;> refine dLb ?_ <;> refine dMv ?_ <;> refine dp (pix rfl (tyS rfl)) ?_ <;> (first | refine dFb ?_ | refine dFd ?_) <;> (first | refine dLb ?_ | refine dLd ?_) <;> refine dC (c1) rfl (ac (ac .nil)) ?_ <;> refine dp (po_not rfl rfl) ?_ <;> (first | refine dPt ?_ | refine dPf ?_) <;> refine dN ?_ <;> refine oN ?_) | (refine rg 22 ?_; refine oMv ?_; refine sp (xinc rfl) ?_; refine oAs ?_; refine oN ?_) | refine gc ?_ | refine ct ?_ | refine cf ?_)
  obtain rfl : k = a.when_.length := by omega
  have hr : ruleB a b = true := by unfold ruleB; rw [hS, hT, hI.all l2]; rfl
  rw [hr]
  repeat' (first | (refine rg 21 ?_; refine oMv ?_; refine oFb ?_; refine oLb ?_; refine sp (pln rfl (tyS rfl)) ?_; refine oCm ?_; refine oN ?_) | (refine rg 25 ?_; refine oAs ?_; refine oN ?_) | refine gc ?_ | refine ct ?_ | refine cf ?_ | refine swp_cond rfl (fun hc => ?_) (fun hc => ?_) | refine rq rfl (rt .nil) ?_)
  all_goals rfl
set_option maxRecDepth 100000 in
set_option maxHeartbeats 2000000 in
theorem sameR (a b : Pl.Policy) (ha : FewP a) (hb : FewP b) : PCalls Tryz.prog 18 [.agg (polT a), .agg (polT b)] (.v (.bool (polB a b))) := by
  have hm1 : (a.rules.map ruleT).length = a.rules.length := List.length_map _
  have n1 := ha.n
  have m1 := hb.n
  refine pcalls_of Tryz.func18 rfl rfl Tryz.ntmps18 rfl ?_
  cases k0 : decide (a.id = b.id) with
  | false =>
    have q0 : (!decide (a.id = b.id)) = true := by rw [k0]; rfl
    have hr : polB a b = false := by unfold polB; rw [k0]; simp
    rw [hr]
    repeat' (first | (refine rg 0 ?_; refine sbx ?_; refine sbx ?_; refine oAs ?_; refine oN ?_) | (refine rg 1 ?_; refine oFb ?_; refine oLb ?_; refine oFb ?_; refine oLb ?_; refine oCm ?_; refine oMv ?_; (first | refine oFb ?_ | refine oFd ?_ | refine oK ?_) <;> (first | refine oLb ?_ | refine oLd ?_ | refine oK ?_) <;> (first | refine oFb ?_ | refine oFd ?_ | refine oK ?_) <;> (first | refine oLb ?_ | refine oLd ?_ | refine oK ?_) <;> (first | refine sp (po_str rfl rfl rfl rfl) ?_ | refine oK ?_) <;> refine oPt ?_ <;> refine oMv ?_ <;> (first | refine oFb ?_ | refine oFd ?_ | refine oK ?_) <;> (first | refine oLb ?_ | refine oLd ?_ | refine oK ?_) <;> (first | refine oFb ?_ | refine oFd ?_ | refine oK ?_) <;> (first | refine oLb ?_ | refine oLd ?_ | refine oK ?_) <;> (first | refine oCm ?_ | refine oK ?_) <;> refine oPt ?_ <;> refine oMv ?_ <;> (first | refine oFb ?_ | refine oFd ?_ | refine oK ?_) <;> (first | refine oLb ?_ | refine oLd ?_ | refine oK ?_) <;> (first | refine oFb ?_ | refine oFd ?_ | refine oK ?_) <;> (first | refine oLb ?_ | refine oLd ?_ | refine oK ?_) <;> (first | refine oCm ?_ | refine oK ?_) <;> refine oPt ?_ <;> refine oMv ?_ <;> (first | refine oFb ?_ | refine oFd ?_ | refine oK ?_) <;> (first | refine oLb ?_ | refine oLd ?_ | refine oK ?_) <;> (first | refine sp (pln rfl (tyS rfl)) ?_ | refine oK ?_) <;> (first | refine oFb ?_ | refine oFd ?_ | refine oK ?_) <;> (first | refine oLb ?_ | refine oLd ?_ | refine oK ?_) <;> (first | refine sp (pln rfl (tyS rfl)) ?_ | refine oK ?_) <;> (first | refine oCm ?_ | refine oK ?_) <;> refine oPt ?_ <;> refine oN ?_) | (refine rg 2 ?_; refine oAs ?_; refine oN ?_) | refine gc ?_ | refine ct ?_ | refine cf ?_ | refine swp_cond rfl (fun hc => ?_) (fun hc => ?_) | refine rq rfl (rt .nil) ?_)
    all_goals rfl
  | true =>
  have q0 : (!decide (a.id = b.id)) = false := by rw [k0]; rfl
  cases k1 : decide (a.ns = b.ns) with
  | false =>
    have q1 : (!decide (a.ns = b.ns)) = true := by rw [k1]; rfl
    have hr : polB a b = false := by unfold polB; rw [k1]; simp
    rw [hr]
    repeat' (first | (refine rg 0 ?_; refine sbx ?_; refine sbx ?_; refine oAs ?_; refine oN ?_) | (refine rg 1 ?_; refine oFb ?_; refine oLb ?_; refine oFb ?_; refine oLb ?_; refine oCm ?_; refine oMv ?_; refine oFb ?_ <;> refine oLb ?_ <;> refine oFb ?_ <;> refine oLb ?_ <;> refine sp (po_str rfl rfl rfl rfl) ?_ <;> (first | refine oPt ?_ | refine oPf ?_) <;> refine oMv ?_ <;> (first | refine oFb ?_ | refine oFd ?_ | refine oK ?_) <;> (first | refine oLb ?_ | refine oLd ?_ | refine oK ?_) <;> (first | refine oFb ?_ | refine oFd ?_ | refine oK ?_) <;> (first | refine oLb ?_ | refine oLd ?_ | refine oK ?_) <;> (first | refine oCm ?_ | refine oK ?_) <;> refine oPt ?_ <;> refine oMv ?_ <;> (first | refine oFb ?_ | refine oFd ?_ | refine oK ?_) <;> (first | refine oLb ?_ | refine oLd ?_ | refine oK ?_) <;> (first | refine oFb ?_ | refine oFd ?_ | refine oK ?_) <;> (first | refine oLb ?_ | refine oLd ?_ | refine oK ?_) <;> (first | refine oCm ?_ | refine oK ?_) <;> refine oPt ?_ <;> refine oMv ?_ <;> (first | refine oFb ?_ | refine oFd ?_ | refine oK ?_) <;> (first | refine oLb ?_ | refine oLd ?_ | refine oK ?_) <;> (first | refine sp (pln rfl (tyS rfl)) ?_ | refine oK ?_) <;> (first | refine oFb ?_ | refine oFd ?_ | refine oK ?_) <;> (first | refine oLb ?_ | refine oLd ?_ | refine oK ?_) <;> (first | refine sp (pln rfl (tyS rfl)) ?_ | refine oK ?_) <;> (first | refine oCm ?_ | refine oK ?_) <;> refine oPt ?_ <;> refine oN ?_) | (refine rg 2 ?_; refine oAs ?_; refine oN ?_) | refine gc ?_ | refine ct ?_ | refine cf ?_ | refine swp_cond rfl (fun hc => ?_) (fun hc => ?_) | refine rq rfl (rt .nil) ?_)
    all_goals rfl
  | true =>
  have q1 : (!decide (a.ns = b.ns)) = false := by rw [k1]; rfl
  cases k2 : decide (a.service = b.service) with
  | false =>
    have q2 : (!decide (a.service = b.service)) = true := by rw [k2]; rfl
    have hr : polB a b = false := by unfold polB; rw [k2]; simp
    rw [hr]
    repeat' (first | (refine rg 0 ?_; refine sbx ?_; refine sbx ?_; refine oAs ?_; refine oN ?_) | (refine rg 1 ?_; refine oFb ?_; refine oLb ?_; refine oFb ?_; refine oLb ?_; refine oCm ?_; refine oMv ?_; refine oFb ?_ <;> refine oLb ?_ <;> refine oFb ?_ <;> refine oLb ?_ <;> refine sp (po_str rfl rfl rfl rfl) ?_ <;> (first | refine oPt ?_ | refine oPf ?_) <;> refine oMv ?_ <;> refine oFb ?_ <;> refine oLb ?_ <;> refine oFb ?_ <;> refine oLb ?_ <;> refine oCm ?_ <;> (first | refine oPt ?_ | refine oPf ?_) <;> refine oMv ?_ <;> (first | refine oFb ?_ | refine oFd ?_ | refine oK ?_) <;> (first | refine oLb ?_ | refine oLd ?_ | refine oK ?_) <;> (first | refine oFb ?_ | refine oFd ?_ | refine oK ?_) <;> (first | refine oLb ?_ | refine oLd ?_ | refine oK ?_) <;> (first | refine oCm ?_ | refine oK ?_) <;> refine oPt ?_ <;> refine oMv ?_ <;> (first | refine oFb ?_ | refine oFd ?_ | refine oK ?_) <;> (first | refine oLb ?_ | refine oLd ?_ | refine oK ?_) <;> (first | refine sp (pln rfl (tyS rfl)) ?_ | refine oK ?_) <;> (first | refine oFb ?_ | refine oFd ?_ | refine oK ?_) <;> (first | refine oLb ?_ | refine oLd ?_ | refine oK ?_) <;> (first | refine sp (pln rfl (tyS rfl)) ?_ | refine oK ?_) <;> (first | refine oCm ?_ | refine oK ?_) <;> refine oPt ?_ <;> refine oN ?_) | (refine rg 2 ?_; refine oAs ?_; refine oN ?_) | refine gc ?_ | refine ct ?_ | refine cf ?_ | refine swp_cond rfl (fun hc => ?_) (fun hc => ?_) | refine rq rfl (rt .nil) ?_)
    all_goals rfl
  | true =>
  have q2 : (!decide (a.service = b.service)) = false := by rw [k2]; rfl
  cases k3 : decide (a.deny = b.deny) with
  | false =>
    have q3 : (!decide (a.deny = b.deny)) = true := by rw [k3]; rfl
    have hr : polB a b = false := by unfold polB; rw [k3]; simp
    rw [hr]
    repeat' (first | (refine rg 0 ?_; refine sbx ?_; refine sbx ?_; refine oAs ?_; refine oN ?_) | (refine rg 1 ?_; refine oFb ?_; refine oLb ?_; refine oFb ?_; refine oLb ?_; refine oCm ?_; refine oMv ?_; refine oFb ?_ <;> refine oLb ?_ <;> refine oFb ?_ <;> refine oLb ?_ <;> refine sp (po_str rfl rfl rfl rfl) ?_ <;> (first | refine oPt ?_ | refine oPf ?_) <;> refine oMv ?_ <;> refine oFb ?_ <;> refine oLb ?_ <;> refine oFb ?_ <;> refine oLb ?_ <;> refine oCm ?_ <;> (first | refine oPt ?_ | refine oPf ?_) <;> refine oMv ?_ <;> refine oFb ?_ <;> refine oLb ?_ <;> refine oFb ?_ <;> refine oLb ?_ <;> refine oCm ?_ <;> (first | refine oPt ?_ | refine oPf ?_) <;> refine oMv ?_ <;> (first | refine oFb ?_ | refine oFd ?_ | refine oK ?_) <;> (first | refine oLb ?_ | refine oLd ?_ | refine oK ?_) <;> (first | refine sp (pln rfl (tyS rfl)) ?_ | refine oK ?_) <;> (first | refine oFb ?_ | refine oFd ?_ | refine oK ?_) <;> (first | refine oLb ?_ | refine oLd ?_ | refine oK ?_) <;> (first | refine sp (pln rfl (tyS rfl)) ?_ | refine oK ?_) <;> (first | refine oCm ?_ | refine oK ?_) <;> refine oPt ?_ <;> refine oN ?_) | (refine rg 2 ?_; refine oAs ?_; refine oN ?_) | refine gc ?_ | refine ct ?_ | refine cf ?_ | refine swp_cond rfl (fun hc => ?_) (fun hc => ?_) | refine rq rfl (rt .nil) ?_)
    all_goals rfl
  | true =>
  have q3 : (!decide (a.deny = b.deny)) = false := by rw [k3]; rfl
  by_cases l0 : a.rules.length = b.rules.length
  case neg =>
    have e0 := len_ne0 (f := ruleT) l0
    have hr : polB a b = false := by unfold polB; rw [all2_len l0]; simp
    rw [hr]
    repeat' (first | (refine rg 0 ?_; refine sbx ?_; refine sbx ?_; refine oAs ?_; refine oN ?_) | (refine rg 1 ?_; refine oFb ?_; refine oLb ?_; refine oFb ?_; refine oLb ?_; refine oCm ?_; refine oMv ?_; refine oFb ?_ <;> refine oLb ?_ <;> refine oFb ?_ <;> refine oLb ?_ <;> refine sp (po_str rfl rfl rfl rfl) ?_ <;> (first | refine oPt ?_ | refine oPf ?_) <;> refine oMv ?_ <;> refine oFb ?_ <;> refine oLb ?_ <;> refine oFb ?_ <;> refine oLb ?_ <;> refine oCm ?_ <;> (first | refine oPt ?_ | refine oPf ?_) <;> refine oMv ?_ <;> refine oFb ?_ <;> refine oLb ?_ <;> refine oFb ?_ <;> refine oLb ?_ <;> refine oCm ?_ <;> (first | refine oPt ?_ | refine oPf ?_) <;> refine oMv ?_ <;> refine oFb ?_ <;> refine oLb ?_ <;> refine sp (pln rfl (tyS rfl)) ?_ <;> refine oFb ?_ <;> refine oLb ?_ <;> refine sp (pln rfl (tyS rfl)) ?_ <;> refine oCm ?_ <;> (first | refine oPt ?_ | refine oPf ?_) <;> refine oN ?_) | (refine rg 2 ?_; refine oAs ?_; refine oN ?_) | refine gc ?_ | refine ct ?_ | refine cf ?_ | refine swp_cond rfl (fun hc => ?_) (fun hc => ?_) | refine rq rfl (rt .nil) ?_)
    all_goals rfl
  have e0 := len_eq0 (f := ruleT) l0
  repeat' (first | (refine rg 0 ?_; refine sbx ?_; refine sbx ?_; refine oAs ?_; refine oN ?_) | (refine rg 1 ?_; refine oFb ?_; refine oLb ?_; refine oFb ?_; refine oLb ?_; refine oCm ?_; refine oMv ?_; refine oFb ?_ <;> refine oLb ?_ <;> refine oFb ?_ <;> refine oLb ?_ <;> refine sp (po_str rfl rfl rfl rfl) ?_ <;> (first | refine oPt ?_ | refine oPf ?_) <;> refine oMv ?_ <;> refine oFb ?_ <;> refine oLb ?_ <;> refine oFb ?_ <;> refine oLb ?_ <;> refine oCm ?_ <;> (first | refine oPt ?_ | refine oPf ?_) <;> refine oMv ?_ <;> refine oFb ?_ <;> refine oLb ?_ <;> refine oFb ?_ <;> refine oLb ?_ <;> refine oCm ?_ <;> (first | refine oPt ?_ | refine oPf ?_) <;> refine oMv ?_ <;> refine oFb ?_ <;> refine oLb ?_ <;> refine sp (pln rfl (tyS rfl)) ?_ <;> refine oFb ?_ <;> refine oLb ?_ <;> refine sp (pln rfl (tyS rfl)) ?_ <;> refine oCm ?_ <;> (first | refine oPt ?_ | refine oPf ?_) <;> refine oN ?_) | (refine rg 3 ?_; refine oAs ?_; refine oN ?_) | refine gc ?_ | refine ct ?_ | refine cf ?_ | refine swp_cond rfl (fun hc => ?_) (fun hc => ?_) | refine rq rfl (rt .nil) ?_)
  refine swp_for (fun k => ⟨[(2, .bp 2 0), (3, .bp 3 0), (5, .t (.v (.int .i64 (k : Int))))], [(2, pcells a), (3, pcells b)], []⟩) (UpTo ruleB a.rules b.rules) a.rules.length (weak_sub (.cons rfl rfl rfl (.cons rfl rfl rfl (.cons rfl rfl rfl .nil))) (.cons rfl rfl rfl (.cons rfl rfl rfl .nil)) .nil) .zero ?_
  intro k hk hI
  by_cases hlt : k < a.rules.length
  case pos =>
    have hltb : k < b.rules.length := by omega
    obtain ⟨x, hx⟩ : ∃ x, a.rules[k] = x := ⟨_, rfl⟩
    obtain ⟨y, hy⟩ : ∃ y, b.rules[k] = y := ⟨_, rfl⟩
    have r1 : (a.rules.map ruleT)[k]? = some (ruleT x) := by rw [map_at_some hlt, hx]
    have r2 : (b.rules.map ruleT)[k]? = some (ruleT y) := by rw [map_at_some hltb, hy]
    have r3 : k < (a.rules.map ruleT).length := by rw [List.length_map]; exact hlt
    have r4 : k < (b.rules.map ruleT).length := by rw [List.length_map]; exact hltb
    have c1 := sameRuleR x y (hx ▸ ha.r _ (List.getElem_mem hlt)) (hy ▸ hb.r _ (List.getElem_mem hltb))
    cases kk : ruleB x y with
    | false =>
      rw [kk] at c1
      have hr : polB a b = false := by unfold polB; rw [all2_no hlt hltb (by rw [hx, hy]; exact kk)]; simp
      rw [hr]
      repeat' (first | (refine rg 4 ?_; refine oMv ?_; refine oFb ?_; refine oLb ?_; refine sp (pln rfl (tyS rfl)) ?_; refine oCm ?_; refine oN ?_) | (refine rd 6 ?_; refine dFb ?_; refine dLb ?_; refine dMv ?_; refine dp (pix rfl (tyS rfl)) ?_; (first | refine dp (po_load_bx_agg rfl rfl (tyT rfl) rfl (vc (vc (vc .nil))) rfl) ?_ | refine dp (po_load_agg rfl rfl (tyT rfl) rfl rfl) ?_); refine dFb ?_; refine dLb ?_; refine dMv ?_; refine dp (pix rfl (tyS rfl)) ?_; (first | refine dp (po_load_bx_agg rfl rfl (tyT rfl) rfl (vc (vc (vc .nil))) rfl) ?_ | refine dp (po_load_agg rfl rfl (tyT rfl) rfl rfl) ?_); refine dC (c1) rfl (ac (ac .nil)) ?_; refine dp (po_not rfl rfl) ?_; refine dN ?_; refine oN ?_) | (refine rg 7 ?_; refine oAs ?_; refine oN ?_) | refine gc ?_ | refine ct ?_ | refine cf ?_ | refine swp_cond rfl (fun hc => ?_) (fun hc => ?_) | refine rq rfl (rt .nil) ?_)
      all_goals rfl
    | true =>
      rw [kk] at c1
      repeat' (first | refine for_next hlt (weak_sub (.cons rfl rfl rfl (.cons rfl rfl rfl (.cons rfl rfl rfl .nil))) (.cons rfl rfl rfl (.cons rfl rfl rfl .nil)) .nil) (hI.succ hlt hltb hx hy kk) | (refine rg 4 ?_; refine oMv ?_; refine oFb ?_; refine oLb ?_; refine sp (pln rfl (tyS rfl)) ?_; refine oCm ?_; refine oN ?_) | (refine rd 6 ?_; refine dFb ?_; refine dLb ?_; refine dMv ?_; refine dp (pix rfl (tyS rfl)) ?_; (first | refine dp (po_load_bx_agg rfl rfl (tyT rfl) rfl (vc (vc (vc .nil))) rfl) ?_ | refine dp (po_load_agg rfl rfl (tyT rfl) rfl rfl) ?_); refine dFb ?_; refine dLb ?_; refine dMv ?_; refine dp (pix rfl (tyS rfl)) ?_; (first | refine dp (po_load_bx_agg rfl rfl (tyT rfl) rfl (vc (vc (vc .nil))) rfl) ?_ | refine dp (po_load_agg rfl rfl (tyT rfl) rfl rfl) ?_); refine dC (c1) rfl (ac (ac .nil)) ?_; refine dp (po_not rfl rfl) ?_; refine dN ?_; refine oN ?_) | (refine rg 5 ?_; refine oMv ?_; refine sp (xinc rfl) ?_; refine oAs ?_; refine oN ?_) | refine gc ?_ | refine ct ?_ | refine cf ?_)
  obtain rfl : k = a.rules.length := by omega
  have hr : polB a b = true := by unfold polB; rw [k0, k1, k2, k3, hI.all l0]; rfl
  rw [hr]
  repeat' (first | (refine rg 4 ?_; refine oMv ?_; refine oFb ?_; refine oLb ?_; refine sp (pln rfl (tyS rfl)) ?_; refine oCm ?_; refine oN ?_) | (refine rg 8 ?_; refine oAs ?_; refine oN ?_) | refine gc ?_ | refine ct ?_ | refine cf ?_ | refine swp_cond rfl (fun hc => ?_) (fun hc => ?_) | refine rq rfl (rt .nil) ?_)
  all_goals rfl
set_option maxRecDepth 100000 in
set_option maxHeartbeats 2000000 in
theorem sameTabR (l m : List Pl.Policy) (a b : Int) (n1 : l.length ≤ 1000) (m1 : m.length ≤ 1000) (ha : ∀ p ∈ l, FewP p) (hb : ∀ p ∈ m, FewP p) : PCalls Tryz.prog 11 [.agg [.sl 5 (l.map polT), .v (.int .i64 a)], .agg [.sl 5 (m.map polT), .v (.int .i64 b)]] (.v (.bool (tabB l a m b))) := by
  have hm1 : (l.map polT).length = l.length := List.length_map _
  refine pcalls_of Tryz.func11 rfl rfl Tryz.ntmps11 rfl ?_
  cases k0 : decide (a = b) with
  | false =>
    have q0 : (!decide (a = b)) = true := by rw [k0]; rfl
    have hr : tabB l a m b = false := by unfold tabB; rw [k0]; simp
    rw [hr]
    repeat' (first | (refine rg 0 ?_; refine sbx ?_; refine sbx ?_; refine oAs ?_; refine oN ?_) | (refine rg 1 ?_; refine oFb ?_; refine oLb ?_; refine oFb ?_; refine oLb ?_; refine oCm ?_; refine oMv ?_; (first | refine oFb ?_ | refine oFd ?_ | refine oK ?_) <;> (first | refine oLb ?_ | refine oLd ?_ | refine oK ?_) <;> (first | refine sp (pln rfl (tyS rfl)) ?_ | refine oK ?_) <;> (first | refine oFb ?_ | refine oFd ?_ | refine oK ?_) <;> (first | refine oLb ?_ | refine oLd ?_ | refine oK ?_) <;> (first | refine sp (pln rfl (tyS rfl)) ?_ | refine oK ?_) <;> (first | refine oCm ?_ | refine oK ?_) <;> refine oPt ?_ <;> refine oN ?_) | (refine rg 2 ?_; refine oAs ?_; refine oN ?_) | refine gc ?_ | refine ct ?_ | refine cf ?_ | refine swp_cond rfl (fun hc => ?_) (fun hc => ?_) | refine rq rfl (rt .nil) ?_)
    all_goals rfl
  | true =>
  have q0 : (!decide (a = b)) = false := by rw [k0]; rfl
  by_cases l0 : l.length = m.length
  case neg =>
    have e0 := len_ne0 (f := polT) l0
    have hr : tabB l a m b = false := by unfold tabB; rw [all2_len l0]; simp
    rw [hr]
    repeat' (first | (refine rg 0 ?_; refine sbx ?_; refine sbx ?_; refine oAs ?_; refine oN ?_) | (refine rg 1 ?_; refine oFb ?_; refine oLb ?_; refine oFb ?_; refine oLb ?_; refine oCm ?_; refine oMv ?_; refine oFb ?_ <;> refine oLb ?_ <;> refine sp (pln rfl (tyS rfl)) ?_ <;> refine oFb ?_ <;> refine oLb ?_ <;> refine sp (pln rfl (tyS rfl)) ?_ <;> refine oCm ?_ <;> (first | refine oPt ?_ | refine oPf ?_) <;> refine oN ?_) | (refine rg 2 ?_; refine oAs ?_; refine oN ?_) | refine gc ?_ | refine ct ?_ | refine cf ?_ | refine swp_cond rfl (fun hc => ?_) (fun hc => ?_) | refine rq rfl (rt .nil) ?_)
    all_goals rfl
  have e0 := len_eq0 (f := polT) l0
  repeat' (first | (refine rg 0 ?_; refine sbx ?_; refine sbx ?_; refine oAs ?_; refine oN ?_) | (refine rg 1 ?_; refine oFb ?_; refine oLb ?_; refine oFb ?_; refine oLb ?_; refine oCm ?_; refine oMv ?_; refine oFb ?_ <;> refine oLb ?_ <;> refine sp (pln rfl (tyS rfl)) ?_ <;> refine oFb ?_ <;> refine oLb ?_ <;> refine sp (pln rfl (tyS rfl)) ?_ <;> refine oCm ?_ <;> (first | refine oPt ?_ | refine oPf ?_) <;> refine oN ?_) | (refine rg 3 ?_; refine oAs ?_; refine oN ?_) | refine gc ?_ | refine ct ?_ | refine cf ?_ | refine swp_cond rfl (fun hc => ?_) (fun hc => ?_) | refine rq rfl (rt .nil) ?_)
  refine swp_for (fun k => ⟨[(2, .bp 2 0), (3, .bp 3 0), (5, .t (.v (.int .i64 (k : Int))))], [(2, [.t (.sl 5 (l.map polT)), .t (.v (.int .i64 a))]), (3, [.t (.sl 5 (m.map polT)), .t (.v (.int .i64 b))])], []⟩) (UpTo polB l m) l.length (weak_sub (.cons rfl rfl rfl (.cons rfl rfl rfl (.cons rfl rfl rfl .nil))) (.cons rfl rfl rfl (.cons rfl rfl rfl .nil)) .nil) .zero ?_
  intro k hk hI
  by_cases hlt : k < l.length
  case pos =>
    have hltb : k < m.length := by omega
    obtain ⟨x, hx⟩ : ∃ x, l[k] = x := ⟨_, rfl⟩
    obtain ⟨y, hy⟩ : ∃ y, m[k] = y := ⟨_, rfl⟩
    have r1 : (l.map polT)[k]? = some (polT x) := by rw [map_at_some hlt, hx]
    have r2 : (m.map polT)[k]? = some (polT y) := by rw [map_at_some hltb, hy]
    have r3 : k < (l.map polT).length := by rw [List.length_map]; exact hlt
    have r4 : k < (m.map polT).length := by rw [List.length_map]; exact hltb
    have c1 := sameR x y (hx ▸ ha _ (List.getElem_mem hlt)) (hy ▸ hb _ (List.getElem_mem hltb))
    cases kk : polB x y with
    | false =>
      rw [kk] at c1
      have hr : tabB l a m b = false := by unfold tabB; rw [all2_no hlt hltb (by rw [hx, hy]; exact kk)]; simp
      rw [hr]
      repeat' (first | (refine rg 4 ?_; refine oMv ?_; refine oFb ?_; refine oLb ?_; refine sp (pln rfl (tyS rfl)) ?_; refine oCm ?_; refine oN ?_) | (refine rd 6 ?_; refine dFb ?_; refine dLb ?_; refine dMv ?_; refine dp (pix rfl (tyS rfl)) ?_; (first | refine dp (po_load_bx_agg rfl rfl (tyT rfl) rfl (vc (vc (vc (vc (vc .nil))))) rfl) ?_ | refine dp (po_load_agg rfl rfl (tyT rfl) rfl rfl) ?_); refine dFb ?_; refine dLb ?_; refine dMv ?_; refine dp (pix rfl (tyS rfl)) ?_; (first | refine dp (po_load_bx_agg rfl rfl (tyT rfl) rfl (vc (vc (vc (vc (vc .nil))))) rfl) ?_ | refine dp (po_load_agg rfl rfl (tyT rfl) rfl rfl) ?_); refine dC (c1) rfl (ac (ac .nil)) ?_; refine dp (po_not rfl rfl) ?_; refine dN ?_; refine oN ?_) | (refine rg 7 ?_; refine oAs ?_; refine oN ?_) | refine gc ?_ | refine ct ?_ | refine cf ?_ | refine swp_cond rfl (fun hc => ?_) (fun hc => ?_) | refine rq rfl (rt .nil) ?_)
      all_goals rfl
    | true =>
      rw [kk] at c1
      repeat' (first | refine for_next hlt (weak_sub (.cons rfl rfl rfl (.cons rfl rfl rfl (.cons rfl rfl rfl .nil))) (.cons rfl rfl rfl (.cons rfl rfl rfl .nil)) .nil) (hI.succ hlt hltb hx hy kk) | (refine rg 4 ?_; refine oMv ?_; refine oFb ?_; refine oLb ?_; refine sp (pln rfl (tyS rfl)) ?_; refine oCm ?_; refine oN ?_) | (refine rd 6 ?_; refine dFb ?_; refine dLb ?_; refine dMv ?_; refine dp (pix rfl (tyS rfl)) ?_; (first | refine dp (po_load_bx_agg rfl rfl (tyT rfl) rfl (vc (vc (vc (vc (vc .nil))))) rfl) ?_ | refine dp (po_load_agg rfl rfl (tyT rfl) rfl rfl) ?_); refine dFb ?_; refine dLb ?_; refine dMv ?_; refine dp (pix rfl (tyS rfl)) ?_; (first | refine dp (po_load_bx_agg rfl rfl (tyT rfl) rfl (vc (vc (vc (vc (vc .nil))))) rfl) ?_ | refine dp (po_load_agg rfl rfl (tyT rfl) rfl rfl) ?_); refine dC (c1) rfl (ac (ac .nil)) ?_; refine dp (po_not rfl rfl) ?_; refine dN ?_; refine oN ?_) | (refine rg 5 ?_; refine oMv ?_; refine sp (xinc rfl) ?_; refine oAs ?_; refine oN ?_) | refine gc ?_ | refine ct ?_ | refine cf ?_)
  obtain rfl : k = l.length := by omega
  have hr : tabB l a m b = true := by unfold tabB; rw [k0, hI.all l0]; rfl
  rw [hr]
  repeat' (first | (refine rg 4 ?_; refine oMv ?_; refine oFb ?_; refine oLb ?_; refine sp (pln rfl (tyS rfl)) ?_; refine oCm ?_; refine oN ?_) | (refine rg 8 ?_; refine oAs ?_; refine oN ?_) | refine gc ?_ | refine ct ?_ | refine cf ?_ | refine swp_cond rfl (fun hc => ?_) (fun hc => ?_) | refine rq rfl (rt .nil) ?_)
  all_goals rfl
end Go.Proofs.YtnclifgiakmmoaaGreat.Pol
