/- Merged by bundles.py: SimSp2, SimSp3. -/
import Derived.Test.YtnclifgiakmmoaaGreatH18
/- split's functions, by the logic of states. (Printed by mk_sp2.py.) -/
namespace Go.Proofs.YtnclifgiakmmoaaGreat.Pol
set_option linter.unusedVariables false
set_option linter.unusedSimpArgs false
open Go.RowKit Mem Sim Opn
theorem nilT (sz : Nat) : ∀ m v, TR m (.v (.slice none 0 0)) v → TR m (.sl sz []) v := fun m v h => by rw [tr_v h]; exact tr_nil m sz (Nat.zero_le _)
set_option maxRecDepth 100000 in
set_option maxHeartbeats 1000000 in
theorem seventh1_ (t : Pl.Target) (h : t.ports.length ≤ 1000 ∧ t.methods.length ≤ 1000 ∧ t.paths.length ≤ 1000 ∧ t.hosts.length ≤ 1000) : PCalls Tryz.prog 55 [.agg (targetT t)] (.v (.bool (Pl.looksT t))) := by
  have m1 : (t.methods.map termT).length = t.methods.length := List.length_map _
  have m2 : (t.paths.map termT).length = t.paths.length := List.length_map _
  have m3 : (t.hosts.map termT).length = t.hosts.length := List.length_map _
  refine pcalls_of Tryz.func55 rfl rfl Tryz.ntmps55 rfl ?_
  repeat' (first | (refine rg 0 ?_; refine sbx ?_; refine oAs ?_; refine oN ?_) | (refine rg 1 ?_; refine oFb ?_; refine oLb ?_; refine sp (pln rfl (tyS rfl)) ?_; refine oFb ?_; refine oLb ?_; refine sp (pln rfl (tyS rfl)) ?_; (first | refine sp (xinc rfl) ?_ | refine sp (xadd rfl) ?_); refine oFb ?_; refine oLb ?_; refine sp (pln rfl (tyS rfl)) ?_; (first | refine sp (xinc rfl) ?_ | refine sp (xadd rfl) ?_); refine oCm ?_; refine oAs ?_; refine oN ?_) | refine gc ?_ | refine ct ?_ | refine cf ?_ | refine swp_cond rfl (fun hc => ?_) (fun hc => ?_) | refine rq rfl (rt .nil) ?_)
  refine eq_b ?_
  unfold Pl.looksT
  rw [← m1, ← m2, ← m3]
  rw [Bool.eq_iff_iff]
  simp only [decide_eq_true_eq]
  omega
theorem idx_any {α : Type} (p : α → Bool) (l : List α) (r : Int) (h1 : ∀ k, (h : k < l.length) → (∀ j, j < k → ∀ x, l[j]? = some x → p x = false) → p l[k] = true → r = (k : Int)) (h2 : (∀ x ∈ l, p x = false) → r = -1) : decide (r ≥ 0) = l.any p := by
  cases h : l.any p with
  | false =>
    have := h2 fun x hx => by simpa using (List.any_eq_false.1 h) x hx
    subst this; decide
  | true =>
    have hlt : l.findIdx p < l.length := by rw [List.findIdx_lt_length]; exact List.any_eq_true.1 h
    have := h1 _ hlt (fun j hj x hx => by
      have hjl : j < l.length := by omega
      have := List.not_of_lt_findIdx hj
      rw [List.getElem?_eq_getElem hjl] at hx; injection hx with hx; subst hx
      simpa using this) List.findIdx_getElem
    rw [this]; simp
/-- where the first one is -/
def idxP {α : Type} (p : α → Bool) (l : List α) : Int := if l.any p then ((l.findIdx p : Nat) : Int) else -1
theorem idxP_hit {α : Type} (p : α → Bool) (l : List α) (k : Nat) (h : k < l.length) (h1 : ∀ j, j < k → ∀ x, l[j]? = some x → p x = false) (h2 : p l[k] = true) : idxP p l = (k : Int) := by
  unfold idxP
  rw [if_pos (List.any_eq_true.2 ⟨_, List.getElem_mem h, h2⟩)]
  congr 1
  refine (List.findIdx_eq h).2 ⟨h2, fun j hj => ?_⟩
  exact h1 j hj _ (List.getElem?_eq_getElem (by omega))
theorem idxP_miss {α : Type} (p : α → Bool) (l : List α) (h : ∀ x ∈ l, p x = false) : idxP p l = -1 := by
  unfold idxP
  rw [if_neg]
  rw [Bool.not_eq_true, List.any_eq_false]
  exact fun x hx => by simp [h x hx]
set_option maxRecDepth 100000 in
set_option maxHeartbeats 1000000 in
theorem hasTarget (p : Pl.Target → Bool) (f : FuncId) (xs : List Pl.Target) (hK : ∀ x ∈ xs, PCalls Tryz.prog f [.agg (targetT x)] (.v (.bool (p x)))) (hn : xs.length ≤ 1000) : PCalls Tryz.prog 54 [.sl 4 (xs.map targetT), .clo f []] (.v (.bool (xs.any p))) := by
  have c1 := idxTarget p f [] xs (idxP p xs) hK hn (idxP_hit p xs) (idxP_miss p xs)
  have e1 := idx_any p xs (idxP p xs) (idxP_hit p xs) (idxP_miss p xs)
  refine pcalls_of Tryz.func54 rfl rfl Tryz.ntmps54 rfl ?_
  repeat' (first | (refine rg 0 ?_; refine oAs ?_; refine oN ?_) | (refine rg 1 ?_; refine oMv ?_; refine oMv ?_; refine oC (c1) rfl (ac (ac .nil)) ?_; refine oCm ?_; refine oAs ?_; refine oN ?_) | refine gc ?_ | refine ct ?_ | refine cf ?_ | refine swp_cond rfl (fun hc => ?_) (fun hc => ?_) | refine rq rfl (rt .nil) ?_)
  refine eq_b ?_
  rw [← e1]
set_option maxRecDepth 100000 in
set_option maxHeartbeats 1000000 in
theorem seventh_ (r : Pl.Rule) (h : FewR r) : PCalls Tryz.prog 45 [.agg (ruleT r)] (.v (.bool (Pl.seventhP r))) := by
  have m1 : (r.when_.map whenT).length = r.when_.length := List.length_map _
  have c1 := hasTarget Pl.looksT 55 r.to_ (fun x hx => seventh1_ x (h.ts x hx)) h.t
  refine pcalls_of Tryz.func45 rfl rfl Tryz.ntmps45 rfl ?_
  repeat' (first | (refine rg 0 ?_; refine sbx ?_; refine oAs ?_; refine oN ?_) | (refine rg 1 ?_; refine oFb ?_; refine oLb ?_; refine sp (pln rfl (tyS rfl)) ?_; refine oCm ?_; refine oMv ?_; (first | refine oFb ?_ | refine oFd ?_ | refine oK ?_ | ((refine ssp (fun hc => ?_) (fun hc => ?_)) <;> first | refine oFb ?_ | refine oFd ?_ | refine oK ?_)) <;> (first | refine oLb ?_ | refine oLd ?_ | refine oK ?_) <;> (first | refine oC (c1) rfl (ac (ac .nil)) ?_ | refine oK ?_) <;> (first | refine oPt ?_ | refine oPf ?_) <;> refine oAs ?_ <;> refine oN ?_) | refine gc ?_ | refine ct ?_ | refine cf ?_ | refine swp_cond rfl (fun hc => ?_) (fun hc => ?_) | refine rq rfl (rt .nil) ?_)
  all_goals
    refine eq_b ?_
    unfold Pl.seventhP
    first | (have e : 0 < r.when_.length := by simp at *; omega); (simp [e]; done) | (have e : ¬ 0 < r.when_.length := by simp at *; omega); simp [e]
def MSTarget (xs : List Pl.Target) (g : Pl.Target → Pl.Target) (f : FuncId) (caps : List T) (k : Nat) : St := ⟨[(1, .t (.clo f caps)), (5, .own 105 (((xs.take k).map g).map targetT).length), (8, .t (.sl 4 (xs.map targetT))), (9, .t (.v (.int .i64 (xs.length : Int)))), (10, .t (.v (.int .i64 (k : Int))))], [], [(105, ⟨64, 4, ((xs.take k).map g).map targetT⟩)]⟩
set_option maxRecDepth 100000 in
set_option maxHeartbeats 1000000 in
theorem mapSTarget (g : Pl.Target → Pl.Target) (f : FuncId) (caps : List T) (xs : List Pl.Target) (hK : ∀ x ∈ xs, PCalls Tryz.prog f ([.agg (targetT x)] ++ caps) (.agg (targetT (g x)))) (hn : xs.length ≤ 1000) : PCalls Tryz.prog 34 [.sl 4 (xs.map targetT), .clo f caps] (.sl 4 ((xs.map g).map targetT)) := by
  have hm1 : (xs.map targetT).length = xs.length := List.length_map _
  refine pcalls_of Tryz.func34 rfl rfl Tryz.ntmps34 rfl ?_
  repeat' (first | (refine rg 0 ?_; refine oAs ?_; refine oN ?_) | (refine rg 1 ?_; refine oAs ?_; refine oN ?_) | (refine rg 2 ?_; refine oMv ?_; refine sp (pln rfl (tyS rfl)) ?_; refine oMv ?_; refine oN ?_) | refine gc ?_ | refine ct ?_ | refine cf ?_ | refine swp_cond rfl (fun hc => ?_) (fun hc => ?_) | refine rq rfl (rt .nil) ?_)
  refine swp_for (MSTarget xs g f caps) (fun _ => True) xs.length ?_ trivial ?_
  · refine Weak.trans (weak_own0 (i := 105) 64 4 (s := 5) rfl rfl) ?_
    exact (weak_sub (.cons rfl (by first | rfl | (exact congrArg (fun n : Nat => A.t (.v (.int .i64 (n : Int)))) hm1)) rfl (.cons rfl (by first | rfl | (exact congrArg (fun n : Nat => A.t (.v (.int .i64 (n : Int)))) hm1)) rfl (.cons rfl (by first | rfl | (exact congrArg (fun n : Nat => A.t (.v (.int .i64 (n : Int)))) hm1)) rfl (.cons rfl (by first | rfl | (exact congrArg (fun n : Nat => A.t (.v (.int .i64 (n : Int)))) hm1)) rfl (.cons rfl (by first | rfl | (exact congrArg (fun n : Nat => A.t (.v (.int .i64 (n : Int)))) hm1)) rfl .nil))))) .nil (.cons rfl (by first | rfl | (exact congrArg (fun n : Nat => A.t (.v (.int .i64 (n : Int)))) hm1)) .nil))
  intro k hk _
  unfold MSTarget
  by_cases hlt : k < xs.length
  · have c1 := hK _ (List.getElem_mem hlt)
    have hsn := mapmap_take_succ targetT g hlt
    have g1 : ((((xs.take k).map g).map targetT).length + 1) * 96 ≤ 140737488355328 := by rw [mmt_len]; have := Nat.min_le_right k xs.length; omega
    have g2 : (((xs.take k).map g).map targetT).length + 1 ≤ maxLen := by rw [mmt_len]; have := Nat.min_le_right k xs.length; unfold maxLen; omega
    repeat' (first | refine for_next hlt (weak_sub (.cons rfl (by rfl) rfl (.cons rfl (by first | rfl | (rw [hsn]; try rfl)) rfl (.cons rfl (by rfl) rfl (.cons rfl (by rfl) rfl (.cons rfl (by rfl) rfl .nil))))) .nil (.cons rfl (by first | rfl | (rw [hsn]; try rfl)) .nil)) trivial | (refine rg 3 ?_; refine oCm ?_; refine oN ?_) | (refine rg 4 ?_; refine sp (pix rfl (tyS rfl)) ?_; (first | refine sp (po_load_bx_agg rfl rfl (tyT rfl) rfl (vc (vc (vc (vc .nil)))) rfl) ?_ | refine sp (po_load_agg rfl rfl (tyT rfl) rfl rfl) ?_); refine sal str64 ?_; refine oS ?_; refine oN ?_) | (refine rg 5 ?_; refine oMv ?_; refine oMv ?_; (refine sp (po_load_bx_agg rfl rfl (tyT rfl) rfl (vc (vc (vc (vc .nil)))) rfl) ?_); refine sp (po_call_clo rfl rfl (ac .nil) (c1)) ?_; refine sp (po_buildSlice rfl (tyE rfl) (dc (.nil _)) rfl rfl rfl) ?_; refine sap rfl (tyE rfl) ?_; refine oAs ?_; refine oN ?_) | (refine rg 6 ?_; refine sp (xinc rfl) ?_; refine oMv ?_; refine oN ?_) | refine gc ?_ | refine ct ?_)
  · obtain rfl : k = xs.length := by omega
    rw [List.take_length]
    repeat' (first | (refine rg 3 ?_; refine oCm ?_; refine oN ?_) | (refine rg 7 ?_; refine oMv ?_; refine oAs ?_; refine oN ?_) | refine gc ?_ | refine ct ?_ | refine cf ?_ | refine swp_cond rfl (fun hc => ?_) (fun hc => ?_) | refine rq rfl (rt .nil) ?_)
    rfl
def MSRule (xs : List Pl.Rule) (g : Pl.Rule → Pl.Rule) (f : FuncId) (caps : List T) (k : Nat) : St := ⟨[(1, .t (.clo f caps)), (5, .own 105 (((xs.take k).map g).map ruleT).length), (8, .t (.sl 3 (xs.map ruleT))), (9, .t (.v (.int .i64 (xs.length : Int)))), (10, .t (.v (.int .i64 (k : Int))))], [], [(105, ⟨27, 3, ((xs.take k).map g).map ruleT⟩)]⟩
set_option maxRecDepth 100000 in
set_option maxHeartbeats 1000000 in
theorem mapSRule (g : Pl.Rule → Pl.Rule) (f : FuncId) (caps : List T) (xs : List Pl.Rule) (hK : ∀ x ∈ xs, PCalls Tryz.prog f ([.agg (ruleT x)] ++ caps) (.agg (ruleT (g x)))) (hn : xs.length ≤ 1000) : PCalls Tryz.prog 46 [.sl 3 (xs.map ruleT), .clo f caps] (.sl 3 ((xs.map g).map ruleT)) := by
  have hm1 : (xs.map ruleT).length = xs.length := List.length_map _
  refine pcalls_of Tryz.func46 rfl rfl Tryz.ntmps46 rfl ?_
  repeat' (first | (refine rg 0 ?_; refine oAs ?_; refine oN ?_) | (refine rg 1 ?_; refine oAs ?_; refine oN ?_) | (refine rg 2 ?_; refine oMv ?_; refine sp (pln rfl (tyS rfl)) ?_; refine oMv ?_; refine oN ?_) | refine gc ?_ | refine ct ?_ | refine cf ?_ | refine swp_cond rfl (fun hc => ?_) (fun hc => ?_) | refine rq rfl (rt .nil) ?_)
  refine swp_for (MSRule xs g f caps) (fun _ => True) xs.length ?_ trivial ?_
  · refine Weak.trans (weak_own0 (i := 105) 27 3 (s := 5) rfl rfl) ?_
    exact (weak_sub (.cons rfl (by first | rfl | (exact congrArg (fun n : Nat => A.t (.v (.int .i64 (n : Int)))) hm1)) rfl (.cons rfl (by first | rfl | (exact congrArg (fun n : Nat => A.t (.v (.int .i64 (n : Int)))) hm1)) rfl (.cons rfl (by first | rfl | (exact congrArg (fun n : Nat => A.t (.v (.int .i64 (n : Int)))) hm1)) rfl (.cons rfl (by first | rfl | (exact congrArg (fun n : Nat => A.t (.v (.int .i64 (n : Int)))) hm1)) rfl (.cons rfl (by first | rfl | (exact congrArg (fun n : Nat => A.t (.v (.int .i64 (n : Int)))) hm1)) rfl .nil))))) .nil (.cons rfl (by first | rfl | (exact congrArg (fun n : Nat => A.t (.v (.int .i64 (n : Int)))) hm1)) .nil))
  intro k hk _
  unfold MSRule
  by_cases hlt : k < xs.length
  · have c1 := hK _ (List.getElem_mem hlt)
    have hsn := mapmap_take_succ ruleT g hlt
    have g1 : ((((xs.take k).map g).map ruleT).length + 1) * 72 ≤ 140737488355328 := by rw [mmt_len]; have := Nat.min_le_right k xs.length; omega
    have g2 : (((xs.take k).map g).map ruleT).length + 1 ≤ maxLen := by rw [mmt_len]; have := Nat.min_le_right k xs.length; unfold maxLen; omega
    repeat' (first | refine for_next hlt (weak_sub (.cons rfl (by rfl) rfl (.cons rfl (by first | rfl | (rw [hsn]; try rfl)) rfl (.cons rfl (by rfl) rfl (.cons rfl (by rfl) rfl (.cons rfl (by rfl) rfl .nil))))) .nil (.cons rfl (by first | rfl | (rw [hsn]; try rfl)) .nil)) trivial | (refine rg 3 ?_; refine oCm ?_; refine oN ?_) | (refine rg 4 ?_; refine sp (pix rfl (tyS rfl)) ?_; (first | refine sp (po_load_bx_agg rfl rfl (tyT rfl) rfl (vc (vc (vc .nil))) rfl) ?_ | refine sp (po_load_agg rfl rfl (tyT rfl) rfl rfl) ?_); refine sal str27 ?_; refine oS ?_; refine oN ?_) | (refine rg 5 ?_; refine oMv ?_; refine oMv ?_; (refine sp (po_load_bx_agg rfl rfl (tyT rfl) rfl (vc (vc (vc .nil))) rfl) ?_); refine sp (po_call_clo rfl rfl (ac .nil) (c1)) ?_; refine sp (po_buildSlice rfl (tyE rfl) (dc (.nil _)) rfl rfl rfl) ?_; refine sap rfl (tyE rfl) ?_; refine oAs ?_; refine oN ?_) | (refine rg 6 ?_; refine sp (xinc rfl) ?_; refine oMv ?_; refine oN ?_) | refine gc ?_ | refine ct ?_)
  · obtain rfl : k = xs.length := by omega
    rw [List.take_length]
    repeat' (first | (refine rg 3 ?_; refine oCm ?_; refine oN ?_) | (refine rg 7 ?_; refine oMv ?_; refine oAs ?_; refine oN ?_) | refine gc ?_ | refine ct ?_ | refine cf ?_ | refine swp_cond rfl (fun hc => ?_) (fun hc => ?_) | refine rq rfl (rt .nil) ?_)
    rfl
def MSPolicy (xs : List Pl.Policy) (g : Pl.Policy → Pl.Policy) (f : FuncId) (caps : List T) (k : Nat) : St := ⟨[(1, .t (.clo f caps)), (5, .own 105 (((xs.take k).map g).map polT).length), (8, .t (.sl 5 (xs.map polT))), (9, .t (.v (.int .i64 (xs.length : Int)))), (10, .t (.v (.int .i64 (k : Int))))], [], [(105, ⟨43, 5, ((xs.take k).map g).map polT⟩)]⟩
set_option maxRecDepth 100000 in
set_option maxHeartbeats 1000000 in
theorem mapSPolicy (g : Pl.Policy → Pl.Policy) (f : FuncId) (caps : List T) (xs : List Pl.Policy) (hK : ∀ x ∈ xs, PCalls Tryz.prog f ([.agg (polT x)] ++ caps) (.agg (polT (g x)))) (hn : xs.length ≤ 1000) : PCalls Tryz.prog 38 [.sl 5 (xs.map polT), .clo f caps] (.sl 5 ((xs.map g).map polT)) := by
  have hm1 : (xs.map polT).length = xs.length := List.length_map _
  refine pcalls_of Tryz.func38 rfl rfl Tryz.ntmps38 rfl ?_
  repeat' (first | (refine rg 0 ?_; refine oAs ?_; refine oN ?_) | (refine rg 1 ?_; refine oAs ?_; refine oN ?_) | (refine rg 2 ?_; refine oMv ?_; refine sp (pln rfl (tyS rfl)) ?_; refine oMv ?_; refine oN ?_) | refine gc ?_ | refine ct ?_ | refine cf ?_ | refine swp_cond rfl (fun hc => ?_) (fun hc => ?_) | refine rq rfl (rt .nil) ?_)
  refine swp_for (MSPolicy xs g f caps) (fun _ => True) xs.length ?_ trivial ?_
  · refine Weak.trans (weak_own0 (i := 105) 43 5 (s := 5) rfl rfl) ?_
    exact (weak_sub (.cons rfl (by first | rfl | (exact congrArg (fun n : Nat => A.t (.v (.int .i64 (n : Int)))) hm1)) rfl (.cons rfl (by first | rfl | (exact congrArg (fun n : Nat => A.t (.v (.int .i64 (n : Int)))) hm1)) rfl (.cons rfl (by first | rfl | (exact congrArg (fun n : Nat => A.t (.v (.int .i64 (n : Int)))) hm1)) rfl (.cons rfl (by first | rfl | (exact congrArg (fun n : Nat => A.t (.v (.int .i64 (n : Int)))) hm1)) rfl (.cons rfl (by first | rfl | (exact congrArg (fun n : Nat => A.t (.v (.int .i64 (n : Int)))) hm1)) rfl .nil))))) .nil (.cons rfl (by first | rfl | (exact congrArg (fun n : Nat => A.t (.v (.int .i64 (n : Int)))) hm1)) .nil))
  intro k hk _
  unfold MSPolicy
  by_cases hlt : k < xs.length
  · have c1 := hK _ (List.getElem_mem hlt)
    have hsn := mapmap_take_succ polT g hlt
    have g1 : ((((xs.take k).map g).map polT).length + 1) * 64 ≤ 140737488355328 := by rw [mmt_len]; have := Nat.min_le_right k xs.length; omega
    have g2 : (((xs.take k).map g).map polT).length + 1 ≤ maxLen := by rw [mmt_len]; have := Nat.min_le_right k xs.length; unfold maxLen; omega
    repeat' (first | refine for_next hlt (weak_sub (.cons rfl (by rfl) rfl (.cons rfl (by first | rfl | (rw [hsn]; try rfl)) rfl (.cons rfl (by rfl) rfl (.cons rfl (by rfl) rfl (.cons rfl (by rfl) rfl .nil))))) .nil (.cons rfl (by first | rfl | (rw [hsn]; try rfl)) .nil)) trivial | (refine rg 3 ?_; refine oCm ?_; refine oN ?_) | (refine rg 4 ?_; refine sp (pix rfl (tyS rfl)) ?_; (first | refine sp (po_load_bx_agg rfl rfl (tyT rfl) rfl (vc (vc (vc (vc (vc .nil))))) rfl) ?_ | refine sp (po_load_agg rfl rfl (tyT rfl) rfl rfl) ?_); refine sal str43 ?_; refine oS ?_; refine oN ?_) | (refine rg 5 ?_; refine oMv ?_; refine oMv ?_; (refine sp (po_load_bx_agg rfl rfl (tyT rfl) rfl (vc (vc (vc (vc (vc .nil))))) rfl) ?_); refine sp (po_call_clo rfl rfl (ac .nil) (c1)) ?_; refine sp (po_buildSlice rfl (tyE rfl) (dc (.nil _)) rfl rfl rfl) ?_; refine sap rfl (tyE rfl) ?_; refine oAs ?_; refine oN ?_) | (refine rg 6 ?_; refine sp (xinc rfl) ?_; refine oMv ?_; refine oN ?_) | refine gc ?_ | refine ct ?_)
  · obtain rfl : k = xs.length := by omega
    rw [List.take_length]
    repeat' (first | (refine rg 3 ?_; refine oCm ?_; refine oN ?_) | (refine rg 7 ?_; refine oMv ?_; refine oAs ?_; refine oN ?_) | refine gc ?_ | refine ct ?_ | refine cf ?_ | refine swp_cond rfl (fun hc => ?_) (fun hc => ?_) | refine rq rfl (rt .nil) ?_)
    rfl
set_option maxRecDepth 100000 in
set_option maxHeartbeats 1000000 in
theorem fourth1_ (t : Pl.Target) : PCalls Tryz.prog 35 [.agg (targetT t)] (.agg (targetT (Pl.fourT t))) := by
  refine pcalls_of Tryz.func35 rfl rfl Tryz.ntmps35 rfl ?_
  repeat' (first | (refine rg 0 ?_; refine sbx ?_; refine sal str64 ?_; refine oN ?_) | (refine rg 1 ?_; refine oFb ?_; refine oLb ?_; refine sp (po_buildS str64 rfl (pc .nil) rfl) ?_; refine oS ?_; refine oN ?_) | refine gc ?_ | refine ct ?_ | refine cf ?_ | refine swp_cond rfl (fun hc => ?_) (fun hc => ?_) | exact rq1 rfl (.cell rfl rfl (tyT rfl) (vc (vc (vc (vc .nil)))) rfl .nil))
set_option maxRecDepth 100000 in
set_option maxHeartbeats 1000000 in
theorem ownR_ (r : Pl.Rule) (h : FewR r) : PCalls Tryz.prog 33 [.agg (ruleT r)] (.agg (ruleT r)) := by
  have c1 := ownPolP ⟨0, ⟨#[]⟩, 0, 0, [r]⟩ ⟨by simp, fun x hx => by simp at hx; subst hx; exact h⟩
  refine pcalls_of Tryz.func33 rfl rfl Tryz.ntmps33 rfl ?_
  repeat' (first | (refine rg 0 ?_; refine sbx ?_; refine sal str27 ?_; refine oN ?_) | (refine rg 1 ?_; (refine sp (po_load_bx_agg rfl rfl (tyT rfl) rfl (vc (vc (vc .nil))) rfl) ?_); refine sp (po_buildSlice rfl (tyE rfl) (dc (.nil _)) rfl rfl rfl) ?_; refine sp (po_buildS str43 rfl (pc .nil) rfl) ?_; refine oC (c1) rfl (ac .nil) ?_; refine sal str43 ?_; refine oS ?_; refine oN ?_) | (refine rg 2 ?_; refine oFb ?_; refine oLb ?_; refine sp (pix rfl (tyS rfl)) ?_; (first | refine sp (po_load_bx_agg rfl rfl (tyT rfl) rfl (vc (vc (vc .nil))) rfl) ?_ | refine sp (po_load_agg rfl rfl (tyT rfl) rfl rfl) ?_); refine oS ?_; refine oN ?_) | refine gc ?_ | refine ct ?_ | refine cf ?_ | refine swp_cond rfl (fun hc => ?_) (fun hc => ?_) | exact rq1 rfl (.cell rfl rfl (tyT rfl) (vc (vc (vc .nil))) rfl .nil))
set_option maxRecDepth 100000 in
set_option maxHeartbeats 1000000 in
theorem fourth_ (r : Pl.Rule) (h : FewR r) : PCalls Tryz.prog 14 [.agg (ruleT r)] (.agg (ruleT (Pl.four r))) := by
  have c1 := ownR_ r h
  have c2 := mapSTarget Pl.fourT 35 [] r.to_ (fun x hx => fourth1_ x) h.t
  refine pcalls_of Tryz.func14 rfl rfl Tryz.ntmps14 rfl ?_
  repeat' (first | (refine rg 0 ?_; refine sbx ?_; refine sal str27 ?_; refine oN ?_) | (refine rg 1 ?_; (refine sp (po_load_bx_agg rfl rfl (tyT rfl) rfl (vc (vc (vc .nil))) rfl) ?_); refine oC (c1) rfl (ac .nil) ?_; refine oS ?_; refine oN ?_) | (refine rg 2 ?_; refine oFb ?_; refine oS ?_; refine oN ?_) | (refine rg 3 ?_; refine oFb ?_; refine oLb ?_; (first | refine oC (c1) rfl (ac (ac .nil)) ?_ | refine oC (c2) rfl (ac (ac .nil)) ?_); refine oFb ?_; refine oS ?_; refine oN ?_) | (refine rg 4 ?_; (refine sp (po_load_bx_agg rfl rfl (tyT rfl) rfl (vc (vc (vc .nil))) rfl) ?_); refine oS ?_; refine oN ?_) | refine gc ?_ | refine ct ?_ | refine cf ?_ | refine swp_cond rfl (fun hc => ?_) (fun hc => ?_) | exact rq1 rfl (.cell rfl rfl (tyT rfl) (vc (vc (vc .nil))) rfl .nil))
set_option maxRecDepth 100000 in
set_option maxHeartbeats 1000000 in
theorem halved_ (l : List Pl.Rule) (hn : l.length ≤ 1000) (h : ∀ r ∈ l, FewR r) : PCalls Tryz.prog 28 [.sl 3 (l.map ruleT)] (.sl 3 ((l.map Pl.four).map ruleT)) := by
  have c1 := mapSRule Pl.four 14 [] l (fun x hx => fourth_ x (h x hx)) hn
  refine pcalls_of Tryz.func28 rfl rfl Tryz.ntmps28 rfl ?_
  repeat' (first | (refine rg 0 ?_; refine oAs ?_; refine oN ?_) | (refine rg 1 ?_; refine oMv ?_; refine oC (c1) rfl (ac (ac .nil)) ?_; refine oAs ?_; refine oN ?_) | refine gc ?_ | refine ct ?_ | refine cf ?_ | refine swp_cond rfl (fun hc => ?_) (fun hc => ?_) | exact rq1 rfl (rt .nil))
set_option maxRecDepth 100000 in
set_option maxHeartbeats 1000000 in
theorem halvedL (l : List Pl.Rule) (hn : l.length ≤ 1000) (h : ∀ r ∈ l, FewR r) : LCalls Tryz.prog 28 [.own 1000 (l.map ruleT).length] [] [(1000, ⟨27, 3, l.map ruleT⟩)] (.t (.sl 3 ((Pl.what 1 l).map ruleT))) [] [] := by
  have c1 := mapSRule Pl.four 14 [] l (fun x hx => fourth_ x (h x hx)) hn
  refine lcalls_of Tryz.func28 rfl rfl Tryz.ntmps28 rfl ?_
  refine swp_weak (weak_show 1000 100 rfl rfl rfl rfl) ?_
  repeat' (first | (refine rg 0 ?_; refine oAs ?_; refine oN ?_) | (refine rg 1 ?_; refine oMv ?_; refine oC (c1) rfl (ac (ac .nil)) ?_; refine oAs ?_; refine oN ?_) | refine gc ?_ | refine ct ?_ | refine cf ?_ | refine swp_cond rfl (fun hc => ?_) (fun hc => ?_) | exact retl1 (by exact .inr rfl) rfl (.tmpT rfl (by exact .t _) .nil) rfl .nil .nil)
set_option maxRecDepth 100000 in
set_option maxHeartbeats 1000000 in
theorem wholeL (l : List Pl.Rule) : LCalls Tryz.prog 29 [.own 1000 (l.map ruleT).length] [] [(1000, ⟨27, 3, l.map ruleT⟩)] (.t (.sl 3 ((Pl.what 2 l).map ruleT))) [] [] := by
  refine lcalls_of Tryz.func29 rfl rfl Tryz.ntmps29 rfl ?_
  refine swp_weak (weak_show 1000 100 rfl rfl rfl rfl) ?_
  repeat' (first | (refine rg 0 ?_; refine oAs ?_; refine oN ?_) | (refine rg 1 ?_; refine oMv ?_; refine oAs ?_; refine oN ?_) | refine gc ?_ | refine ct ?_ | refine cf ?_ | refine swp_cond rfl (fun hc => ?_) (fun hc => ?_) | exact retl1 (by exact .inr rfl) rfl (.tmpT rfl (by first | exact .t _ | exact .own rfl (by rfl)) .nil) rfl .nil .nil)

end Go.Proofs.YtnclifgiakmmoaaGreat.Pol

/- slices.DeleteFunc over a row of rules that is handed over; split.blind. -/
namespace Go.Proofs.YtnclifgiakmmoaaGreat.Pol
set_option linter.unusedVariables false
set_option linter.unusedSimpArgs false
open Go.RowKit Mem Sim Opn
theorem idxP_cases {α : Type} (p : α → Bool) (l : List α) : (idxP p l = -1 ∧ ∀ x ∈ l, p x = false) ∨ ∃ k, ∃ h : k < l.length, idxP p l = (k : Int) ∧ p l[k] = true ∧ ∀ j, j < k → ∀ x, l[j]? = some x → p x = false := by
  cases h : l.any p with
  | false => exact .inl ⟨by unfold idxP; rw [if_neg (by simp [h])], fun x hx => by simpa using (List.any_eq_false.1 h) x hx⟩
  | true =>
    have hlt : l.findIdx p < l.length := by rw [List.findIdx_lt_length]; exact List.any_eq_true.1 h
    refine .inr ⟨l.findIdx p, hlt, by unfold idxP; rw [if_pos h], List.findIdx_getElem, fun j hj x hx => ?_⟩
    have hjl : j < l.length := by omega
    have := List.not_of_lt_findIdx hj
    rw [List.getElem?_eq_getElem hjl] at hx; injection hx with hx; subst hx
    simpa using this
def DS (p : Pl.Rule → Bool) (f : FuncId) (l : List Pl.Rule) (k0 : Nat) (k : Nat) : St := ⟨[(0, .own 1000 l.length), (1, .t (.clo f [])), (5, .t (.v (.int .i64 ((Pl.delS p l k0 k).2 : Int)))), (6, .t (.v (.int .i64 ((k0 + 1 + k : Nat) : Int))))], [], [(1000, ⟨27, 3, (Pl.delS p l k0 k).1.map ruleT⟩)]⟩
set_option maxRecDepth 100000 in
set_option maxHeartbeats 2000000 in
theorem deleteRules (p : Pl.Rule → Bool) (f : FuncId) (l : List Pl.Rule) (hK : ∀ x ∈ l, PCalls Tryz.prog f [.agg (ruleT x)] (.v (.bool (p x)))) (hn : l.length ≤ 1000) :
    LCalls Tryz.prog 44 [.own 1000 (l.map ruleT).length, .t (.clo f [])] [] [(1000, ⟨27, 3, l.map ruleT⟩)] (.t (.sl 3 ((l.filter fun x => !p x).map ruleT))) [] [] := by
  have hm1 : (l.map ruleT).length = l.length := List.length_map _
  have c1 := idxRule p f [] l (idxP p l) hK hn (idxP_hit p l) (idxP_miss p l)
  rw [hm1]
  refine lcalls_of Tryz.func44 rfl rfl Tryz.ntmps44 rfl ?_
  rcases idxP_cases p l with ⟨h1, h2⟩ | ⟨k0, h0, h1, h2, h3⟩
  · rw [h1] at c1
    rw [Pl.del_none h2]
    repeat' (first | refine then_go ?_ | refine swp_seq ?_ | refine swp_ret_weak (weak_show 1000 100 rfl rfl rfl rfl) ?_ | (refine rg 0 ?_; refine oAs ?_; refine oN ?_) | (refine rg 1 ?_; refine oMv ?_; refine oMv ?_; refine sp (po_call_see (c1) rfl (.cons rfl (by first | exact .t _ | exact .own rfl (by first | rfl | assumption | omega)) (.cons rfl (by exact .t _) .nil)) rfl) ?_; refine oAs ?_; refine oN ?_) | (refine rg 2 ?_; refine oMv ?_; refine oCm ?_; refine oN ?_) | (refine rg 3 ?_; refine oMv ?_; refine oAs ?_; refine oN ?_) | refine swp_ret ?_ | refine swp_skip ?_ | refine swp_block ?_ | refine swp_exit ?_ | refine block_go ?_ | refine block_exit ?_ | refine block_far rfl ?_ | refine block_ret ?_ | refine then_ret ?_ | refine then_exit ?_ | refine for_ret ?_ | refine for_exit ?_ | refine ct ?_ | refine cf ?_ | refine swp_cond rfl (fun hc => ?_) (fun hc => ?_) | exact retl1 (by exact .inr rfl) rfl (.tmpT rfl (by first | exact .t _ | exact .own rfl (by first | rfl | assumption | (simp; done))) .nil) rfl .nil .nil)
  · rw [h1] at c1
    repeat' (first | (refine rg 0 ?_; refine oAs ?_; refine oN ?_) | (refine rg 1 ?_; refine oMv ?_; refine oMv ?_; refine sp (po_call_see (c1) rfl (.cons rfl (by first | exact .t _ | exact .own rfl (by first | rfl | assumption | omega)) (.cons rfl (by exact .t _) .nil)) rfl) ?_; refine oAs ?_; refine oN ?_) | (refine rg 2 ?_; refine oMv ?_; refine oCm ?_; refine oN ?_) | (refine rg 4 ?_; refine oMv ?_; refine sp (xinc rfl) ?_; refine oAs ?_; refine oN ?_) | refine gc ?_ | refine ct ?_ | refine cf ?_ | refine swp_cond rfl (fun hc => ?_) (fun hc => ?_) | refine rq rfl (rt .nil) ?_)
    refine swp_for (DS p f l k0) (fun _ => True) (l.length - (k0 + 1)) ?_ trivial ?_
    · exact (weak_sub (.cons rfl rfl rfl (.cons rfl rfl rfl (.cons rfl rfl rfl (.cons rfl rfl rfl .nil)))) .nil (.cons rfl rfl .nil))
    intro k hk _
    have hI := Pl.delS_spec h0 h2 h3 k (by omega)
    have hlen := hI.len
    have hlt0 := hI.lt
    have hl2 : ((Pl.delS p l k0 k).1.map ruleT).length = l.length := by rw [List.length_map]; exact hlen
    unfold DS
    by_cases hlt : k < l.length - (k0 + 1)
    · have hj : k0 + 1 + k < l.length := by omega
      have c2 := hK _ (List.getElem_mem hj)
      have hRj : ((Pl.delS p l k0 k).1.map ruleT)[k0 + 1 + k]? = some (ruleT l[k0 + 1 + k]) := by
        have := congrArg (fun q => q[0]?) hI.drop
        simp only [List.getElem?_drop, Nat.add_zero] at this
        rw [List.getElem?_map, this, List.getElem?_eq_getElem hj]; rfl
      have hRi : ((Pl.delS p l k0 k).1.map ruleT)[(Pl.delS p l k0 k).2]? = some (ruleT (Pl.delS p l k0 k).1[(Pl.delS p l k0 k).2]) := by
        rw [List.getElem?_map, List.getElem?_eq_getElem (by omega)]; rfl
      have e1 : l[k0 + 1 + k]? = some l[k0 + 1 + k] := List.getElem?_eq_getElem hj
      have hstep : Pl.delS p l k0 (k + 1) = if p l[k0 + 1 + k] = true then Pl.delS p l k0 k else ((Pl.delS p l k0 k).1.set (Pl.delS p l k0 k).2 l[k0 + 1 + k], (Pl.delS p l k0 k).2 + 1) := by
        conv => lhs; unfold Pl.delS
        rw [e1]
      cases hpx : p l[k0 + 1 + k] with
      | true =>
        rw [hpx, if_pos rfl] at hstep
        rw [hpx] at c2
        repeat' (first | refine for_next hlt (weak_sub (.cons rfl (by rfl) rfl (.cons rfl (by rfl) rfl (.cons rfl (by first | rfl | (rw [hstep])) rfl (.cons rfl (by rfl) rfl .nil)))) .nil (.cons rfl (by first | rfl | (rw [hstep])) .nil)) trivial | (refine rg 5 ?_; refine oMv ?_; refine oMv ?_; refine sp (po_len_own rfl rfl (tyS rfl)) ?_; refine oCm ?_; refine oN ?_) | (refine rg 7 ?_; refine oMv ?_; refine oMv ?_; refine sp (ixo rfl) ?_; (first | refine sp (po_load_bx_agg rfl rfl (tyT rfl) rfl (vc (vc (vc .nil))) rfl) ?_ | refine sp (po_load_agg rfl rfl (tyT rfl) rfl rfl) ?_ | refine sp (lda rfl) ?_); refine sal str27 ?_; refine oS ?_; refine oN ?_) | (refine rg 8 ?_; refine oMv ?_; (refine sp (po_load_bx_agg rfl rfl (tyT rfl) rfl (vc (vc (vc .nil))) rfl) ?_); refine sp (po_call_clo rfl rfl (ac .nil) (c2)) ?_; refine sp (po_not rfl rfl) ?_; refine oN ?_) | (refine rg 6 ?_; refine oMv ?_; refine sp (xinc rfl) ?_; refine oAs ?_; refine oN ?_) | refine gc ?_ | refine ct ?_ | refine cf ?_)
      | false =>
        rw [hpx, if_neg (by simp)] at hstep
        rw [hpx] at c2
        repeat' (first | refine for_next hlt (weak_sub (.cons rfl (by rfl) rfl (.cons rfl (by rfl) rfl (.cons rfl (by first | rfl | ((rw [hstep]; try first | rfl | (dsimp only; rw [List.map_set]; try rfl)))) rfl (.cons rfl (by rfl) rfl .nil)))) .nil (.cons rfl (by first | rfl | ((rw [hstep]; try first | rfl | (dsimp only; rw [List.map_set]; try rfl)))) .nil)) trivial | (refine rg 5 ?_; refine oMv ?_; refine oMv ?_; refine sp (po_len_own rfl rfl (tyS rfl)) ?_; refine oCm ?_; refine oN ?_) | (refine rg 7 ?_; refine oMv ?_; refine oMv ?_; refine sp (ixo rfl) ?_; (first | refine sp (po_load_bx_agg rfl rfl (tyT rfl) rfl (vc (vc (vc .nil))) rfl) ?_ | refine sp (po_load_agg rfl rfl (tyT rfl) rfl rfl) ?_ | refine sp (lda rfl) ?_); refine sal str27 ?_; refine oS ?_; refine oN ?_) | (refine rg 8 ?_; refine oMv ?_; (refine sp (po_load_bx_agg rfl rfl (tyT rfl) rfl (vc (vc (vc .nil))) rfl) ?_); refine sp (po_call_clo rfl rfl (ac .nil) (c2)) ?_; refine sp (po_not rfl rfl) ?_; refine oN ?_) | (refine rg 9 ?_; refine oMv ?_; refine oMv ?_; (refine sp (po_load_bx_agg rfl rfl (tyT rfl) rfl (vc (vc (vc .nil))) rfl) ?_); refine sp (ixo rfl) ?_; (first | refine oS ?_ | refine sso ?_); refine oN ?_) | (refine rg 10 ?_; refine oMv ?_; refine sp (xinc rfl) ?_; refine oAs ?_; refine oN ?_) | (refine rg 6 ?_; refine oMv ?_; refine sp (xinc rfl) ?_; refine oAs ?_; refine oN ?_) | refine gc ?_ | refine ct ?_)
    · obtain rfl : k = l.length - (k0 + 1) := by omega
      have hjl : k0 + 1 + (l.length - (k0 + 1)) = l.length := by omega
      have hfin := hI.take
      rw [hjl, List.take_length] at hfin
      repeat' (first | refine then_go ?_ | refine swp_seq ?_ | refine swp_ret_weak (weak_show 1000 100 rfl rfl rfl rfl) ?_ | (refine rg 5 ?_; refine oMv ?_; refine oMv ?_; refine sp (po_len_own rfl rfl (tyS rfl)) ?_; refine oCm ?_; refine oN ?_) | (refine rg 11 ?_; refine oMv ?_; refine oMv ?_; refine sp (po_slice_sfx rfl rfl rfl (by first | rfl | assumption | omega) (tyS rfl) rfl (by omega) (by omega)) ?_; refine sops_clearS str27 (by rfl) (.free rfl rfl) rfl rfl rfl rfl (by first | rfl | assumption | omega) (by omega) (tyE rfl) ?_; refine oN ?_) | (refine rg 12 ?_; refine oMv ?_; refine oMv ?_; (first | refine sp (po_slice_sfx rfl rfl rfl (by rfl) (tyS rfl) rfl (by omega) (by omega)) ?_ | refine sops_shrink (by rfl) (by rfl) (.free rfl rfl) rfl rfl rfl rfl rfl (by first | rfl | assumption | omega | (simp; done) | (simp; omega)) (tyS rfl) rfl (by omega) ?_); refine oAs ?_; refine oN ?_) | refine swp_ret ?_ | refine swp_skip ?_ | refine swp_block ?_ | refine swp_exit ?_ | refine block_go ?_ | refine block_exit ?_ | refine block_far rfl ?_ | refine block_ret ?_ | refine then_ret ?_ | refine then_exit ?_ | refine for_ret ?_ | refine for_exit ?_ | refine ct ?_ | refine cf ?_ | refine swp_cond rfl (fun hc => ?_) (fun hc => ?_) | refine retl (by exact .inr rfl) rfl (.tmpT rfl (by first | exact .t _ | exact .own rfl (by first | rfl | assumption | (simp; done) | (simp; omega)) | exact .nil _ | exact .emp _ | exact .fn _ | exact .fr _ _) .nil) ?_ rfl .nil .nil)
      rw [← hfin]
      show A.t (.sl 3 _) = .t (.sl 3 _)
      rw [List.take_append_of_le_length (by rw [List.length_take, List.length_map]; omega), List.take_take, Nat.min_self, List.map_take]
set_option maxRecDepth 100000 in
set_option maxHeartbeats 1000000 in
theorem blindL (l : List Pl.Rule) (hn : l.length ≤ 1000) (h : ∀ r ∈ l, FewR r) : LCalls Tryz.prog 27 [.own 1000 (l.map ruleT).length] [] [(1000, ⟨27, 3, l.map ruleT⟩)] (.t (.sl 3 ((Pl.what 0 l).map ruleT))) [] [] := by
  have c1 := deleteRules Pl.seventhP 45 l (fun x hx => seventh_ x (h x hx)) hn
  refine lcalls_of Tryz.func27 rfl rfl Tryz.ntmps27 rfl ?_
  repeat' (first | (refine rg 0 ?_; refine oAs ?_; refine oN ?_) | (refine rg 1 ?_; refine oMv ?_; refine sops_lcall (c1) (fun i => i) (fun i => i) (fun _ => false) (.free rfl rfl) rfl rfl rfl (by ((repeat' (first | exact .nil | refine .cons rfl rfl rfl ?_ | refine .vw rfl (by first | exact .t _ | exact .own rfl (by rfl) | exact .nil _ | exact .emp _ | exact .fn _) ?_)) <;> fail)) .nil (.cons rfl rfl .nil) rfl rfl (fun _ h => Bool.noConfusion h) ?_; refine oAs ?_; refine oN ?_) | refine gc ?_ | refine ct ?_ | refine cf ?_ | refine swp_cond rfl (fun hc => ?_) (fun hc => ?_) | exact retl1 (by exact .inr rfl) rfl (.tmpT rfl (by exact .t _) .nil) rfl .nil .nil)
end Go.Proofs.YtnclifgiakmmoaaGreat.Pol
