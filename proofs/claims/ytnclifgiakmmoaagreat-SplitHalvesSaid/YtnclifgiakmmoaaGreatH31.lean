/- Merged by bundles.py: SimSq2. -/
import Derived.Test.YtnclifgiakmmoaaGreatH30
import Derived.Test.YtnclifgiakmmoaaGreatH20
/- split.Fourth, L4, L7, Alone: answers whose memory is told to be new. (Printed by mk_sq2.py.) -/
namespace Go.Proofs.YtnclifgiakmmoaaGreat.Pol
set_option linter.unusedVariables false
set_option linter.unusedSimpArgs false
open Go.RowKit Mem Sim Opn
set_option maxRecDepth 100000 in
set_option maxHeartbeats 2000000 in
theorem fourth1M (n : Nat) (t : Pl.Target) : PCalls Tryz.prog 35 [.agg (targetM n t)] (.agg (targetM n (Pl.fourT t))) := by
  refine pcalls_of Tryz.func35 rfl rfl Tryz.ntmps35 rfl ?_
  repeat' (first | (refine rg 0 ?_; refine sbx ?_; refine sal str64 ?_; refine oN ?_) | (refine rg 1 ?_; refine oFb ?_; refine oLb ?_; refine sp (po_buildS str64 rfl (pc .nil) rfl) ?_; refine oS ?_; refine oN ?_) | refine gc ?_ | refine ct ?_ | refine cf ?_ | refine swp_cond rfl (fun hc => ?_) (fun hc => ?_) | exact rq1 rfl (.cell rfl rfl (tyT rfl) (vc (vc (vc (vc .nil)))) rfl .nil))
def MNTarget (n : Nat) (xs : List Pl.Target) (g : Pl.Target → Pl.Target) (f : FuncId) (k : Nat) : St := ⟨[(1, .t (.clo f [])), (5, .own 105 (((xs.take k).map g).map (targetM n)).length), (8, .t (.sl 4 (xs.map (targetM n)))), (9, .t (.v (.int .i64 (xs.length : Int)))), (10, .t (.v (.int .i64 (k : Int))))], [(3899, [.lo n])], [(105, ⟨64, 4, ((xs.take k).map g).map (targetM n)⟩)]⟩
set_option maxRecDepth 100000 in
set_option maxHeartbeats 2000000 in
theorem mapNTarget (n : Nat) (g : Pl.Target → Pl.Target) (f : FuncId) (xs : List Pl.Target) (hK : ∀ x ∈ xs, PCallsA Tryz.prog f [.agg (targetM n x)] n (.agg (targetM n (g x)))) (hn : xs.length ≤ 1000) : PCallsA Tryz.prog 34 [.sl 4 (xs.map (targetM n)), .clo f []] n (.fr n (.sl 4 ((xs.map g).map (targetM n)))) := by
  have hm1 : (xs.map (targetM n)).length = xs.length := List.length_map _
  refine pcallsA_of Tryz.func34 rfl rfl Tryz.ntmps34 rfl ?_
  repeat' (first | (refine rg 0 ?_; refine oAs ?_; refine oN ?_) | (refine rg 1 ?_; refine oAs ?_; refine oN ?_) | (refine rg 2 ?_; refine oMv ?_; refine sp (pln rfl (tyS rfl)) ?_; refine oMv ?_; refine oN ?_) | refine gc ?_ | refine ct ?_ | refine cf ?_ | refine swp_cond rfl (fun hc => ?_) (fun hc => ?_) | refine rq rfl (rt .nil) ?_)
  refine swp_for (MNTarget n xs g f) (fun _ => True) xs.length ?_ trivial ?_
  · refine Weak.trans (weak_own0 (i := 105) 64 4 (s := 5) rfl rfl) ?_
    exact (weak_sub (.cons rfl (by first | rfl | (exact congrArg (fun n : Nat => A.t (.v (.int .i64 (n : Int)))) hm1)) rfl (.cons rfl (by first | rfl | (exact congrArg (fun n : Nat => A.t (.v (.int .i64 (n : Int)))) hm1)) rfl (.cons rfl (by first | rfl | (exact congrArg (fun n : Nat => A.t (.v (.int .i64 (n : Int)))) hm1)) rfl (.cons rfl (by first | rfl | (exact congrArg (fun n : Nat => A.t (.v (.int .i64 (n : Int)))) hm1)) rfl (.cons rfl (by first | rfl | (exact congrArg (fun n : Nat => A.t (.v (.int .i64 (n : Int)))) hm1)) rfl .nil))))) (.cons rfl (by first | rfl | (exact congrArg (fun n : Nat => A.t (.v (.int .i64 (n : Int)))) hm1)) rfl .nil) (.cons rfl (by first | rfl | (exact congrArg (fun n : Nat => A.t (.v (.int .i64 (n : Int)))) hm1)) .nil))
  intro k hk _
  unfold MNTarget
  by_cases hlt : k < xs.length
  · have c1 := hK _ (List.getElem_mem hlt)
    have hsn := mapmap_take_succ (targetM n) g hlt
    have g1 : ((((xs.take k).map g).map (targetM n)).length + 1) * 96 ≤ 140737488355328 := by rw [mmt_len]; have := Nat.min_le_right k xs.length; omega
    have g2 : (((xs.take k).map g).map (targetM n)).length + 1 ≤ maxLen := by rw [mmt_len]; have := Nat.min_le_right k xs.length; unfold maxLen; omega
    repeat' (first | refine for_next hlt (weak_sub (.cons rfl (by rfl) rfl (.cons rfl (by first | rfl | (rw [hsn]; try rfl)) rfl (.cons rfl (by rfl) rfl (.cons rfl (by rfl) rfl (.cons rfl (by rfl) rfl .nil))))) (.cons rfl (by rfl) rfl .nil) (.cons rfl (by first | rfl | (rw [hsn]; try rfl)) .nil)) trivial | (refine rg 3 ?_; refine oCm ?_; refine oN ?_) | (refine rg 4 ?_; refine sp (pix rfl (tyS rfl)) ?_; (first | refine sp (po_load_bx_agg rfl rfl (tyT rfl) rfl (vc (vc (vc (vc .nil)))) rfl) ?_ | refine sp (po_load_agg rfl rfl (tyT rfl) rfl rfl) ?_); refine sal str64 ?_; refine oS ?_; refine oN ?_) | (refine rg 5 ?_; refine oMv ?_; refine oMv ?_; (refine sp (po_load_bx_agg rfl rfl (tyT rfl) rfl (vc (vc (vc (vc .nil)))) rfl) ?_); refine sp (po_callA_clo 3899 _ rfl rfl rfl (ac .nil) (c1)) ?_; refine sp (po_buildSlice rfl (tyE rfl) (dc (.nil _)) rfl rfl rfl) ?_; refine sap rfl (tyE rfl) ?_; refine oAs ?_; refine oN ?_) | (refine rg 6 ?_; refine sp (xinc rfl) ?_; refine oMv ?_; refine oN ?_) | refine gc ?_ | refine ct ?_)
  · obtain rfl : k = xs.length := by omega
    rw [List.take_length]
    repeat' (first | refine swp_retM ?_ | refine then_go ?_ | refine swp_seq ?_ | (refine rg 3 ?_; refine oCm ?_; refine oN ?_) | (refine rg 7 ?_; refine oMv ?_; refine oAs ?_; refine oN ?_) | refine swp_ret ?_ | refine swp_skip ?_ | refine swp_block ?_ | refine swp_exit ?_ | refine block_go ?_ | refine block_exit ?_ | refine block_far rfl ?_ | refine block_ret ?_ | refine then_ret ?_ | refine then_exit ?_ | refine for_ret ?_ | refine for_exit ?_ | refine ct ?_ | refine cf ?_ | refine swp_cond rfl (fun hc => ?_) (fun hc => ?_) | refine rq rfl (rt .nil) ?_)
    rfl
def MNRule (n : Nat) (xs : List Pl.Rule) (g : Pl.Rule → Pl.Rule) (f : FuncId) (k : Nat) : St := ⟨[(1, .t (.clo f [])), (5, .own 105 (((xs.take k).map g).map (ruleM n)).length), (8, .t (.sl 3 (xs.map (ruleM n)))), (9, .t (.v (.int .i64 (xs.length : Int)))), (10, .t (.v (.int .i64 (k : Int))))], [(3899, [.lo n])], [(105, ⟨27, 3, ((xs.take k).map g).map (ruleM n)⟩)]⟩
set_option maxRecDepth 100000 in
set_option maxHeartbeats 2000000 in
theorem mapNRule (n : Nat) (g : Pl.Rule → Pl.Rule) (f : FuncId) (xs : List Pl.Rule) (hK : ∀ x ∈ xs, PCallsA Tryz.prog f [.agg (ruleM n x)] n (.agg (ruleM n (g x)))) (hn : xs.length ≤ 1000) : PCallsA Tryz.prog 46 [.sl 3 (xs.map (ruleM n)), .clo f []] n (.fr n (.sl 3 ((xs.map g).map (ruleM n)))) := by
  have hm1 : (xs.map (ruleM n)).length = xs.length := List.length_map _
  refine pcallsA_of Tryz.func46 rfl rfl Tryz.ntmps46 rfl ?_
  repeat' (first | (refine rg 0 ?_; refine oAs ?_; refine oN ?_) | (refine rg 1 ?_; refine oAs ?_; refine oN ?_) | (refine rg 2 ?_; refine oMv ?_; refine sp (pln rfl (tyS rfl)) ?_; refine oMv ?_; refine oN ?_) | refine gc ?_ | refine ct ?_ | refine cf ?_ | refine swp_cond rfl (fun hc => ?_) (fun hc => ?_) | refine rq rfl (rt .nil) ?_)
  refine swp_for (MNRule n xs g f) (fun _ => True) xs.length ?_ trivial ?_
  · refine Weak.trans (weak_own0 (i := 105) 27 3 (s := 5) rfl rfl) ?_
    exact (weak_sub (.cons rfl (by first | rfl | (exact congrArg (fun n : Nat => A.t (.v (.int .i64 (n : Int)))) hm1)) rfl (.cons rfl (by first | rfl | (exact congrArg (fun n : Nat => A.t (.v (.int .i64 (n : Int)))) hm1)) rfl (.cons rfl (by first | rfl | (exact congrArg (fun n : Nat => A.t (.v (.int .i64 (n : Int)))) hm1)) rfl (.cons rfl (by first | rfl | (exact congrArg (fun n : Nat => A.t (.v (.int .i64 (n : Int)))) hm1)) rfl (.cons rfl (by first | rfl | (exact congrArg (fun n : Nat => A.t (.v (.int .i64 (n : Int)))) hm1)) rfl .nil))))) (.cons rfl (by first | rfl | (exact congrArg (fun n : Nat => A.t (.v (.int .i64 (n : Int)))) hm1)) rfl .nil) (.cons rfl (by first | rfl | (exact congrArg (fun n : Nat => A.t (.v (.int .i64 (n : Int)))) hm1)) .nil))
  intro k hk _
  unfold MNRule
  by_cases hlt : k < xs.length
  · have c1 := hK _ (List.getElem_mem hlt)
    have hsn := mapmap_take_succ (ruleM n) g hlt
    have g1 : ((((xs.take k).map g).map (ruleM n)).length + 1) * 72 ≤ 140737488355328 := by rw [mmt_len]; have := Nat.min_le_right k xs.length; omega
    have g2 : (((xs.take k).map g).map (ruleM n)).length + 1 ≤ maxLen := by rw [mmt_len]; have := Nat.min_le_right k xs.length; unfold maxLen; omega
    repeat' (first | refine for_next hlt (weak_sub (.cons rfl (by rfl) rfl (.cons rfl (by first | rfl | (rw [hsn]; try rfl)) rfl (.cons rfl (by rfl) rfl (.cons rfl (by rfl) rfl (.cons rfl (by rfl) rfl .nil))))) (.cons rfl (by rfl) rfl .nil) (.cons rfl (by first | rfl | (rw [hsn]; try rfl)) .nil)) trivial | (refine rg 3 ?_; refine oCm ?_; refine oN ?_) | (refine rg 4 ?_; refine sp (pix rfl (tyS rfl)) ?_; (first | refine sp (po_load_bx_agg rfl rfl (tyT rfl) rfl (vc (vc (vc .nil))) rfl) ?_ | refine sp (po_load_agg rfl rfl (tyT rfl) rfl rfl) ?_); refine sal str27 ?_; refine oS ?_; refine oN ?_) | (refine rg 5 ?_; refine oMv ?_; refine oMv ?_; (refine sp (po_load_bx_agg rfl rfl (tyT rfl) rfl (vc (vc (vc .nil))) rfl) ?_); refine sp (po_callA_clo 3899 _ rfl rfl rfl (ac .nil) (c1)) ?_; refine sp (po_buildSlice rfl (tyE rfl) (dc (.nil _)) rfl rfl rfl) ?_; refine sap rfl (tyE rfl) ?_; refine oAs ?_; refine oN ?_) | (refine rg 6 ?_; refine sp (xinc rfl) ?_; refine oMv ?_; refine oN ?_) | refine gc ?_ | refine ct ?_)
  · obtain rfl : k = xs.length := by omega
    rw [List.take_length]
    repeat' (first | refine swp_retM ?_ | refine then_go ?_ | refine swp_seq ?_ | (refine rg 3 ?_; refine oCm ?_; refine oN ?_) | (refine rg 7 ?_; refine oMv ?_; refine oAs ?_; refine oN ?_) | refine swp_ret ?_ | refine swp_skip ?_ | refine swp_block ?_ | refine swp_exit ?_ | refine block_go ?_ | refine block_exit ?_ | refine block_far rfl ?_ | refine block_ret ?_ | refine then_ret ?_ | refine then_exit ?_ | refine for_ret ?_ | refine for_exit ?_ | refine ct ?_ | refine cf ?_ | refine swp_cond rfl (fun hc => ?_) (fun hc => ?_) | refine rq rfl (rt .nil) ?_)
    rfl
set_option maxRecDepth 100000 in
set_option maxHeartbeats 2000000 in
theorem ownRM (n : Nat) (r : Pl.Rule) (h : FewR r) : PCallsA Tryz.prog 33 [.agg (ruleT r)] n (.agg (ruleM n r)) := by
  have c1 : PCallsA Tryz.prog 43 [.agg (polT ⟨0, ⟨#[]⟩, 0, 0, [r]⟩)] n (.agg [.v (.int .u64 0), .v (.string ⟨#[]⟩), .v (.int .u64 0), .v (.int .i64 0), .sl 3 [ruleM n r]]) := (ownPolMP n ⟨0, ⟨#[]⟩, 0, 0, [r]⟩ ⟨by simp, fun x hx => by simp at hx; subst hx; exact h⟩).le (.cons .r .nil) (.agg (.cons .r (.cons .r (.cons .r (.cons .r (.cons (.fr .r) .nil))))))
  refine pcallsA_of Tryz.func33 rfl rfl Tryz.ntmps33 rfl ?_
  repeat' (first | (refine rg 0 ?_; refine sbx ?_; refine sal str27 ?_; refine oN ?_) | (refine rg 1 ?_; (refine sp (po_load_bx_agg rfl rfl (tyT rfl) rfl (vc (vc (vc .nil))) rfl) ?_); refine sp (po_buildSlice rfl (tyE rfl) (dc (.nil _)) rfl rfl rfl) ?_; refine sp (po_buildS str43 rfl (pc .nil) rfl) ?_; refine sp (po_callA 3899 _ rfl (c1) rfl (ac .nil)) ?_; refine sal str43 ?_; refine oS ?_; refine oN ?_) | (refine rg 2 ?_; refine oFb ?_; refine oLb ?_; refine sp (pix rfl (tyS rfl)) ?_; (first | refine sp (po_load_bx_agg rfl rfl (tyT rfl) rfl (vc (vc (vc .nil))) rfl) ?_ | refine sp (po_load_agg rfl rfl (tyT rfl) rfl rfl) ?_); refine oS ?_; refine oN ?_) | refine gc ?_ | refine ct ?_ | refine cf ?_ | refine swp_cond rfl (fun hc => ?_) (fun hc => ?_) | exact rq1 rfl (.cell rfl rfl (tyT rfl) (vc (vc (vc .nil))) rfl .nil))
set_option maxRecDepth 100000 in
set_option maxHeartbeats 2000000 in
theorem fourthM (n : Nat) (r : Pl.Rule) (h : FewR r) : PCallsA Tryz.prog 14 [.agg (ruleT r)] n (.agg (ruleM n (Pl.four r))) := by
  have c1 := ownRM n r h
  have c2 := mapNTarget n Pl.fourT 35 r.to_ (fun x hx => (fourth1M n x).a n) h.t
  refine pcallsA_of Tryz.func14 rfl rfl Tryz.ntmps14 rfl ?_
  repeat' (first | (refine rg 0 ?_; refine sbx ?_; refine sal str27 ?_; refine oN ?_) | (refine rg 1 ?_; (refine sp (po_load_bx_agg rfl rfl (tyT rfl) rfl (vc (vc (vc .nil))) rfl) ?_); refine sp (po_callA 3899 _ rfl (c1) rfl (ac .nil)) ?_; refine oS ?_; refine oN ?_) | (refine rg 2 ?_; refine oFb ?_; refine oS ?_; refine oN ?_) | (refine rg 3 ?_; refine oFb ?_; refine oLb ?_; (first | refine sp (po_callA 3899 _ rfl (c1) rfl (ac (ac .nil))) ?_ | refine sp (po_callA 3899 _ rfl (c2) rfl (ac (ac .nil))) ?_); refine oFb ?_; refine oS ?_; refine oN ?_) | (refine rg 4 ?_; (refine sp (po_load_bx_agg rfl rfl (tyT rfl) rfl (vc (vc (vc .nil))) rfl) ?_); refine oS ?_; refine oN ?_) | refine gc ?_ | refine ct ?_ | refine cf ?_ | refine swp_cond rfl (fun hc => ?_) (fun hc => ?_) | exact rq1 rfl (.cell rfl rfl (tyT rfl) (vc (vc (vc .nil))) rfl .nil))
abbrev RulesM (n : Nat) (f : FuncId) (k : Nat) : Prop := ∀ l : List Pl.Rule, l.length ≤ 1000 → (∀ r ∈ l, FewR r) → LCalls Tryz.prog f [.own 1000 (l.map (ruleM n)).length] [(3899, [.lo n])] [(1000, ⟨27, 3, l.map (ruleM n)⟩)] (.t (.fr n (.sl 3 ((Pl.what k l).map (ruleM n))))) [] []
set_option maxRecDepth 100000 in
set_option maxHeartbeats 2000000 in
theorem halvedM (n : Nat) : RulesM n 28 1 := fun l hn h => by
  have c1 := mapNRule n Pl.four 14 l (fun x hx => (fourthM n x (h x hx)).le (.cons (.agg (rule_le n x)) .nil) .r) hn
  refine lcalls_of Tryz.func28 rfl rfl Tryz.ntmps28 rfl ?_
  refine swp_weak (weak_show 1000 100 rfl rfl rfl rfl) ?_
  repeat' (first | (refine rg 0 ?_; refine oAs ?_; refine oN ?_) | (refine rg 1 ?_; refine oMv ?_; refine sp (po_callA 3899 _ rfl (c1) rfl (ac (ac .nil))) ?_; refine oAs ?_; refine oN ?_) | refine gc ?_ | refine ct ?_ | refine cf ?_ | refine swp_cond rfl (fun hc => ?_) (fun hc => ?_) | exact retl1 (by exact .inr rfl) rfl (.tmpT rfl (by exact .t _) .nil) rfl .nil .nil)
set_option maxRecDepth 100000 in
set_option maxHeartbeats 2000000 in
theorem wholeM (n : Nat) : RulesM n 29 2 := fun l _ _ => by
  refine lcalls_of Tryz.func29 rfl rfl Tryz.ntmps29 rfl ?_
  refine swp_weak (weak_show 1000 100 rfl rfl rfl rfl) ?_
  repeat' (first | refine swp_ret_weak (weak_tmM 2 rfl (.own (k := 3899) rfl rfl rfl)) ?_ | refine then_go ?_ | refine swp_seq ?_ | (refine rg 0 ?_; refine oAs ?_; refine oN ?_) | (refine rg 1 ?_; refine oMv ?_; refine oAs ?_; refine oN ?_) | refine swp_ret ?_ | refine swp_skip ?_ | refine swp_block ?_ | refine swp_exit ?_ | refine block_go ?_ | refine block_exit ?_ | refine block_far rfl ?_ | refine block_ret ?_ | refine then_ret ?_ | refine then_exit ?_ | refine for_ret ?_ | refine for_exit ?_ | refine ct ?_ | refine cf ?_ | refine swp_cond rfl (fun hc => ?_) (fun hc => ?_) | exact retl1 (by exact .inr rfl) rfl (.tmpT rfl (by exact .t _) .nil) rfl .nil .nil)
def DM (n : Nat) (p : Pl.Rule → Bool) (f : FuncId) (l : List Pl.Rule) (k0 : Nat) (k : Nat) : St := ⟨[(0, .own 1000 l.length), (1, .t (.clo f [])), (5, .t (.v (.int .i64 ((Pl.delS p l k0 k).2 : Int)))), (6, .t (.v (.int .i64 ((k0 + 1 + k : Nat) : Int))))], [(3899, [.lo n])], [(1000, ⟨27, 3, (Pl.delS p l k0 k).1.map (ruleM n)⟩)]⟩
set_option maxRecDepth 100000 in
set_option maxHeartbeats 2000000 in
theorem deleteM (n : Nat) (p : Pl.Rule → Bool) (f : FuncId) (l : List Pl.Rule) (hK : ∀ x ∈ l, PCalls Tryz.prog f [.agg (ruleT x)] (.v (.bool (p x)))) (hn : l.length ≤ 1000) :
    LCalls Tryz.prog 44 [.own 1000 (l.map (ruleM n)).length, .t (.clo f [])] [(3899, [.lo n])] [(1000, ⟨27, 3, l.map (ruleM n)⟩)] (.t (.fr n (.sl 3 ((l.filter fun x => !p x).map (ruleM n))))) [] [] := by
  have hm1 : (l.map (ruleM n)).length = l.length := List.length_map _
  have c1 := (idxRule p f [] l (idxP p l) hK hn (idxP_hit p l) (idxP_miss p l)).le (.cons (.map (rule_le n)) (.cons .r .nil)) .r
  rw [hm1]
  refine lcalls_of Tryz.func44 rfl rfl Tryz.ntmps44 rfl ?_
  rcases idxP_cases p l with ⟨h1, h2⟩ | ⟨k0, h0, h1, h2, h3⟩
  · rw [h1] at c1
    rw [Pl.del_none h2]
    repeat' (first | refine swp_ret_weak (Weak.trans (weak_show 1000 100 rfl rfl rfl rfl) (weak_tmM 4 rfl (.own (k := 3899) rfl rfl (by simp <;> omega)))) ?_ | refine then_go ?_ | refine swp_seq ?_ | (refine rg 0 ?_; refine oAs ?_; refine oN ?_) | (refine rg 1 ?_; refine oMv ?_; refine oMv ?_; refine sp (po_call_see (c1) rfl (.cons rfl (by first | exact .t _ | exact .own rfl (by first | rfl | assumption | omega)) (.cons rfl (by exact .t _) .nil)) rfl) ?_; refine oAs ?_; refine oN ?_) | (refine rg 2 ?_; refine oMv ?_; refine oCm ?_; refine oN ?_) | (refine rg 3 ?_; refine oMv ?_; refine oAs ?_; refine oN ?_) | refine swp_ret ?_ | refine swp_skip ?_ | refine swp_block ?_ | refine swp_exit ?_ | refine block_go ?_ | refine block_exit ?_ | refine block_far rfl ?_ | refine block_ret ?_ | refine then_ret ?_ | refine then_exit ?_ | refine for_ret ?_ | refine for_exit ?_ | refine ct ?_ | refine cf ?_ | refine swp_cond rfl (fun hc => ?_) (fun hc => ?_) | exact retl1 (by exact .inr rfl) rfl (.tmpT rfl (by exact .t _) .nil) rfl .nil .nil)
  · rw [h1] at c1
    repeat' (first | (refine rg 0 ?_; refine oAs ?_; refine oN ?_) | (refine rg 1 ?_; refine oMv ?_; refine oMv ?_; refine sp (po_call_see (c1) rfl (.cons rfl (by first | exact .t _ | exact .own rfl (by first | rfl | assumption | omega)) (.cons rfl (by exact .t _) .nil)) rfl) ?_; refine oAs ?_; refine oN ?_) | (refine rg 2 ?_; refine oMv ?_; refine oCm ?_; refine oN ?_) | (refine rg 4 ?_; refine oMv ?_; refine sp (xinc rfl) ?_; refine oAs ?_; refine oN ?_) | refine gc ?_ | refine ct ?_ | refine cf ?_ | refine swp_cond rfl (fun hc => ?_) (fun hc => ?_) | refine rq rfl (rt .nil) ?_)
    refine swp_for (DM n p f l k0) (fun _ => True) (l.length - (k0 + 1)) ?_ trivial ?_
    · exact (weak_sub (.cons rfl rfl rfl (.cons rfl rfl rfl (.cons rfl rfl rfl (.cons rfl rfl rfl .nil)))) (.cons rfl rfl rfl .nil) (.cons rfl rfl .nil))
    intro k hk _
    have hI := Pl.delS_spec h0 h2 h3 k (by omega)
    have hlen := hI.len
    have hlt0 := hI.lt
    have hl2 : ((Pl.delS p l k0 k).1.map (ruleM n)).length = l.length := by rw [List.length_map]; exact hlen
    unfold DM
    by_cases hlt : k < l.length - (k0 + 1)
    · have hj : k0 + 1 + k < l.length := by omega
      have c2 := (hK _ (List.getElem_mem hj)).le (.cons (.agg (rule_le n _)) .nil) .r
      have hRj : ((Pl.delS p l k0 k).1.map (ruleM n))[k0 + 1 + k]? = some (ruleM n l[k0 + 1 + k]) := by
        have := congrArg (fun q => q[0]?) hI.drop
        simp only [List.getElem?_drop, Nat.add_zero] at this
        rw [List.getElem?_map, this, List.getElem?_eq_getElem hj]; rfl
      have hRi : ((Pl.delS p l k0 k).1.map (ruleM n))[(Pl.delS p l k0 k).2]? = some (ruleM n (Pl.delS p l k0 k).1[(Pl.delS p l k0 k).2]) := by
        rw [List.getElem?_map, List.getElem?_eq_getElem (by omega)]; rfl
      have e1 : l[k0 + 1 + k]? = some l[k0 + 1 + k] := List.getElem?_eq_getElem hj
      have hstep : Pl.delS p l k0 (k + 1) = if p l[k0 + 1 + k] = true then Pl.delS p l k0 k else ((Pl.delS p l k0 k).1.set (Pl.delS p l k0 k).2 l[k0 + 1 + k], (Pl.delS p l k0 k).2 + 1) := by
        conv => lhs; unfold Pl.delS
        rw [e1]
      cases hpx : p l[k0 + 1 + k] with
      | true =>
        rw [hpx, if_pos rfl] at hstep
        rw [hpx] at c2
        repeat' (first | refine for_next hlt (weak_sub (.cons rfl (by rfl) rfl (.cons rfl (by rfl) rfl (.cons rfl (by first | rfl | (rw [hstep])) rfl (.cons rfl (by rfl) rfl .nil)))) (.cons rfl (by rfl) rfl .nil) (.cons rfl (by first | rfl | (rw [hstep])) .nil)) trivial | (refine rg 5 ?_; refine oMv ?_; refine oMv ?_; refine sp (po_len_own rfl rfl (tyS rfl)) ?_; refine oCm ?_; refine oN ?_) | (refine rg 7 ?_; refine oMv ?_; refine oMv ?_; refine sp (ixo rfl) ?_; (first | refine sp (po_load_bx_agg rfl rfl (tyT rfl) rfl (vc (vc (vc .nil))) rfl) ?_ | refine sp (po_load_agg rfl rfl (tyT rfl) rfl rfl) ?_ | refine sp (lda rfl) ?_); refine sal str27 ?_; refine oS ?_; refine oN ?_) | (refine rg 8 ?_; refine oMv ?_; (refine sp (po_load_bx_agg rfl rfl (tyT rfl) rfl (vc (vc (vc .nil))) rfl) ?_); refine sp (po_call_clo rfl rfl (ac .nil) (c2)) ?_; refine sp (po_not rfl rfl) ?_; refine oN ?_) | (refine rg 6 ?_; refine oMv ?_; refine sp (xinc rfl) ?_; refine oAs ?_; refine oN ?_) | refine gc ?_ | refine ct ?_ | refine cf ?_)
      | false =>
        rw [hpx, if_neg (by simp)] at hstep
        rw [hpx] at c2
        repeat' (first | refine for_next hlt (weak_sub (.cons rfl (by rfl) rfl (.cons rfl (by rfl) rfl (.cons rfl (by first | rfl | ((rw [hstep]; try first | rfl | (dsimp only; rw [List.map_set]; try rfl)))) rfl (.cons rfl (by rfl) rfl .nil)))) (.cons rfl (by rfl) rfl .nil) (.cons rfl (by first | rfl | ((rw [hstep]; try first | rfl | (dsimp only; rw [List.map_set]; try rfl)))) .nil)) trivial | (refine rg 5 ?_; refine oMv ?_; refine oMv ?_; refine sp (po_len_own rfl rfl (tyS rfl)) ?_; refine oCm ?_; refine oN ?_) | (refine rg 7 ?_; refine oMv ?_; refine oMv ?_; refine sp (ixo rfl) ?_; (first | refine sp (po_load_bx_agg rfl rfl (tyT rfl) rfl (vc (vc (vc .nil))) rfl) ?_ | refine sp (po_load_agg rfl rfl (tyT rfl) rfl rfl) ?_ | refine sp (lda rfl) ?_); refine sal str27 ?_; refine oS ?_; refine oN ?_) | (refine rg 8 ?_; refine oMv ?_; (refine sp (po_load_bx_agg rfl rfl (tyT rfl) rfl (vc (vc (vc .nil))) rfl) ?_); refine sp (po_call_clo rfl rfl (ac .nil) (c2)) ?_; refine sp (po_not rfl rfl) ?_; refine oN ?_) | (refine rg 9 ?_; refine oMv ?_; refine oMv ?_; (refine sp (po_load_bx_agg rfl rfl (tyT rfl) rfl (vc (vc (vc .nil))) rfl) ?_); refine sp (ixo rfl) ?_; (first | refine oS ?_ | refine sso ?_); refine oN ?_) | (refine rg 10 ?_; refine oMv ?_; refine sp (xinc rfl) ?_; refine oAs ?_; refine oN ?_) | (refine rg 6 ?_; refine oMv ?_; refine sp (xinc rfl) ?_; refine oAs ?_; refine oN ?_) | refine gc ?_ | refine ct ?_)
    · obtain rfl : k = l.length - (k0 + 1) := by omega
      have hjl : k0 + 1 + (l.length - (k0 + 1)) = l.length := by omega
      have hfin := hI.take
      rw [hjl, List.take_length] at hfin
      repeat' (first | refine swp_ret_weak (Weak.trans (weak_show 1000 100 rfl rfl rfl rfl) (weak_tmM 4 rfl (.own (k := 3899) rfl rfl (by simp <;> omega)))) ?_ | refine then_go ?_ | refine swp_seq ?_ | (refine rg 5 ?_; refine oMv ?_; refine oMv ?_; refine sp (po_len_own rfl rfl (tyS rfl)) ?_; refine oCm ?_; refine oN ?_) | (refine rg 11 ?_; refine oMv ?_; refine oMv ?_; refine sp (po_slice_sfx rfl rfl rfl (by first | rfl | assumption | omega) (tyS rfl) rfl (by omega) (by omega)) ?_; refine sops_clearS str27 (by rfl) (.free rfl rfl) rfl rfl rfl rfl (by first | rfl | assumption | omega) (by omega) (tyE rfl) ?_; refine oN ?_) | (refine rg 12 ?_; refine oMv ?_; refine oMv ?_; (first | refine sp (po_slice_sfx rfl rfl rfl (by rfl) (tyS rfl) rfl (by omega) (by omega)) ?_ | refine sops_shrink (by rfl) (by rfl) (.free rfl rfl) rfl rfl rfl rfl rfl (by first | rfl | assumption | omega | (simp; done) | (simp; omega)) (tyS rfl) rfl (by omega) ?_); refine oAs ?_; refine oN ?_) | refine swp_ret ?_ | refine swp_skip ?_ | refine swp_block ?_ | refine swp_exit ?_ | refine block_go ?_ | refine block_exit ?_ | refine block_far rfl ?_ | refine block_ret ?_ | refine then_ret ?_ | refine then_exit ?_ | refine for_ret ?_ | refine for_exit ?_ | refine ct ?_ | refine cf ?_ | refine swp_cond rfl (fun hc => ?_) (fun hc => ?_) | refine retl (by exact .inr rfl) rfl (.tmpT rfl (by first | exact .t _ | exact .own rfl (by rfl) | exact .nil _ | exact .emp _ | exact .fn _ | exact .fr _ _) .nil) ?_ rfl .nil .nil)
      rw [← hfin]
      show A.t (.fr n (.sl 3 _)) = .t (.fr n (.sl 3 _))
      rw [List.take_append_of_le_length (by rw [List.length_take, List.length_map]; omega), List.take_take, Nat.min_self, List.map_take]
set_option maxRecDepth 100000 in
set_option maxHeartbeats 2000000 in
theorem blindM (n : Nat) : RulesM n 27 0 := fun l hn h => by
  have c1 := deleteM n Pl.seventhP 45 l (fun x hx => seventh_ x (h x hx)) hn
  refine lcalls_of Tryz.func27 rfl rfl Tryz.ntmps27 rfl ?_
  repeat' (first | (refine rg 0 ?_; refine oAs ?_; refine oN ?_) | (refine rg 1 ?_; refine oMv ?_; refine sops_lcall (c1) (fun i => i) (fun i => i) (fun _ => false) (.free rfl rfl) rfl rfl rfl (by ((repeat' (first | exact .nil | refine .cons rfl rfl rfl ?_ | refine .vw rfl (by first | exact .t _ | exact .own rfl (by rfl) | exact .nil _ | exact .emp _ | exact .fn _) ?_)) <;> fail)) (.cons rfl rfl .nil) (.cons rfl rfl .nil) rfl rfl (fun _ h => Bool.noConfusion h) ?_; refine oAs ?_; refine oN ?_) | refine gc ?_ | refine ct ?_ | refine cf ?_ | refine swp_cond rfl (fun hc => ?_) (fun hc => ?_) | exact retl1 (by exact .inr rfl) rfl (.tmpT rfl (by exact .t _) .nil) rfl .nil .nil)
abbrev TBM (n : Nat) (fd fa : FuncId) (t0 : T) (al : Int) : List (Nat × List A) := [(2000, [.t (.clo fd [])]), (2001, [.t (.clo fa [])]), (2002, [.t t0, .t (.v (.int .i64 al))]), (3899, [.lo n])]
set_option maxRecDepth 100000 in
set_option maxHeartbeats 2000000 in
theorem table1M (n : Nat) (fd fa : FuncId) (D K : Nat) (hD : RulesM n fd D) (hA : RulesM n fa K) (p : Pl.Policy) (hp : FewP p) (t0 : T) (al : Int) :
    LCalls Tryz.prog 42 [.t (.agg (polT p)), .bp 2000 0, .bp 2001 0, .bp 2002 0] (TBM n fd fa t0 al) [] (.t (.agg (polM n (Pl.halfP D K p)))) (TB fd fa t0 (updA al p)) [] := by
  have c1 := ownPolM n p hp
  have c2 := hD p.rules hp.n hp.r
  have c3 := hA p.rules hp.n hp.r
  unfold Pl.halfP updA
  refine lcalls_of Tryz.func42 rfl rfl Tryz.ntmps42 rfl ?_
  by_cases hd : p.deny = 1
  · rw [if_pos hd, if_pos hd]
    repeat' (first | (refine rg 0 ?_; refine sbx ?_; refine sal str43 ?_; refine oN ?_) | (refine rg 1 ?_; (refine sp (po_load_bx_agg rfl rfl (tyT rfl) rfl (vc (vc (vc (vc (vc .nil))))) rfl) ?_); (first | refine sops_lcall (c2) (fun i => i) (fun i => i) (fun _ => false) (.free rfl rfl) rfl rfl rfl (by first | ((repeat' (first | exact .nil | refine .cons rfl rfl rfl ?_ | refine .vw rfl (by first | exact .t _ | exact .own rfl (by rfl) | exact .nil _ | exact .emp _ | exact .fn _ | exact .fr _ _) ?_)) <;> fail) | fail) (.cons rfl rfl .nil) (.cons rfl rfl .nil) rfl rfl (fun _ h => Bool.noConfusion h) ?_ | refine sops_lcall (c1) (fun i => i) (fun i => i) (fun _ => false) (.free rfl rfl) rfl rfl rfl (by ((repeat' (first | exact .nil | refine .cons rfl rfl rfl ?_)) <;> fail)) (.cons rfl rfl .nil) .nil rfl rfl (fun _ h => Bool.noConfusion h) ?_); refine oS ?_; refine oN ?_) | (refine rg 2 ?_; refine oFb ?_; refine oLb ?_; refine oCm ?_; refine oN ?_) | (refine rg 3 ?_; refine oLb ?_; refine oFb ?_; refine oLb ?_; (refine sops_lcall_tclo (args := [_]) (caps := []) (c2) (fun i => i) (fun i => i) (fun _ => false) (.free rfl rfl) rfl rfl rfl rfl (by ((repeat' (first | exact .nil | refine .cons rfl rfl rfl ?_)) <;> fail)) (.cons rfl rfl .nil) (.cons rfl rfl .nil) rfl rfl (fun _ h => Bool.noConfusion h) ?_); refine oFb ?_; refine oS ?_; refine oN ?_) | (refine rg 6 ?_; (refine sp (po_load_bx_agg rfl rfl (tyT rfl) rfl (vc (vc (vc (vc (vc .nil))))) rfl) ?_); refine oS ?_; refine oN ?_) | refine gc ?_ | refine ct ?_ | refine cf ?_ | refine swp_cond rfl (fun hc => ?_) (fun hc => ?_) | exact retl1 (by exact .inr rfl) rfl (.cellT rfl rfl (tyT rfl) (vc (vc (vc (vc (vc .nil))))) rfl .nil) rfl (.cons rfl (by rfl) rfl (.cons rfl (by rfl) rfl (.cons rfl (by rfl) rfl .nil))) .nil)
  · rw [if_neg hd, if_neg hd]
    repeat' (first | (refine rg 0 ?_; refine sbx ?_; refine sal str43 ?_; refine oN ?_) | (refine rg 1 ?_; (refine sp (po_load_bx_agg rfl rfl (tyT rfl) rfl (vc (vc (vc (vc (vc .nil))))) rfl) ?_); (first | refine sops_lcall (c3) (fun i => i) (fun i => i) (fun _ => false) (.free rfl rfl) rfl rfl rfl (by first | ((repeat' (first | exact .nil | refine .cons rfl rfl rfl ?_ | refine .vw rfl (by first | exact .t _ | exact .own rfl (by rfl) | exact .nil _ | exact .emp _ | exact .fn _ | exact .fr _ _) ?_)) <;> fail) | fail) (.cons rfl rfl .nil) (.cons rfl rfl .nil) rfl rfl (fun _ h => Bool.noConfusion h) ?_ | refine sops_lcall (c1) (fun i => i) (fun i => i) (fun _ => false) (.free rfl rfl) rfl rfl rfl (by ((repeat' (first | exact .nil | refine .cons rfl rfl rfl ?_)) <;> fail)) (.cons rfl rfl .nil) .nil rfl rfl (fun _ h => Bool.noConfusion h) ?_); refine oS ?_; refine oN ?_) | (refine rg 2 ?_; refine oFb ?_; refine oLb ?_; refine oCm ?_; refine oN ?_) | (refine rg 4 ?_; refine oLb ?_; refine oFb ?_; refine oLb ?_; (refine sops_lcall_tclo (args := [_]) (caps := []) (c3) (fun i => i) (fun i => i) (fun _ => false) (.free rfl rfl) rfl rfl rfl rfl (by ((repeat' (first | exact .nil | refine .cons rfl rfl rfl ?_)) <;> fail)) (.cons rfl rfl .nil) (.cons rfl rfl .nil) rfl rfl (fun _ h => Bool.noConfusion h) ?_); refine oFb ?_; refine oS ?_; refine oN ?_) | (refine rg 5 ?_; refine oFb ?_; refine oS ?_; refine oN ?_) | (refine rg 6 ?_; (refine sp (po_load_bx_agg rfl rfl (tyT rfl) rfl (vc (vc (vc (vc (vc .nil))))) rfl) ?_); refine oS ?_; refine oN ?_) | refine gc ?_ | refine ct ?_ | refine cf ?_ | refine swp_cond rfl (fun hc => ?_) (fun hc => ?_) | exact retl1 (by exact .inr rfl) rfl (.cellT rfl rfl (tyT rfl) (vc (vc (vc (vc (vc .nil))))) rfl .nil) rfl (.cons rfl (by rfl) rfl (.cons rfl (by rfl) rfl (.cons rfl (by rfl) rfl .nil))) .nil)
def MTM (n : Nat) (fd fa : FuncId) (D K : Nat) (xs : List Pl.Policy) (t0 : T) (al : Int) (k : Nat) : St := ⟨[(1, CL3), (5, .own 105 (((xs.take k).map (Pl.halfP D K)).map (polM n)).length), (8, .t (.sl 5 (xs.map polT))), (9, .t (.v (.int .i64 (xs.length : Int)))), (10, .t (.v (.int .i64 (k : Int))))], TBM n fd fa t0 (alK xs al k), [(105, ⟨43, 5, ((xs.take k).map (Pl.halfP D K)).map (polM n)⟩)]⟩
set_option maxRecDepth 100000 in
set_option maxHeartbeats 2000000 in
theorem mapTableM (n : Nat) (fd fa : FuncId) (D K : Nat) (hD : RulesM n fd D) (hA : RulesM n fa K) (xs : List Pl.Policy) (hp : ∀ p ∈ xs, FewP p) (hn : xs.length ≤ 1000) (t0 : T) (al : Int) :
    LCalls Tryz.prog 38 [.t (.sl 5 (xs.map polT)), CL3] (TBM n fd fa t0 al) [] (.t (.fr n (.sl 5 ((xs.map (Pl.halfP D K)).map (polM n))))) (TB fd fa t0 (alK xs al xs.length)) [] := by
  have hm1 : (xs.map polT).length = xs.length := List.length_map _
  refine lcalls_of Tryz.func38 rfl rfl Tryz.ntmps38 rfl ?_
  repeat' (first | (refine rg 0 ?_; refine oAs ?_; refine oN ?_) | (refine rg 1 ?_; refine oAs ?_; refine oN ?_) | (refine rg 2 ?_; refine oMv ?_; refine sp (pln rfl (tyS rfl)) ?_; refine oMv ?_; refine oN ?_) | refine gc ?_ | refine ct ?_ | refine cf ?_ | refine swp_cond rfl (fun hc => ?_) (fun hc => ?_) | refine rq rfl (rt .nil) ?_)
  refine swp_for (MTM n fd fa D K xs t0 al) (fun _ => True) xs.length ?_ trivial ?_
  · refine Weak.trans (weak_own0 (i := 105) 43 5 (s := 5) rfl rfl) ?_
    exact (weak_sub (.cons rfl (by first | rfl | (exact congrArg (fun n : Nat => A.t (.v (.int .i64 (n : Int)))) hm1)) rfl (.cons rfl (by first | rfl | (exact congrArg (fun n : Nat => A.t (.v (.int .i64 (n : Int)))) hm1)) rfl (.cons rfl (by first | rfl | (exact congrArg (fun n : Nat => A.t (.v (.int .i64 (n : Int)))) hm1)) rfl (.cons rfl (by first | rfl | (exact congrArg (fun n : Nat => A.t (.v (.int .i64 (n : Int)))) hm1)) rfl (.cons rfl (by first | rfl | (exact congrArg (fun n : Nat => A.t (.v (.int .i64 (n : Int)))) hm1)) rfl .nil))))) (.cons rfl (by first | rfl | (exact congrArg (fun n : Nat => A.t (.v (.int .i64 (n : Int)))) hm1)) rfl (.cons rfl (by first | rfl | (exact congrArg (fun n : Nat => A.t (.v (.int .i64 (n : Int)))) hm1)) rfl (.cons rfl (by first | rfl | (exact congrArg (fun n : Nat => A.t (.v (.int .i64 (n : Int)))) hm1)) rfl (.cons rfl (by first | rfl | (exact congrArg (fun n : Nat => A.t (.v (.int .i64 (n : Int)))) hm1)) rfl .nil)))) (.cons rfl (by first | rfl | (exact congrArg (fun n : Nat => A.t (.v (.int .i64 (n : Int)))) hm1)) .nil))
  intro k hk _
  unfold MTM
  by_cases hlt : k < xs.length
  · have c1 := table1M n fd fa D K hD hA _ (hp _ (List.getElem_mem hlt)) t0 (alK xs al k)
    rw [alK_succ hlt] at c1
    have hsn := mapmap_take_succ (polM n) (Pl.halfP D K) hlt
    have g1 : ((((xs.take k).map (Pl.halfP D K)).map (polM n)).length + 1) * 64 ≤ 140737488355328 := by rw [mmt_len]; have := Nat.min_le_right k xs.length; omega
    have g2 : (((xs.take k).map (Pl.halfP D K)).map (polM n)).length + 1 ≤ maxLen := by rw [mmt_len]; have := Nat.min_le_right k xs.length; unfold maxLen; omega
    repeat' (first | refine for_next hlt (weak_sub (.cons rfl (by rfl) rfl (.cons rfl (by first | rfl | (rw [hsn]; try rfl)) rfl (.cons rfl (by rfl) rfl (.cons rfl (by rfl) rfl (.cons rfl (by rfl) rfl .nil))))) (.cons rfl (by rfl) rfl (.cons rfl (by rfl) rfl (.cons rfl (by rfl) rfl (.cons rfl (by rfl) rfl .nil)))) (.cons rfl (by first | rfl | (rw [hsn]; try rfl)) .nil)) trivial | (refine rg 3 ?_; refine oCm ?_; refine oN ?_) | (refine rg 4 ?_; (first | refine sp (ixo rfl) ?_ | refine sp (pix rfl (tyS rfl)) ?_); (first | refine sp (po_load_bx_agg rfl rfl (tyT rfl) rfl (vc (vc (vc (vc (vc .nil))))) rfl) ?_ | refine sp (po_load_agg rfl rfl (tyT rfl) rfl rfl) ?_); refine sal str43 ?_; refine oS ?_; refine oN ?_) | (refine rg 5 ?_; refine oMv ?_; refine oMv ?_; (refine sp (po_load_bx_agg rfl rfl (tyT rfl) rfl (vc (vc (vc (vc (vc .nil))))) rfl) ?_); (first | refine sops_lcall_tclo (args := [_]) (caps := [_, _, _]) (c1) (fun i => i) (fun i => i) (fun _ => false) (.free rfl rfl) rfl rfl rfl rfl (by ((repeat' (first | exact .nil | refine .cons rfl rfl rfl ?_ | refine .vw rfl (by exact .t _) ?_)) <;> fail)) (.cons rfl rfl (.cons rfl rfl (.cons rfl rfl (.cons rfl rfl .nil)))) .nil rfl rfl (fun _ h => Bool.noConfusion h) ?_ | refine sops_lcall_clo (args := [_]) (caps0 := [_, _, _]) (c1) (fun i => i) (fun i => i) (fun _ => false) (.free rfl rfl) rfl rfl rfl rfl rfl rfl (by ((repeat' (first | exact .nil | refine .cons rfl rfl rfl ?_)) <;> fail)) (.cons rfl rfl (.cons rfl rfl (.cons rfl rfl (.cons rfl rfl .nil)))) .nil rfl rfl (fun _ h => Bool.noConfusion h) ?_); refine sp (po_buildSlice rfl (tyE rfl) (dc (.nil _)) rfl rfl rfl) ?_; refine sap rfl (tyE rfl) ?_; refine oAs ?_; refine oN ?_) | (refine rg 6 ?_; refine sp (xinc rfl) ?_; refine oMv ?_; refine oN ?_) | refine gc ?_ | refine ct ?_)
  · obtain rfl : k = xs.length := by omega
    rw [List.take_length]
    repeat' (first | refine swp_ret_weak (weak_tmM 4 rfl (.own (k := 3899) rfl rfl rfl)) ?_ | refine then_go ?_ | refine swp_seq ?_ | (refine rg 3 ?_; refine oCm ?_; refine oN ?_) | (refine rg 7 ?_; refine oMv ?_; refine oAs ?_; refine oN ?_) | refine swp_ret ?_ | refine swp_skip ?_ | refine swp_block ?_ | refine swp_exit ?_ | refine block_go ?_ | refine block_exit ?_ | refine block_far rfl ?_ | refine block_ret ?_ | refine then_ret ?_ | refine then_exit ?_ | refine for_ret ?_ | refine for_exit ?_ | refine ct ?_ | refine cf ?_ | refine swp_cond rfl (fun hc => ?_) (fun hc => ?_) | exact retl1 (by exact .inr rfl) rfl (.tmpT rfl (by exact .t _) .nil) rfl (.cons rfl (by rfl) rfl (.cons rfl (by rfl) rfl (.cons rfl (by rfl) rfl .nil))) .nil)
set_option maxRecDepth 100000 in
set_option maxHeartbeats 2000000 in
theorem tableM (n : Nat) (fd fa : FuncId) (D K : Nat) (hD : RulesM n fd D) (hA : RulesM n fa K) (xs : List Pl.Policy) (hp : ∀ p ∈ xs, FewP p) (hn : xs.length ≤ 1000) :
    PCallsA Tryz.prog 26 [.sl 5 (xs.map polT), .clo fd [], .clo fa []] n (.agg [.fr n (.sl 5 ((xs.map (Pl.halfP D K)).map (polM n))), .v (.int .i64 (Pl.allowsP xs))]) := by
  have c1 := mapTableM n fd fa D K hD hA xs hp hn (.v (.slice none 0 0)) 0
  rw [alK_all] at c1
  refine pcallsA_of Tryz.func26 rfl rfl Tryz.ntmps26 rfl ?_
  repeat' (first | (refine rg 0 ?_; refine sbx ?_; refine sbx ?_; refine sal str46 ?_; refine oN ?_) | (refine rg 1 ?_; refine oMv ?_; (first | refine sp (po_func rfl (ac (ac (ac .nil)))) ?_ | refine sp (po_func_cl rfl (.cons rfl rfl (.cons rfl rfl (.cons rfl rfl .nil)))) ?_); refine sops_lcall (c1) (fbOf [(2000, 4), (2001, 5), (2002, 6), (3899, 3899)]) (fun i => i) (fun _ => false) (.free rfl rfl) rfl rfl rfl (by ((repeat' (first | exact .nil | refine .cons rfl rfl rfl ?_)) <;> fail)) (.cons rfl rfl (.cons rfl rfl (.cons rfl rfl (.cons rfl rfl .nil)))) .nil rfl rfl (fun _ h => Bool.noConfusion h) ?_; refine oFb ?_; refine oS ?_; refine oN ?_) | (refine rg 2 ?_; refine sp (po_load_bx_agg rfl rfl (tyT rfl) rfl (vc (vc .nil)) rfl) ?_; refine oS ?_; refine oN ?_) | refine gc ?_ | refine ct ?_ | refine cf ?_ | refine swp_cond rfl (fun hc => ?_) (fun hc => ?_) | exact rq1 rfl (.cell rfl rfl (tyT rfl) (vc (vc .nil)) rfl .nil))
def tabM (n D K : Nat) (xs : List Pl.Policy) : List T := [.fr n (.sl 5 ((xs.map (Pl.halfP D K)).map (polM n))), .v (.int .i64 (Pl.allowsP xs))]
set_option maxRecDepth 100000 in
set_option maxHeartbeats 2000000 in
theorem l4M (n : Nat) (xs : List Pl.Policy) (hp : ∀ p ∈ xs, FewP p) (hn : xs.length ≤ 1000) : PCallsA Tryz.prog 8 [.sl 5 (xs.map polT)] n (.agg (tabM n 0 1 xs)) := by
  have c1 := tableM n 27 28 0 1 (blindM n) (halvedM n) xs hp hn
  refine pcallsA_of Tryz.func8 rfl rfl Tryz.ntmps8 rfl ?_
  repeat' (first | (refine rg 0 ?_; refine sal str46 ?_; refine oN ?_) | (refine rg 1 ?_; refine oMv ?_; refine sp (po_callA 3899 _ rfl (c1) rfl (ac (ac (ac .nil)))) ?_; refine oS ?_; refine oN ?_) | refine gc ?_ | refine ct ?_ | refine cf ?_ | refine swp_cond rfl (fun hc => ?_) (fun hc => ?_) | exact rq1 rfl (.cell rfl rfl (tyT rfl) (vc (vc .nil)) rfl .nil))
set_option maxRecDepth 100000 in
set_option maxHeartbeats 2000000 in
theorem aloneM (n : Nat) (xs : List Pl.Policy) (hp : ∀ p ∈ xs, FewP p) (hn : xs.length ≤ 1000) : PCallsA Tryz.prog 10 [.sl 5 (xs.map polT)] n (.agg (tabM n 1 0 xs)) := by
  have c1 := tableM n 28 27 1 0 (halvedM n) (blindM n) xs hp hn
  refine pcallsA_of Tryz.func10 rfl rfl Tryz.ntmps10 rfl ?_
  repeat' (first | (refine rg 0 ?_; refine sal str46 ?_; refine oN ?_) | (refine rg 1 ?_; refine oMv ?_; refine sp (po_callA 3899 _ rfl (c1) rfl (ac (ac (ac .nil)))) ?_; refine oS ?_; refine oN ?_) | refine gc ?_ | refine ct ?_ | refine cf ?_ | refine swp_cond rfl (fun hc => ?_) (fun hc => ?_) | exact rq1 rfl (.cell rfl rfl (tyT rfl) (vc (vc .nil)) rfl .nil))
set_option maxRecDepth 100000 in
set_option maxHeartbeats 2000000 in
theorem l7M (n : Nat) (xs : List Pl.Policy) (hp : ∀ p ∈ xs, FewP p) (hn : xs.length ≤ 1000) : PCallsA Tryz.prog 9 [.sl 5 (xs.map polT)] n (.agg (tabM n 2 2 xs)) := by
  have c1 := tableM n 29 29 2 2 (wholeM n) (wholeM n) xs hp hn
  refine pcallsA_of Tryz.func9 rfl rfl Tryz.ntmps9 rfl ?_
  repeat' (first | (refine rg 0 ?_; refine sal str46 ?_; refine oN ?_) | (refine rg 1 ?_; refine oAs ?_; refine oN ?_) | (refine rg 2 ?_; refine oMv ?_; refine oMv ?_; refine oMv ?_; refine sp (po_callA 3899 _ rfl (c1) rfl (ac (ac (ac .nil)))) ?_; refine oS ?_; refine oN ?_) | refine gc ?_ | refine ct ?_ | refine cf ?_ | refine swp_cond rfl (fun hc => ?_) (fun hc => ?_) | exact rq1 rfl (.cell rfl rfl (tyT rfl) (vc (vc .nil)) rfl .nil))
end Go.Proofs.YtnclifgiakmmoaaGreat.Pol
