/- Merged by bundles.py: SimSq1. -/
import Derived.Test.YtnclifgiakmmoaaGreatH29
import Derived.Test.YtnclifgiakmmoaaGreatH18
/- Own copies of policies whose memory is told to be new: marked contracts. (Printed by mk_sq1.py.) -/
namespace Go.Proofs.YtnclifgiakmmoaaGreat.Pol
set_option linter.unusedVariables false
set_option linter.unusedSimpArgs false
open Go.RowKit Mem Sim Opn
def sourceM (n : Nat) (x : Pl.Source) : List T := [.fr n (.sl 2 (x.names.map termT)), .sl 2 (x.spaces.map termT), .sl 2 (x.nets.map cidrT)]
def targetM (n : Nat) (x : Pl.Target) : List T := [.fr n (.sl 1 (x.ports.map intT)), .sl 2 (x.methods.map termT), .sl 2 (x.paths.map termT), .sl 2 (x.hosts.map termT)]
def ruleM (n : Nat) (x : Pl.Rule) : List T := [.fr n (.sl 3 (x.from_.map (sourceM n))), .fr n (.sl 4 (x.to_.map (targetM n))), .sl 2 (x.when_.map whenT)]
def polM (n : Nat) (x : Pl.Policy) : List T := [.v (.int .u64 x.id), .v (.string x.ns), .v (.int .u64 x.service), .v (.int .i64 x.deny), .fr n (.sl 3 (x.rules.map (ruleM n)))]
theorem source_le (n : Nat) (x : Pl.Source) : LeL (sourceM n x) (sourceT x) := .cons (.fr .r) (.cons .r (.cons .r .nil))
theorem target_le (n : Nat) (x : Pl.Target) : LeL (targetM n x) (targetT x) := .cons (.fr .r) (.cons .r (.cons .r (.cons .r .nil)))
theorem rule_le (n : Nat) (x : Pl.Rule) : LeL (ruleM n x) (ruleT x) := .cons (.fr (.map (source_le n))) (.cons (.fr (.map (target_le n))) (.cons .r .nil))
theorem pol_le (n : Nat) (x : Pl.Policy) : LeL (polM n x) (polT x) := .cons .r (.cons .r (.cons .r (.cons .r (.cons (.fr (.map (rule_le n))) .nil))))
set_option maxRecDepth 100000 in
set_option maxHeartbeats 1000000 in
theorem cloneTermM (n : Nat) (rows : List (List T)) (hbd : rows.length * 24 ≤ 140737488355328) (hmx : rows.length ≤ maxLen) : PCallsA Tryz.prog 84 [.sl 2 rows] n (.fr n (.sl 2 rows)) := by
  have hbd' : 0 + rows.length * 24 ≤ 140737488355328 := by omega
  refine pcallsA_of Tryz.func84 rfl rfl Tryz.ntmps84 rfl ?_
  repeat' (first | refine swp_retM ?_ | refine then_go ?_ | refine swp_seq ?_ | refine retq (.inr rfl) rfl (.tmp rfl (.frnil n 2) .nil) ?_ | (refine rg 0 ?_; refine oAs ?_; refine oN ?_) | (refine rg 1 ?_; refine oMv ?_; refine sops_isnil (.free rfl rfl) rfl rfl rfl rfl (.t _) (tyS rfl) (fun b hnil => ?_); refine oN ?_) | (refine rg 2 ?_; refine oAs ?_; refine oN ?_) | (refine rg 3 ?_; refine sops_build0 (.free rfl rfl) rfl rfl rfl (tyE rfl) rfl ?_; refine oMv ?_; refine sap rfl (tyE rfl) ?_; refine oAs ?_; refine oN ?_) | refine swp_ret ?_ | refine swp_skip ?_ | refine swp_block ?_ | refine swp_exit ?_ | refine block_go ?_ | refine block_exit ?_ | refine block_far rfl ?_ | refine block_ret ?_ | refine then_ret ?_ | refine then_exit ?_ | refine for_ret ?_ | refine for_exit ?_ | refine ct ?_ | refine cf ?_ | refine swp_cond rfl (fun hc => ?_) (fun hc => ?_) | refine rq rfl (rt .nil) ?_)
  all_goals first | rfl | (rw [hnil hc]; rfl)
set_option maxRecDepth 100000 in
set_option maxHeartbeats 1000000 in
theorem cloneIntM (n : Nat) (rows : List (List T)) (hbd : rows.length * 8 ≤ 140737488355328) (hmx : rows.length ≤ maxLen) : PCallsA Tryz.prog 86 [.sl 1 rows] n (.fr n (.sl 1 rows)) := by
  have hbd' : 0 + rows.length * 8 ≤ 140737488355328 := by omega
  refine pcallsA_of Tryz.func86 rfl rfl Tryz.ntmps86 rfl ?_
  repeat' (first | refine swp_retM ?_ | refine then_go ?_ | refine swp_seq ?_ | refine retq (.inr rfl) rfl (.tmp rfl (.frnil n 1) .nil) ?_ | (refine rg 0 ?_; refine oAs ?_; refine oN ?_) | (refine rg 1 ?_; refine oMv ?_; refine sops_isnil (.free rfl rfl) rfl rfl rfl rfl (.t _) (tyS rfl) (fun b hnil => ?_); refine oN ?_) | (refine rg 2 ?_; refine oAs ?_; refine oN ?_) | (refine rg 3 ?_; refine sops_build0 (.free rfl rfl) rfl rfl rfl (tyE rfl) rfl ?_; refine oMv ?_; refine sap rfl (tyE rfl) ?_; refine oAs ?_; refine oN ?_) | refine swp_ret ?_ | refine swp_skip ?_ | refine swp_block ?_ | refine swp_exit ?_ | refine block_go ?_ | refine block_exit ?_ | refine block_far rfl ?_ | refine block_ret ?_ | refine then_ret ?_ | refine then_exit ?_ | refine for_ret ?_ | refine for_exit ?_ | refine ct ?_ | refine cf ?_ | refine swp_cond rfl (fun hc => ?_) (fun hc => ?_) | refine rq rfl (rt .nil) ?_)
  all_goals first | rfl | (rw [hnil hc]; rfl)
def MMSource (n : Nat) (xs : List Pl.Source) (g : Pl.Source → Pl.Source) (f : FuncId) (caps : List T) (k : Nat) : St := ⟨[(1, .t (.clo f caps)), (5, .own 105 (((xs.take k).map g).map (sourceM n)).length), (8, .t (.sl 3 (xs.map sourceT))), (9, .t (.v (.int .i64 (xs.length : Int)))), (10, .t (.v (.int .i64 (k : Int))))], [(3899, [.lo n])], [(105, ⟨61, 3, ((xs.take k).map g).map (sourceM n)⟩)]⟩
set_option maxRecDepth 100000 in
set_option maxHeartbeats 1000000 in
theorem mapMSource (n : Nat) (g : Pl.Source → Pl.Source) (f : FuncId) (caps : List T) (xs : List Pl.Source) (hK : ∀ x ∈ xs, PCallsA Tryz.prog f ([.agg (sourceT x)] ++ caps) n (.agg ((sourceM n) (g x)))) (hn : xs.length ≤ 1000) : PCallsA Tryz.prog 65 [.sl 3 (xs.map sourceT), .clo f caps] n (.fr n (.sl 3 ((xs.map g).map (sourceM n)))) := by
  have hm1 : (xs.map sourceT).length = xs.length := List.length_map _
  refine pcallsA_of Tryz.func65 rfl rfl Tryz.ntmps65 rfl ?_
  repeat' (first | (refine rg 0 ?_; refine oAs ?_; refine oN ?_) | (refine rg 1 ?_; refine oAs ?_; refine oN ?_) | (refine rg 2 ?_; refine oMv ?_; refine sp (pln rfl (tyS rfl)) ?_; refine oMv ?_; refine oN ?_) | refine gc ?_ | refine ct ?_ | refine cf ?_ | refine swp_cond rfl (fun hc => ?_) (fun hc => ?_) | refine rq rfl (rt .nil) ?_)
  refine swp_for (MMSource n xs g f caps) (fun _ => True) xs.length ?_ trivial ?_
  · refine Weak.trans (weak_own0 (i := 105) 61 3 (s := 5) rfl rfl) ?_
    exact (weak_sub (.cons rfl (by first | rfl | (exact congrArg (fun n : Nat => A.t (.v (.int .i64 (n : Int)))) hm1)) rfl (.cons rfl (by first | rfl | (exact congrArg (fun n : Nat => A.t (.v (.int .i64 (n : Int)))) hm1)) rfl (.cons rfl (by first | rfl | (exact congrArg (fun n : Nat => A.t (.v (.int .i64 (n : Int)))) hm1)) rfl (.cons rfl (by first | rfl | (exact congrArg (fun n : Nat => A.t (.v (.int .i64 (n : Int)))) hm1)) rfl (.cons rfl (by first | rfl | (exact congrArg (fun n : Nat => A.t (.v (.int .i64 (n : Int)))) hm1)) rfl .nil))))) (.cons rfl (by first | rfl | (exact congrArg (fun n : Nat => A.t (.v (.int .i64 (n : Int)))) hm1)) rfl .nil) (.cons rfl (by first | rfl | (exact congrArg (fun n : Nat => A.t (.v (.int .i64 (n : Int)))) hm1)) .nil))
  intro k hk _
  unfold MMSource
  by_cases hlt : k < xs.length
  · have c1 := hK _ (List.getElem_mem hlt)
    have hsn := mapmap_take_succ (sourceM n) g hlt
    have g1 : ((((xs.take k).map g).map (sourceM n)).length + 1) * 72 ≤ 140737488355328 := by rw [mmt_len]; have := Nat.min_le_right k xs.length; omega
    have g2 : (((xs.take k).map g).map (sourceM n)).length + 1 ≤ maxLen := by rw [mmt_len]; have := Nat.min_le_right k xs.length; unfold maxLen; omega
    repeat' (first | refine for_next hlt (weak_sub (.cons rfl (by rfl) rfl (.cons rfl (by first | rfl | (rw [hsn]; try rfl)) rfl (.cons rfl (by rfl) rfl (.cons rfl (by rfl) rfl (.cons rfl (by rfl) rfl .nil))))) (.cons rfl (by rfl) rfl .nil) (.cons rfl (by first | rfl | (rw [hsn]; try rfl)) .nil)) trivial | (refine rg 3 ?_; refine oCm ?_; refine oN ?_) | (refine rg 4 ?_; refine sp (pix rfl (tyS rfl)) ?_; (first | refine sp (po_load_bx_agg rfl rfl (tyT rfl) rfl (vc (vc (vc .nil))) rfl) ?_ | refine sp (po_load_agg rfl rfl (tyT rfl) rfl rfl) ?_); refine sal str61 ?_; refine oS ?_; refine oN ?_) | (refine rg 5 ?_; refine oMv ?_; refine oMv ?_; (refine sp (po_load_bx_agg rfl rfl (tyT rfl) rfl (vc (vc (vc .nil))) rfl) ?_); refine sp (po_callA_clo 3899 _ rfl rfl rfl (ac .nil) (c1)) ?_; refine sp (po_buildSlice rfl (tyE rfl) (dc (.nil _)) rfl rfl rfl) ?_; refine sap rfl (tyE rfl) ?_; refine oAs ?_; refine oN ?_) | (refine rg 6 ?_; refine sp (xinc rfl) ?_; refine oMv ?_; refine oN ?_) | refine gc ?_ | refine ct ?_)
  · obtain rfl : k = xs.length := by omega
    rw [List.take_length]
    repeat' (first | refine swp_retM ?_ | refine then_go ?_ | refine swp_seq ?_ | (refine rg 3 ?_; refine oCm ?_; refine oN ?_) | (refine rg 7 ?_; refine oMv ?_; refine oAs ?_; refine oN ?_) | refine swp_ret ?_ | refine swp_skip ?_ | refine swp_block ?_ | refine swp_exit ?_ | refine block_go ?_ | refine block_exit ?_ | refine block_far rfl ?_ | refine block_ret ?_ | refine then_ret ?_ | refine then_exit ?_ | refine for_ret ?_ | refine for_exit ?_ | refine ct ?_ | refine cf ?_ | refine swp_cond rfl (fun hc => ?_) (fun hc => ?_) | refine rq rfl (rt .nil) ?_)
    rfl
def MMTarget (n : Nat) (xs : List Pl.Target) (g : Pl.Target → Pl.Target) (f : FuncId) (caps : List T) (k : Nat) : St := ⟨[(1, .t (.clo f caps)), (5, .own 105 (((xs.take k).map g).map (targetM n)).length), (8, .t (.sl 4 (xs.map targetT))), (9, .t (.v (.int .i64 (xs.length : Int)))), (10, .t (.v (.int .i64 (k : Int))))], [(3899, [.lo n])], [(105, ⟨64, 4, ((xs.take k).map g).map (targetM n)⟩)]⟩
set_option maxRecDepth 100000 in
set_option maxHeartbeats 1000000 in
theorem mapMTarget (n : Nat) (g : Pl.Target → Pl.Target) (f : FuncId) (caps : List T) (xs : List Pl.Target) (hK : ∀ x ∈ xs, PCallsA Tryz.prog f ([.agg (targetT x)] ++ caps) n (.agg ((targetM n) (g x)))) (hn : xs.length ≤ 1000) : PCallsA Tryz.prog 67 [.sl 4 (xs.map targetT), .clo f caps] n (.fr n (.sl 4 ((xs.map g).map (targetM n)))) := by
  have hm1 : (xs.map targetT).length = xs.length := List.length_map _
  refine pcallsA_of Tryz.func67 rfl rfl Tryz.ntmps67 rfl ?_
  repeat' (first | (refine rg 0 ?_; refine oAs ?_; refine oN ?_) | (refine rg 1 ?_; refine oAs ?_; refine oN ?_) | (refine rg 2 ?_; refine oMv ?_; refine sp (pln rfl (tyS rfl)) ?_; refine oMv ?_; refine oN ?_) | refine gc ?_ | refine ct ?_ | refine cf ?_ | refine swp_cond rfl (fun hc => ?_) (fun hc => ?_) | refine rq rfl (rt .nil) ?_)
  refine swp_for (MMTarget n xs g f caps) (fun _ => True) xs.length ?_ trivial ?_
  · refine Weak.trans (weak_own0 (i := 105) 64 4 (s := 5) rfl rfl) ?_
    exact (weak_sub (.cons rfl (by first | rfl | (exact congrArg (fun n : Nat => A.t (.v (.int .i64 (n : Int)))) hm1)) rfl (.cons rfl (by first | rfl | (exact congrArg (fun n : Nat => A.t (.v (.int .i64 (n : Int)))) hm1)) rfl (.cons rfl (by first | rfl | (exact congrArg (fun n : Nat => A.t (.v (.int .i64 (n : Int)))) hm1)) rfl (.cons rfl (by first | rfl | (exact congrArg (fun n : Nat => A.t (.v (.int .i64 (n : Int)))) hm1)) rfl (.cons rfl (by first | rfl | (exact congrArg (fun n : Nat => A.t (.v (.int .i64 (n : Int)))) hm1)) rfl .nil))))) (.cons rfl (by first | rfl | (exact congrArg (fun n : Nat => A.t (.v (.int .i64 (n : Int)))) hm1)) rfl .nil) (.cons rfl (by first | rfl | (exact congrArg (fun n : Nat => A.t (.v (.int .i64 (n : Int)))) hm1)) .nil))
  intro k hk _
  unfold MMTarget
  by_cases hlt : k < xs.length
  · have c1 := hK _ (List.getElem_mem hlt)
    have hsn := mapmap_take_succ (targetM n) g hlt
    have g1 : ((((xs.take k).map g).map (targetM n)).length + 1) * 96 ≤ 140737488355328 := by rw [mmt_len]; have := Nat.min_le_right k xs.length; omega
    have g2 : (((xs.take k).map g).map (targetM n)).length + 1 ≤ maxLen := by rw [mmt_len]; have := Nat.min_le_right k xs.length; unfold maxLen; omega
    repeat' (first | refine for_next hlt (weak_sub (.cons rfl (by rfl) rfl (.cons rfl (by first | rfl | (rw [hsn]; try rfl)) rfl (.cons rfl (by rfl) rfl (.cons rfl (by rfl) rfl (.cons rfl (by rfl) rfl .nil))))) (.cons rfl (by rfl) rfl .nil) (.cons rfl (by first | rfl | (rw [hsn]; try rfl)) .nil)) trivial | (refine rg 3 ?_; refine oCm ?_; refine oN ?_) | (refine rg 4 ?_; refine sp (pix rfl (tyS rfl)) ?_; (first | refine sp (po_load_bx_agg rfl rfl (tyT rfl) rfl (vc (vc (vc (vc .nil)))) rfl) ?_ | refine sp (po_load_agg rfl rfl (tyT rfl) rfl rfl) ?_); refine sal str64 ?_; refine oS ?_; refine oN ?_) | (refine rg 5 ?_; refine oMv ?_; refine oMv ?_; (refine sp (po_load_bx_agg rfl rfl (tyT rfl) rfl (vc (vc (vc (vc .nil)))) rfl) ?_); refine sp (po_callA_clo 3899 _ rfl rfl rfl (ac .nil) (c1)) ?_; refine sp (po_buildSlice rfl (tyE rfl) (dc (.nil _)) rfl rfl rfl) ?_; refine sap rfl (tyE rfl) ?_; refine oAs ?_; refine oN ?_) | (refine rg 6 ?_; refine sp (xinc rfl) ?_; refine oMv ?_; refine oN ?_) | refine gc ?_ | refine ct ?_)
  · obtain rfl : k = xs.length := by omega
    rw [List.take_length]
    repeat' (first | refine swp_retM ?_ | refine then_go ?_ | refine swp_seq ?_ | (refine rg 3 ?_; refine oCm ?_; refine oN ?_) | (refine rg 7 ?_; refine oMv ?_; refine oAs ?_; refine oN ?_) | refine swp_ret ?_ | refine swp_skip ?_ | refine swp_block ?_ | refine swp_exit ?_ | refine block_go ?_ | refine block_exit ?_ | refine block_far rfl ?_ | refine block_ret ?_ | refine then_ret ?_ | refine then_exit ?_ | refine for_ret ?_ | refine for_exit ?_ | refine ct ?_ | refine cf ?_ | refine swp_cond rfl (fun hc => ?_) (fun hc => ?_) | refine rq rfl (rt .nil) ?_)
    rfl
def MMRule (n : Nat) (xs : List Pl.Rule) (g : Pl.Rule → Pl.Rule) (f : FuncId) (caps : List T) (k : Nat) : St := ⟨[(1, .t (.clo f caps)), (5, .own 105 (((xs.take k).map g).map (ruleM n)).length), (8, .t (.sl 3 (xs.map ruleT))), (9, .t (.v (.int .i64 (xs.length : Int)))), (10, .t (.v (.int .i64 (k : Int))))], [(3899, [.lo n])], [(105, ⟨27, 3, ((xs.take k).map g).map (ruleM n)⟩)]⟩
set_option maxRecDepth 100000 in
set_option maxHeartbeats 1000000 in
theorem mapMRule (n : Nat) (g : Pl.Rule → Pl.Rule) (f : FuncId) (caps : List T) (xs : List Pl.Rule) (hK : ∀ x ∈ xs, PCallsA Tryz.prog f ([.agg (ruleT x)] ++ caps) n (.agg ((ruleM n) (g x)))) (hn : xs.length ≤ 1000) : PCallsA Tryz.prog 51 [.sl 3 (xs.map ruleT), .clo f caps] n (.fr n (.sl 3 ((xs.map g).map (ruleM n)))) := by
  have hm1 : (xs.map ruleT).length = xs.length := List.length_map _
  refine pcallsA_of Tryz.func51 rfl rfl Tryz.ntmps51 rfl ?_
  repeat' (first | (refine rg 0 ?_; refine oAs ?_; refine oN ?_) | (refine rg 1 ?_; refine oAs ?_; refine oN ?_) | (refine rg 2 ?_; refine oMv ?_; refine sp (pln rfl (tyS rfl)) ?_; refine oMv ?_; refine oN ?_) | refine gc ?_ | refine ct ?_ | refine cf ?_ | refine swp_cond rfl (fun hc => ?_) (fun hc => ?_) | refine rq rfl (rt .nil) ?_)
  refine swp_for (MMRule n xs g f caps) (fun _ => True) xs.length ?_ trivial ?_
  · refine Weak.trans (weak_own0 (i := 105) 27 3 (s := 5) rfl rfl) ?_
    exact (weak_sub (.cons rfl (by first | rfl | (exact congrArg (fun n : Nat => A.t (.v (.int .i64 (n : Int)))) hm1)) rfl (.cons rfl (by first | rfl | (exact congrArg (fun n : Nat => A.t (.v (.int .i64 (n : Int)))) hm1)) rfl (.cons rfl (by first | rfl | (exact congrArg (fun n : Nat => A.t (.v (.int .i64 (n : Int)))) hm1)) rfl (.cons rfl (by first | rfl | (exact congrArg (fun n : Nat => A.t (.v (.int .i64 (n : Int)))) hm1)) rfl (.cons rfl (by first | rfl | (exact congrArg (fun n : Nat => A.t (.v (.int .i64 (n : Int)))) hm1)) rfl .nil))))) (.cons rfl (by first | rfl | (exact congrArg (fun n : Nat => A.t (.v (.int .i64 (n : Int)))) hm1)) rfl .nil) (.cons rfl (by first | rfl | (exact congrArg (fun n : Nat => A.t (.v (.int .i64 (n : Int)))) hm1)) .nil))
  intro k hk _
  unfold MMRule
  by_cases hlt : k < xs.length
  · have c1 := hK _ (List.getElem_mem hlt)
    have hsn := mapmap_take_succ (ruleM n) g hlt
    have g1 : ((((xs.take k).map g).map (ruleM n)).length + 1) * 72 ≤ 140737488355328 := by rw [mmt_len]; have := Nat.min_le_right k xs.length; omega
    have g2 : (((xs.take k).map g).map (ruleM n)).length + 1 ≤ maxLen := by rw [mmt_len]; have := Nat.min_le_right k xs.length; unfold maxLen; omega
    repeat' (first | refine for_next hlt (weak_sub (.cons rfl (by rfl) rfl (.cons rfl (by first | rfl | (rw [hsn]; try rfl)) rfl (.cons rfl (by rfl) rfl (.cons rfl (by rfl) rfl (.cons rfl (by rfl) rfl .nil))))) (.cons rfl (by rfl) rfl .nil) (.cons rfl (by first | rfl | (rw [hsn]; try rfl)) .nil)) trivial | (refine rg 3 ?_; refine oCm ?_; refine oN ?_) | (refine rg 4 ?_; refine sp (pix rfl (tyS rfl)) ?_; (first | refine sp (po_load_bx_agg rfl rfl (tyT rfl) rfl (vc (vc (vc .nil))) rfl) ?_ | refine sp (po_load_agg rfl rfl (tyT rfl) rfl rfl) ?_); refine sal str27 ?_; refine oS ?_; refine oN ?_) | (refine rg 5 ?_; refine oMv ?_; refine oMv ?_; (refine sp (po_load_bx_agg rfl rfl (tyT rfl) rfl (vc (vc (vc .nil))) rfl) ?_); refine sp (po_callA_clo 3899 _ rfl rfl rfl (ac .nil) (c1)) ?_; refine sp (po_buildSlice rfl (tyE rfl) (dc (.nil _)) rfl rfl rfl) ?_; refine sap rfl (tyE rfl) ?_; refine oAs ?_; refine oN ?_) | (refine rg 6 ?_; refine sp (xinc rfl) ?_; refine oMv ?_; refine oN ?_) | refine gc ?_ | refine ct ?_)
  · obtain rfl : k = xs.length := by omega
    rw [List.take_length]
    repeat' (first | refine swp_retM ?_ | refine then_go ?_ | refine swp_seq ?_ | (refine rg 3 ?_; refine oCm ?_; refine oN ?_) | (refine rg 7 ?_; refine oMv ?_; refine oAs ?_; refine oN ?_) | refine swp_ret ?_ | refine swp_skip ?_ | refine swp_block ?_ | refine swp_exit ?_ | refine block_go ?_ | refine block_exit ?_ | refine block_far rfl ?_ | refine block_ret ?_ | refine then_ret ?_ | refine then_exit ?_ | refine for_ret ?_ | refine for_exit ?_ | refine ct ?_ | refine cf ?_ | refine swp_cond rfl (fun hc => ?_) (fun hc => ?_) | refine rq rfl (rt .nil) ?_)
    rfl
def MMRuleL (n : Nat) (xs : List Pl.Rule) (g : Pl.Rule → Pl.Rule) (f : FuncId) (caps : List T) (k : Nat) : St := ⟨[(1, .t (.clo f caps)), (5, .own 1000 (((xs.take k).map g).map (ruleM n)).length), (8, .t (.sl 3 (xs.map ruleT))), (9, .t (.v (.int .i64 (xs.length : Int)))), (10, .t (.v (.int .i64 (k : Int))))], [(3899, [.lo n])], [(1000, ⟨27, 3, ((xs.take k).map g).map (ruleM n)⟩)]⟩
set_option maxRecDepth 100000 in
set_option maxHeartbeats 1000000 in
theorem mapMRuleL (n : Nat) (g : Pl.Rule → Pl.Rule) (f : FuncId) (caps : List T) (xs : List Pl.Rule) (hK : ∀ x ∈ xs, PCallsA Tryz.prog f ([.agg (ruleT x)] ++ caps) n (.agg ((ruleM n) (g x)))) (hn : xs.length ≤ 1000) : LCalls Tryz.prog 51 [.t (.sl 3 (xs.map ruleT)), .t (.clo f caps)] [(3899, [.lo n])] [] (.own 1000 ((xs.map g).map (ruleM n)).length) [] [(1000, ⟨27, 3, (xs.map g).map (ruleM n)⟩)] := by
  have hm1 : (xs.map ruleT).length = xs.length := List.length_map _
  refine lcalls_of Tryz.func51 rfl rfl Tryz.ntmps51 rfl ?_
  repeat' (first | (refine rg 0 ?_; refine oAs ?_; refine oN ?_) | (refine rg 1 ?_; refine oAs ?_; refine oN ?_) | (refine rg 2 ?_; refine oMv ?_; refine sp (pln rfl (tyS rfl)) ?_; refine oMv ?_; refine oN ?_) | refine gc ?_ | refine ct ?_ | refine cf ?_ | refine swp_cond rfl (fun hc => ?_) (fun hc => ?_) | refine rq rfl (rt .nil) ?_)
  refine swp_for (MMRuleL n xs g f caps) (fun _ => True) xs.length ?_ trivial ?_
  · refine Weak.trans (weak_own0 (i := 1000) 27 3 (s := 5) rfl rfl) ?_
    exact (weak_sub (.cons rfl (by first | rfl | (exact congrArg (fun n : Nat => A.t (.v (.int .i64 (n : Int)))) hm1)) rfl (.cons rfl (by first | rfl | (exact congrArg (fun n : Nat => A.t (.v (.int .i64 (n : Int)))) hm1)) rfl (.cons rfl (by first | rfl | (exact congrArg (fun n : Nat => A.t (.v (.int .i64 (n : Int)))) hm1)) rfl (.cons rfl (by first | rfl | (exact congrArg (fun n : Nat => A.t (.v (.int .i64 (n : Int)))) hm1)) rfl (.cons rfl (by first | rfl | (exact congrArg (fun n : Nat => A.t (.v (.int .i64 (n : Int)))) hm1)) rfl .nil))))) (.cons rfl (by first | rfl | (exact congrArg (fun n : Nat => A.t (.v (.int .i64 (n : Int)))) hm1)) rfl .nil) (.cons rfl (by first | rfl | (exact congrArg (fun n : Nat => A.t (.v (.int .i64 (n : Int)))) hm1)) .nil))
  intro k hk _
  unfold MMRuleL
  by_cases hlt : k < xs.length
  · have c1 := hK _ (List.getElem_mem hlt)
    have hsn := mapmap_take_succ (ruleM n) g hlt
    have g1 : ((((xs.take k).map g).map (ruleM n)).length + 1) * 72 ≤ 140737488355328 := by rw [mmt_len]; have := Nat.min_le_right k xs.length; omega
    have g2 : (((xs.take k).map g).map (ruleM n)).length + 1 ≤ maxLen := by rw [mmt_len]; have := Nat.min_le_right k xs.length; unfold maxLen; omega
    repeat' (first | refine for_next hlt (weak_sub (.cons rfl (by rfl) rfl (.cons rfl (by first | rfl | (rw [hsn]; try rfl)) rfl (.cons rfl (by rfl) rfl (.cons rfl (by rfl) rfl (.cons rfl (by rfl) rfl .nil))))) (.cons rfl (by rfl) rfl .nil) (.cons rfl (by first | rfl | (rw [hsn]; try rfl)) .nil)) trivial | (refine rg 3 ?_; refine oCm ?_; refine oN ?_) | (refine rg 4 ?_; refine sp (pix rfl (tyS rfl)) ?_; (first | refine sp (po_load_bx_agg rfl rfl (tyT rfl) rfl (vc (vc (vc .nil))) rfl) ?_ | refine sp (po_load_agg rfl rfl (tyT rfl) rfl rfl) ?_); refine sal str27 ?_; refine oS ?_; refine oN ?_) | (refine rg 5 ?_; refine oMv ?_; refine oMv ?_; (refine sp (po_load_bx_agg rfl rfl (tyT rfl) rfl (vc (vc (vc .nil))) rfl) ?_); refine sp (po_callA_clo 3899 _ rfl rfl rfl (ac .nil) (c1)) ?_; refine sp (po_buildSlice rfl (tyE rfl) (dc (.nil _)) rfl rfl rfl) ?_; refine sap rfl (tyE rfl) ?_; refine oAs ?_; refine oN ?_) | (refine rg 6 ?_; refine sp (xinc rfl) ?_; refine oMv ?_; refine oN ?_) | refine gc ?_ | refine ct ?_)
  · obtain rfl : k = xs.length := by omega
    rw [List.take_length]
    repeat' (first | (refine rg 3 ?_; refine oCm ?_; refine oN ?_) | (refine rg 7 ?_; refine oMv ?_; refine oAs ?_; refine oN ?_) | refine gc ?_ | refine ct ?_ | refine cf ?_ | refine swp_cond rfl (fun hc => ?_) (fun hc => ?_) | refine retl (by exact .inr rfl) rfl (.tmp rfl rfl .nil) ?_ rfl .nil (.cons rfl (by rfl) .nil))
    rfl
set_option maxRecDepth 100000 in
set_option maxHeartbeats 1000000 in
theorem ownSourceM (n : Nat) (x : Pl.Source) (h : x.names.length ≤ 1000 ∧ x.spaces.length ≤ 1000 ∧ x.nets.length ≤ 1000) : PCallsA Tryz.prog 66 [.agg (sourceT x)] n (.agg (sourceM n x)) := by
  have c0 := cloneTermM n (x.names.map termT) (few_b 24 h.1 (by omega)) (few_m h.1)
  have c1 := cloneTerm (x.spaces.map termT) (few_b 24 h.2.1 (by omega)) (few_m h.2.1)
  have c2 := cloneCidr (x.nets.map cidrT) (few_b 16 h.2.2 (by omega)) (few_m h.2.2)
  refine pcallsA_of Tryz.func66 rfl rfl Tryz.ntmps66 rfl ?_
  repeat' (first | (refine rg 0 ?_; refine sbx ?_; refine sal str61 ?_; refine oN ?_) | (refine swp_draw (id := 1) 10 mixed (by kernel_rfl) (by kernel_rfl) ?_; refine dFb ?_; refine dLb ?_; refine dp (po_callA 3899 _ rfl (c0) rfl (ac .nil)) ?_; refine dFb ?_; refine dLb ?_; (first | refine dp (po_callA 3899 _ rfl (c0) rfl (ac .nil)) ?_ | refine dC (c1) rfl (ac .nil) ?_); refine dFb ?_; refine dLb ?_; (first | refine dp (po_callA 3899 _ rfl (c0) rfl (ac .nil)) ?_ | refine dC (c1) rfl (ac .nil) ?_ | refine dC (c2) rfl (ac .nil) ?_); refine dFb ?_; refine dN ?_; refine oS ?_; refine oFb ?_; refine oS ?_; refine oFb ?_; refine oS ?_; refine oN ?_) | (refine rg 2 ?_; (refine sp (po_load_bx_agg rfl rfl (tyT rfl) rfl (vc (vc (vc .nil))) rfl) ?_); refine oS ?_; refine oN ?_) | refine gc ?_ | refine ct ?_ | refine cf ?_ | refine swp_cond rfl (fun hc => ?_) (fun hc => ?_) | refine rq rfl (.cell rfl rfl (tyT rfl) (vc (vc (vc .nil))) rfl .nil) ?_)
  rfl
set_option maxRecDepth 100000 in
set_option maxHeartbeats 1000000 in
theorem ownTargetM (n : Nat) (x : Pl.Target) (h : x.ports.length ≤ 1000 ∧ x.methods.length ≤ 1000 ∧ x.paths.length ≤ 1000 ∧ x.hosts.length ≤ 1000) : PCallsA Tryz.prog 68 [.agg (targetT x)] n (.agg (targetM n x)) := by
  have c0 := cloneIntM n (x.ports.map intT) (few_b 8 h.1 (by omega)) (few_m h.1)
  have c1 := cloneTerm (x.methods.map termT) (few_b 24 h.2.1 (by omega)) (few_m h.2.1)
  have c2 := cloneTerm (x.paths.map termT) (few_b 24 h.2.2.1 (by omega)) (few_m h.2.2.1)
  have c3 := cloneTerm (x.hosts.map termT) (few_b 24 h.2.2.2 (by omega)) (few_m h.2.2.2)
  refine pcallsA_of Tryz.func68 rfl rfl Tryz.ntmps68 rfl ?_
  repeat' (first | (refine rg 0 ?_; refine sbx ?_; refine sal str64 ?_; refine oN ?_) | (refine swp_draw (id := 1) 13 mixed (by kernel_rfl) (by kernel_rfl) ?_; refine dFb ?_; refine dLb ?_; refine dp (po_callA 3899 _ rfl (c0) rfl (ac .nil)) ?_; refine dFb ?_; refine dLb ?_; (first | refine dp (po_callA 3899 _ rfl (c0) rfl (ac .nil)) ?_ | refine dC (c1) rfl (ac .nil) ?_); refine dFb ?_; refine dLb ?_; (first | refine dp (po_callA 3899 _ rfl (c0) rfl (ac .nil)) ?_ | refine dC (c1) rfl (ac .nil) ?_ | refine dC (c2) rfl (ac .nil) ?_); refine dFb ?_; refine dLb ?_; (first | refine dp (po_callA 3899 _ rfl (c0) rfl (ac .nil)) ?_ | refine dC (c1) rfl (ac .nil) ?_ | refine dC (c2) rfl (ac .nil) ?_ | refine dC (c3) rfl (ac .nil) ?_); refine dFb ?_; refine dN ?_; refine oS ?_; refine oFb ?_; refine oS ?_; refine oFb ?_; refine oS ?_; refine oFb ?_; refine oS ?_; refine oN ?_) | (refine rg 2 ?_; (refine sp (po_load_bx_agg rfl rfl (tyT rfl) rfl (vc (vc (vc (vc .nil)))) rfl) ?_); refine oS ?_; refine oN ?_) | refine gc ?_ | refine ct ?_ | refine cf ?_ | refine swp_cond rfl (fun hc => ?_) (fun hc => ?_) | refine rq rfl (.cell rfl rfl (tyT rfl) (vc (vc (vc (vc .nil)))) rfl .nil) ?_)
  rfl
set_option maxRecDepth 100000 in
set_option maxHeartbeats 1000000 in
theorem ownRuleM (n : Nat) (x : Pl.Rule) (h : FewR x) : PCallsA Tryz.prog 52 [.agg (ruleT x)] n (.agg (ruleM n x)) := by
  have c0 := mapMSource n (fun s => s) 66 [] x.from_ (fun s hs => ownSourceM n s (h.fs s hs)) h.f
  have c1 := mapMTarget n (fun s => s) 68 [] x.to_ (fun s hs => ownTargetM n s (h.ts s hs)) h.t
  have c2 := mapPWhen (fun s => s) 70 [] x.when_ (fun s hs => ownWhen_ s (h.ws s hs)) h.w
  rw [map_id_] at c0 c1 c2
  refine pcallsA_of Tryz.func52 rfl rfl Tryz.ntmps52 rfl ?_
  repeat' (first | (refine rg 0 ?_; refine sbx ?_; refine sal str27 ?_; refine oN ?_) | (refine swp_draw (id := 1) 10 mixed (by kernel_rfl) (by kernel_rfl) ?_; refine dFb ?_; refine dLb ?_; refine dp (po_callA 3899 _ rfl (c0) rfl (ac (ac .nil))) ?_; refine dFb ?_; refine dLb ?_; (first | refine dp (po_callA 3899 _ rfl (c0) rfl (ac (ac .nil))) ?_ | refine dp (po_callA 3899 _ rfl (c1) rfl (ac (ac .nil))) ?_); refine dFb ?_; refine dLb ?_; (first | refine dp (po_callA 3899 _ rfl (c0) rfl (ac (ac .nil))) ?_ | refine dp (po_callA 3899 _ rfl (c1) rfl (ac (ac .nil))) ?_ | refine dC (c2) rfl (ac (ac .nil)) ?_); refine dFb ?_; refine dN ?_; refine oS ?_; refine oFb ?_; refine oS ?_; refine oFb ?_; refine oS ?_; refine oN ?_) | (refine rg 2 ?_; (refine sp (po_load_bx_agg rfl rfl (tyT rfl) rfl (vc (vc (vc .nil))) rfl) ?_); refine oS ?_; refine oN ?_) | refine gc ?_ | refine ct ?_ | refine cf ?_ | refine swp_cond rfl (fun hc => ?_) (fun hc => ?_) | refine rq rfl (.cell rfl rfl (tyT rfl) (vc (vc (vc .nil))) rfl .nil) ?_)
  rfl
set_option maxRecDepth 100000 in
set_option maxHeartbeats 1000000 in
theorem ownPolM (n : Nat) (p : Pl.Policy) (h : FewP p) : LCalls Tryz.prog 43 [.t (.agg (polT p))] [(3899, [.lo n])] [] (.ag [.t (.v (.int .u64 p.id)), .t (.v (.string p.ns)), .t (.v (.int .u64 p.service)), .t (.v (.int .i64 p.deny)), .own 1000 (p.rules.map (ruleM n)).length]) [] [(1000, ⟨27, 3, p.rules.map (ruleM n)⟩)] := by
  have c1 := mapMRuleL n (fun s => s) 52 [] p.rules (fun s hs => ownRuleM n s (h.r s hs)) h.n
  rw [map_id_] at c1
  refine lcalls_of Tryz.func43 rfl rfl Tryz.ntmps43 rfl ?_
  repeat' (first | (refine rg 0 ?_; refine sbx ?_; refine sal str43 ?_; refine oN ?_) | (refine rg 1 ?_; refine oFb ?_; refine oLb ?_; refine sops_lcall (c1) (fun i => i) (fun i => i) (fun _ => false) (.free rfl rfl) rfl rfl rfl (by ((repeat' (first | exact .nil | refine .cons rfl rfl rfl ?_ | refine .vw rfl (by first | exact .t _ | exact .own rfl (by rfl) | exact .nil _ | exact .emp _ | exact .fn _) ?_)) <;> fail)) (.cons rfl rfl .nil) .nil rfl rfl (fun _ h => Bool.noConfusion h) ?_; refine oFb ?_; refine oS ?_; refine oN ?_) | (refine rg 2 ?_; (first | refine sp (po_load_bx_agg rfl rfl (tyT rfl) rfl (vc (vc (vc (vc (vc .nil))))) rfl) ?_ | refine sp (po_load_agg rfl rfl (tyT rfl) rfl rfl) ?_ | refine sp (lda rfl) ?_ | refine sp (po_load_bx_ag rfl rfl (tyT rfl) rfl rfl rfl rfl) ?_); refine oS ?_; refine oN ?_) | refine gc ?_ | refine ct ?_ | refine cf ?_ | refine swp_cond rfl (fun hc => ?_) (fun hc => ?_) | refine retl (by exact .inr rfl) rfl (.cell rfl rfl (tyT rfl) rfl rfl .nil) ?_ rfl .nil (.cons rfl (by rfl) .nil))
  rfl
set_option maxRecDepth 100000 in
set_option maxHeartbeats 1000000 in
theorem ownPolMP (n : Nat) (x : Pl.Policy) (h : FewP x) : PCallsA Tryz.prog 43 [.agg (polT x)] n (.agg (polM n x)) := by
  have c1 := mapMRule n (fun s => s) 52 [] x.rules (fun s hs => ownRuleM n s (h.r s hs)) h.n
  rw [map_id_] at c1
  refine pcallsA_of Tryz.func43 rfl rfl Tryz.ntmps43 rfl ?_
  repeat' (first | (refine rg 0 ?_; refine sbx ?_; refine sal str43 ?_; refine oN ?_) | (refine rg 1 ?_; refine oFb ?_; refine oLb ?_; refine sp (po_callA 3899 _ rfl (c1) rfl (ac (ac .nil))) ?_; refine oFb ?_; refine oS ?_; refine oN ?_) | (refine rg 2 ?_; (refine sp (po_load_bx_agg rfl rfl (tyT rfl) rfl (vc (vc (vc (vc (vc .nil))))) rfl) ?_); refine oS ?_; refine oN ?_) | refine gc ?_ | refine ct ?_ | refine cf ?_ | refine swp_cond rfl (fun hc => ?_) (fun hc => ?_) | refine rq rfl (.cell rfl rfl (tyT rfl) (vc (vc (vc (vc (vc .nil))))) rfl .nil) ?_)
  rfl
end Go.Proofs.YtnclifgiakmmoaaGreat.Pol
