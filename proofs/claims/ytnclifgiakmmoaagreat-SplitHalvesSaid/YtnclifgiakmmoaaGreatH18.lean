/- Merged by bundles.py: SimSp1, PlAuth, PlSplit. -/
import Derived.Test.YtnclifgiakmmoaaGreatH11
import Derived.Test.YtnclifgiakmmoaaGreatH15
import Derived.Test.YtnclifgiakmmoaaGreatH17
import Derived.Test.YtnclifgiakmmoaaGreatH12
/- policy.Own and what it calls; policy.Seventh: by the logic of states. (Printed by mk_sp1.py.) -/
namespace Go.Proofs.YtnclifgiakmmoaaGreat.Pol
set_option linter.unusedVariables false
set_option linter.unusedSimpArgs false
open Go.RowKit Mem Sim Opn
theorem mapmap_take_succ {α β γ : Type} (f : β → γ) (g : α → β) {l : List α} {k : Nat} (h : k < l.length) : ((l.take (k + 1)).map g).map f = ((l.take k).map g).map f ++ [f (g l[k])] := by
  rw [List.take_succ_eq_append_getElem h, List.map_append, List.map_append]; rfl
theorem mmt_len {α β γ : Type} (f : β → γ) (g : α → β) (l : List α) (k : Nat) : (((l.take k).map g).map f).length = min k l.length := by simp
set_option maxRecDepth 100000 in
set_option maxHeartbeats 1000000 in
theorem cloneTerm (rows : List (List T)) (hbd : rows.length * 24 ≤ 140737488355328) (hmx : rows.length ≤ maxLen) : PCalls Tryz.prog 84 [.sl 2 rows] (.sl 2 rows) := by
  have hbd' : 0 + rows.length * 24 ≤ 140737488355328 := by omega
  refine pcalls_of Tryz.func84 rfl rfl Tryz.ntmps84 rfl ?_
  repeat' (first | refine gc ?_ | refine retq (.inr rfl) rfl (.tmp rfl (.nil 2) .nil) ?_ | (refine rg 0 ?_; refine oAs ?_; refine oN ?_) | (refine rg 1 ?_; refine oMv ?_; refine sops_isnil (.free rfl rfl) rfl rfl rfl rfl (.t _) (tyS rfl) (fun b hnil => ?_); refine oN ?_) | (refine rg 2 ?_; refine oAs ?_; refine oN ?_) | (refine rg 3 ?_; refine sops_build0 (.free rfl rfl) rfl rfl rfl (tyE rfl) rfl ?_; refine oMv ?_; refine sap rfl (tyE rfl) ?_; refine oAs ?_; refine oN ?_) | refine ct ?_ | refine cf ?_ | refine swp_cond rfl (fun hc => ?_) (fun hc => ?_) | refine rq rfl (rt .nil) ?_)
  all_goals first | rfl | (rw [hnil hc]; rfl)
set_option maxRecDepth 100000 in
set_option maxHeartbeats 1000000 in
theorem cloneCidr (rows : List (List T)) (hbd : rows.length * 16 ≤ 140737488355328) (hmx : rows.length ≤ maxLen) : PCalls Tryz.prog 85 [.sl 2 rows] (.sl 2 rows) := by
  have hbd' : 0 + rows.length * 16 ≤ 140737488355328 := by omega
  refine pcalls_of Tryz.func85 rfl rfl Tryz.ntmps85 rfl ?_
  repeat' (first | refine gc ?_ | refine retq (.inr rfl) rfl (.tmp rfl (.nil 2) .nil) ?_ | (refine rg 0 ?_; refine oAs ?_; refine oN ?_) | (refine rg 1 ?_; refine oMv ?_; refine sops_isnil (.free rfl rfl) rfl rfl rfl rfl (.t _) (tyS rfl) (fun b hnil => ?_); refine oN ?_) | (refine rg 2 ?_; refine oAs ?_; refine oN ?_) | (refine rg 3 ?_; refine sops_build0 (.free rfl rfl) rfl rfl rfl (tyE rfl) rfl ?_; refine oMv ?_; refine sap rfl (tyE rfl) ?_; refine oAs ?_; refine oN ?_) | refine ct ?_ | refine cf ?_ | refine swp_cond rfl (fun hc => ?_) (fun hc => ?_) | refine rq rfl (rt .nil) ?_)
  all_goals first | rfl | (rw [hnil hc]; rfl)
set_option maxRecDepth 100000 in
set_option maxHeartbeats 1000000 in
theorem cloneInt (rows : List (List T)) (hbd : rows.length * 8 ≤ 140737488355328) (hmx : rows.length ≤ maxLen) : PCalls Tryz.prog 86 [.sl 1 rows] (.sl 1 rows) := by
  have hbd' : 0 + rows.length * 8 ≤ 140737488355328 := by omega
  refine pcalls_of Tryz.func86 rfl rfl Tryz.ntmps86 rfl ?_
  repeat' (first | refine gc ?_ | refine retq (.inr rfl) rfl (.tmp rfl (.nil 1) .nil) ?_ | (refine rg 0 ?_; refine oAs ?_; refine oN ?_) | (refine rg 1 ?_; refine oMv ?_; refine sops_isnil (.free rfl rfl) rfl rfl rfl rfl (.t _) (tyS rfl) (fun b hnil => ?_); refine oN ?_) | (refine rg 2 ?_; refine oAs ?_; refine oN ?_) | (refine rg 3 ?_; refine sops_build0 (.free rfl rfl) rfl rfl rfl (tyE rfl) rfl ?_; refine oMv ?_; refine sap rfl (tyE rfl) ?_; refine oAs ?_; refine oN ?_) | refine ct ?_ | refine cf ?_ | refine swp_cond rfl (fun hc => ?_) (fun hc => ?_) | refine rq rfl (rt .nil) ?_)
  all_goals first | rfl | (rw [hnil hc]; rfl)
def MPSource (xs : List Pl.Source) (g : Pl.Source → Pl.Source) (f : FuncId) (caps : List T) (k : Nat) : St := ⟨[(1, .t (.clo f caps)), (5, .own 105 (((xs.take k).map g).map sourceT).length), (8, .t (.sl 3 (xs.map sourceT))), (9, .t (.v (.int .i64 (xs.length : Int)))), (10, .t (.v (.int .i64 (k : Int))))], [], [(105, ⟨61, 3, ((xs.take k).map g).map sourceT⟩)]⟩
set_option maxRecDepth 100000 in
set_option maxHeartbeats 1000000 in
theorem mapPSource (g : Pl.Source → Pl.Source) (f : FuncId) (caps : List T) (xs : List Pl.Source) (hK : ∀ x ∈ xs, PCalls Tryz.prog f ([.agg (sourceT x)] ++ caps) (.agg (sourceT (g x)))) (hn : xs.length ≤ 1000) : PCalls Tryz.prog 65 [.sl 3 (xs.map sourceT), .clo f caps] (.sl 3 ((xs.map g).map sourceT)) := by
  have hm1 : (xs.map sourceT).length = xs.length := List.length_map _
  refine pcalls_of Tryz.func65 rfl rfl Tryz.ntmps65 rfl ?_
  repeat' (first | (refine rg 0 ?_; refine oAs ?_; refine oN ?_) | (refine rg 1 ?_; refine oAs ?_; refine oN ?_) | (refine rg 2 ?_; refine oMv ?_; refine sp (pln rfl (tyS rfl)) ?_; refine oMv ?_; refine oN ?_) | refine gc ?_ | refine ct ?_ | refine cf ?_ | refine swp_cond rfl (fun hc => ?_) (fun hc => ?_) | refine rq rfl (rt .nil) ?_)
  refine swp_for (MPSource xs g f caps) (fun _ => True) xs.length ?_ trivial ?_
  · refine Weak.trans (weak_own0 (i := 105) 61 3 (s := 5) rfl rfl) ?_
    exact (weak_sub (.cons rfl (by first | rfl | (exact congrArg (fun n : Nat => A.t (.v (.int .i64 (n : Int)))) hm1)) rfl (.cons rfl (by first | rfl | (exact congrArg (fun n : Nat => A.t (.v (.int .i64 (n : Int)))) hm1)) rfl (.cons rfl (by first | rfl | (exact congrArg (fun n : Nat => A.t (.v (.int .i64 (n : Int)))) hm1)) rfl (.cons rfl (by first | rfl | (exact congrArg (fun n : Nat => A.t (.v (.int .i64 (n : Int)))) hm1)) rfl (.cons rfl (by first | rfl | (exact congrArg (fun n : Nat => A.t (.v (.int .i64 (n : Int)))) hm1)) rfl .nil))))) .nil (.cons rfl (by first | rfl | (exact congrArg (fun n : Nat => A.t (.v (.int .i64 (n : Int)))) hm1)) .nil))
  intro k hk _
  unfold MPSource
  by_cases hlt : k < xs.length
  · have c1 := hK _ (List.getElem_mem hlt)
    have hsn := mapmap_take_succ sourceT g hlt
    have g1 : ((((xs.take k).map g).map sourceT).length + 1) * 72 ≤ 140737488355328 := by rw [mmt_len]; have := Nat.min_le_right k xs.length; omega
    have g2 : (((xs.take k).map g).map sourceT).length + 1 ≤ maxLen := by rw [mmt_len]; have := Nat.min_le_right k xs.length; unfold maxLen; omega
    repeat' (first | refine for_next hlt (weak_sub (.cons rfl (by rfl) rfl (.cons rfl (by first | rfl | (rw [hsn]; try rfl)) rfl (.cons rfl (by rfl) rfl (.cons rfl (by rfl) rfl (.cons rfl (by rfl) rfl .nil))))) .nil (.cons rfl (by first | rfl | (rw [hsn]; try rfl)) .nil)) trivial | (refine rg 3 ?_; refine oCm ?_; refine oN ?_) | (refine rg 4 ?_; refine sp (pix rfl (tyS rfl)) ?_; (first | refine sp (po_load_bx_agg rfl rfl (tyT rfl) rfl (vc (vc (vc .nil))) rfl) ?_ | refine sp (po_load_agg rfl rfl (tyT rfl) rfl rfl) ?_); refine sal str61 ?_; refine oS ?_; refine oN ?_) | (refine rg 5 ?_; refine oMv ?_; refine oMv ?_; (refine sp (po_load_bx_agg rfl rfl (tyT rfl) rfl (vc (vc (vc .nil))) rfl) ?_); refine sp (po_call_clo rfl rfl (ac .nil) (c1)) ?_; refine sp (po_buildSlice rfl (tyE rfl) (dc (.nil _)) rfl rfl rfl) ?_; refine sap rfl (tyE rfl) ?_; refine oAs ?_; refine oN ?_) | (refine rg 6 ?_; refine sp (xinc rfl) ?_; refine oMv ?_; refine oN ?_) | refine gc ?_ | refine ct ?_)
  · obtain rfl : k = xs.length := by omega
    rw [List.take_length]
    repeat' (first | (refine rg 3 ?_; refine oCm ?_; refine oN ?_) | (refine rg 7 ?_; refine oMv ?_; refine oAs ?_; refine oN ?_) | refine gc ?_ | refine ct ?_ | refine cf ?_ | refine swp_cond rfl (fun hc => ?_) (fun hc => ?_) | refine rq rfl (rt .nil) ?_)
    rfl
def MPTarget (xs : List Pl.Target) (g : Pl.Target → Pl.Target) (f : FuncId) (caps : List T) (k : Nat) : St := ⟨[(1, .t (.clo f caps)), (5, .own 105 (((xs.take k).map g).map targetT).length), (8, .t (.sl 4 (xs.map targetT))), (9, .t (.v (.int .i64 (xs.length : Int)))), (10, .t (.v (.int .i64 (k : Int))))], [], [(105, ⟨64, 4, ((xs.take k).map g).map targetT⟩)]⟩
set_option maxRecDepth 100000 in
set_option maxHeartbeats 1000000 in
theorem mapPTarget (g : Pl.Target → Pl.Target) (f : FuncId) (caps : List T) (xs : List Pl.Target) (hK : ∀ x ∈ xs, PCalls Tryz.prog f ([.agg (targetT x)] ++ caps) (.agg (targetT (g x)))) (hn : xs.length ≤ 1000) : PCalls Tryz.prog 67 [.sl 4 (xs.map targetT), .clo f caps] (.sl 4 ((xs.map g).map targetT)) := by
  have hm1 : (xs.map targetT).length = xs.length := List.length_map _
  refine pcalls_of Tryz.func67 rfl rfl Tryz.ntmps67 rfl ?_
  repeat' (first | (refine rg 0 ?_; refine oAs ?_; refine oN ?_) | (refine rg 1 ?_; refine oAs ?_; refine oN ?_) | (refine rg 2 ?_; refine oMv ?_; refine sp (pln rfl (tyS rfl)) ?_; refine oMv ?_; refine oN ?_) | refine gc ?_ | refine ct ?_ | refine cf ?_ | refine swp_cond rfl (fun hc => ?_) (fun hc => ?_) | refine rq rfl (rt .nil) ?_)
  refine swp_for (MPTarget xs g f caps) (fun _ => True) xs.length ?_ trivial ?_
  · refine Weak.trans (weak_own0 (i := 105) 64 4 (s := 5) rfl rfl) ?_
    exact (weak_sub (.cons rfl (by first | rfl | (exact congrArg (fun n : Nat => A.t (.v (.int .i64 (n : Int)))) hm1)) rfl (.cons rfl (by first | rfl | (exact congrArg (fun n : Nat => A.t (.v (.int .i64 (n : Int)))) hm1)) rfl (.cons rfl (by first | rfl | (exact congrArg (fun n : Nat => A.t (.v (.int .i64 (n : Int)))) hm1)) rfl (.cons rfl (by first | rfl | (exact congrArg (fun n : Nat => A.t (.v (.int .i64 (n : Int)))) hm1)) rfl (.cons rfl (by first | rfl | (exact congrArg (fun n : Nat => A.t (.v (.int .i64 (n : Int)))) hm1)) rfl .nil))))) .nil (.cons rfl (by first | rfl | (exact congrArg (fun n : Nat => A.t (.v (.int .i64 (n : Int)))) hm1)) .nil))
  intro k hk _
  unfold MPTarget
  by_cases hlt : k < xs.length
  · have c1 := hK _ (List.getElem_mem hlt)
    have hsn := mapmap_take_succ targetT g hlt
    have g1 : ((((xs.take k).map g).map targetT).length + 1) * 96 ≤ 140737488355328 := by rw [mmt_len]; have := Nat.min_le_right k xs.length; omega
    have g2 : (((xs.take k).map g).map targetT).length + 1 ≤ maxLen := by rw [mmt_len]; have := Nat.min_le_right k xs.length; unfold maxLen; omega
    repeat' (first | refine for_next hlt (weak_sub (.cons rfl (by rfl) rfl (.cons rfl (by first | rfl | (rw [hsn]; try rfl)) rfl (.cons rfl (by rfl) rfl (.cons rfl (by rfl) rfl (.cons rfl (by rfl) rfl .nil))))) .nil (.cons rfl (by first | rfl | (rw [hsn]; try rfl)) .nil)) trivial | (refine rg 3 ?_; refine oCm ?_; refine oN ?_) | (refine rg 4 ?_; refine sp (pix rfl (tyS rfl)) ?_; (first | refine sp (po_load_bx_agg rfl rfl (tyT rfl) rfl (vc (vc (vc (vc .nil)))) rfl) ?_ | refine sp (po_load_agg rfl rfl (tyT rfl) rfl rfl) ?_); refine sal str64 ?_; refine oS ?_; refine oN ?_) | (refine rg 5 ?_; refine oMv ?_; refine oMv ?_; (refine sp (po_load_bx_agg rfl rfl (tyT rfl) rfl (vc (vc (vc (vc .nil)))) rfl) ?_); refine sp (po_call_clo rfl rfl (ac .nil) (c1)) ?_; refine sp (po_buildSlice rfl (tyE rfl) (dc (.nil _)) rfl rfl rfl) ?_; refine sap rfl (tyE rfl) ?_; refine oAs ?_; refine oN ?_) | (refine rg 6 ?_; refine sp (xinc rfl) ?_; refine oMv ?_; refine oN ?_) | refine gc ?_ | refine ct ?_)
  · obtain rfl : k = xs.length := by omega
    rw [List.take_length]
    repeat' (first | (refine rg 3 ?_; refine oCm ?_; refine oN ?_) | (refine rg 7 ?_; refine oMv ?_; refine oAs ?_; refine oN ?_) | refine gc ?_ | refine ct ?_ | refine cf ?_ | refine swp_cond rfl (fun hc => ?_) (fun hc => ?_) | refine rq rfl (rt .nil) ?_)
    rfl
def MPWhen (xs : List Pl.When) (g : Pl.When → Pl.When) (f : FuncId) (caps : List T) (k : Nat) : St := ⟨[(1, .t (.clo f caps)), (5, .own 105 (((xs.take k).map g).map whenT).length), (8, .t (.sl 2 (xs.map whenT))), (9, .t (.v (.int .i64 (xs.length : Int)))), (10, .t (.v (.int .i64 (k : Int))))], [], [(105, ⟨66, 2, ((xs.take k).map g).map whenT⟩)]⟩
set_option maxRecDepth 100000 in
set_option maxHeartbeats 1000000 in
theorem mapPWhen (g : Pl.When → Pl.When) (f : FuncId) (caps : List T) (xs : List Pl.When) (hK : ∀ x ∈ xs, PCalls Tryz.prog f ([.agg (whenT x)] ++ caps) (.agg (whenT (g x)))) (hn : xs.length ≤ 1000) : PCalls Tryz.prog 69 [.sl 2 (xs.map whenT), .clo f caps] (.sl 2 ((xs.map g).map whenT)) := by
  have hm1 : (xs.map whenT).length = xs.length := List.length_map _
  refine pcalls_of Tryz.func69 rfl rfl Tryz.ntmps69 rfl ?_
  repeat' (first | (refine rg 0 ?_; refine oAs ?_; refine oN ?_) | (refine rg 1 ?_; refine oAs ?_; refine oN ?_) | (refine rg 2 ?_; refine oMv ?_; refine sp (pln rfl (tyS rfl)) ?_; refine oMv ?_; refine oN ?_) | refine gc ?_ | refine ct ?_ | refine cf ?_ | refine swp_cond rfl (fun hc => ?_) (fun hc => ?_) | refine rq rfl (rt .nil) ?_)
  refine swp_for (MPWhen xs g f caps) (fun _ => True) xs.length ?_ trivial ?_
  · refine Weak.trans (weak_own0 (i := 105) 66 2 (s := 5) rfl rfl) ?_
    exact (weak_sub (.cons rfl (by first | rfl | (exact congrArg (fun n : Nat => A.t (.v (.int .i64 (n : Int)))) hm1)) rfl (.cons rfl (by first | rfl | (exact congrArg (fun n : Nat => A.t (.v (.int .i64 (n : Int)))) hm1)) rfl (.cons rfl (by first | rfl | (exact congrArg (fun n : Nat => A.t (.v (.int .i64 (n : Int)))) hm1)) rfl (.cons rfl (by first | rfl | (exact congrArg (fun n : Nat => A.t (.v (.int .i64 (n : Int)))) hm1)) rfl (.cons rfl (by first | rfl | (exact congrArg (fun n : Nat => A.t (.v (.int .i64 (n : Int)))) hm1)) rfl .nil))))) .nil (.cons rfl (by first | rfl | (exact congrArg (fun n : Nat => A.t (.v (.int .i64 (n : Int)))) hm1)) .nil))
  intro k hk _
  unfold MPWhen
  by_cases hlt : k < xs.length
  · have c1 := hK _ (List.getElem_mem hlt)
    have hsn := mapmap_take_succ whenT g hlt
    have g1 : ((((xs.take k).map g).map whenT).length + 1) * 40 ≤ 140737488355328 := by rw [mmt_len]; have := Nat.min_le_right k xs.length; omega
    have g2 : (((xs.take k).map g).map whenT).length + 1 ≤ maxLen := by rw [mmt_len]; have := Nat.min_le_right k xs.length; unfold maxLen; omega
    repeat' (first | refine for_next hlt (weak_sub (.cons rfl (by rfl) rfl (.cons rfl (by first | rfl | (rw [hsn]; try rfl)) rfl (.cons rfl (by rfl) rfl (.cons rfl (by rfl) rfl (.cons rfl (by rfl) rfl .nil))))) .nil (.cons rfl (by first | rfl | (rw [hsn]; try rfl)) .nil)) trivial | (refine rg 3 ?_; refine oCm ?_; refine oN ?_) | (refine rg 4 ?_; refine sp (pix rfl (tyS rfl)) ?_; (first | refine sp (po_load_bx_agg rfl rfl (tyT rfl) rfl (vc (vc .nil)) rfl) ?_ | refine sp (po_load_agg rfl rfl (tyT rfl) rfl rfl) ?_); refine sal str66 ?_; refine oS ?_; refine oN ?_) | (refine rg 5 ?_; refine oMv ?_; refine oMv ?_; refine sp (po_load_bx_agg rfl rfl (tyT rfl) rfl (vc (vc .nil)) rfl) ?_; refine sp (po_call_clo rfl rfl (ac .nil) (c1)) ?_; refine sp (po_buildSlice rfl (tyE rfl) (dc (.nil _)) rfl rfl rfl) ?_; refine sap rfl (tyE rfl) ?_; refine oAs ?_; refine oN ?_) | (refine rg 6 ?_; refine sp (xinc rfl) ?_; refine oMv ?_; refine oN ?_) | refine gc ?_ | refine ct ?_)
  · obtain rfl : k = xs.length := by omega
    rw [List.take_length]
    repeat' (first | (refine rg 3 ?_; refine oCm ?_; refine oN ?_) | (refine rg 7 ?_; refine oMv ?_; refine oAs ?_; refine oN ?_) | refine gc ?_ | refine ct ?_ | refine cf ?_ | refine swp_cond rfl (fun hc => ?_) (fun hc => ?_) | refine rq rfl (rt .nil) ?_)
    rfl
def MPRule (xs : List Pl.Rule) (g : Pl.Rule → Pl.Rule) (f : FuncId) (caps : List T) (k : Nat) : St := ⟨[(1, .t (.clo f caps)), (5, .own 105 (((xs.take k).map g).map ruleT).length), (8, .t (.sl 3 (xs.map ruleT))), (9, .t (.v (.int .i64 (xs.length : Int)))), (10, .t (.v (.int .i64 (k : Int))))], [], [(105, ⟨27, 3, ((xs.take k).map g).map ruleT⟩)]⟩
set_option maxRecDepth 100000 in
set_option maxHeartbeats 1000000 in
theorem mapPRule (g : Pl.Rule → Pl.Rule) (f : FuncId) (caps : List T) (xs : List Pl.Rule) (hK : ∀ x ∈ xs, PCalls Tryz.prog f ([.agg (ruleT x)] ++ caps) (.agg (ruleT (g x)))) (hn : xs.length ≤ 1000) : PCalls Tryz.prog 51 [.sl 3 (xs.map ruleT), .clo f caps] (.sl 3 ((xs.map g).map ruleT)) := by
  have hm1 : (xs.map ruleT).length = xs.length := List.length_map _
  refine pcalls_of Tryz.func51 rfl rfl Tryz.ntmps51 rfl ?_
  repeat' (first | (refine rg 0 ?_; refine oAs ?_; refine oN ?_) | (refine rg 1 ?_; refine oAs ?_; refine oN ?_) | (refine rg 2 ?_; refine oMv ?_; refine sp (pln rfl (tyS rfl)) ?_; refine oMv ?_; refine oN ?_) | refine gc ?_ | refine ct ?_ | refine cf ?_ | refine swp_cond rfl (fun hc => ?_) (fun hc => ?_) | refine rq rfl (rt .nil) ?_)
  refine swp_for (MPRule xs g f caps) (fun _ => True) xs.length ?_ trivial ?_
  · refine Weak.trans (weak_own0 (i := 105) 27 3 (s := 5) rfl rfl) ?_
    exact (weak_sub (.cons rfl (by first | rfl | (exact congrArg (fun n : Nat => A.t (.v (.int .i64 (n : Int)))) hm1)) rfl (.cons rfl (by first | rfl | (exact congrArg (fun n : Nat => A.t (.v (.int .i64 (n : Int)))) hm1)) rfl (.cons rfl (by first | rfl | (exact congrArg (fun n : Nat => A.t (.v (.int .i64 (n : Int)))) hm1)) rfl (.cons rfl (by first | rfl | (exact congrArg (fun n : Nat => A.t (.v (.int .i64 (n : Int)))) hm1)) rfl (.cons rfl (by first | rfl | (exact congrArg (fun n : Nat => A.t (.v (.int .i64 (n : Int)))) hm1)) rfl .nil))))) .nil (.cons rfl (by first | rfl | (exact congrArg (fun n : Nat => A.t (.v (.int .i64 (n : Int)))) hm1)) .nil))
  intro k hk _
  unfold MPRule
  by_cases hlt : k < xs.length
  · have c1 := hK _ (List.getElem_mem hlt)
    have hsn := mapmap_take_succ ruleT g hlt
    have g1 : ((((xs.take k).map g).map ruleT).length + 1) * 72 ≤ 140737488355328 := by rw [mmt_len]; have := Nat.min_le_right k xs.length; omega
    have g2 : (((xs.take k).map g).map ruleT).length + 1 ≤ maxLen := by rw [mmt_len]; have := Nat.min_le_right k xs.length; unfold maxLen; omega
    repeat' (first | refine for_next hlt (weak_sub (.cons rfl (by rfl) rfl (.cons rfl (by first | rfl | (rw [hsn]; try rfl)) rfl (.cons rfl (by rfl) rfl (.cons rfl (by rfl) rfl (.cons rfl (by rfl) rfl .nil))))) .nil (.cons rfl (by first | rfl | (rw [hsn]; try rfl)) .nil)) trivial | (refine rg 3 ?_; refine oCm ?_; refine oN ?_) | (refine rg 4 ?_; refine sp (pix rfl (tyS rfl)) ?_; (first | refine sp (po_load_bx_agg rfl rfl (tyT rfl) rfl (vc (vc (vc .nil))) rfl) ?_ | refine sp (po_load_agg rfl rfl (tyT rfl) rfl rfl) ?_); refine sal str27 ?_; refine oS ?_; refine oN ?_) | (refine rg 5 ?_; refine oMv ?_; refine oMv ?_; (refine sp (po_load_bx_agg rfl rfl (tyT rfl) rfl (vc (vc (vc .nil))) rfl) ?_); refine sp (po_call_clo rfl rfl (ac .nil) (c1)) ?_; refine sp (po_buildSlice rfl (tyE rfl) (dc (.nil _)) rfl rfl rfl) ?_; refine sap rfl (tyE rfl) ?_; refine oAs ?_; refine oN ?_) | (refine rg 6 ?_; refine sp (xinc rfl) ?_; refine oMv ?_; refine oN ?_) | refine gc ?_ | refine ct ?_)
  · obtain rfl : k = xs.length := by omega
    rw [List.take_length]
    repeat' (first | (refine rg 3 ?_; refine oCm ?_; refine oN ?_) | (refine rg 7 ?_; refine oMv ?_; refine oAs ?_; refine oN ?_) | refine gc ?_ | refine ct ?_ | refine cf ?_ | refine swp_cond rfl (fun hc => ?_) (fun hc => ?_) | refine rq rfl (rt .nil) ?_)
    rfl
def MPRuleL (xs : List Pl.Rule) (g : Pl.Rule → Pl.Rule) (f : FuncId) (caps : List T) (k : Nat) : St := ⟨[(1, .t (.clo f caps)), (5, .own 1000 (((xs.take k).map g).map ruleT).length), (8, .t (.sl 3 (xs.map ruleT))), (9, .t (.v (.int .i64 (xs.length : Int)))), (10, .t (.v (.int .i64 (k : Int))))], [], [(1000, ⟨27, 3, ((xs.take k).map g).map ruleT⟩)]⟩
set_option maxRecDepth 100000 in
set_option maxHeartbeats 1000000 in
theorem mapPRuleL (g : Pl.Rule → Pl.Rule) (f : FuncId) (caps : List T) (xs : List Pl.Rule) (hK : ∀ x ∈ xs, PCalls Tryz.prog f ([.agg (ruleT x)] ++ caps) (.agg (ruleT (g x)))) (hn : xs.length ≤ 1000) : LCalls Tryz.prog 51 [.t (.sl 3 (xs.map ruleT)), .t (.clo f caps)] [] [] (.own 1000 ((xs.map g).map ruleT).length) [] [(1000, ⟨27, 3, (xs.map g).map ruleT⟩)] := by
  have hm1 : (xs.map ruleT).length = xs.length := List.length_map _
  refine lcalls_of Tryz.func51 rfl rfl Tryz.ntmps51 rfl ?_
  repeat' (first | (refine rg 0 ?_; refine oAs ?_; refine oN ?_) | (refine rg 1 ?_; refine oAs ?_; refine oN ?_) | (refine rg 2 ?_; refine oMv ?_; refine sp (pln rfl (tyS rfl)) ?_; refine oMv ?_; refine oN ?_) | refine gc ?_ | refine ct ?_ | refine cf ?_ | refine swp_cond rfl (fun hc => ?_) (fun hc => ?_) | refine rq rfl (rt .nil) ?_)
  refine swp_for (MPRuleL xs g f caps) (fun _ => True) xs.length ?_ trivial ?_
  · refine Weak.trans (weak_own0 (i := 1000) 27 3 (s := 5) rfl rfl) ?_
    exact (weak_sub (.cons rfl (by first | rfl | (exact congrArg (fun n : Nat => A.t (.v (.int .i64 (n : Int)))) hm1)) rfl (.cons rfl (by first | rfl | (exact congrArg (fun n : Nat => A.t (.v (.int .i64 (n : Int)))) hm1)) rfl (.cons rfl (by first | rfl | (exact congrArg (fun n : Nat => A.t (.v (.int .i64 (n : Int)))) hm1)) rfl (.cons rfl (by first | rfl | (exact congrArg (fun n : Nat => A.t (.v (.int .i64 (n : Int)))) hm1)) rfl (.cons rfl (by first | rfl | (exact congrArg (fun n : Nat => A.t (.v (.int .i64 (n : Int)))) hm1)) rfl .nil))))) .nil (.cons rfl (by first | rfl | (exact congrArg (fun n : Nat => A.t (.v (.int .i64 (n : Int)))) hm1)) .nil))
  intro k hk _
  unfold MPRuleL
  by_cases hlt : k < xs.length
  · have c1 := hK _ (List.getElem_mem hlt)
    have hsn := mapmap_take_succ ruleT g hlt
    have g1 : ((((xs.take k).map g).map ruleT).length + 1) * 72 ≤ 140737488355328 := by rw [mmt_len]; have := Nat.min_le_right k xs.length; omega
    have g2 : (((xs.take k).map g).map ruleT).length + 1 ≤ maxLen := by rw [mmt_len]; have := Nat.min_le_right k xs.length; unfold maxLen; omega
    repeat' (first | refine for_next hlt (weak_sub (.cons rfl (by rfl) rfl (.cons rfl (by first | rfl | (rw [hsn]; try rfl)) rfl (.cons rfl (by rfl) rfl (.cons rfl (by rfl) rfl (.cons rfl (by rfl) rfl .nil))))) .nil (.cons rfl (by first | rfl | (rw [hsn]; try rfl)) .nil)) trivial | (refine rg 3 ?_; refine oCm ?_; refine oN ?_) | (refine rg 4 ?_; refine sp (pix rfl (tyS rfl)) ?_; (first | refine sp (po_load_bx_agg rfl rfl (tyT rfl) rfl (vc (vc (vc .nil))) rfl) ?_ | refine sp (po_load_agg rfl rfl (tyT rfl) rfl rfl) ?_); refine sal str27 ?_; refine oS ?_; refine oN ?_) | (refine rg 5 ?_; refine oMv ?_; refine oMv ?_; (refine sp (po_load_bx_agg rfl rfl (tyT rfl) rfl (vc (vc (vc .nil))) rfl) ?_); refine sp (po_call_clo rfl rfl (ac .nil) (c1)) ?_; refine sp (po_buildSlice rfl (tyE rfl) (dc (.nil _)) rfl rfl rfl) ?_; refine sap rfl (tyE rfl) ?_; refine oAs ?_; refine oN ?_) | (refine rg 6 ?_; refine sp (xinc rfl) ?_; refine oMv ?_; refine oN ?_) | refine gc ?_ | refine ct ?_)
  · obtain rfl : k = xs.length := by omega
    rw [List.take_length]
    repeat' (first | (refine rg 3 ?_; refine oCm ?_; refine oN ?_) | (refine rg 7 ?_; refine oMv ?_; refine oAs ?_; refine oN ?_) | refine gc ?_ | refine ct ?_ | refine cf ?_ | refine swp_cond rfl (fun hc => ?_) (fun hc => ?_) | refine retl (by exact .inr rfl) rfl (.tmp rfl rfl .nil) ?_ rfl .nil (.cons rfl (by rfl) .nil))
    rfl
set_option maxRecDepth 100000 in
set_option maxHeartbeats 1000000 in
theorem ownSource_ (x : Pl.Source) (h : x.names.length ≤ 1000 ∧ x.spaces.length ≤ 1000 ∧ x.nets.length ≤ 1000) : PCalls Tryz.prog 66 [.agg (sourceT x)] (.agg (sourceT x)) := by
  have c0 := cloneTerm (x.names.map termT) (few_b 24 h.1 (by omega)) (few_m h.1)
  have c1 := cloneTerm (x.spaces.map termT) (few_b 24 h.2.1 (by omega)) (few_m h.2.1)
  have c2 := cloneCidr (x.nets.map cidrT) (few_b 16 h.2.2 (by omega)) (few_m h.2.2)
  refine pcalls_of Tryz.func66 rfl rfl Tryz.ntmps66 rfl ?_
  repeat' (first | (refine rg 0 ?_; refine sbx ?_; refine sal str61 ?_; refine oN ?_) | (refine swp_draw (id := 1) 10 mixed (by kernel_rfl) (by kernel_rfl) ?_; refine dFb ?_; refine dLb ?_; refine dC (c0) rfl (ac .nil) ?_; refine dFb ?_; refine dLb ?_; (first | refine dC (c0) rfl (ac .nil) ?_ | refine dC (c1) rfl (ac .nil) ?_); refine dFb ?_; refine dLb ?_; (first | refine dC (c0) rfl (ac .nil) ?_ | refine dC (c1) rfl (ac .nil) ?_ | refine dC (c2) rfl (ac .nil) ?_); refine dFb ?_; refine dN ?_; refine oS ?_; refine oFb ?_; refine oS ?_; refine oFb ?_; refine oS ?_; refine oN ?_) | (refine rg 2 ?_; (refine sp (po_load_bx_agg rfl rfl (tyT rfl) rfl (vc (vc (vc .nil))) rfl) ?_); refine oS ?_; refine oN ?_) | refine gc ?_ | refine ct ?_ | refine cf ?_ | refine swp_cond rfl (fun hc => ?_) (fun hc => ?_) | refine rq rfl (.cell rfl rfl (tyT rfl) (vc (vc (vc .nil))) rfl .nil) ?_)
  rfl
set_option maxRecDepth 100000 in
set_option maxHeartbeats 1000000 in
theorem ownTarget_ (x : Pl.Target) (h : x.ports.length ≤ 1000 ∧ x.methods.length ≤ 1000 ∧ x.paths.length ≤ 1000 ∧ x.hosts.length ≤ 1000) : PCalls Tryz.prog 68 [.agg (targetT x)] (.agg (targetT x)) := by
  have c0 := cloneInt (x.ports.map intT) (few_b 8 h.1 (by omega)) (few_m h.1)
  have c1 := cloneTerm (x.methods.map termT) (few_b 24 h.2.1 (by omega)) (few_m h.2.1)
  have c2 := cloneTerm (x.paths.map termT) (few_b 24 h.2.2.1 (by omega)) (few_m h.2.2.1)
  have c3 := cloneTerm (x.hosts.map termT) (few_b 24 h.2.2.2 (by omega)) (few_m h.2.2.2)
  refine pcalls_of Tryz.func68 rfl rfl Tryz.ntmps68 rfl ?_
  repeat' (first | (refine rg 0 ?_; refine sbx ?_; refine sal str64 ?_; refine oN ?_) | (refine swp_draw (id := 1) 13 mixed (by kernel_rfl) (by kernel_rfl) ?_; refine dFb ?_; refine dLb ?_; refine dC (c0) rfl (ac .nil) ?_; refine dFb ?_; refine dLb ?_; (first | refine dC (c0) rfl (ac .nil) ?_ | refine dC (c1) rfl (ac .nil) ?_); refine dFb ?_; refine dLb ?_; (first | refine dC (c0) rfl (ac .nil) ?_ | refine dC (c1) rfl (ac .nil) ?_ | refine dC (c2) rfl (ac .nil) ?_); refine dFb ?_; refine dLb ?_; (first | refine dC (c0) rfl (ac .nil) ?_ | refine dC (c1) rfl (ac .nil) ?_ | refine dC (c2) rfl (ac .nil) ?_ | refine dC (c3) rfl (ac .nil) ?_); refine dFb ?_; refine dN ?_; refine oS ?_; refine oFb ?_; refine oS ?_; refine oFb ?_; refine oS ?_; refine oFb ?_; refine oS ?_; refine oN ?_) | (refine rg 2 ?_; (refine sp (po_load_bx_agg rfl rfl (tyT rfl) rfl (vc (vc (vc (vc .nil)))) rfl) ?_); refine oS ?_; refine oN ?_) | refine gc ?_ | refine ct ?_ | refine cf ?_ | refine swp_cond rfl (fun hc => ?_) (fun hc => ?_) | refine rq rfl (.cell rfl rfl (tyT rfl) (vc (vc (vc (vc .nil)))) rfl .nil) ?_)
  rfl
set_option maxRecDepth 100000 in
set_option maxHeartbeats 1000000 in
theorem ownWhen_ (x : Pl.When) (h : x.terms.length ≤ 1000) : PCalls Tryz.prog 70 [.agg (whenT x)] (.agg (whenT x)) := by
  have c1 := cloneTerm (x.terms.map termT) (few_b 24 h (by omega)) (few_m h)
  refine pcalls_of Tryz.func70 rfl rfl Tryz.ntmps70 rfl ?_
  repeat' (first | (refine rg 0 ?_; refine sbx ?_; refine sal str66 ?_; refine oN ?_) | (refine rg 1 ?_; refine oFb ?_; refine oLb ?_; refine oC (c1) rfl (ac .nil) ?_; refine oFb ?_; refine oS ?_; refine oN ?_) | (refine rg 2 ?_; refine sp (po_load_bx_agg rfl rfl (tyT rfl) rfl (vc (vc .nil)) rfl) ?_; refine oS ?_; refine oN ?_) | refine gc ?_ | refine ct ?_ | refine cf ?_ | refine swp_cond rfl (fun hc => ?_) (fun hc => ?_) | refine rq rfl (.cell rfl rfl (tyT rfl) (vc (vc .nil)) rfl .nil) ?_)
  rfl
theorem map_id_ {α : Type} (l : List α) : l.map (fun x => x) = l := List.map_id' l
set_option maxRecDepth 100000 in
set_option maxHeartbeats 1000000 in
theorem ownRule_ (x : Pl.Rule) (h : FewR x) : PCalls Tryz.prog 52 [.agg (ruleT x)] (.agg (ruleT x)) := by
  have c0 := mapPSource (fun s => s) 66 [] x.from_ (fun s hs => ownSource_ s (h.fs s hs)) h.f
  have c1 := mapPTarget (fun s => s) 68 [] x.to_ (fun s hs => ownTarget_ s (h.ts s hs)) h.t
  have c2 := mapPWhen (fun s => s) 70 [] x.when_ (fun s hs => ownWhen_ s (h.ws s hs)) h.w
  rw [map_id_] at c0 c1 c2
  refine pcalls_of Tryz.func52 rfl rfl Tryz.ntmps52 rfl ?_
  repeat' (first | (refine rg 0 ?_; refine sbx ?_; refine sal str27 ?_; refine oN ?_) | (refine swp_draw (id := 1) 10 mixed (by kernel_rfl) (by kernel_rfl) ?_; refine dFb ?_; refine dLb ?_; refine dC (c0) rfl (ac (ac .nil)) ?_; refine dFb ?_; refine dLb ?_; (first | refine dC (c0) rfl (ac (ac .nil)) ?_ | refine dC (c1) rfl (ac (ac .nil)) ?_); refine dFb ?_; refine dLb ?_; (first | refine dC (c0) rfl (ac (ac .nil)) ?_ | refine dC (c1) rfl (ac (ac .nil)) ?_ | refine dC (c2) rfl (ac (ac .nil)) ?_); refine dFb ?_; refine dN ?_; refine oS ?_; refine oFb ?_; refine oS ?_; refine oFb ?_; refine oS ?_; refine oN ?_) | (refine rg 2 ?_; (refine sp (po_load_bx_agg rfl rfl (tyT rfl) rfl (vc (vc (vc .nil))) rfl) ?_); refine oS ?_; refine oN ?_) | refine gc ?_ | refine ct ?_ | refine cf ?_ | refine swp_cond rfl (fun hc => ?_) (fun hc => ?_) | refine rq rfl (.cell rfl rfl (tyT rfl) (vc (vc (vc .nil))) rfl .nil) ?_)
  rfl
set_option maxRecDepth 100000 in
set_option maxHeartbeats 1000000 in
theorem ownPol (p : Pl.Policy) (h : FewP p) : LCalls Tryz.prog 43 [.t (.agg (polT p))] [] [] (.ag [.t (.v (.int .u64 p.id)), .t (.v (.string p.ns)), .t (.v (.int .u64 p.service)), .t (.v (.int .i64 p.deny)), .own 1000 (p.rules.map ruleT).length]) [] [(1000, ⟨27, 3, p.rules.map ruleT⟩)] := by
  have c1 := mapPRuleL (fun s => s) 52 [] p.rules (fun s hs => ownRule_ s (h.r s hs)) h.n
  rw [map_id_] at c1
  refine lcalls_of Tryz.func43 rfl rfl Tryz.ntmps43 rfl ?_
  repeat' (first | (refine rg 0 ?_; refine sbx ?_; refine sal str43 ?_; refine oN ?_) | (refine rg 1 ?_; refine oFb ?_; refine oLb ?_; refine sops_lcall (c1) (fun i => i) (fun i => i) (fun _ => false) (.free rfl rfl) rfl rfl rfl (by ((repeat' (first | exact .nil | refine .cons rfl rfl rfl ?_ | refine .vw rfl (by first | exact .t _ | exact .own rfl (by rfl) | exact .nil _ | exact .emp _ | exact .fn _) ?_)) <;> fail)) .nil .nil rfl rfl (fun _ h => Bool.noConfusion h) ?_; refine oFb ?_; refine oS ?_; refine oN ?_) | (refine rg 2 ?_; (first | refine sp (po_load_bx_agg rfl rfl (tyT rfl) rfl (vc (vc (vc (vc (vc .nil))))) rfl) ?_ | refine sp (po_load_agg rfl rfl (tyT rfl) rfl rfl) ?_ | refine sp (lda rfl) ?_ | refine sp (po_load_bx_ag rfl rfl (tyT rfl) rfl rfl rfl rfl) ?_); refine oS ?_; refine oN ?_) | refine gc ?_ | refine ct ?_ | refine cf ?_ | refine swp_cond rfl (fun hc => ?_) (fun hc => ?_) | refine retl (by exact .inr rfl) rfl (.cell rfl rfl (tyT rfl) rfl rfl .nil) ?_ rfl .nil (.cons rfl (by rfl) .nil))
  rfl
set_option maxRecDepth 100000 in
set_option maxHeartbeats 1000000 in
theorem ownPolP (p : Pl.Policy) (h : FewP p) : PCalls Tryz.prog 43 [.agg (polT p)] (.agg (polT p)) := by
  have c1 := mapPRule (fun s => s) 52 [] p.rules (fun s hs => ownRule_ s (h.r s hs)) h.n
  rw [map_id_] at c1
  refine pcalls_of Tryz.func43 rfl rfl Tryz.ntmps43 rfl ?_
  repeat' (first | (refine rg 0 ?_; refine sbx ?_; refine sal str43 ?_; refine oN ?_) | (refine rg 1 ?_; refine oFb ?_; refine oLb ?_; refine oC (c1) rfl (ac (ac .nil)) ?_; refine oFb ?_; refine oS ?_; refine oN ?_) | (refine rg 2 ?_; (refine sp (po_load_bx_agg rfl rfl (tyT rfl) rfl (vc (vc (vc (vc (vc .nil))))) rfl) ?_); refine oS ?_; refine oN ?_) | refine gc ?_ | refine ct ?_ | refine cf ?_ | refine swp_cond rfl (fun hc => ?_) (fun hc => ?_) | refine rq rfl (.cell rfl rfl (tyT rfl) (vc (vc (vc (vc (vc .nil))))) rfl .nil) ?_)
  rfl
def ITarget (xs : List Pl.Target) (f : FuncId) (caps : List T) (k : Nat) : St := ⟨[(0, .t (.sl 4 (xs.map targetT))), (1, .t (.clo f caps)), (7, .t (.v (.int .i64 (xs.length : Int)))), (8, .t (.v (.int .i64 (k : Int))))], [], []⟩
set_option maxRecDepth 100000 in
set_option maxHeartbeats 1000000 in
theorem idxTarget (p : Pl.Target → Bool) (f : FuncId) (caps : List T) (xs : List Pl.Target) (r : Int) (hK : ∀ x ∈ xs, PCalls Tryz.prog f ([.agg (targetT x)] ++ caps) (.v (.bool (p x)))) (hn : xs.length ≤ 1000)
    (h1 : ∀ k, (h : k < xs.length) → (∀ j, j < k → ∀ x, xs[j]? = some x → p x = false) → p xs[k] = true → r = (k : Int)) (h2 : (∀ x ∈ xs, p x = false) → r = -1) : PCalls Tryz.prog 71 [.sl 4 (xs.map targetT), .clo f caps] (.v (.int .i64 r)) := by
  have hm1 : (xs.map targetT).length = xs.length := List.length_map _
  refine pcalls_of Tryz.func71 rfl rfl Tryz.ntmps71 rfl ?_
  repeat' (first | (refine rg 0 ?_; refine oAs ?_; refine oN ?_) | (refine rg 1 ?_; refine oMv ?_; refine sp (pln rfl (tyS rfl)) ?_; refine oMv ?_; refine oN ?_) | refine gc ?_ | refine ct ?_ | refine cf ?_ | refine swp_cond rfl (fun hc => ?_) (fun hc => ?_) | refine rq rfl (rt .nil) ?_)
  refine swp_for (ITarget xs f caps) (fun k => ∀ j, j < k → ∀ x, xs[j]? = some x → p x = false) xs.length ?_ (fun j hj => by omega) ?_
  · exact (weak_sub (.cons rfl (by first | rfl | (exact congrArg (fun n : Nat => A.t (.v (.int .i64 (n : Int)))) hm1)) rfl (.cons rfl (by first | rfl | (exact congrArg (fun n : Nat => A.t (.v (.int .i64 (n : Int)))) hm1)) rfl (.cons rfl (by first | rfl | (exact congrArg (fun n : Nat => A.t (.v (.int .i64 (n : Int)))) hm1)) rfl (.cons rfl (by first | rfl | (exact congrArg (fun n : Nat => A.t (.v (.int .i64 (n : Int)))) hm1)) rfl .nil)))) .nil .nil)
  intro k hk hI
  unfold ITarget
  by_cases hlt : k < xs.length
  · have c1 := hK _ (List.getElem_mem hlt)
    have hstep : p xs[k] = false → ∀ j, j < k + 1 → ∀ x, xs[j]? = some x → p x = false := fun hp j hj x hx => by
      by_cases h : j = k
      · subst h; rw [List.getElem?_eq_getElem hlt] at hx; injection hx with hx; subst hx; exact hp
      · exact hI j (by omega) x hx
    repeat' (first | refine for_next hlt (weak_sub (.cons rfl rfl rfl (.cons rfl rfl rfl (.cons rfl rfl rfl (.cons rfl rfl rfl .nil)))) .nil .nil) (hstep (by first | assumption | simp_all)) | (refine rg 2 ?_; refine oCm ?_; refine oN ?_) | (refine rg 3 ?_; refine oMv ?_; refine oAs ?_; refine oN ?_) | (refine rg 4 ?_; refine oMv ?_; refine oMv ?_; refine oMv ?_; refine sp (pix rfl (tyS rfl)) ?_; (first | refine sp (po_load_bx_agg rfl rfl (tyT rfl) rfl (vc (vc (vc (vc .nil)))) rfl) ?_ | refine sp (po_load_agg rfl rfl (tyT rfl) rfl rfl) ?_); refine sp (po_call_clo rfl rfl (ac .nil) (c1)) ?_; refine oN ?_) | (refine rg 5 ?_; refine oMv ?_; refine oAs ?_; refine oN ?_) | (refine rg 6 ?_; refine sp (xinc rfl) ?_; refine oMv ?_; refine oN ?_) | refine gc ?_ | refine ct ?_ | refine cf ?_ | refine swp_cond rfl (fun hc => ?_) (fun hc => ?_) | refine rq rfl (rt .nil) ?_)
    rw [h1 k hlt hI (by first | assumption | simp_all)]; rfl
  · obtain rfl : k = xs.length := by omega
    repeat' (first | (refine rg 2 ?_; refine oCm ?_; refine oN ?_) | (refine rg 7 ?_; refine oAs ?_; refine oN ?_) | refine gc ?_ | refine ct ?_ | refine cf ?_ | refine swp_cond rfl (fun hc => ?_) (fun hc => ?_) | refine rq rfl (rt .nil) ?_)
    rw [h2 fun x hx => by obtain ⟨j, hj⟩ := List.getElem?_of_mem hx; exact hI j (List.getElem?_eq_some_iff.1 hj).1 x hj]; rfl
def IRule (xs : List Pl.Rule) (f : FuncId) (caps : List T) (k : Nat) : St := ⟨[(0, .t (.sl 3 (xs.map ruleT))), (1, .t (.clo f caps)), (7, .t (.v (.int .i64 (xs.length : Int)))), (8, .t (.v (.int .i64 (k : Int))))], [], []⟩
set_option maxRecDepth 100000 in
set_option maxHeartbeats 1000000 in
theorem idxRule (p : Pl.Rule → Bool) (f : FuncId) (caps : List T) (xs : List Pl.Rule) (r : Int) (hK : ∀ x ∈ xs, PCalls Tryz.prog f ([.agg (ruleT x)] ++ caps) (.v (.bool (p x)))) (hn : xs.length ≤ 1000)
    (h1 : ∀ k, (h : k < xs.length) → (∀ j, j < k → ∀ x, xs[j]? = some x → p x = false) → p xs[k] = true → r = (k : Int)) (h2 : (∀ x ∈ xs, p x = false) → r = -1) : PCalls Tryz.prog 53 [.sl 3 (xs.map ruleT), .clo f caps] (.v (.int .i64 r)) := by
  have hm1 : (xs.map ruleT).length = xs.length := List.length_map _
  refine pcalls_of Tryz.func53 rfl rfl Tryz.ntmps53 rfl ?_
  repeat' (first | (refine rg 0 ?_; refine oAs ?_; refine oN ?_) | (refine rg 1 ?_; refine oMv ?_; refine sp (pln rfl (tyS rfl)) ?_; refine oMv ?_; refine oN ?_) | refine gc ?_ | refine ct ?_ | refine cf ?_ | refine swp_cond rfl (fun hc => ?_) (fun hc => ?_) | refine rq rfl (rt .nil) ?_)
  refine swp_for (IRule xs f caps) (fun k => ∀ j, j < k → ∀ x, xs[j]? = some x → p x = false) xs.length ?_ (fun j hj => by omega) ?_
  · exact (weak_sub (.cons rfl (by first | rfl | (exact congrArg (fun n : Nat => A.t (.v (.int .i64 (n : Int)))) hm1)) rfl (.cons rfl (by first | rfl | (exact congrArg (fun n : Nat => A.t (.v (.int .i64 (n : Int)))) hm1)) rfl (.cons rfl (by first | rfl | (exact congrArg (fun n : Nat => A.t (.v (.int .i64 (n : Int)))) hm1)) rfl (.cons rfl (by first | rfl | (exact congrArg (fun n : Nat => A.t (.v (.int .i64 (n : Int)))) hm1)) rfl .nil)))) .nil .nil)
  intro k hk hI
  unfold IRule
  by_cases hlt : k < xs.length
  · have c1 := hK _ (List.getElem_mem hlt)
    have hstep : p xs[k] = false → ∀ j, j < k + 1 → ∀ x, xs[j]? = some x → p x = false := fun hp j hj x hx => by
      by_cases h : j = k
      · subst h; rw [List.getElem?_eq_getElem hlt] at hx; injection hx with hx; subst hx; exact hp
      · exact hI j (by omega) x hx
    repeat' (first | refine for_next hlt (weak_sub (.cons rfl rfl rfl (.cons rfl rfl rfl (.cons rfl rfl rfl (.cons rfl rfl rfl .nil)))) .nil .nil) (hstep (by first | assumption | simp_all)) | (refine rg 2 ?_; refine oCm ?_; refine oN ?_) | (refine rg 3 ?_; refine oMv ?_; refine oAs ?_; refine oN ?_) | (refine rg 4 ?_; refine oMv ?_; refine oMv ?_; refine oMv ?_; refine sp (pix rfl (tyS rfl)) ?_; (first | refine sp (po_load_bx_agg rfl rfl (tyT rfl) rfl (vc (vc (vc .nil))) rfl) ?_ | refine sp (po_load_agg rfl rfl (tyT rfl) rfl rfl) ?_); refine sp (po_call_clo rfl rfl (ac .nil) (c1)) ?_; refine oN ?_) | (refine rg 5 ?_; refine oMv ?_; refine oAs ?_; refine oN ?_) | (refine rg 6 ?_; refine sp (xinc rfl) ?_; refine oMv ?_; refine oN ?_) | refine gc ?_ | refine ct ?_ | refine cf ?_ | refine swp_cond rfl (fun hc => ?_) (fun hc => ?_) | refine rq rfl (rt .nil) ?_)
    rw [h1 k hlt hI (by first | assumption | simp_all)]; rfl
  · obtain rfl : k = xs.length := by omega
    repeat' (first | (refine rg 2 ?_; refine oCm ?_; refine oN ?_) | (refine rg 7 ?_; refine oAs ?_; refine oN ?_) | refine gc ?_ | refine ct ?_ | refine cf ?_ | refine swp_cond rfl (fun hc => ?_) (fun hc => ?_) | refine rq rfl (rt .nil) ?_)
    rw [h2 fun x hx => by obtain ⟨j, hj⟩ := List.getElem?_of_mem hx; exact hI j (List.getElem?_eq_some_iff.1 hj).1 x hj]; rfl
end Go.Proofs.YtnclifgiakmmoaaGreat.Pol

/- Plain: what a row of policies says; its laws. -/
namespace Go.Proofs.YtnclifgiakmmoaaGreat.Pl
set_option linter.unusedVariables false
set_option linter.unusedSimpArgs false

def kindP (d : Bool) (p : Policy) : Bool := (p.deny == 1) == d
def firstP (M : Rule → Bool) (d : Bool) (l : List Policy) : Option Policy := l.find? fun p => kindP d p && p.rules.any M
def someP (d : Bool) (l : List Policy) : Bool := l.any (kindP d)
def judgeP (M : Rule → Bool) (l : List Policy) : Bool × Int :=
  match firstP M true l with
  | some p => (false, p.id)
  | none => match firstP M false l with
    | some p => (true, p.id)
    | none => (!someP false l, 0)

end Go.Proofs.YtnclifgiakmmoaaGreat.Pl

/- Plain: the halves of a row of policies. -/
namespace Go.Proofs.YtnclifgiakmmoaaGreat.Pl
set_option linter.unusedVariables false
set_option linter.unusedSimpArgs false
def looksT (t : Target) : Bool := decide (0 < t.methods.length + t.paths.length + t.hosts.length)
def seventhP (r : Rule) : Bool := decide (0 < r.when_.length) || r.to_.any looksT
def fourT (t : Target) : Target := ⟨t.ports, [], [], []⟩
def four (r : Rule) : Rule := ⟨r.from_, r.to_.map fourT, []⟩
def keep4 (r : Rule) : Bool := !seventhP r
/-- what becomes of rules: 0 those that look at no request, 1 all rules' fourth halves, else all -/
def what (k : Nat) (l : List Rule) : List Rule := match k with
  | 0 => l.filter keep4
  | 1 => l.map four
  | _ => l
def halfP (deny allow : Nat) (p : Policy) : Policy := { p with rules := if p.deny = 1 then what deny p.rules else what allow p.rules }
def allowsP (l : List Policy) : Int := if l.any (fun p => decide (p.deny ≠ 1)) then 1 else 0
def four4 (p : Policy) : Policy := { p with rules := p.rules.map four }
def noPol : Policy := ⟨0, ⟨#[]⟩, 0, 0, []⟩
def saysL (l : List Policy) (allow : Int) : List Policy := if allow = 1 then l ++ [noPol] else l
/-- slices.DeleteFunc, behind the first hit at k0: the row, and how many are kept, behind k rounds -/
def delS {α : Type} (p : α → Bool) (l : List α) (k0 : Nat) : Nat → List α × Nat
  | 0 => (l, k0)
  | k + 1 => match l[k0 + 1 + k]? with
    | some x => if p x = true then delS p l k0 k else ((delS p l k0 k).1.set (delS p l k0 k).2 x, (delS p l k0 k).2 + 1)
    | none => delS p l k0 k
structure DelI {α : Type} (p : α → Bool) (l : List α) (j : Nat) (s : List α × Nat) : Prop where
  len : s.1.length = l.length
  lt : s.2 < j
  take : s.1.take s.2 = (l.take j).filter fun x => !p x
  drop : s.1.drop j = l.drop j
theorem delS_spec {α : Type} {p : α → Bool} {l : List α} {k0 : Nat} (h0 : k0 < l.length) (hp : p l[k0] = true) (hb : ∀ j, j < k0 → ∀ x, l[j]? = some x → p x = false) : ∀ k, k0 + 1 + k ≤ l.length → DelI p l (k0 + 1 + k) (delS p l k0 k)
  | 0, _ => by
    refine ⟨rfl, by simp [delS], ?_, rfl⟩
    show l.take k0 = (l.take (k0 + 1)).filter _
    rw [List.take_succ_eq_append_getElem h0, List.filter_append, List.filter_eq_self.2 fun x hx => by
      obtain ⟨j, hj⟩ := List.getElem?_of_mem hx
      have hjl : j < (l.take k0).length := (List.getElem?_eq_some_iff.1 hj).1
      rw [List.getElem?_take_of_lt (by simp at hjl; omega)] at hj
      simp [hb j (by simp at hjl; omega) x hj]]
    simp [hp]
  | k + 1, hk => by
    have ih := delS_spec h0 hp hb k (by omega)
    have hj : k0 + 1 + k < l.length := by omega
    have e1 : l[k0 + 1 + k]? = some l[k0 + 1 + k] := List.getElem?_eq_getElem hj
    have hd : (delS p l k0 k).1.drop (k0 + 1 + (k + 1)) = l.drop (k0 + 1 + (k + 1)) := by
      have := congrArg (List.drop 1) ih.drop
      rw [List.drop_drop, List.drop_drop] at this
      exact this
    have hf : (l.take (k0 + 1 + (k + 1))).filter (fun x => !p x) = (l.take (k0 + 1 + k)).filter (fun x => !p x) ++ [l[k0 + 1 + k]].filter (fun x => !p x) := by
      rw [show k0 + 1 + (k + 1) = (k0 + 1 + k) + 1 by omega, List.take_succ_eq_append_getElem hj, List.filter_append]
    unfold delS
    rw [e1]
    dsimp only
    by_cases hpx : p l[k0 + 1 + k] = true
    · rw [if_pos hpx]
      exact ⟨ih.len, by have := ih.lt; omega, by rw [hf, ih.take]; simp [hpx], hd⟩
    · rw [if_neg hpx]
      have hlt := ih.lt
      have hlen := ih.len
      refine ⟨by simp [hlen], by dsimp only; omega, ?_, ?_⟩
      · dsimp only
        rw [hf, ← ih.take, List.take_succ_eq_append_getElem (by simp; omega)]
        simp [hpx]
        rw [List.take_set_of_le (Nat.le_refl _)]
      · dsimp only
        rw [List.drop_set_of_lt (by omega), hd]
theorem del_none {α : Type} {p : α → Bool} {l : List α} (h : ∀ x ∈ l, p x = false) : l.filter (fun x => !p x) = l := List.filter_eq_self.2 fun x hx => by simp [h x hx]
end Go.Proofs.YtnclifgiakmmoaaGreat.Pl
