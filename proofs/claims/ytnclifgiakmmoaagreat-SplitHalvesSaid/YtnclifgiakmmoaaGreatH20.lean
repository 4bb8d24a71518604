/- Merged by bundles.py: SimSp4, WAll, WWhen, WMatches. -/
import Derived.Test.YtnclifgiakmmoaaGreatH19
import Derived.Test.YtnclifgiakmmoaaGreatH17
import Derived.Test.YtnclifgiakmmoaaGreatH1
/- split.table and the halves, by the logic of states. -/
namespace Go.Proofs.YtnclifgiakmmoaaGreat.Pol
set_option linter.unusedVariables false
set_option linter.unusedSimpArgs false
open Go.RowKit Mem Sim Opn
abbrev TB (fd fa : FuncId) (t0 : T) (al : Int) : List (Nat × List A) := [(2000, [.t (.clo fd [])]), (2001, [.t (.clo fa [])]), (2002, [.t t0, .t (.v (.int .i64 al))])]
def updA (al : Int) (p : Pl.Policy) : Int := if p.deny = 1 then al else 1
abbrev RulesL (f : FuncId) (k : Nat) : Prop := ∀ l : List Pl.Rule, l.length ≤ 1000 → (∀ r ∈ l, FewR r) → LCalls Tryz.prog f [.own 1000 (l.map ruleT).length] [] [(1000, ⟨27, 3, l.map ruleT⟩)] (.t (.sl 3 ((Pl.what k l).map ruleT))) [] []
set_option maxRecDepth 100000 in
set_option maxHeartbeats 2000000 in
theorem table1 (fd fa : FuncId) (D K : Nat) (hD : RulesL fd D) (hA : RulesL fa K) (p : Pl.Policy) (hp : FewP p) (t0 : T) (al : Int) :
    LCalls Tryz.prog 42 [.t (.agg (polT p)), .bp 2000 0, .bp 2001 0, .bp 2002 0] (TB fd fa t0 al) [] (.t (.agg (polT (Pl.halfP D K p)))) (TB fd fa t0 (updA al p)) [] := by
  have c1 := ownPol p hp
  have c2 := hD p.rules hp.n hp.r
  have c3 := hA p.rules hp.n hp.r
  unfold Pl.halfP updA
  refine lcalls_of Tryz.func42 rfl rfl Tryz.ntmps42 rfl ?_
  by_cases hd : p.deny = 1
  · rw [if_pos hd, if_pos hd]
    repeat' (first | (refine rg 0 ?_; refine sbx ?_; refine sal str43 ?_; refine oN ?_) | (refine rg 1 ?_; (refine sp (po_load_bx_agg rfl rfl (tyT rfl) rfl (vc (vc (vc (vc (vc .nil))))) rfl) ?_); (first | refine sops_lcall (c2) (fun i => i) (fun i => i) (fun _ => false) (.free rfl rfl) rfl rfl rfl (by first | ((repeat' (first | exact .nil | refine .cons rfl rfl rfl ?_ | refine .vw rfl (by first | exact .t _ | exact .own rfl (by rfl) | exact .nil _ | exact .emp _ | exact .fn _ | exact .fr _ _) ?_)) <;> fail) | fail) .nil (.cons rfl rfl .nil) rfl rfl (fun _ h => Bool.noConfusion h) ?_ | refine sops_lcall (c1) (fun i => i) (fun i => i) (fun _ => false) (.free rfl rfl) rfl rfl rfl (by ((repeat' (first | exact .nil | refine .cons rfl rfl rfl ?_)) <;> fail)) .nil .nil rfl rfl (fun _ h => Bool.noConfusion h) ?_); refine oS ?_; refine oN ?_) | (refine rg 2 ?_; refine oFb ?_; refine oLb ?_; refine oCm ?_; refine oN ?_) | (refine rg 3 ?_; refine oLb ?_; refine oFb ?_; refine oLb ?_; (refine sops_lcall_tclo (args := [_]) (caps := []) (c2) (fun i => i) (fun i => i) (fun _ => false) (.free rfl rfl) rfl rfl rfl rfl (by ((repeat' (first | exact .nil | refine .cons rfl rfl rfl ?_)) <;> fail)) .nil (.cons rfl rfl .nil) rfl rfl (fun _ h => Bool.noConfusion h) ?_); refine oFb ?_; refine oS ?_; refine oN ?_) | (refine rg 6 ?_; (refine sp (po_load_bx_agg rfl rfl (tyT rfl) rfl (vc (vc (vc (vc (vc .nil))))) rfl) ?_); refine oS ?_; refine oN ?_) | refine gc ?_ | refine ct ?_ | refine cf ?_ | refine swp_cond rfl (fun hc => ?_) (fun hc => ?_) | exact retl1 (by exact .inr rfl) rfl (.cellT rfl rfl (tyT rfl) (vc (vc (vc (vc (vc .nil))))) rfl .nil) rfl (.cons rfl (by rfl) rfl (.cons rfl (by rfl) rfl (.cons rfl (by rfl) rfl .nil))) .nil)
  · rw [if_neg hd, if_neg hd]
    repeat' (first | (refine rg 0 ?_; refine sbx ?_; refine sal str43 ?_; refine oN ?_) | (refine rg 1 ?_; (refine sp (po_load_bx_agg rfl rfl (tyT rfl) rfl (vc (vc (vc (vc (vc .nil))))) rfl) ?_); (first | refine sops_lcall (c3) (fun i => i) (fun i => i) (fun _ => false) (.free rfl rfl) rfl rfl rfl (by first | ((repeat' (first | exact .nil | refine .cons rfl rfl rfl ?_ | refine .vw rfl (by first | exact .t _ | exact .own rfl (by rfl) | exact .nil _ | exact .emp _ | exact .fn _ | exact .fr _ _) ?_)) <;> fail) | fail) .nil (.cons rfl rfl .nil) rfl rfl (fun _ h => Bool.noConfusion h) ?_ | refine sops_lcall (c1) (fun i => i) (fun i => i) (fun _ => false) (.free rfl rfl) rfl rfl rfl (by ((repeat' (first | exact .nil | refine .cons rfl rfl rfl ?_)) <;> fail)) .nil .nil rfl rfl (fun _ h => Bool.noConfusion h) ?_); refine oS ?_; refine oN ?_) | (refine rg 2 ?_; refine oFb ?_; refine oLb ?_; refine oCm ?_; refine oN ?_) | (refine rg 4 ?_; refine oLb ?_; refine oFb ?_; refine oLb ?_; (refine sops_lcall_tclo (args := [_]) (caps := []) (c3) (fun i => i) (fun i => i) (fun _ => false) (.free rfl rfl) rfl rfl rfl rfl (by ((repeat' (first | exact .nil | refine .cons rfl rfl rfl ?_)) <;> fail)) .nil (.cons rfl rfl .nil) rfl rfl (fun _ h => Bool.noConfusion h) ?_); refine oFb ?_; refine oS ?_; refine oN ?_) | (refine rg 5 ?_; refine oFb ?_; refine oS ?_; refine oN ?_) | (refine rg 6 ?_; (refine sp (po_load_bx_agg rfl rfl (tyT rfl) rfl (vc (vc (vc (vc (vc .nil))))) rfl) ?_); refine oS ?_; refine oN ?_) | refine gc ?_ | refine ct ?_ | refine cf ?_ | refine swp_cond rfl (fun hc => ?_) (fun hc => ?_) | exact retl1 (by exact .inr rfl) rfl (.cellT rfl rfl (tyT rfl) (vc (vc (vc (vc (vc .nil))))) rfl .nil) rfl (.cons rfl (by rfl) rfl (.cons rfl (by rfl) rfl (.cons rfl (by rfl) rfl .nil))) .nil)
def alK (l : List Pl.Policy) (al : Int) (k : Nat) : Int := if (l.take k).any (fun p => decide (p.deny ≠ 1)) = true then 1 else al
theorem alK_succ {l : List Pl.Policy} {al : Int} {k : Nat} (h : k < l.length) : updA (alK l al k) l[k] = alK l al (k + 1) := by
  unfold updA alK
  rw [List.take_succ_eq_append_getElem h, List.any_append]
  by_cases hd : l[k].deny = 1
  · simp [hd]
  · simp [hd]
abbrev CL3 : A := .cl 42 [.bp 2000 0, .bp 2001 0, .bp 2002 0]
def MT (fd fa : FuncId) (D K : Nat) (xs : List Pl.Policy) (t0 : T) (al : Int) (k : Nat) : St := ⟨[(1, CL3), (5, .own 105 (((xs.take k).map (Pl.halfP D K)).map polT).length), (8, .t (.sl 5 (xs.map polT))), (9, .t (.v (.int .i64 (xs.length : Int)))), (10, .t (.v (.int .i64 (k : Int))))], TB fd fa t0 (alK xs al k), [(105, ⟨43, 5, ((xs.take k).map (Pl.halfP D K)).map polT⟩)]⟩
set_option maxRecDepth 100000 in
set_option maxHeartbeats 2000000 in
theorem mapTable (fd fa : FuncId) (D K : Nat) (hD : RulesL fd D) (hA : RulesL fa K) (xs : List Pl.Policy) (hp : ∀ p ∈ xs, FewP p) (hn : xs.length ≤ 1000) (t0 : T) (al : Int) :
    LCalls Tryz.prog 38 [.t (.sl 5 (xs.map polT)), CL3] (TB fd fa t0 al) [] (.t (.sl 5 ((xs.map (Pl.halfP D K)).map polT))) (TB fd fa t0 (alK xs al xs.length)) [] := by
  have hm1 : (xs.map polT).length = xs.length := List.length_map _
  refine lcalls_of Tryz.func38 rfl rfl Tryz.ntmps38 rfl ?_
  repeat' (first | (refine rg 0 ?_; refine oAs ?_; refine oN ?_) | (refine rg 1 ?_; refine oAs ?_; refine oN ?_) | (refine rg 2 ?_; refine oMv ?_; refine sp (pln rfl (tyS rfl)) ?_; refine oMv ?_; refine oN ?_) | refine gc ?_ | refine ct ?_ | refine cf ?_ | refine swp_cond rfl (fun hc => ?_) (fun hc => ?_) | refine rq rfl (rt .nil) ?_)
  refine swp_for (MT fd fa D K xs t0 al) (fun _ => True) xs.length ?_ trivial ?_
  · refine Weak.trans (weak_own0 (i := 105) 43 5 (s := 5) rfl rfl) ?_
    exact (weak_sub (.cons rfl (by first | rfl | (exact congrArg (fun n : Nat => A.t (.v (.int .i64 (n : Int)))) hm1)) rfl (.cons rfl (by first | rfl | (exact congrArg (fun n : Nat => A.t (.v (.int .i64 (n : Int)))) hm1)) rfl (.cons rfl (by first | rfl | (exact congrArg (fun n : Nat => A.t (.v (.int .i64 (n : Int)))) hm1)) rfl (.cons rfl (by first | rfl | (exact congrArg (fun n : Nat => A.t (.v (.int .i64 (n : Int)))) hm1)) rfl (.cons rfl (by first | rfl | (exact congrArg (fun n : Nat => A.t (.v (.int .i64 (n : Int)))) hm1)) rfl .nil))))) (.cons rfl (by first | rfl | (exact congrArg (fun n : Nat => A.t (.v (.int .i64 (n : Int)))) hm1)) rfl (.cons rfl (by first | rfl | (exact congrArg (fun n : Nat => A.t (.v (.int .i64 (n : Int)))) hm1)) rfl (.cons rfl (by first | rfl | (exact congrArg (fun n : Nat => A.t (.v (.int .i64 (n : Int)))) hm1)) rfl .nil))) (.cons rfl (by first | rfl | (exact congrArg (fun n : Nat => A.t (.v (.int .i64 (n : Int)))) hm1)) .nil))
  intro k hk _
  unfold MT
  by_cases hlt : k < xs.length
  · have c1 := table1 fd fa D K hD hA _ (hp _ (List.getElem_mem hlt)) t0 (alK xs al k)
    rw [alK_succ hlt] at c1
    have hsn := mapmap_take_succ polT (Pl.halfP D K) hlt
    have g1 : ((((xs.take k).map (Pl.halfP D K)).map polT).length + 1) * 64 ≤ 140737488355328 := by rw [mmt_len]; have := Nat.min_le_right k xs.length; omega
    have g2 : (((xs.take k).map (Pl.halfP D K)).map polT).length + 1 ≤ maxLen := by rw [mmt_len]; have := Nat.min_le_right k xs.length; unfold maxLen; omega
    repeat' (first | refine for_next hlt (weak_sub (.cons rfl (by rfl) rfl (.cons rfl (by first | rfl | (rw [hsn]; try rfl)) rfl (.cons rfl (by rfl) rfl (.cons rfl (by rfl) rfl (.cons rfl (by rfl) rfl .nil))))) (.cons rfl (by rfl) rfl (.cons rfl (by rfl) rfl (.cons rfl (by rfl) rfl .nil))) (.cons rfl (by first | rfl | (rw [hsn]; try rfl)) .nil)) trivial | (refine rg 3 ?_; refine oCm ?_; refine oN ?_) | (refine rg 4 ?_; (first | refine sp (ixo rfl) ?_ | refine sp (pix rfl (tyS rfl)) ?_); (first | refine sp (po_load_bx_agg rfl rfl (tyT rfl) rfl (vc (vc (vc (vc (vc .nil))))) rfl) ?_ | refine sp (po_load_agg rfl rfl (tyT rfl) rfl rfl) ?_); refine sal str43 ?_; refine oS ?_; refine oN ?_) | (refine rg 5 ?_; refine oMv ?_; refine oMv ?_; (refine sp (po_load_bx_agg rfl rfl (tyT rfl) rfl (vc (vc (vc (vc (vc .nil))))) rfl) ?_); (first | refine sops_lcall_tclo (args := [_]) (caps := [_, _, _]) (c1) (fun i => i) (fun i => i) (fun _ => false) (.free rfl rfl) rfl rfl rfl rfl (by ((repeat' (first | exact .nil | refine .cons rfl rfl rfl ?_ | refine .vw rfl (by exact .t _) ?_)) <;> fail)) (.cons rfl rfl (.cons rfl rfl (.cons rfl rfl .nil))) .nil rfl rfl (fun _ h => Bool.noConfusion h) ?_ | refine sops_lcall_clo (args := [_]) (caps0 := [_, _, _]) (c1) (fun i => i) (fun i => i) (fun _ => false) (.free rfl rfl) rfl rfl rfl rfl rfl rfl (by ((repeat' (first | exact .nil | refine .cons rfl rfl rfl ?_)) <;> fail)) (.cons rfl rfl (.cons rfl rfl (.cons rfl rfl .nil))) .nil rfl rfl (fun _ h => Bool.noConfusion h) ?_); refine sp (po_buildSlice rfl (tyE rfl) (dc (.nil _)) rfl rfl rfl) ?_; refine sap rfl (tyE rfl) ?_; refine oAs ?_; refine oN ?_) | (refine rg 6 ?_; refine sp (xinc rfl) ?_; refine oMv ?_; refine oN ?_) | refine gc ?_ | refine ct ?_)
  · obtain rfl : k = xs.length := by omega
    rw [List.take_length]
    repeat' (first | (refine rg 3 ?_; refine oCm ?_; refine oN ?_) | (refine rg 7 ?_; refine oMv ?_; refine oAs ?_; refine oN ?_) | refine gc ?_ | refine ct ?_ | refine cf ?_ | refine swp_cond rfl (fun hc => ?_) (fun hc => ?_) | exact retl1 (by exact .inr rfl) rfl (.tmpT rfl (by first | exact .t _ | exact .own rfl (by rfl)) .nil) rfl (.cons rfl (by rfl) rfl (.cons rfl (by rfl) rfl (.cons rfl (by rfl) rfl .nil))) .nil)
def fbOf (l : List (Nat × Nat)) (i : Nat) : Nat := (get l i).getD i
theorem alK_all (l : List Pl.Policy) : alK l 0 l.length = Pl.allowsP l := by unfold alK Pl.allowsP; rw [List.take_length]
set_option maxRecDepth 100000 in
set_option maxHeartbeats 2000000 in
theorem table_ (fd fa : FuncId) (D K : Nat) (hD : RulesL fd D) (hA : RulesL fa K) (xs : List Pl.Policy) (hp : ∀ p ∈ xs, FewP p) (hn : xs.length ≤ 1000) :
    PCalls Tryz.prog 26 [.sl 5 (xs.map polT), .clo fd [], .clo fa []] (.agg [.sl 5 ((xs.map (Pl.halfP D K)).map polT), .v (.int .i64 (Pl.allowsP xs))]) := by
  have c1 := mapTable fd fa D K hD hA xs hp hn (.v (.slice none 0 0)) 0
  rw [alK_all] at c1
  refine pcalls_of Tryz.func26 rfl rfl Tryz.ntmps26 rfl ?_
  repeat' (first | (refine rg 0 ?_; refine sbx ?_; refine sbx ?_; refine sal str46 ?_; refine oN ?_) | (refine rg 1 ?_; refine oMv ?_; (first | refine sp (po_func rfl (ac (ac (ac .nil)))) ?_ | refine sp (po_func_cl rfl (.cons rfl rfl (.cons rfl rfl (.cons rfl rfl .nil)))) ?_); refine sops_lcall (c1) (fbOf [(2000, 4), (2001, 5), (2002, 6)]) (fun i => i) (fun _ => false) (.free rfl rfl) rfl rfl rfl (by ((repeat' (first | exact .nil | refine .cons rfl rfl rfl ?_)) <;> fail)) (.cons rfl rfl (.cons rfl rfl (.cons rfl rfl .nil))) .nil rfl rfl (fun _ h => Bool.noConfusion h) ?_; refine oFb ?_; refine oS ?_; refine oN ?_) | (refine rg 2 ?_; refine sp (po_load_bx_agg rfl rfl (tyT rfl) rfl (vc (vc .nil)) rfl) ?_; refine oS ?_; refine oN ?_) | refine gc ?_ | refine ct ?_ | refine cf ?_ | refine swp_cond rfl (fun hc => ?_) (fun hc => ?_) | exact rq1 rfl (.cell rfl rfl (tyT rfl) (vc (vc .nil)) rfl .nil))
set_option maxRecDepth 100000 in
set_option maxHeartbeats 1000000 in
theorem l4_ (xs : List Pl.Policy) (hp : ∀ p ∈ xs, FewP p) (hn : xs.length ≤ 1000) : PCalls Tryz.prog 8 [.sl 5 (xs.map polT)] (.agg [.sl 5 ((xs.map (Pl.halfP 0 1)).map polT), .v (.int .i64 (Pl.allowsP xs))]) := by
  have c1 := table_ 27 28 0 1 blindL halvedL xs hp hn
  refine pcalls_of Tryz.func8 rfl rfl Tryz.ntmps8 rfl ?_
  repeat' (first | (refine rg 0 ?_; refine sal str46 ?_; refine oN ?_) | (refine rg 1 ?_; refine oMv ?_; refine oC (c1) rfl (ac (ac (ac .nil))) ?_; refine oS ?_; refine oN ?_) | refine gc ?_ | refine ct ?_ | refine cf ?_ | refine swp_cond rfl (fun hc => ?_) (fun hc => ?_) | exact rq1 rfl (.cell rfl rfl (tyT rfl) (vc (vc .nil)) rfl .nil))
set_option maxRecDepth 100000 in
set_option maxHeartbeats 1000000 in
theorem alone_ (xs : List Pl.Policy) (hp : ∀ p ∈ xs, FewP p) (hn : xs.length ≤ 1000) : PCalls Tryz.prog 10 [.sl 5 (xs.map polT)] (.agg [.sl 5 ((xs.map (Pl.halfP 1 0)).map polT), .v (.int .i64 (Pl.allowsP xs))]) := by
  have c1 := table_ 28 27 1 0 halvedL blindL xs hp hn
  refine pcalls_of Tryz.func10 rfl rfl Tryz.ntmps10 rfl ?_
  repeat' (first | (refine rg 0 ?_; refine sal str46 ?_; refine oN ?_) | (refine rg 1 ?_; refine oMv ?_; refine oC (c1) rfl (ac (ac (ac .nil))) ?_; refine oS ?_; refine oN ?_) | refine gc ?_ | refine ct ?_ | refine cf ?_ | refine swp_cond rfl (fun hc => ?_) (fun hc => ?_) | exact rq1 rfl (.cell rfl rfl (tyT rfl) (vc (vc .nil)) rfl .nil))
set_option maxRecDepth 100000 in
set_option maxHeartbeats 1000000 in
theorem l7_ (xs : List Pl.Policy) (hp : ∀ p ∈ xs, FewP p) (hn : xs.length ≤ 1000) : PCalls Tryz.prog 9 [.sl 5 (xs.map polT)] (.agg [.sl 5 ((xs.map (Pl.halfP 2 2)).map polT), .v (.int .i64 (Pl.allowsP xs))]) := by
  have c1 := table_ 29 29 2 2 (fun l _ _ => wholeL l) (fun l _ _ => wholeL l) xs hp hn
  refine pcalls_of Tryz.func9 rfl rfl Tryz.ntmps9 rfl ?_
  repeat' (first | (refine rg 0 ?_; refine sal str46 ?_; refine oN ?_) | (refine rg 1 ?_; refine oAs ?_; refine oN ?_) | (refine rg 2 ?_; refine oMv ?_; refine oMv ?_; refine oMv ?_; refine oC (c1) rfl (ac (ac (ac .nil))) ?_; refine oS ?_; refine oN ?_) | refine gc ?_ | refine ct ?_ | refine cf ?_ | refine swp_cond rfl (fun hc => ?_) (fun hc => ?_) | exact rq1 rfl (.cell rfl rfl (tyT rfl) (vc (vc .nil)) rfl .nil))
set_option maxRecDepth 100000 in
set_option maxHeartbeats 1000000 in
theorem clonePols (rows : List (List T)) (hbd : rows.length * 64 ≤ 140737488355328) (hmx : rows.length ≤ maxLen) : LCalls Tryz.prog 49 [.t (.sl 5 rows)] [] [] (.own 1000 rows.length) [] [(1000, ⟨43, 5, rows⟩)] := by
  have hbd' : 0 + rows.length * 64 ≤ 140737488355328 := by omega
  refine lcalls_of Tryz.func49 rfl rfl Tryz.ntmps49 rfl ?_
  repeat' (first | (refine rg 0 ?_; refine oAs ?_; refine oN ?_) | (refine rg 1 ?_; refine oMv ?_; refine sops_isnil (.free rfl rfl) rfl rfl rfl rfl (.t _) (tyS rfl) (fun b hnil => ?_); refine oN ?_) | refine gc ?_ | refine ct ?_ | refine cf ?_ | refine swp_cond rfl (fun hc => ?_) (fun hc => ?_) | refine rq rfl (rt .nil) ?_)
  · obtain rfl := hnil hc
    repeat' (first | refine then_go ?_ | refine swp_seq ?_ | refine swp_ret_weak (weak_own0 (i := 1000) 43 5 (s := 2) rfl rfl) ?_ | (refine rg 2 ?_; refine oAs ?_; refine oN ?_) | refine swp_ret ?_ | refine swp_skip ?_ | refine swp_block ?_ | refine swp_exit ?_ | refine block_go ?_ | refine block_exit ?_ | refine block_far rfl ?_ | refine block_ret ?_ | refine then_ret ?_ | refine then_exit ?_ | refine for_ret ?_ | refine for_exit ?_ | refine ct ?_ | refine cf ?_ | refine swp_cond rfl (fun hc => ?_) (fun hc => ?_) | exact retl1 (by exact .inr rfl) rfl (.tmp rfl rfl .nil) rfl .nil (.cons rfl (by rfl) .nil))
  · repeat' (first | (refine rg 3 ?_; refine sops_build0i 1000 (.free rfl rfl) rfl rfl rfl (tyE rfl) rfl ?_; refine oMv ?_; refine sap rfl (tyE rfl) ?_; refine oAs ?_; refine oN ?_) | refine gc ?_ | refine ct ?_ | refine cf ?_ | refine swp_cond rfl (fun hc => ?_) (fun hc => ?_) | refine retl (by exact .inr rfl) rfl (.tmp rfl rfl .nil) ?_ rfl .nil (.cons rfl (by rfl) .nil))
    rfl
end Go.Proofs.YtnclifgiakmmoaaGreat.Pol

/- The walk of heads.All: the values of a name's headers. -/
namespace Go.Proofs.YtnclifgiakmmoaaGreat.WAuth
set_option linter.unusedVariables false
set_option linter.unusedSimpArgs false
open Go.RowKit Mem BigFrame WMatch Opn

/-- the values of a name's headers -/
def valsOf (n : ByteArray) (l : List Pl.Head) : List ByteArray := (l.filter fun h => h.name.toList == n.toList).map (·.value)
theorem valsOf_yes {n : ByteArray} {l : List Pl.Head} {k : Nat} (hk : k < l.length) (h : (l[k].name.toList == n.toList) = true) : valsOf n (l.take (k + 1)) = valsOf n (l.take k) ++ [l[k].value] := by
  unfold valsOf
  rw [List.take_succ_eq_append_getElem hk, List.filter_append, List.map_append]
  simp [List.filter_cons, h]
theorem valsOf_no {n : ByteArray} {l : List Pl.Head} {k : Nat} (hk : k < l.length) (h : (l[k].name.toList == n.toList) = false) : valsOf n (l.take (k + 1)) = valsOf n (l.take k) := by
  unfold valsOf
  rw [List.take_succ_eq_append_getElem hk, List.filter_append, List.map_append]
  simp [List.filter_cons, h]
theorem valsOf_len (n : ByteArray) (l : List Pl.Head) : (valsOf n l).length ≤ l.length := by
  unfold valsOf
  rw [List.length_map]
  exact List.length_filter_le _ _
theorem Tryz.infoStr : (Tryz.prog.info? 9).map (fun i => (i.zero, i.size, i.bytes)) = some (some (.string ⟨#[]⟩), 1, 16) := by kernel_rfl
theorem StrC.flat : Flat StrC := fun _ _ _ _ _ _ h => h

set_option maxRecDepth 100000 in
set_option maxHeartbeats 1600000 in
theorem all (n : ByteArray) (A : Option Addr) (cap : Nat) (l : List Pl.Head) {B : Nat} (w : World) (hB : B ≤ w.heap.size) (hA : SliceAt HeadR 2 B w A l) (h100 : l.length ≤ 1000) :
    Calls Tryz.prog 98 #[.string n, .slice A l.length cap] w fun e w' => ∃ v, e = .returned v ∧ Lo w w' ∧ RowF (fun _ => True) StrC 9 1 w.heap.size w' v (valsOf n l) := by
  obtain ⟨i0, hi, hz0, hz1, hz2⟩ := info_parts Tryz.infoStr
  go_enter Tryz.func98, Tryz.ntmps98
  go_wp2
  go_loopw [5, 10] (fun v i wr => ∃ k : Nat, k ≤ l.length ∧ i = .int .i64 k ∧ Lo w wr ∧ RowF (fun _ => True) StrC 9 1 w.heap.size wr v (valsOf n (l.take k))) (fun _ i _ => l.length - (intOf i).toNat)
  case atStart => exact ⟨0, Nat.zero_le _, rfl, Lo.refl _, RowF.nil⟩
  case round =>
    obtain ⟨k, hk, rfl, hlo, hown⟩ := hrel
    have hsz := hlo.size
    by_cases hlt : k < l.length
    · obtain ⟨b, off, cs, rfl, hb, hl2, hc, hr⟩ := (SliceAt.lo HeadR.kept hA hlo hB) k l[k] (List.getElem?_eq_getElem hlt)
      obtain ⟨c0, c1, rfl, ⟨e0, z0⟩, ⟨e1, z1⟩⟩ := hr
      injection e0 with e0; injection e1 with e1; subst e0 e1
      have hc0 := hc 0 _ rfl
      have hc1 := hc 1 _ rfl
      simp only [Nat.add_zero] at hc0
      rw [← Nat.add_assoc] at hc1
      clear hc hl2
      have hlen : (valsOf n (l.take k)).length ≤ 1000 := by
        have := valsOf_len n (l.take k)
        simp at this; omega
      have hbr := World.block_lt_of_cell? wr _ hc0
      cases he : (l[k].name.toList == n.toList)
      · have hv := Lib.hid (valsOf_no hlt he)
        go_wp2
        go_roundw
        case rel => exact ⟨k + 1, by omega, by go_num, (by repeat (first | exact Lo.refl _ | assumption | refine Lo.drew ?_ | refine Lo.alloc ?_ _ | refine Lo.setCell ?_ (by first | (dsimp only; omega) | (simp; omega) | (simp; done)) _ | refine Lo.trans ?_ (by assumption))), by rw [hv.out]; exact hown.lo (by repeat (first | exact Lo.refl _ | assumption | refine Lo.drew ?_ | refine Lo.alloc ?_ _ | refine Lo.setCell ?_ (by first | (dsimp only; omega) | (simp; omega) | (simp; done)) _ | refine Lo.trans ?_ (by assumption)))⟩
        case measure => simp [intOf]; omega
      · have hv := Lib.hid (valsOf_yes hlt he)
        have hown2 := fun (W : World) (hW : Lo wr W) => hown.lo hW
        have hcell : ((wr.alloc (.cells #[.string l[k].name, .string l[k].value] 81)).alloc (.cells #[.string l[k].value] 9)).cell? ⟨wr.heap.size + 1, 0, none⟩ = some (.string l[k].value) := by simp
        go_wp2_with (at_builtin; refine wpList_append_row (T := fun _ => True) (R := StrC) rfl (.tmp 18) (.tmp 21) 131 rfl w.heap.size 9 i0 _ 1 16 Tryz.underlying131 hi hz0 hz1 hz2 rfl (by omega) _ _ rfl (hown2 _ (by repeat (first | exact Lo.refl _ | assumption | refine Lo.drew ?_ | refine Lo.alloc ?_ _ | refine Lo.setCell ?_ (by first | (dsimp only; omega) | (simp; omega) | (simp; done)) _ | refine Lo.trans ?_ (by assumption)))) ⟨wr.heap.size + 1, 0, none⟩ 1 [.string l[k].value] l[k].value rfl rfl (Go.Proofs.YtnclifgiakmmoaaGreat.Mem.one_cell hcell) (by simp [Value.oneCell']) (Foot.flat (B := 0) StrC.flat ⟨rfl, z1⟩) (by unfold maxLen; omega) (by omega) (by first | (simp; done) | (simp; omega)) ?_; intro vm w2 hrow2 hgr2 hlo2)
        go_roundw
        case rel => exact ⟨k + 1, by omega, by go_num, hlo2 w (by repeat (first | exact Lo.refl _ | assumption | refine Lo.drew ?_ | refine Lo.alloc ?_ _ | refine Lo.setCell ?_ (by first | (dsimp only; omega) | (simp; omega) | (simp; done)) _ | refine Lo.trans ?_ (by assumption))) (Nat.le_refl _), by rw [hv.out]; exact hrow2⟩
        case measure => simp [intOf]; omega
    · have hf := hown
      rw [List.take_of_length_le (by omega)] at hf
      go_wp2
      go_ret
      exact ⟨_, rfl, hlo, hf⟩
end Go.Proofs.YtnclifgiakmmoaaGreat.WAuth

/- The walks of auth.When. -/
namespace Go.Proofs.YtnclifgiakmmoaaGreat.WAuth
set_option linter.unusedVariables false
set_option linter.unusedSimpArgs false
open Go.RowKit Mem BigFrame WMatch WAddr WName Opn

def whenP (hs : List Pl.Head) (x : Pl.When) : Bool := (valsOf x.head hs).any fun v => anyT v x.terms

theorem when1 (v : ByteArray) (ts : List Pl.Term) (A : Option Addr) (cap b : Nat) {B : Nat} (w : World) (hB : B ≤ w.heap.size) (hA : Terms B w A ts) (hc : w.cell? ⟨b, 1, none⟩ = some (.slice A ts.length cap)) (zv : v.size ≤ maxLen) (hn : ts.length ≤ maxLen) :
    Calls Tryz.prog 99 #[.string v, .pointer (some ⟨b, 0, none⟩)] w fun e w' => e = .returned (.bool (anyT v ts)) ∧ Lo w w' := by
  have H := Lib.hid (any v A cap ts w hB hA zv hn)
  clear hA
  go_enter Tryz.func99, Tryz.ntmps99
  go_wp2_with (go_at_call 100; refine (H.out).mono ?_; rintro e w1 ⟨rfl, hb⟩)
  go_ret
  exact ⟨rfl, (by repeat (first | exact Lo.refl _ | assumption | refine Lo.drew ?_ | refine Lo.alloc ?_ _ | refine Lo.setCell ?_ (by first | (dsimp only; omega) | (simp; omega) | (simp; done)) _ | refine Lo.trans ?_ (by assumption)))⟩
theorem enters_when1 : Enters Tryz.prog 99 := enters_of Tryz.func99 (by kernel_rfl) rfl

set_option maxRecDepth 100000 in
set_option maxHeartbeats 1600000 in
theorem when_ (x : Pl.When) (hs : List Pl.Head) (A : Option Addr) (cap : Nat) (c0 c1 m t p q h bd : Value) {B : Nat} (w : World) (hB : B ≤ w.heap.size) (hx : WhenR B w x [c0, c1]) (hA : SliceAt HeadR 2 B w A hs) (h100 : hs.length ≤ 1000) :
    Calls Tryz.prog 83 #[.agg #[c0, c1], .agg #[m, t, p, q, h, .slice A hs.length cap, bd]] w fun e w' => e = .returned (.bool (whenP hs x)) ∧ Lo w w' := by
  obtain ⟨d0, d1, he, ⟨e0, z0⟩, ⟨A1, p1, e1, h1, l1, m1⟩⟩ := hx
  injection he with q0 he; injection he with q1 he
  subst q0 q1
  injection e0 with e0; injection e1 with e1
  subst e0 e1
  have C0 : ∀ W, Lo w W → Calls Tryz.prog 98 #[.string x.head, .slice A hs.length cap] W fun e w' => ∃ v, e = .returned v ∧ Lo W w' ∧ RowF (fun _ => True) StrC 9 1 W.heap.size w' v (valsOf x.head hs) := fun W hW =>
    all x.head A cap hs W (Nat.le_trans hB hW.size) (SliceAt.lo HeadR.kept hA hW hB) h100
  have C1 : ∀ (W : World) (v : Value) (b base : Nat), Lo w W → RowF (fun _ => True) StrC 9 1 base W v (valsOf x.head hs) → W.cell? ⟨b, 1, none⟩ = some (.slice A1 x.terms.length p1) →
      Calls Tryz.prog 97 #[v, .func (.func 99) #[] #[.pointer (some ⟨b, 0, none⟩)]] W fun e w' => e = .returned (.bool (whenP hs x)) ∧ Lo W w' := fun W v b base hW hv hc => by
    obtain ⟨A2, cap2, rfl, hA2, hl2, hm2⟩ := hv.at
    refine WIdxStr.containsFunc StrC.kept cap2 W (Nat.le_refl _) hA2 (Nat.le_trans hl2 hm2) enters_when1 ?_
    intro W' s c0 hs hlo hr
    obtain ⟨ea, zs⟩ := hr
    injection ea with ea; subst ea
    exact when1 s x.terms A1 p1 b W' (Nat.le_trans hB (hW.trans hlo).size) (SliceAt.lo TermR.kept h1 (hW.trans hlo) hB) (lo_keep hlo hc) zs (Nat.le_trans l1 m1)
  generalize whenP hs x = r at *
  have H0 := Lib.hid C0
  have H1 := Lib.hid C1
  clear C0 C1 h1 hA
  generalize x.terms.length = n1 at *
  generalize hs.length = n2 at *
  go_enter Tryz.func83, Tryz.ntmps83
  go_wp2_with (first
    | (go_at_call 98; refine (H0.out _ ?_).mono ?_; (exact (by repeat (first | exact Lo.refl _ | assumption | refine Lo.drew ?_ | refine Lo.alloc ?_ _ | refine Lo.setCell ?_ (by first | (dsimp only; omega) | (simp; omega) | (simp; done)) _ | refine Lo.trans ?_ (by assumption)))); rintro e w1 ⟨v, rfl, hb, hv⟩; obtain ⟨hc, hf, hz⟩ := hb.facts; have hz0 := hz w.heap.size (by first | assumption | (simp; done) | (simp; omega)); have hq0 := fun o => hc w.heap.size o (by first | assumption | (simp; done) | (simp; omega)); have hz1 := hz (w.heap.size + 1) (by first | assumption | (simp; done) | (simp; omega)); have hq1 := fun o => hc (w.heap.size + 1) o (by first | assumption | (simp; done) | (simp; omega)))
    | (go_at_call 97; refine (H1.out _ _ _ _ ?_ hv ?_).mono ?_; (exact (by repeat (first | exact Lo.refl _ | assumption | refine Lo.drew ?_ | refine Lo.alloc ?_ _ | refine Lo.setCell ?_ (by first | (dsimp only; omega) | (simp; omega) | (simp; done)) _ | refine Lo.trans ?_ (by assumption)))); (exact (hq0 1).trans (by simp)); rintro e w2 ⟨rfl, hb2⟩))
  go_ret
  exact ⟨rfl, (by repeat (first | exact Lo.refl _ | assumption | refine Lo.drew ?_ | refine Lo.alloc ?_ _ | refine Lo.setCell ?_ (by first | (dsimp only; omega) | (simp; omega) | (simp; done)) _ | refine Lo.trans ?_ (by assumption)))⟩
end Go.Proofs.YtnclifgiakmmoaaGreat.WAuth

/- The walks of auth.all and auth.Matches. -/
namespace Go.Proofs.YtnclifgiakmmoaaGreat.Mem
set_option linter.unusedVariables false
set_option linter.unusedSimpArgs false
open Go.RowKit
/-- a block's first cells -/
def BoxAt (w : World) (b : Nat) (cs : List Value) : Prop := ∀ (j : Nat) v, cs[j]? = some v → w.cell? ⟨b, j, none⟩ = some v
theorem BoxAt.lo {w w' : World} {b : Nat} {cs : List Value} (h : BoxAt w b cs) (hl : Lo w w') : BoxAt w' b cs := fun j v hj => lo_keep hl (h j v hj)
theorem BoxAt.new (w : World) (cs : Array Value) (t : TypeId) : BoxAt (w.alloc (.cells cs t)) w.heap.size cs.toList := by
  intro j v hj
  simp only [World.cell?, heap_alloc_new]
  simpa using hj
theorem BoxAt.old {w : World} {b : Nat} {cs : List Value} (h : BoxAt w b cs) (o : Obj) : BoxAt (w.alloc o) b cs := h.lo ((Lo.refl _).alloc _)
theorem BoxAt.newAt {w : World} {b : Nat} (cs : Array Value) (t : TypeId) (h : b = w.heap.size) : BoxAt (w.alloc (.cells cs t)) b cs.toList := by subst h; exact BoxAt.new _ _ _
theorem BoxAt.lt {w : World} {b : Nat} {v : Value} {cs : List Value} (h : BoxAt w b (v :: cs)) : b < w.heap.size := World.block_lt_of_cell? w _ (h 0 v rfl)
end Go.Proofs.YtnclifgiakmmoaaGreat.Mem
namespace Go.Proofs.YtnclifgiakmmoaaGreat.WAuth
set_option linter.unusedVariables false
set_option linter.unusedSimpArgs false
open Go.RowKit Mem BigFrame WMatch WAddr WName Opn

theorem allWhen1 {p : Bool} (c0 c1 : Value) (g : FuncId) (caps : Array Value) (b : Nat) (w : World) (hc : w.cell? ⟨b, 0, none⟩ = some (.func (.func g) #[] caps)) (eg : Go.Proofs.Enters Tryz.prog g)
    (hf : ∀ W, Lo w W → Calls Tryz.prog g (#[.agg #[c0, c1]] ++ caps) W fun e w' => e = .returned (.bool p) ∧ Lo W w') :
    Calls Tryz.prog 96 #[.agg #[c0, c1], .pointer (some ⟨b, 0, none⟩)] w fun e w' => e = .returned (.bool (!p)) ∧ Lo w w' := by
  have HF := Lib.hid hf
  clear hf
  unfold Go.Proofs.Enters at eg
  have hb := World.block_lt_of_cell? w _ hc
  go_enter Tryz.func96, Tryz.ntmps96
  go_wp2_with fail
  refine (HF.out _ ?_).mono ?_
  · exact (by repeat (first | exact Lo.refl _ | assumption | refine Lo.drew ?_ | refine Lo.alloc ?_ _ | refine Lo.setCell ?_ (by first | (dsimp only; omega) | (simp; omega) | (simp; done)) _ | refine Lo.trans ?_ (by assumption)))
  rintro e w1 ⟨rfl, hb1⟩
  go_wp2
  go_ret
  exact ⟨rfl, (by repeat (first | exact Lo.refl _ | assumption | refine Lo.drew ?_ | refine Lo.alloc ?_ _ | refine Lo.setCell ?_ (by first | (dsimp only; omega) | (simp; omega) | (simp; done)) _ | refine Lo.trans ?_ (by assumption)))⟩
theorem enters_allWhen1 : Enters Tryz.prog 96 := enters_of Tryz.func96 (by kernel_rfl) rfl
theorem all_not {α : Type} (xs : List α) (p : α → Bool) : (!(xs.any fun x => !p x)) = xs.all p := by
  induction xs with
  | nil => rfl
  | cons x r ih => simp only [List.any_cons, List.all_cons, Bool.not_or, ih, Bool.not_not]
theorem allWhen {α : Type} {R : Rel α} (hR : Kept R) {B : Nat} {A : Option Addr} (cap : Nat) {xs : List α} {g : FuncId} {caps : Array Value} {p : α → Bool} (w : World) (hB : B ≤ w.heap.size) (hA : SliceAt R 2 B w A xs) (hn : xs.length ≤ maxLen) (eg : Go.Proofs.Enters Tryz.prog g) (hf : WIdxWhen.Says R B w xs g caps p) :
    Calls Tryz.prog 81 #[.slice A xs.length cap, .func (.func g) #[] caps] w fun e w' => e = .returned (.bool (xs.all p)) ∧ Lo w w' := by
  have HC : ∀ (W : World) (b : Nat), Lo w W → W.cell? ⟨b, 0, none⟩ = some (.func (.func g) #[] caps) →
      Calls Tryz.prog 95 #[.slice A xs.length cap, .func (.func 96) #[] #[.pointer (some ⟨b, 0, none⟩)]] W fun e w' => e = .returned (.bool (xs.any fun x => !p x)) ∧ Lo W w' := fun W b hW hc => by
    refine WIdxWhen.containsFunc hR cap W (Nat.le_trans hB hW.size) (SliceAt.lo hR hA hW hB) hn enters_allWhen1 ?_
    intro W' x c0 c1 hx hlo hr
    refine allWhen1 c0 c1 g caps b W' (lo_keep hlo hc) eg fun W2 hW2 => hf W2 x c0 c1 hx ((hW.trans hlo).trans hW2) ?_
    exact hR _ _ _ _ _ _ hr (fun q hq => hW2.cell q (Nat.lt_of_lt_of_le hq (Nat.le_trans hB (hW.trans hlo).size))) (Nat.le_refl _)
  have H := Lib.hid HC
  rw [← all_not]
  clear HC hf hA
  generalize (xs.any fun x => !p x) = r at *
  generalize xs.length = n at *
  go_enter Tryz.func81, Tryz.ntmps81
  go_wp2_with fail
  refine (H.out _ _ ?_ ?_).mono ?_
  · exact (by repeat (first | exact Lo.refl _ | assumption | refine Lo.drew ?_ | refine Lo.alloc ?_ _ | refine Lo.setCell ?_ (by first | (dsimp only; omega) | (simp; omega) | (simp; done)) _ | refine Lo.trans ?_ (by assumption)))
  · simp
  rintro e w1 ⟨rfl, hb⟩
  go_wp2
  go_ret
  exact ⟨rfl, (by repeat (first | exact Lo.refl _ | assumption | refine Lo.drew ?_ | refine Lo.alloc ?_ _ | refine Lo.setCell ?_ (by first | (dsimp only; omega) | (simp; omega) | (simp; done)) _ | refine Lo.trans ?_ (by assumption)))⟩

theorem matches1 (s : Pl.Source) (a : Pl.Asker) (c0 c1 c2 : Value) (b : Nat) {B : Nat} (w : World) (hB : B ≤ w.heap.size) (hs : SourceR B w s [c0, c1, c2]) (zn : a.ns.size ≤ maxLen) (za : a.sa.size ≤ maxLen) (hb : BoxAt w b [.string a.ns, .string a.sa, .int .u32 a.addr]) :
    Calls Tryz.prog 76 #[.agg #[c0, c1, c2], .pointer (some ⟨b, 0, none⟩)] w fun e w' => e = .returned (.bool (srcP a s)) ∧ Lo w w' := by
  have h0 := hb 0 _ rfl
  have h1 := hb 1 _ rfl
  have h2 := hb 2 _ rfl
  have hlt := hb.lt
  have HS : Hid (∀ W, Lo w W → Calls Tryz.prog 77 #[.agg #[c0, c1, c2], .agg #[.string a.ns, .string a.sa, .int .u32 a.addr]] W fun e w' => e = .returned (.bool (srcP a s)) ∧ Lo W w') :=
    Lib.hid fun W hW => source s a c0 c1 c2 W (Nat.le_trans hB hW.size) (SourceR.kept _ _ _ _ _ _ hs (hW.cells hB) (Nat.le_refl _)) zn za
  clear hs hb
  go_enter Tryz.func76, Tryz.ntmps76
  go_wp2_with (go_at_call 77; refine (HS.out _ ?_).mono ?_; (exact (by repeat (first | exact Lo.refl _ | assumption | refine Lo.drew ?_ | refine Lo.alloc ?_ _ | refine Lo.setCell ?_ (by first | (dsimp only; omega) | (simp; omega) | (simp; done)) _ | refine Lo.trans ?_ (by assumption)))); rintro e w1 ⟨rfl, hb⟩)
  go_ret
  exact ⟨rfl, (by repeat (first | exact Lo.refl _ | assumption | refine Lo.drew ?_ | refine Lo.alloc ?_ _ | refine Lo.setCell ?_ (by first | (dsimp only; omega) | (simp; omega) | (simp; done)) _ | refine Lo.trans ?_ (by assumption)))⟩
theorem matches2 (t : Pl.Target) (port : Int) (q : Pl.Req) (tg qu : ByteArray) (hd bd : Value) (c0 c1 c2 c3 : Value) (b1 b2 : Nat) {B : Nat} (w : World) (hB : B ≤ w.heap.size) (ht : TargetR B w t [c0, c1, c2, c3]) (zm : q.method.size ≤ maxLen) (zp : q.path.size ≤ maxLen) (zh : q.host.size ≤ maxLen)
    (hp : BoxAt w b1 [.int .i64 port]) (hq : BoxAt w b2 [.string q.method, .string tg, .string q.path, .string qu, .string q.host, hd, bd]) :
    Calls Tryz.prog 79 #[.agg #[c0, c1, c2, c3], .pointer (some ⟨b1, 0, none⟩), .pointer (some ⟨b2, 0, none⟩)] w fun e w' => e = .returned (.bool (tgtP port q t)) ∧ Lo w w' := by
  have h0 := hp 0 _ rfl
  have g0 := hq 0 _ rfl
  have g1 := hq 1 _ rfl
  have g2 := hq 2 _ rfl
  have g3 := hq 3 _ rfl
  have g4 := hq 4 _ rfl
  have g5 := hq 5 _ rfl
  have g6 := hq 6 _ rfl
  have hlt1 := hp.lt
  have hlt2 := hq.lt
  have HS : Hid (∀ W, Lo w W → Calls Tryz.prog 80 #[.agg #[c0, c1, c2, c3], .int .i64 port, .agg #[.string q.method, .string tg, .string q.path, .string qu, .string q.host, hd, bd]] W fun e w' => e = .returned (.bool (tgtP port q t)) ∧ Lo W w') :=
    Lib.hid fun W hW => target t port q c0 c1 c2 c3 tg qu hd bd W (Nat.le_trans hB hW.size) (TargetR.kept _ _ _ _ _ _ ht (hW.cells hB) (Nat.le_refl _)) zm zp zh
  clear ht hp hq
  go_enter Tryz.func79, Tryz.ntmps79
  go_wp2_with (go_at_call 80; refine (HS.out _ ?_).mono ?_; (exact (by repeat (first | exact Lo.refl _ | assumption | refine Lo.drew ?_ | refine Lo.alloc ?_ _ | refine Lo.setCell ?_ (by first | (dsimp only; omega) | (simp; omega) | (simp; done)) _ | refine Lo.trans ?_ (by assumption)))); rintro e w1 ⟨rfl, hb⟩)
  go_ret
  exact ⟨rfl, (by repeat (first | exact Lo.refl _ | assumption | refine Lo.drew ?_ | refine Lo.alloc ?_ _ | refine Lo.setCell ?_ (by first | (dsimp only; omega) | (simp; omega) | (simp; done)) _ | refine Lo.trans ?_ (by assumption)))⟩
theorem matches3 (x : Pl.When) (hs : List Pl.Head) (A : Option Addr) (cap : Nat) (m t p q h bd : Value) (c0 c1 : Value) (b : Nat) {B : Nat} (w : World) (hB : B ≤ w.heap.size) (hx : WhenR B w x [c0, c1]) (hA : SliceAt HeadR 2 B w A hs) (h100 : hs.length ≤ 1000)
    (hq : BoxAt w b [m, t, p, q, h, .slice A hs.length cap, bd]) :
    Calls Tryz.prog 82 #[.agg #[c0, c1], .pointer (some ⟨b, 0, none⟩)] w fun e w' => e = .returned (.bool (whenP hs x)) ∧ Lo w w' := by
  have g0 := hq 0 _ rfl
  have g1 := hq 1 _ rfl
  have g2 := hq 2 _ rfl
  have g3 := hq 3 _ rfl
  have g4 := hq 4 _ rfl
  have g5 := hq 5 _ rfl
  have g6 := hq 6 _ rfl
  have hlt := hq.lt
  have HS : Hid (∀ W, Lo w W → Calls Tryz.prog 83 #[.agg #[c0, c1], .agg #[m, t, p, q, h, .slice A hs.length cap, bd]] W fun e w' => e = .returned (.bool (whenP hs x)) ∧ Lo W w') :=
    Lib.hid fun W hW => when_ x hs A cap c0 c1 m t p q h bd W (Nat.le_trans hB hW.size) (WhenR.kept _ _ _ _ _ _ hx (hW.cells hB) (Nat.le_refl _)) (SliceAt.lo HeadR.kept hA hW hB) h100
  clear hx hA hq
  go_enter Tryz.func82, Tryz.ntmps82
  go_wp2_with (go_at_call 83; refine (HS.out _ ?_).mono ?_; (exact (by repeat (first | exact Lo.refl _ | assumption | refine Lo.drew ?_ | refine Lo.alloc ?_ _ | refine Lo.setCell ?_ (by first | (dsimp only; omega) | (simp; omega) | (simp; done)) _ | refine Lo.trans ?_ (by assumption)))); rintro e w1 ⟨rfl, hb⟩)
  go_ret
  exact ⟨rfl, (by repeat (first | exact Lo.refl _ | assumption | refine Lo.drew ?_ | refine Lo.alloc ?_ _ | refine Lo.setCell ?_ (by first | (dsimp only; omega) | (simp; omega) | (simp; done)) _ | refine Lo.trans ?_ (by assumption)))⟩
theorem enters_matches1 : Enters Tryz.prog 76 := enters_of Tryz.func76 (by kernel_rfl) rfl
theorem enters_matches2 : Enters Tryz.prog 79 := enters_of Tryz.func79 (by kernel_rfl) rfl
theorem enters_matches3 : Enters Tryz.prog 82 := enters_of Tryz.func82 (by kernel_rfl) rfl

def matchP (a : Pl.Asker) (port : Int) (q : Pl.Req) (r : Pl.Rule) : Bool := (r.from_.isEmpty || r.from_.any (srcP a)) && (r.to_.isEmpty || r.to_.any (tgtP port q)) && r.when_.all (whenP q.heads)

/-- what of an asker and a request fits in memory -/
structure Fits (B : Nat) (w : World) (a : Pl.Asker) (q : Pl.Req) (A : Option Addr) : Prop where
  ns : a.ns.size ≤ maxLen
  sa : a.sa.size ≤ maxLen
  method : q.method.size ≤ maxLen
  path : q.path.size ≤ maxLen
  host : q.host.size ≤ maxLen
  heads : SliceAt HeadR 2 B w A q.heads
  few : q.heads.length ≤ 1000
theorem Fits.lo {B : Nat} {w w' : World} {a : Pl.Asker} {q : Pl.Req} {A : Option Addr} (h : Fits B w a q A) (hl : Lo w w') (hB : B ≤ w.heap.size) : Fits B w' a q A :=
  { h with heads := SliceAt.lo HeadR.kept h.heads hl hB }

set_option maxRecDepth 100000 in
set_option maxHeartbeats 4000000 in
theorem matches_ (r : Pl.Rule) (a : Pl.Asker) (port : Int) (q : Pl.Req) (A : Option Addr) (cap : Nat) (tg qu : ByteArray) (bd : Value) (c0 c1 c2 : Value) {B : Nat} (w : World) (hB : B ≤ w.heap.size) (hr : RuleR B w r [c0, c1, c2]) (hf : Fits B w a q A) :
    Calls Tryz.prog 63 #[.agg #[c0, c1, c2], .agg #[.string a.ns, .string a.sa, .int .u32 a.addr], .int .i64 port, .agg #[.string q.method, .string tg, .string q.path, .string qu, .string q.host, .slice A q.heads.length cap, bd]] w fun e w' => e = .returned (.bool (matchP a port q r)) ∧ Lo w w' := by
  obtain ⟨d0, d1, d2, he, ⟨A0, p0, e0, h0, l0, m0⟩, ⟨A1, p1, e1, h1, l1, m1⟩, ⟨A2, p2, e2, h2, l2, m2⟩⟩ := hr
  injection he with q0 he; injection he with q1 he; injection he with q2 he
  subst q0 q1 q2
  injection e0 with e0; injection e1 with e1; injection e2 with e2
  subst e0 e1 e2
  have C0 : ∀ (W : World) (b : Nat), Lo w W → BoxAt W b [.string a.ns, .string a.sa, .int .u32 a.addr] → Calls Tryz.prog 75 #[.slice A0 r.from_.length p0, .func (.func 76) #[] #[.pointer (some ⟨b, 0, none⟩)]] W fun e w' => e = .returned (.bool (r.from_.isEmpty || r.from_.any (srcP a))) ∧ Lo W w' := fun W b hW hb => by
    refine letsSource SourceR.kept p0 W (Nat.le_trans hB hW.size) (SliceAt.lo SourceR.kept h0 hW hB) (Nat.le_trans l0 m0) enters_matches1 ?_
    intro W' x c0 c1 c2 hx hlo hr
    exact matches1 x a c0 c1 c2 b W' (Nat.le_trans hB (hW.trans hlo).size) hr hf.ns hf.sa (hb.lo hlo)
  have C1 : ∀ (W : World) (b1 b2 : Nat), Lo w W → BoxAt W b1 [.int .i64 port] → BoxAt W b2 [.string q.method, .string tg, .string q.path, .string qu, .string q.host, .slice A q.heads.length cap, bd] → Calls Tryz.prog 78 #[.slice A1 r.to_.length p1, .func (.func 79) #[] #[.pointer (some ⟨b1, 0, none⟩), .pointer (some ⟨b2, 0, none⟩)]] W fun e w' => e = .returned (.bool (r.to_.isEmpty || r.to_.any (tgtP port q))) ∧ Lo W w' := fun W b1 b2 hW hb hb2 => by
    refine letsTarget TargetR.kept p1 W (Nat.le_trans hB hW.size) (SliceAt.lo TargetR.kept h1 hW hB) (Nat.le_trans l1 m1) enters_matches2 ?_
    intro W' x c0 c1 c2 c3 hx hlo hr
    exact matches2 x port q tg qu _ bd c0 c1 c2 c3 b1 b2 W' (Nat.le_trans hB (hW.trans hlo).size) hr hf.method hf.path hf.host (hb.lo hlo) (hb2.lo hlo)
  have C2 : ∀ (W : World) (b : Nat), Lo w W → BoxAt W b [.string q.method, .string tg, .string q.path, .string qu, .string q.host, .slice A q.heads.length cap, bd] → Calls Tryz.prog 81 #[.slice A2 r.when_.length p2, .func (.func 82) #[] #[.pointer (some ⟨b, 0, none⟩)]] W fun e w' => e = .returned (.bool (r.when_.all (whenP q.heads))) ∧ Lo W w' := fun W b hW hb => by
    refine allWhen WhenR.kept p2 W (Nat.le_trans hB hW.size) (SliceAt.lo WhenR.kept h2 hW hB) (Nat.le_trans l2 m2) enters_matches3 ?_
    intro W' x c0 c1 hx hlo hr
    exact matches3 x q.heads A cap _ _ _ _ _ bd c0 c1 b W' (Nat.le_trans hB (hW.trans hlo).size) hr (SliceAt.lo HeadR.kept hf.heads (hW.trans hlo) hB) hf.few (hb.lo hlo)
  unfold matchP
  generalize (r.from_.isEmpty || r.from_.any (srcP a)) = x at *
  generalize (r.to_.isEmpty || r.to_.any (tgtP port q)) = y at *
  generalize r.when_.all (whenP q.heads) = z at *
  have H0 := Lib.hid C0
  have H1 := Lib.hid C1
  have H2 := Lib.hid C2
  clear C0 C1 C2 h0 h1 h2 hf
  generalize r.from_.length = n0 at *
  generalize r.to_.length = n1 at *
  generalize r.when_.length = n2 at *
  generalize q.heads.length = n3 at *
  cases x <;> cases y
  all_goals
    go_enter Tryz.func63, Tryz.ntmps63
    go_wp2_with (first
      | (go_at_call 75; (have gA := BoxAt.old (BoxAt.old (BoxAt.newAt (w := w.alloc (.cells #[.slice A0 n0 p0, .slice A1 n1 p1, .slice A2 n2 p2] 27)) #[.string a.ns, .string a.sa, .int .u32 a.addr] 33 (by simp : w.heap.size + 1 = _)) (.cells #[.int .i64 port] 3)) (.cells #[.string q.method, .string tg, .string q.path, .string qu, .string q.host, .slice A n3 cap, bd] 37)); (have gP := BoxAt.old (BoxAt.newAt (w := (w.alloc (.cells #[.slice A0 n0 p0, .slice A1 n1 p1, .slice A2 n2 p2] 27)).alloc (.cells #[.string a.ns, .string a.sa, .int .u32 a.addr] 33)) #[.int .i64 port] 3 (by simp : w.heap.size + 2 = _)) (.cells #[.string q.method, .string tg, .string q.path, .string qu, .string q.host, .slice A n3 cap, bd] 37)); (have gQ := BoxAt.newAt (w := ((w.alloc (.cells #[.slice A0 n0 p0, .slice A1 n1 p1, .slice A2 n2 p2] 27)).alloc (.cells #[.string a.ns, .string a.sa, .int .u32 a.addr] 33)).alloc (.cells #[.int .i64 port] 3)) #[.string q.method, .string tg, .string q.path, .string qu, .string q.host, .slice A n3 cap, bd] 37 (by simp : w.heap.size + 3 = _)); refine (H0.out _ _ ?_ gA).mono ?_; (exact (by repeat (first | exact Lo.refl _ | assumption | refine Lo.drew ?_ | refine Lo.alloc ?_ _ | refine Lo.setCell ?_ (by first | (dsimp only; omega) | (simp; omega) | (simp; done)) _ | refine Lo.trans ?_ (by assumption)))); rintro e w1 ⟨rfl, hb⟩; (have gP := gP.lo hb); (have gQ := gQ.lo hb); obtain ⟨hc, hf, hz⟩ := hb.facts; have hz0 := hz w.heap.size (by first | assumption | (simp; done) | (simp; omega)); have hq0 := fun o => hc w.heap.size o (by first | assumption | (simp; done) | (simp; omega)); have hz1 := hz (w.heap.size + 1) (by first | assumption | (simp; done) | (simp; omega)); have hq1 := fun o => hc (w.heap.size + 1) o (by first | assumption | (simp; done) | (simp; omega)); have hz2 := hz (w.heap.size + 2) (by first | assumption | (simp; done) | (simp; omega)); have hq2 := fun o => hc (w.heap.size + 2) o (by first | assumption | (simp; done) | (simp; omega)); have hz3 := hz (w.heap.size + 3) (by first | assumption | (simp; done) | (simp; omega)); have hq3 := fun o => hc (w.heap.size + 3) o (by first | assumption | (simp; done) | (simp; omega)))
      | (go_at_call 78; refine (H1.out _ _ _ ?_ gP gQ).mono ?_; (exact (by repeat (first | exact Lo.refl _ | assumption | refine Lo.drew ?_ | refine Lo.alloc ?_ _ | refine Lo.setCell ?_ (by first | (dsimp only; omega) | (simp; omega) | (simp; done)) _ | refine Lo.trans ?_ (by assumption)))); rintro e w2 ⟨rfl, hb⟩; (have gQ := gQ.lo hb); obtain ⟨hc, hf, hz⟩ := hb.facts; have hz0 := hz w.heap.size (by first | assumption | (simp; done) | (simp; omega)); have hq0 := fun o => hc w.heap.size o (by first | assumption | (simp; done) | (simp; omega)); have hz1 := hz (w.heap.size + 1) (by first | assumption | (simp; done) | (simp; omega)); have hq1 := fun o => hc (w.heap.size + 1) o (by first | assumption | (simp; done) | (simp; omega)); have hz2 := hz (w.heap.size + 2) (by first | assumption | (simp; done) | (simp; omega)); have hq2 := fun o => hc (w.heap.size + 2) o (by first | assumption | (simp; done) | (simp; omega)); have hz3 := hz (w.heap.size + 3) (by first | assumption | (simp; done) | (simp; omega)); have hq3 := fun o => hc (w.heap.size + 3) o (by first | assumption | (simp; done) | (simp; omega)))
      | (go_at_call 81; refine (H2.out _ _ ?_ gQ).mono ?_; (exact (by repeat (first | exact Lo.refl _ | assumption | refine Lo.drew ?_ | refine Lo.alloc ?_ _ | refine Lo.setCell ?_ (by first | (dsimp only; omega) | (simp; omega) | (simp; done)) _ | refine Lo.trans ?_ (by assumption)))); rintro e w3 ⟨rfl, hb⟩))
    go_ret
    exact ⟨ret_bool (by simp), (by repeat (first | exact Lo.refl _ | assumption | refine Lo.drew ?_ | refine Lo.alloc ?_ _ | refine Lo.setCell ?_ (by first | (dsimp only; omega) | (simp; omega) | (simp; done)) _ | refine Lo.trans ?_ (by assumption)))⟩
end Go.Proofs.YtnclifgiakmmoaaGreat.WAuth
