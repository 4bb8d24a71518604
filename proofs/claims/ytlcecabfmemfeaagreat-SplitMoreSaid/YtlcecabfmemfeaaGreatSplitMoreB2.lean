/- Merged by bundle.py: SimSp4, SimBr13a, SimSp5, SimSp6, SimSp7, SimSp8, SimX. -/
import Derived.Test.YtlcecabfmemfeaaGreatSplitMoreB1
import Derived.Test.YtlcecabfmemfeaaGreatWJudge
import Derived.Test.YtlcecabfmemfeaaGreatWLong3
/- split.table and the halves, by the logic of states. -/
namespace Go.Proofs.YtlcecabfmemfeaaGreat.Pol
set_option linter.unusedVariables false
set_option linter.unusedSimpArgs false
open Go.RowKit Mem Sim Opn
abbrev TB (fd fa : FuncId) (t0 : T) (al : Int) : List (Nat × List A) := [(2000, [.t (.clo fd [])]), (2001, [.t (.clo fa [])]), (2002, [.t t0, .t (.v (.int .i64 al))])]
def updA (al : Int) (p : Pl.Policy) : Int := if p.deny = 1 then al else 1
abbrev RulesL (f : FuncId) (k : Nat) : Prop := ∀ l : List Pl.Rule, l.length ≤ 1000 → (∀ r ∈ l, FewR r) → LCalls Tryz.prog f [.own 1000 (l.map ruleT).length] [] [(1000, ⟨46, 3, l.map ruleT⟩)] (.t (.sl 3 ((Pl.what k l).map ruleT))) [] []
set_option maxRecDepth 100000 in
set_option maxHeartbeats 2000000 in
theorem table1 (fd fa : FuncId) (D K : Nat) (hD : RulesL fd D) (hA : RulesL fa K) (p : Pl.Policy) (hp : FewP p) (t0 : T) (al : Int) :
    LCalls Tryz.prog 58 [.t (.agg (polT p)), .bp 2000 0, .bp 2001 0, .bp 2002 0] (TB fd fa t0 al) [] (.t (.agg (polT (Pl.halfP D K p)))) (TB fd fa t0 (updA al p)) [] := by
  have c1 := ownPol p hp
  have c2 := hD p.rules hp.n hp.r
  have c3 := hA p.rules hp.n hp.r
  unfold Pl.halfP updA
  refine lcalls_of Tryz.func58 rfl rfl Tryz.ntmps58 rfl ?_
  by_cases hd : p.deny = 1
  · rw [if_pos hd, if_pos hd]
    repeat' (first
      | refine then_go ?_
      | refine swp_seq ?_
      | ((refine swp_region (id := 0) ?_) <;> (refine sops_box (.free rfl rfl) rfl rfl rfl rfl rfl rfl ?_) <;> (refine sops_allocS str50 (.free rfl rfl) rfl rfl rfl rfl ?_) <;> (refine sops_nil ?_))
      | ((refine swp_region (id := 1) ?_) <;> (first | refine sops_pure (.free rfl rfl) rfl rfl (po_load_bx_agg rfl rfl (tyT rfl) rfl (vc (vc (vc (vc (vc .nil))))) rfl) ?_ | refine sops_pure (.free rfl rfl) rfl rfl (po_load_agg rfl rfl (tyT rfl) rfl rfl) ?_) <;> (first | refine sops_lcall (c2) (fun i => i) (fun i => i) (fun _ => false) (.free rfl rfl) rfl rfl rfl (by first | ((repeat' (first | exact .nil | refine .cons rfl rfl rfl ?_ | refine .vw rfl (by first | exact .t _ | exact .own rfl (by first | rfl | assumption | (simp; done) | (simp; omega)) | exact .nil _ | exact .emp _ | exact .fn _) ?_)) <;> fail) | fail) .nil (.cons rfl rfl .nil) rfl rfl (fun _ h => Bool.noConfusion h) ?_ | refine sops_lcall (c1) (fun i => i) (fun i => i) (fun _ => false) (.free rfl rfl) rfl rfl rfl (by first | ((repeat' (first | exact .nil | refine .cons rfl rfl rfl ?_ | refine .vw rfl (by first | exact .t _ | exact .own rfl (by first | rfl | assumption | (simp; done) | (simp; omega)) | exact .nil _ | exact .emp _ | exact .fn _) ?_)) <;> fail) | fail) .nil .nil rfl rfl (fun _ h => Bool.noConfusion h) ?_) <;> (refine sops_store (.free rfl rfl) rfl rfl rfl rfl rfl rfl (tyT rfl) rfl rfl ?_) <;> (refine sops_nil ?_))
      | ((refine swp_region (id := 2) ?_) <;> (first | refine sops_pure (.free rfl rfl) rfl rfl (po_field_bx rfl rfl (tyF rfl)) ?_ | refine sops_pure (.free rfl rfl) rfl rfl (po_field rfl rfl (tyF rfl)) ?_) <;> (first | refine sops_pure (.free rfl rfl) rfl rfl (po_load_bx rfl rfl (tyT rfl) rfl rfl) ?_ | refine sops_pure (.free rfl rfl) rfl rfl (po_load rfl rfl (tyT rfl) rfl) ?_) <;> (refine sops_pure (.free rfl rfl) rfl rfl (po_cmp rfl rfl rfl rfl) ?_) <;> (refine sops_nil ?_))
      | ((refine swp_region (id := 3) ?_) <;> (first | refine sops_pure (.free rfl rfl) rfl rfl (po_load_bx rfl rfl (tyT rfl) rfl rfl) ?_ | refine sops_pure (.free rfl rfl) rfl rfl (po_load rfl rfl (tyT rfl) rfl) ?_) <;> (first | refine sops_pure (.free rfl rfl) rfl rfl (po_field_bx rfl rfl (tyF rfl)) ?_ | refine sops_pure (.free rfl rfl) rfl rfl (po_field rfl rfl (tyF rfl)) ?_) <;> (first | refine sops_pure (.free rfl rfl) rfl rfl (po_load_bx rfl rfl (tyT rfl) rfl rfl) ?_ | refine sops_pure (.free rfl rfl) rfl rfl (po_load rfl rfl (tyT rfl) rfl) ?_) <;> (first | refine sops_lcall_tclo (args := [_]) (caps := []) (c2) (fun i => i) (fun i => i) (fun _ => false) (.free rfl rfl) rfl rfl rfl rfl (by first | ((repeat' (first | exact .nil | refine .cons rfl rfl rfl ?_ | refine .vw rfl (by first | exact .t _ | exact .own rfl (by first | rfl | assumption | (simp; done) | (simp; omega)) | exact .nil _ | exact .emp _ | exact .fn _) ?_)) <;> fail) | fail) .nil (.cons rfl rfl .nil) rfl rfl (fun _ h => Bool.noConfusion h) ?_ | refine sops_lcall_clo (args := [_]) (caps0 := []) (c2) (fun i => i) (fun i => i) (fun _ => false) (.free rfl rfl) rfl rfl rfl rfl rfl rfl (by first | ((repeat' (first | exact .nil | refine .cons rfl rfl rfl ?_ | refine .vw rfl (by first | exact .t _ | exact .own rfl (by first | rfl | assumption | (simp; done) | (simp; omega)) | exact .nil _ | exact .emp _ | exact .fn _) ?_)) <;> fail) | fail) .nil (.cons rfl rfl .nil) rfl rfl (fun _ h => Bool.noConfusion h) ?_ | refine sops_lcall_tclo (args := [_]) (caps := []) (c1) (fun i => i) (fun i => i) (fun _ => false) (.free rfl rfl) rfl rfl rfl rfl (by first | ((repeat' (first | exact .nil | refine .cons rfl rfl rfl ?_ | refine .vw rfl (by first | exact .t _ | exact .own rfl (by first | rfl | assumption | (simp; done) | (simp; omega)) | exact .nil _ | exact .emp _ | exact .fn _) ?_)) <;> fail) | fail) .nil .nil rfl rfl (fun _ h => Bool.noConfusion h) ?_ | refine sops_lcall_clo (args := [_]) (caps0 := []) (c1) (fun i => i) (fun i => i) (fun _ => false) (.free rfl rfl) rfl rfl rfl rfl rfl rfl (by first | ((repeat' (first | exact .nil | refine .cons rfl rfl rfl ?_ | refine .vw rfl (by first | exact .t _ | exact .own rfl (by first | rfl | assumption | (simp; done) | (simp; omega)) | exact .nil _ | exact .emp _ | exact .fn _) ?_)) <;> fail) | fail) .nil .nil rfl rfl (fun _ h => Bool.noConfusion h) ?_) <;> (first | refine sops_pure (.free rfl rfl) rfl rfl (po_field_bx rfl rfl (tyF rfl)) ?_ | refine sops_pure (.free rfl rfl) rfl rfl (po_field rfl rfl (tyF rfl)) ?_) <;> (refine sops_store (.free rfl rfl) rfl rfl rfl rfl rfl rfl (tyT rfl) rfl rfl ?_) <;> (refine sops_nil ?_))
      | ((refine swp_region (id := 6) ?_) <;> (first | refine sops_pure (.free rfl rfl) rfl rfl (po_load_bx_agg rfl rfl (tyT rfl) rfl (vc (vc (vc (vc (vc .nil))))) rfl) ?_ | refine sops_pure (.free rfl rfl) rfl rfl (po_load_agg rfl rfl (tyT rfl) rfl rfl) ?_) <;> (refine sops_store (.free rfl rfl) rfl rfl rfl rfl rfl rfl (tyT rfl) rfl rfl ?_) <;> (refine sops_nil ?_))
      | refine swp_ret ?_
      | refine swp_skip ?_
      | refine swp_block ?_
      | refine swp_exit ?_
      | refine block_go ?_
      | refine block_exit ?_
      | refine block_far rfl ?_
      | refine block_ret ?_
      | refine then_ret ?_
      | refine then_exit ?_
      | refine for_ret ?_
      | refine for_exit ?_
      | refine ct ?_
      | refine cf ?_
      | refine swp_cond rfl (fun hc => ?_) (fun hc => ?_)
      | exact retl1 (by first | exact .inr rfl | exact .inl rfl) rfl (.cellT rfl rfl (tyT rfl) (vc (vc (vc (vc (vc .nil))))) rfl .nil) rfl (.cons rfl (by first | rfl | assumption | (symm; assumption)) rfl (.cons rfl (by first | rfl | assumption | (symm; assumption)) rfl (.cons rfl (by first | rfl | assumption | (symm; assumption)) rfl .nil))) .nil
      | refine retl (by first | exact .inr rfl | exact .inl rfl) rfl (.cellT rfl rfl (tyT rfl) (vc (vc (vc (vc (vc .nil))))) rfl .nil) ?_ rfl (.cons rfl (by first | rfl | assumption | (symm; assumption)) rfl (.cons rfl (by first | rfl | assumption | (symm; assumption)) rfl (.cons rfl (by first | rfl | assumption | (symm; assumption)) rfl .nil))) .nil)
  · rw [if_neg hd, if_neg hd]
    repeat' (first
      | refine then_go ?_
      | refine swp_seq ?_
      | ((refine swp_region (id := 0) ?_) <;> (refine sops_box (.free rfl rfl) rfl rfl rfl rfl rfl rfl ?_) <;> (refine sops_allocS str50 (.free rfl rfl) rfl rfl rfl rfl ?_) <;> (refine sops_nil ?_))
      | ((refine swp_region (id := 1) ?_) <;> (first | refine sops_pure (.free rfl rfl) rfl rfl (po_load_bx_agg rfl rfl (tyT rfl) rfl (vc (vc (vc (vc (vc .nil))))) rfl) ?_ | refine sops_pure (.free rfl rfl) rfl rfl (po_load_agg rfl rfl (tyT rfl) rfl rfl) ?_) <;> (first | refine sops_lcall (c3) (fun i => i) (fun i => i) (fun _ => false) (.free rfl rfl) rfl rfl rfl (by first | ((repeat' (first | exact .nil | refine .cons rfl rfl rfl ?_ | refine .vw rfl (by first | exact .t _ | exact .own rfl (by first | rfl | assumption | (simp; done) | (simp; omega)) | exact .nil _ | exact .emp _ | exact .fn _) ?_)) <;> fail) | fail) .nil (.cons rfl rfl .nil) rfl rfl (fun _ h => Bool.noConfusion h) ?_ | refine sops_lcall (c1) (fun i => i) (fun i => i) (fun _ => false) (.free rfl rfl) rfl rfl rfl (by first | ((repeat' (first | exact .nil | refine .cons rfl rfl rfl ?_ | refine .vw rfl (by first | exact .t _ | exact .own rfl (by first | rfl | assumption | (simp; done) | (simp; omega)) | exact .nil _ | exact .emp _ | exact .fn _) ?_)) <;> fail) | fail) .nil .nil rfl rfl (fun _ h => Bool.noConfusion h) ?_) <;> (refine sops_store (.free rfl rfl) rfl rfl rfl rfl rfl rfl (tyT rfl) rfl rfl ?_) <;> (refine sops_nil ?_))
      | ((refine swp_region (id := 2) ?_) <;> (first | refine sops_pure (.free rfl rfl) rfl rfl (po_field_bx rfl rfl (tyF rfl)) ?_ | refine sops_pure (.free rfl rfl) rfl rfl (po_field rfl rfl (tyF rfl)) ?_) <;> (first | refine sops_pure (.free rfl rfl) rfl rfl (po_load_bx rfl rfl (tyT rfl) rfl rfl) ?_ | refine sops_pure (.free rfl rfl) rfl rfl (po_load rfl rfl (tyT rfl) rfl) ?_) <;> (refine sops_pure (.free rfl rfl) rfl rfl (po_cmp rfl rfl rfl rfl) ?_) <;> (refine sops_nil ?_))
      | ((refine swp_region (id := 4) ?_) <;> (first | refine sops_pure (.free rfl rfl) rfl rfl (po_load_bx rfl rfl (tyT rfl) rfl rfl) ?_ | refine sops_pure (.free rfl rfl) rfl rfl (po_load rfl rfl (tyT rfl) rfl) ?_) <;> (first | refine sops_pure (.free rfl rfl) rfl rfl (po_field_bx rfl rfl (tyF rfl)) ?_ | refine sops_pure (.free rfl rfl) rfl rfl (po_field rfl rfl (tyF rfl)) ?_) <;> (first | refine sops_pure (.free rfl rfl) rfl rfl (po_load_bx rfl rfl (tyT rfl) rfl rfl) ?_ | refine sops_pure (.free rfl rfl) rfl rfl (po_load rfl rfl (tyT rfl) rfl) ?_) <;> (first | refine sops_lcall_tclo (args := [_]) (caps := []) (c3) (fun i => i) (fun i => i) (fun _ => false) (.free rfl rfl) rfl rfl rfl rfl (by first | ((repeat' (first | exact .nil | refine .cons rfl rfl rfl ?_ | refine .vw rfl (by first | exact .t _ | exact .own rfl (by first | rfl | assumption | (simp; done) | (simp; omega)) | exact .nil _ | exact .emp _ | exact .fn _) ?_)) <;> fail) | fail) .nil (.cons rfl rfl .nil) rfl rfl (fun _ h => Bool.noConfusion h) ?_ | refine sops_lcall_clo (args := [_]) (caps0 := []) (c3) (fun i => i) (fun i => i) (fun _ => false) (.free rfl rfl) rfl rfl rfl rfl rfl rfl (by first | ((repeat' (first | exact .nil | refine .cons rfl rfl rfl ?_ | refine .vw rfl (by first | exact .t _ | exact .own rfl (by first | rfl | assumption | (simp; done) | (simp; omega)) | exact .nil _ | exact .emp _ | exact .fn _) ?_)) <;> fail) | fail) .nil (.cons rfl rfl .nil) rfl rfl (fun _ h => Bool.noConfusion h) ?_ | refine sops_lcall_tclo (args := [_]) (caps := []) (c1) (fun i => i) (fun i => i) (fun _ => false) (.free rfl rfl) rfl rfl rfl rfl (by first | ((repeat' (first | exact .nil | refine .cons rfl rfl rfl ?_ | refine .vw rfl (by first | exact .t _ | exact .own rfl (by first | rfl | assumption | (simp; done) | (simp; omega)) | exact .nil _ | exact .emp _ | exact .fn _) ?_)) <;> fail) | fail) .nil .nil rfl rfl (fun _ h => Bool.noConfusion h) ?_ | refine sops_lcall_clo (args := [_]) (caps0 := []) (c1) (fun i => i) (fun i => i) (fun _ => false) (.free rfl rfl) rfl rfl rfl rfl rfl rfl (by first | ((repeat' (first | exact .nil | refine .cons rfl rfl rfl ?_ | refine .vw rfl (by first | exact .t _ | exact .own rfl (by first | rfl | assumption | (simp; done) | (simp; omega)) | exact .nil _ | exact .emp _ | exact .fn _) ?_)) <;> fail) | fail) .nil .nil rfl rfl (fun _ h => Bool.noConfusion h) ?_) <;> (first | refine sops_pure (.free rfl rfl) rfl rfl (po_field_bx rfl rfl (tyF rfl)) ?_ | refine sops_pure (.free rfl rfl) rfl rfl (po_field rfl rfl (tyF rfl)) ?_) <;> (refine sops_store (.free rfl rfl) rfl rfl rfl rfl rfl rfl (tyT rfl) rfl rfl ?_) <;> (refine sops_nil ?_))
      | ((refine swp_region (id := 5) ?_) <;> (first | refine sops_pure (.free rfl rfl) rfl rfl (po_field_bx rfl rfl (tyF rfl)) ?_ | refine sops_pure (.free rfl rfl) rfl rfl (po_field rfl rfl (tyF rfl)) ?_) <;> (refine sops_store (.free rfl rfl) rfl rfl rfl rfl rfl rfl (tyT rfl) rfl rfl ?_) <;> (refine sops_nil ?_))
      | ((refine swp_region (id := 6) ?_) <;> (first | refine sops_pure (.free rfl rfl) rfl rfl (po_load_bx_agg rfl rfl (tyT rfl) rfl (vc (vc (vc (vc (vc .nil))))) rfl) ?_ | refine sops_pure (.free rfl rfl) rfl rfl (po_load_agg rfl rfl (tyT rfl) rfl rfl) ?_) <;> (refine sops_store (.free rfl rfl) rfl rfl rfl rfl rfl rfl (tyT rfl) rfl rfl ?_) <;> (refine sops_nil ?_))
      | refine swp_ret ?_
      | refine swp_skip ?_
      | refine swp_block ?_
      | refine swp_exit ?_
      | refine block_go ?_
      | refine block_exit ?_
      | refine block_far rfl ?_
      | refine block_ret ?_
      | refine then_ret ?_
      | refine then_exit ?_
      | refine for_ret ?_
      | refine for_exit ?_
      | refine ct ?_
      | refine cf ?_
      | refine swp_cond rfl (fun hc => ?_) (fun hc => ?_)
      | exact retl1 (by first | exact .inr rfl | exact .inl rfl) rfl (.cellT rfl rfl (tyT rfl) (vc (vc (vc (vc (vc .nil))))) rfl .nil) rfl (.cons rfl (by first | rfl | assumption | (symm; assumption)) rfl (.cons rfl (by first | rfl | assumption | (symm; assumption)) rfl (.cons rfl (by first | rfl | assumption | (symm; assumption)) rfl .nil))) .nil
      | refine retl (by first | exact .inr rfl | exact .inl rfl) rfl (.cellT rfl rfl (tyT rfl) (vc (vc (vc (vc (vc .nil))))) rfl .nil) ?_ rfl (.cons rfl (by first | rfl | assumption | (symm; assumption)) rfl (.cons rfl (by first | rfl | assumption | (symm; assumption)) rfl (.cons rfl (by first | rfl | assumption | (symm; assumption)) rfl .nil))) .nil)
def alK (l : List Pl.Policy) (al : Int) (k : Nat) : Int := if (l.take k).any (fun p => decide (p.deny ≠ 1)) = true then 1 else al
theorem alK_succ {l : List Pl.Policy} {al : Int} {k : Nat} (h : k < l.length) : updA (alK l al k) l[k] = alK l al (k + 1) := by
  unfold updA alK
  rw [List.take_succ_eq_append_getElem h, List.any_append]
  by_cases hd : l[k].deny = 1
  · simp [hd]
  · simp [hd]
abbrev CL3 : A := .cl 58 [.bp 2000 0, .bp 2001 0, .bp 2002 0]
def MT (fd fa : FuncId) (D K : Nat) (xs : List Pl.Policy) (t0 : T) (al : Int) (k : Nat) : St := ⟨[(1, CL3), (5, .own 105 (((xs.take k).map (Pl.halfP D K)).map polT).length), (8, .t (.sl 5 (xs.map polT))), (9, .t (.v (.int .i64 (xs.length : Int)))), (10, .t (.v (.int .i64 (k : Int))))], TB fd fa t0 (alK xs al k), [(105, ⟨50, 5, ((xs.take k).map (Pl.halfP D K)).map polT⟩)]⟩
set_option maxRecDepth 100000 in
set_option maxHeartbeats 2000000 in
theorem mapTable (fd fa : FuncId) (D K : Nat) (hD : RulesL fd D) (hA : RulesL fa K) (xs : List Pl.Policy) (hp : ∀ p ∈ xs, FewP p) (hn : xs.length ≤ 1000) (t0 : T) (al : Int) :
    LCalls Tryz.prog 29 [.t (.sl 5 (xs.map polT)), CL3] (TB fd fa t0 al) [] (.t (.sl 5 ((xs.map (Pl.halfP D K)).map polT))) (TB fd fa t0 (alK xs al xs.length)) [] := by
  have hm1 : (xs.map polT).length = xs.length := List.length_map _
  refine lcalls_of Tryz.func29 rfl rfl Tryz.ntmps29 rfl ?_
  repeat' (first
    | refine then_go ?_
    | refine swp_seq ?_
    | ((refine swp_region (id := 0) ?_) <;> (refine sops_pure (.free rfl rfl) rfl rfl (po_assign rfl rfl) ?_) <;> (refine sops_nil ?_))
    | ((refine swp_region (id := 1) ?_) <;> (refine sops_pure (.free rfl rfl) rfl rfl (po_assign rfl rfl) ?_) <;> (refine sops_nil ?_))
    | ((refine swp_region (id := 2) ?_) <;> (refine sops_pure (.free rfl rfl) rfl rfl (po_move rfl rfl) ?_) <;> (refine sops_pure (.free rfl rfl) rfl rfl (pln rfl (tyS rfl)) ?_) <;> (refine sops_pure (.free rfl rfl) rfl rfl (po_move rfl rfl) ?_) <;> (refine sops_nil ?_))
    | refine swp_ret ?_
    | refine swp_skip ?_
    | refine swp_block ?_
    | refine swp_exit ?_
    | refine block_go ?_
    | refine block_exit ?_
    | refine block_far rfl ?_
    | refine block_ret ?_
    | refine then_ret ?_
    | refine then_exit ?_
    | refine for_ret ?_
    | refine for_exit ?_
    | refine ct ?_
    | refine cf ?_
    | refine swp_cond rfl (fun hc => ?_) (fun hc => ?_)
    | refine retq (by first | exact .inr rfl | exact .inl rfl) rfl (.tmp rfl (by first | exact .t _ | exact .own rfl (by first | rfl | assumption | (simp; done) | (simp; omega)) | exact .nil _ | exact .emp _ | exact .fn _) .nil) ?_)
  refine swp_for (MT fd fa D K xs t0 al) (fun _ => True) xs.length ?_ trivial ?_
  · refine Weak.trans (weak_own0 (i := 105) 50 5 (s := 5) rfl rfl) ?_
    exact (weak_sub (.cons rfl (by first | rfl | (exact congrArg (fun n : Nat => A.t (.v (.int .i64 (n : Int)))) hm1)) rfl (.cons rfl (by first | rfl | (exact congrArg (fun n : Nat => A.t (.v (.int .i64 (n : Int)))) hm1)) rfl (.cons rfl (by first | rfl | (exact congrArg (fun n : Nat => A.t (.v (.int .i64 (n : Int)))) hm1)) rfl (.cons rfl (by first | rfl | (exact congrArg (fun n : Nat => A.t (.v (.int .i64 (n : Int)))) hm1)) rfl (.cons rfl (by first | rfl | (exact congrArg (fun n : Nat => A.t (.v (.int .i64 (n : Int)))) hm1)) rfl .nil))))) (.cons rfl (by first | rfl | (exact congrArg (fun n : Nat => A.t (.v (.int .i64 (n : Int)))) hm1)) rfl (.cons rfl (by first | rfl | (exact congrArg (fun n : Nat => A.t (.v (.int .i64 (n : Int)))) hm1)) rfl (.cons rfl (by first | rfl | (exact congrArg (fun n : Nat => A.t (.v (.int .i64 (n : Int)))) hm1)) rfl .nil))) (.cons rfl (by first | rfl | (exact congrArg (fun n : Nat => A.t (.v (.int .i64 (n : Int)))) hm1)) .nil))
  intro k hk _
  unfold MT
  by_cases hlt : k < xs.length
  · have c1 := table1 fd fa D K hD hA _ (hp _ (List.getElem_mem hlt)) t0 (alK xs al k)
    rw [alK_succ hlt] at c1
    have hsn := mapmap_take_succ polT (Pl.halfP D K) hlt
    have g1 : ((((xs.take k).map (Pl.halfP D K)).map polT).length + 1) * 64 ≤ 140737488355328 := by rw [mmt_len]; have := Nat.min_le_right k xs.length; omega
    have g2 : (((xs.take k).map (Pl.halfP D K)).map polT).length + 1 ≤ maxLen := by rw [mmt_len]; have := Nat.min_le_right k xs.length; unfold maxLen; omega
    repeat' (first
      | refine then_go ?_
      | refine swp_seq ?_
      | refine for_next hlt (weak_sub (.cons rfl (by first | rfl | (rw [hsn]; try rfl)) rfl (.cons rfl (by first | rfl | (rw [hsn]; try rfl)) rfl (.cons rfl (by first | rfl | (rw [hsn]; try rfl)) rfl (.cons rfl (by first | rfl | (rw [hsn]; try rfl)) rfl (.cons rfl (by first | rfl | (rw [hsn]; try rfl)) rfl .nil))))) (.cons rfl (by first | rfl | (rw [hsn]; try rfl)) rfl (.cons rfl (by first | rfl | (rw [hsn]; try rfl)) rfl (.cons rfl (by first | rfl | (rw [hsn]; try rfl)) rfl .nil))) (.cons rfl (by first | rfl | (rw [hsn]; try rfl)) .nil)) trivial
      | ((refine swp_region (id := 3) ?_) <;> (refine sops_pure (.free rfl rfl) rfl rfl (po_cmp rfl rfl rfl rfl) ?_) <;> (refine sops_nil ?_))
      | ((refine swp_region (id := 4) ?_) <;> (first | refine sops_pure (.free rfl rfl) rfl rfl (po_index_own rfl rfl rfl (by first | rfl | assumption | omega | (simp; done) | (simp; omega) | (simp at *; omega)) rfl (tyS rfl) (by first | rfl | omega) (by first | assumption | omega)) ?_ | refine sops_pure (.free rfl rfl) rfl rfl (pix rfl (tyS rfl)) ?_) <;> (first | refine sops_pure (.free rfl rfl) rfl rfl (po_load_bx_agg rfl rfl (tyT rfl) rfl (vc (vc (vc (vc (vc .nil))))) rfl) ?_ | refine sops_pure (.free rfl rfl) rfl rfl (po_load_agg rfl rfl (tyT rfl) rfl rfl) ?_ | refine sops_pure (.free rfl rfl) rfl rfl (po_load_own_agg rfl rfl rfl (by first | rfl | assumption | omega | (simp; done) | (simp; omega) | (simp at *; omega)) (tyT rfl) (by first | rfl | assumption | exact map_at (by first | assumption | omega)) rfl rfl) ?_ | refine sops_pure (.free rfl rfl) rfl rfl (po_load_bx_ag rfl rfl (tyT rfl) rfl rfl rfl rfl) ?_) <;> (refine sops_allocS str50 (.free rfl rfl) rfl rfl rfl rfl ?_) <;> (first | refine sops_store (.free rfl rfl) rfl rfl rfl rfl rfl rfl (tyT rfl) rfl rfl ?_ | refine sops_store_own (by rfl) (.free rfl rfl) rfl rfl rfl rfl (by first | rfl | assumption | omega | (simp; done) | (simp; omega) | (simp at *; omega)) rfl (by first | exact .t _ | exact .own rfl (by first | rfl | assumption | (simp; done) | (simp; omega)) | exact .nil _ | exact .emp _ | exact .fn _) rfl rfl (tyT rfl) rfl (by first | rfl | assumption | exact map_at (by first | assumption | omega)) rfl ?_) <;> (refine sops_nil ?_))
      | ((refine swp_region (id := 5) ?_) <;> (refine sops_pure (.free rfl rfl) rfl rfl (po_move rfl rfl) ?_) <;> (refine sops_pure (.free rfl rfl) rfl rfl (po_move rfl rfl) ?_) <;> (first | refine sops_pure (.free rfl rfl) rfl rfl (po_load_bx_agg rfl rfl (tyT rfl) rfl (vc (vc (vc (vc (vc .nil))))) rfl) ?_ | refine sops_pure (.free rfl rfl) rfl rfl (po_load_agg rfl rfl (tyT rfl) rfl rfl) ?_ | refine sops_pure (.free rfl rfl) rfl rfl (po_load_own_agg rfl rfl rfl (by first | rfl | assumption | omega | (simp; done) | (simp; omega) | (simp at *; omega)) (tyT rfl) (by first | rfl | assumption | exact map_at (by first | assumption | omega)) rfl rfl) ?_ | refine sops_pure (.free rfl rfl) rfl rfl (po_load_bx_ag rfl rfl (tyT rfl) rfl rfl rfl rfl) ?_) <;> (first | refine sops_lcall_tclo (args := [_]) (caps := [_, _, _]) (c1) (fun i => i) (fun i => i) (fun _ => false) (.free rfl rfl) rfl rfl rfl rfl (by first | ((repeat' (first | exact .nil | refine .cons rfl rfl rfl ?_ | refine .vw rfl (by first | exact .t _ | exact .own rfl (by first | rfl | assumption | (simp; done) | (simp; omega)) | exact .nil _ | exact .emp _ | exact .fn _) ?_)) <;> fail) | fail) (.cons rfl rfl (.cons rfl rfl (.cons rfl rfl .nil))) .nil rfl rfl (fun _ h => Bool.noConfusion h) ?_ | refine sops_lcall_clo (args := [_]) (caps0 := [_, _, _]) (c1) (fun i => i) (fun i => i) (fun _ => false) (.free rfl rfl) rfl rfl rfl rfl rfl rfl (by first | ((repeat' (first | exact .nil | refine .cons rfl rfl rfl ?_ | refine .vw rfl (by first | exact .t _ | exact .own rfl (by first | rfl | assumption | (simp; done) | (simp; omega)) | exact .nil _ | exact .emp _ | exact .fn _) ?_)) <;> fail) | fail) (.cons rfl rfl (.cons rfl rfl (.cons rfl rfl .nil))) .nil rfl rfl (fun _ h => Bool.noConfusion h) ?_) <;> (refine sops_pure (.free rfl rfl) rfl rfl (po_buildSlice rfl (tyE rfl) (dc (.nil _)) rfl rfl rfl) ?_) <;> (first | refine sap rfl (tyE rfl) ?_ | refine san rfl (tyE rfl) ?_) <;> (refine sops_pure (.free rfl rfl) rfl rfl (po_assign rfl rfl) ?_) <;> (refine sops_nil ?_))
      | ((refine swp_region (id := 6) ?_) <;> (first | refine sops_pure (.free rfl rfl) rfl rfl (po_inc rfl rfl rfl (by omega)) ?_ | refine sops_pure (.free rfl rfl) rfl rfl (po_arith rfl rfl rfl (ar_add (by first | rfl | (refine wrap_i64 ?_; omega)) rfl)) ?_) <;> (refine sops_pure (.free rfl rfl) rfl rfl (po_move rfl rfl) ?_) <;> (refine sops_nil ?_))
      | refine swp_ret ?_
      | refine swp_skip ?_
      | refine swp_block ?_
      | refine swp_exit ?_
      | refine block_go ?_
      | refine block_exit ?_
      | refine block_far rfl ?_
      | refine block_ret ?_
      | refine then_ret ?_
      | refine then_exit ?_
      | refine for_ret ?_
      | refine for_exit ?_
      | refine ct ?_
      | refine cf ?_
      | refine swp_cond rfl (fun hc => ?_) (fun hc => ?_)
      | refine retq (by first | exact .inr rfl | exact .inl rfl) rfl (.tmp rfl (by first | exact .t _ | exact .own rfl (by first | rfl | assumption | (simp; done) | (simp; omega)) | exact .nil _ | exact .emp _ | exact .fn _) .nil) ?_)
  · obtain rfl : k = xs.length := by omega
    rw [List.take_length]
    repeat' (first
      | refine then_go ?_
      | refine swp_seq ?_
      | ((refine swp_region (id := 3) ?_) <;> (refine sops_pure (.free rfl rfl) rfl rfl (po_cmp rfl rfl rfl rfl) ?_) <;> (refine sops_nil ?_))
      | ((refine swp_region (id := 7) ?_) <;> (refine sops_pure (.free rfl rfl) rfl rfl (po_move rfl rfl) ?_) <;> (refine sops_pure (.free rfl rfl) rfl rfl (po_assign rfl rfl) ?_) <;> (refine sops_nil ?_))
      | refine swp_ret ?_
      | refine swp_skip ?_
      | refine swp_block ?_
      | refine swp_exit ?_
      | refine block_go ?_
      | refine block_exit ?_
      | refine block_far rfl ?_
      | refine block_ret ?_
      | refine then_ret ?_
      | refine then_exit ?_
      | refine for_ret ?_
      | refine for_exit ?_
      | refine ct ?_
      | refine cf ?_
      | refine swp_cond rfl (fun hc => ?_) (fun hc => ?_)
      | exact retl1 (by first | exact .inr rfl | exact .inl rfl) rfl (.tmpT rfl (by first | exact .t _ | exact .own rfl (by first | rfl | assumption | (simp; done) | (simp; omega)) | exact .nil _ | exact .emp _ | exact .fn _) .nil) rfl (.cons rfl (by first | rfl | assumption | (symm; assumption)) rfl (.cons rfl (by first | rfl | assumption | (symm; assumption)) rfl (.cons rfl (by first | rfl | assumption | (symm; assumption)) rfl .nil))) .nil
      | refine retl (by first | exact .inr rfl | exact .inl rfl) rfl (.tmpT rfl (by first | exact .t _ | exact .own rfl (by first | rfl | assumption | (simp; done) | (simp; omega)) | exact .nil _ | exact .emp _ | exact .fn _) .nil) ?_ rfl (.cons rfl (by first | rfl | assumption | (symm; assumption)) rfl (.cons rfl (by first | rfl | assumption | (symm; assumption)) rfl (.cons rfl (by first | rfl | assumption | (symm; assumption)) rfl .nil))) .nil)
def fbOf (l : List (Nat × Nat)) (i : Nat) : Nat := (get l i).getD i
theorem alK_all (l : List Pl.Policy) : alK l 0 l.length = Pl.allowsP l := by unfold alK Pl.allowsP; rw [List.take_length]
set_option maxRecDepth 100000 in
set_option maxHeartbeats 2000000 in
theorem table_ (fd fa : FuncId) (D K : Nat) (hD : RulesL fd D) (hA : RulesL fa K) (xs : List Pl.Policy) (hp : ∀ p ∈ xs, FewP p) (hn : xs.length ≤ 1000) :
    PCalls Tryz.prog 38 [.sl 5 (xs.map polT), .clo fd [], .clo fa []] (.agg [.sl 5 ((xs.map (Pl.halfP D K)).map polT), .v (.int .i64 (Pl.allowsP xs))]) := by
  have c1 := mapTable fd fa D K hD hA xs hp hn (.v (.slice none 0 0)) 0
  rw [alK_all] at c1
  refine pcalls_of Tryz.func38 rfl rfl Tryz.ntmps38 rfl ?_
  repeat' (first
    | refine then_go ?_
    | refine swp_seq ?_
    | ((refine swp_region (id := 0) ?_) <;> (refine sops_box (.free rfl rfl) rfl rfl rfl rfl rfl rfl ?_) <;> (refine sops_box (.free rfl rfl) rfl rfl rfl rfl rfl rfl ?_) <;> (refine sops_allocS str24 (.free rfl rfl) rfl rfl rfl rfl ?_) <;> (refine sops_nil ?_))
    | ((refine swp_region (id := 1) ?_) <;> (refine sops_pure (.free rfl rfl) rfl rfl (po_move rfl rfl) ?_) <;> (first | refine sops_pure (.free rfl rfl) rfl rfl (po_func rfl (ac (ac (ac .nil)))) ?_ | refine sops_pure (.free rfl rfl) rfl rfl (po_func_cl rfl (.cons rfl rfl (.cons rfl rfl (.cons rfl rfl .nil)))) ?_) <;> (refine sops_lcall (c1) (fbOf [(2000, 4), (2001, 5), (2002, 6)]) (fun i => i) (fun _ => false) (.free rfl rfl) rfl rfl rfl (by first | ((repeat' (first | exact .nil | refine .cons rfl rfl rfl ?_ | refine .vw rfl (by first | exact .t _ | exact .own rfl (by first | rfl | assumption | (simp; done) | (simp; omega)) | exact .nil _ | exact .emp _ | exact .fn _) ?_)) <;> fail) | fail) (.cons rfl rfl (.cons rfl rfl (.cons rfl rfl .nil))) .nil rfl rfl (fun _ h => Bool.noConfusion h) ?_) <;> (first | refine sops_pure (.free rfl rfl) rfl rfl (po_field_bx rfl rfl (tyF rfl)) ?_ | refine sops_pure (.free rfl rfl) rfl rfl (po_field rfl rfl (tyF rfl)) ?_ | refine sops_pure (.free rfl rfl) rfl rfl (po_field_own rfl rfl rfl (by first | rfl | assumption | omega | (simp; done) | (simp; omega) | (simp at *; omega)) (tyF rfl)) ?_) <;> (first | refine sops_store (.free rfl rfl) rfl rfl rfl rfl rfl rfl (tyT rfl) rfl rfl ?_ | refine sops_store_own (by rfl) (.free rfl rfl) rfl rfl rfl rfl (by first | rfl | assumption | omega | (simp; done) | (simp; omega) | (simp at *; omega)) rfl (by first | exact .t _ | exact .own rfl (by first | rfl | assumption | (simp; done) | (simp; omega)) | exact .nil _ | exact .emp _ | exact .fn _) rfl rfl (tyT rfl) rfl (by first | rfl | assumption | exact map_at (by first | assumption | omega)) rfl ?_) <;> (refine sops_nil ?_))
    | ((refine swp_region (id := 2) ?_) <;> (first | refine sops_pure (.free rfl rfl) rfl rfl (po_load_bx_agg rfl rfl (tyT rfl) rfl (vc (vc .nil)) rfl) ?_ | refine sops_pure (.free rfl rfl) rfl rfl (po_load_agg rfl rfl (tyT rfl) rfl rfl) ?_ | refine sops_pure (.free rfl rfl) rfl rfl (po_load_own_agg rfl rfl rfl (by first | rfl | assumption | omega | (simp; done) | (simp; omega) | (simp at *; omega)) (tyT rfl) (by first | rfl | assumption | exact map_at (by first | assumption | omega)) rfl rfl) ?_ | refine sops_pure (.free rfl rfl) rfl rfl (po_load_bx_ag rfl rfl (tyT rfl) rfl rfl rfl rfl) ?_) <;> (first | refine sops_store (.free rfl rfl) rfl rfl rfl rfl rfl rfl (tyT rfl) rfl rfl ?_ | refine sops_store_own (by rfl) (.free rfl rfl) rfl rfl rfl rfl (by first | rfl | assumption | omega | (simp; done) | (simp; omega) | (simp at *; omega)) rfl (by first | exact .t _ | exact .own rfl (by first | rfl | assumption | (simp; done) | (simp; omega)) | exact .nil _ | exact .emp _ | exact .fn _) rfl rfl (tyT rfl) rfl (by first | rfl | assumption | exact map_at (by first | assumption | omega)) rfl ?_) <;> (refine sops_nil ?_))
    | refine swp_ret ?_
    | refine swp_skip ?_
    | refine swp_block ?_
    | refine swp_exit ?_
    | refine block_go ?_
    | refine block_exit ?_
    | refine block_far rfl ?_
    | refine block_ret ?_
    | refine then_ret ?_
    | refine then_exit ?_
    | refine for_ret ?_
    | refine for_exit ?_
    | refine ct ?_
    | refine cf ?_
    | refine swp_cond rfl (fun hc => ?_) (fun hc => ?_)
    | exact retq1 (by first | exact .inr rfl | exact .inl rfl) rfl (.cell rfl rfl (tyT rfl) (vc (vc .nil)) rfl .nil)
    | refine retq (by first | exact .inr rfl | exact .inl rfl) rfl (.cell rfl rfl (tyT rfl) (vc (vc .nil)) rfl .nil) ?_)
set_option maxRecDepth 100000 in
set_option maxHeartbeats 1000000 in
theorem l4_ (xs : List Pl.Policy) (hp : ∀ p ∈ xs, FewP p) (hn : xs.length ≤ 1000) : PCalls Tryz.prog 14 [.sl 5 (xs.map polT)] (.agg [.sl 5 ((xs.map (Pl.halfP 0 1)).map polT), .v (.int .i64 (Pl.allowsP xs))]) := by
  have c1 := table_ 39 31 0 1 blindL halvedL xs hp hn
  refine pcalls_of Tryz.func14 rfl rfl Tryz.ntmps14 rfl ?_
  repeat' (first
    | refine then_go ?_
    | refine swp_seq ?_
    | ((refine swp_region (id := 0) ?_) <;> (refine sops_allocS str24 (.free rfl rfl) rfl rfl rfl rfl ?_) <;> (refine sops_nil ?_))
    | ((refine swp_region (id := 1) ?_) <;> (refine sops_pure (.free rfl rfl) rfl rfl (po_move rfl rfl) ?_) <;> (refine sops_pure (.free rfl rfl) rfl rfl (po_call (c1) rfl (ac (ac (ac .nil)))) ?_) <;> (refine sops_store (.free rfl rfl) rfl rfl rfl rfl rfl rfl (tyT rfl) rfl rfl ?_) <;> (refine sops_nil ?_))
    | refine swp_ret ?_
    | refine swp_skip ?_
    | refine swp_block ?_
    | refine swp_exit ?_
    | refine block_go ?_
    | refine block_exit ?_
    | refine block_far rfl ?_
    | refine block_ret ?_
    | refine then_ret ?_
    | refine then_exit ?_
    | refine for_ret ?_
    | refine for_exit ?_
    | refine ct ?_
    | refine cf ?_
    | refine swp_cond rfl (fun hc => ?_) (fun hc => ?_)
    | exact retq1 (by first | exact .inr rfl | exact .inl rfl) rfl (.cell rfl rfl (tyT rfl) (vc (vc .nil)) rfl .nil)
    | refine retq (by first | exact .inr rfl | exact .inl rfl) rfl (.cell rfl rfl (tyT rfl) (vc (vc .nil)) rfl .nil) ?_)
set_option maxRecDepth 100000 in
set_option maxHeartbeats 1000000 in
theorem alone_ (xs : List Pl.Policy) (hp : ∀ p ∈ xs, FewP p) (hn : xs.length ≤ 1000) : PCalls Tryz.prog 16 [.sl 5 (xs.map polT)] (.agg [.sl 5 ((xs.map (Pl.halfP 1 0)).map polT), .v (.int .i64 (Pl.allowsP xs))]) := by
  have c1 := table_ 31 39 1 0 halvedL blindL xs hp hn
  refine pcalls_of Tryz.func16 rfl rfl Tryz.ntmps16 rfl ?_
  repeat' (first
    | refine then_go ?_
    | refine swp_seq ?_
    | ((refine swp_region (id := 0) ?_) <;> (refine sops_allocS str24 (.free rfl rfl) rfl rfl rfl rfl ?_) <;> (refine sops_nil ?_))
    | ((refine swp_region (id := 1) ?_) <;> (refine sops_pure (.free rfl rfl) rfl rfl (po_move rfl rfl) ?_) <;> (refine sops_pure (.free rfl rfl) rfl rfl (po_call (c1) rfl (ac (ac (ac .nil)))) ?_) <;> (refine sops_store (.free rfl rfl) rfl rfl rfl rfl rfl rfl (tyT rfl) rfl rfl ?_) <;> (refine sops_nil ?_))
    | refine swp_ret ?_
    | refine swp_skip ?_
    | refine swp_block ?_
    | refine swp_exit ?_
    | refine block_go ?_
    | refine block_exit ?_
    | refine block_far rfl ?_
    | refine block_ret ?_
    | refine then_ret ?_
    | refine then_exit ?_
    | refine for_ret ?_
    | refine for_exit ?_
    | refine ct ?_
    | refine cf ?_
    | refine swp_cond rfl (fun hc => ?_) (fun hc => ?_)
    | exact retq1 (by first | exact .inr rfl | exact .inl rfl) rfl (.cell rfl rfl (tyT rfl) (vc (vc .nil)) rfl .nil)
    | refine retq (by first | exact .inr rfl | exact .inl rfl) rfl (.cell rfl rfl (tyT rfl) (vc (vc .nil)) rfl .nil) ?_)
set_option maxRecDepth 100000 in
set_option maxHeartbeats 1000000 in
theorem l7_ (xs : List Pl.Policy) (hp : ∀ p ∈ xs, FewP p) (hn : xs.length ≤ 1000) : PCalls Tryz.prog 15 [.sl 5 (xs.map polT)] (.agg [.sl 5 ((xs.map (Pl.halfP 2 2)).map polT), .v (.int .i64 (Pl.allowsP xs))]) := by
  have c1 := table_ 40 40 2 2 (fun l _ _ => wholeL l) (fun l _ _ => wholeL l) xs hp hn
  refine pcalls_of Tryz.func15 rfl rfl Tryz.ntmps15 rfl ?_
  repeat' (first
    | refine then_go ?_
    | refine swp_seq ?_
    | ((refine swp_region (id := 0) ?_) <;> (refine sops_allocS str24 (.free rfl rfl) rfl rfl rfl rfl ?_) <;> (refine sops_nil ?_))
    | ((refine swp_region (id := 1) ?_) <;> (refine sops_pure (.free rfl rfl) rfl rfl (po_assign rfl rfl) ?_) <;> (refine sops_nil ?_))
    | ((refine swp_region (id := 2) ?_) <;> (refine sops_pure (.free rfl rfl) rfl rfl (po_move rfl rfl) ?_) <;> (refine sops_pure (.free rfl rfl) rfl rfl (po_move rfl rfl) ?_) <;> (refine sops_pure (.free rfl rfl) rfl rfl (po_move rfl rfl) ?_) <;> (refine sops_pure (.free rfl rfl) rfl rfl (po_call (c1) rfl (ac (ac (ac .nil)))) ?_) <;> (refine sops_store (.free rfl rfl) rfl rfl rfl rfl rfl rfl (tyT rfl) rfl rfl ?_) <;> (refine sops_nil ?_))
    | refine swp_ret ?_
    | refine swp_skip ?_
    | refine swp_block ?_
    | refine swp_exit ?_
    | refine block_go ?_
    | refine block_exit ?_
    | refine block_far rfl ?_
    | refine block_ret ?_
    | refine then_ret ?_
    | refine then_exit ?_
    | refine for_ret ?_
    | refine for_exit ?_
    | refine ct ?_
    | refine cf ?_
    | refine swp_cond rfl (fun hc => ?_) (fun hc => ?_)
    | exact retq1 (by first | exact .inr rfl | exact .inl rfl) rfl (.cell rfl rfl (tyT rfl) (vc (vc .nil)) rfl .nil)
    | refine retq (by first | exact .inr rfl | exact .inl rfl) rfl (.cell rfl rfl (tyT rfl) (vc (vc .nil)) rfl .nil) ?_)
set_option maxRecDepth 100000 in
set_option maxHeartbeats 1000000 in
theorem clonePols (rows : List (List T)) (hbd : rows.length * 64 ≤ 140737488355328) (hmx : rows.length ≤ maxLen) : LCalls Tryz.prog 54 [.t (.sl 5 rows)] [] [] (.own 1000 rows.length) [] [(1000, ⟨50, 5, rows⟩)] := by
  have hbd' : 0 + rows.length * 64 ≤ 140737488355328 := by omega
  refine lcalls_of Tryz.func54 rfl rfl Tryz.ntmps54 rfl ?_
  repeat' (first
    | refine then_go ?_
    | refine swp_seq ?_
    | ((refine swp_region (id := 0) ?_) <;> (refine sops_pure (.free rfl rfl) rfl rfl (po_assign rfl rfl) ?_) <;> (refine sops_nil ?_))
    | ((refine swp_region (id := 1) ?_) <;> (refine sops_pure (.free rfl rfl) rfl rfl (po_move rfl rfl) ?_) <;> (first | refine sops_isnil (.free rfl rfl) rfl rfl rfl rfl (.t _) (tyS rfl) (fun b hnil => ?_) | refine sops_pure (.free rfl rfl) rfl rfl (po_boolq rfl rfl rfl (by kernel_rfl) (by first | exact .inl rfl | exact .inr rfl)) ?_) <;> (refine sops_nil ?_))
    | refine swp_ret ?_
    | refine swp_skip ?_
    | refine swp_block ?_
    | refine swp_exit ?_
    | refine block_go ?_
    | refine block_exit ?_
    | refine block_far rfl ?_
    | refine block_ret ?_
    | refine then_ret ?_
    | refine then_exit ?_
    | refine for_ret ?_
    | refine for_exit ?_
    | refine ct ?_
    | refine cf ?_
    | refine swp_cond rfl (fun hc => ?_) (fun hc => ?_)
    | refine retq (by first | exact .inr rfl | exact .inl rfl) rfl (.tmp rfl (by first | exact .t _ | exact .own rfl (by first | rfl | assumption | (simp; done) | (simp; omega)) | exact .nil _ | exact .emp _ | exact .fn _) .nil) ?_)
  · obtain rfl := hnil hc
    repeat' (first
      | refine then_go ?_
      | refine swp_seq ?_
      | refine swp_ret_weak (weak_own0 (i := 1000) 50 5 (s := 2) rfl rfl) ?_
      | ((refine swp_region (id := 2) ?_) <;> (refine sops_pure (.free rfl rfl) rfl rfl (po_assign rfl rfl) ?_) <;> (refine sops_nil ?_))
      | refine swp_ret ?_
      | refine swp_skip ?_
      | refine swp_block ?_
      | refine swp_exit ?_
      | refine block_go ?_
      | refine block_exit ?_
      | refine block_far rfl ?_
      | refine block_ret ?_
      | refine then_ret ?_
      | refine then_exit ?_
      | refine for_ret ?_
      | refine for_exit ?_
      | refine ct ?_
      | refine cf ?_
      | refine swp_cond rfl (fun hc => ?_) (fun hc => ?_)
      | exact retl1 (by first | exact .inr rfl | exact .inl rfl) rfl (.tmp rfl rfl .nil) rfl .nil (.cons rfl (by first | rfl | assumption | (symm; assumption)) .nil)
      | refine retl (by first | exact .inr rfl | exact .inl rfl) rfl (.tmp rfl rfl .nil) ?_ rfl .nil (.cons rfl (by first | rfl | assumption | (symm; assumption)) .nil))
  · repeat' (first
      | refine then_go ?_
      | refine swp_seq ?_
      | ((refine swp_region (id := 3) ?_) <;> (first | refine sops_build0i 1000 (.free rfl rfl) rfl rfl rfl (tyE rfl) rfl ?_ | refine sops_build0 (.free rfl rfl) rfl rfl rfl (tyE rfl) rfl ?_) <;> (first | refine sops_build0i 1000 (.free rfl rfl) rfl rfl rfl (tyE rfl) rfl ?_ | refine sops_pure (.free rfl rfl) rfl rfl (po_move rfl rfl) ?_) <;> (first | refine sops_build0i 1000 (.free rfl rfl) rfl rfl rfl (tyE rfl) rfl ?_ | refine sap rfl (tyE rfl) ?_ | refine san rfl (tyE rfl) ?_) <;> (first | refine sops_build0i 1000 (.free rfl rfl) rfl rfl rfl (tyE rfl) rfl ?_ | refine sops_pure (.free rfl rfl) rfl rfl (po_assign rfl rfl) ?_) <;> (refine sops_nil ?_))
      | refine swp_ret ?_
      | refine swp_skip ?_
      | refine swp_block ?_
      | refine swp_exit ?_
      | refine block_go ?_
      | refine block_exit ?_
      | refine block_far rfl ?_
      | refine block_ret ?_
      | refine then_ret ?_
      | refine then_exit ?_
      | refine for_ret ?_
      | refine for_exit ?_
      | refine ct ?_
      | refine cf ?_
      | refine swp_cond rfl (fun hc => ?_) (fun hc => ?_)
      | refine retl (by first | exact .inr rfl | exact .inl rfl) rfl (.tmp rfl rfl .nil) ?_ rfl .nil (.cons rfl (by first | rfl | assumption | (symm; assumption)) .nil))
    rfl
end Go.Proofs.YtlcecabfmemfeaaGreat.Pol

/- auth's functions, as the logic of states has them. -/
namespace Go.Proofs.YtlcecabfmemfeaaGreat.Pol
set_option linter.unusedVariables false
set_option linter.unusedSimpArgs false
open Go.RowKit Mem Sim Opn WAddr WName WMatch WAuth
theorem tr2 {m : Mm} {a b : T} {x y : Value} (ha : TR m a x) (hb : TR m b y) : TR m (.tup [a, b]) (.tuple #[x, y]) := by
  refine .tup [a, b] #[x, y] rfl fun j t v h1 h2 => ?_
  match j, h1, h2 with
  | 0, h1, h2 => simp at h1 h2; subst h1 h2; exact ha
  | 1, h1, h2 => simp at h1 h2; subst h1 h2; exact hb
theorem args4 {m : Mm} {t0 t1 t2 t3 : T} {vals : Array Value} (hl : vals.size = [t0, t1, t2, t3].length) (hv : ∀ (i : Nat) t v, [t0, t1, t2, t3][i]? = some t → vals[i]? = some v → TR m t v) : ∃ x0 x1 x2 x3, vals = #[x0, x1, x2, x3] ∧ TR m t0 x0 ∧ TR m t1 x1 ∧ TR m t2 x2 ∧ TR m t3 x3 := by
  obtain ⟨l⟩ := vals
  match l, hl with
  | [x0, x1, x2, x3], _ => exact ⟨x0, x1, x2, x3, rfl, hv 0 _ _ rfl rfl, hv 1 _ _ rfl rfl, hv 2 _ _ rfl rfl, hv 3 _ _ rfl rfl⟩
theorem agg_inv {m : Mm} {cs : List T} {v : Value} (h : TR m (.agg cs) v) : ∃ vs : List Value, v = .agg vs.toArray ∧ CellsAre m cs vs := by
  cases h with
  | agg cs vs h h1 ht => exact ⟨vs.toList, by simp, by simpa using h, fun j t v h2 h3 => ⟨ht j t v h2 (by simpa using h3), h1 v (List.mem_of_getElem? h3)⟩⟩
theorem agg_bwd {m : Mm} {cs : List T} {vs : List Value} (h : CellsAre m cs vs) : TR m (.agg cs) (.agg vs.toArray) :=
  .agg cs vs.toArray (by simpa using h.1) (fun v hv => by
    obtain ⟨j, hj⟩ := List.getElem?_of_mem hv
    have hj' : vs[j]? = some v := by simpa using hj
    have hlt : j < cs.length := by rw [← h.1]; exact (List.getElem?_eq_some_iff.1 hj').1
    exact (h.2 j _ v (List.getElem?_eq_getElem hlt) hj').2) fun j t v h1 h2 => (h.2 j t v h1 (by simpa using h2)).1
theorem ask_inv {m : Mm} {a : Pl.Asker} {v : Value} (h : TR m (.agg (askT a)) v) : v = .agg #[.string a.ns, .string a.sa, .int .u32 a.addr] := by
  obtain ⟨vs, rfl, hc⟩ := agg_inv h
  rw [cells_ex hc [.string a.ns, .string a.sa, .int .u32 a.addr] rfl]
/-- what of a request fits, however many headers -/
structure OkReq0 (q : Pl.Req) : Prop where
  method : q.method.size ≤ maxLen
  path : q.path.size ≤ maxLen
  host : q.host.size ≤ maxLen
  heads : ∀ h ∈ q.heads, okHead h
theorem req_inv {m : Mm} {w : World} (hs : Sub m w) {q : Pl.Req} {tg qu : ByteArray} {bd v : Value} (hq : OkReq0 q) (h : TR m (.agg (reqT q tg qu bd)) v) : ∃ A cap, v = .agg #[.string q.method, .string tg, .string q.path, .string qu, .string q.host, .slice A q.heads.length cap, bd] ∧ SliceAt HeadR 2 w.heap.size w A q.heads ∧ q.heads.length ≤ maxLen ∧ bd.oneCell' = true := by
  obtain ⟨vs, rfl, hc⟩ := agg_inv h
  obtain ⟨u0, vs, rfl, h0, hc⟩ := cellsAre_inv hc
  obtain ⟨u1, vs, rfl, h1, hc⟩ := cellsAre_inv hc
  obtain ⟨u2, vs, rfl, h2, hc⟩ := cellsAre_inv hc
  obtain ⟨u3, vs, rfl, h3, hc⟩ := cellsAre_inv hc
  obtain ⟨u4, vs, rfl, h4, hc⟩ := cellsAre_inv hc
  obtain ⟨u5, vs, rfl, h5, hc⟩ := cellsAre_inv hc
  have hone : ∀ u ∈ vs, u.oneCell' = true := fun u hu => by
    obtain ⟨j, hj⟩ := List.getElem?_of_mem hu
    have hlt : j < 1 := by have := (List.getElem?_eq_some_iff.1 hj).1; have := hc.1; simp at this; omega
    have : j = 0 := by omega
    subst this
    exact (hc.2 0 _ u rfl hj).2
  obtain ⟨u6, vs, rfl, h6, hc⟩ := cellsAre_inv hc
  obtain rfl := cellsAre_inv0 hc
  obtain ⟨A, cap, e, hA, hc1, hc2⟩ := sl_fwd hs (by omega) (head_fwd hs) hq.heads h5
  injection e with e; subst e
  rw [tr_v h6] at hone
  rw [tr_v h0, tr_v h1, tr_v h2, tr_v h3, tr_v h4, tr_v h6]
  exact ⟨A, cap, rfl, hA, Nat.le_trans hc1 hc2, hone bd (by simp)⟩
theorem pols_inv {m : Mm} {w : World} (hs : Sub m w) {l : List Pl.Policy} {v : Value} (hl : ∀ p ∈ l, okPolicy p) (h : TR m (.sl 5 (l.map polT)) v) : ∃ A cap, v = .slice A l.length cap ∧ SliceAt PolicyR 5 w.heap.size w A l ∧ l.length ≤ maxLen := by
  obtain ⟨A, cap, e, hA, hc1, hc2⟩ := sl_fwd hs (by omega) (policy_fwd hs) hl h
  injection e with e; subst e
  exact ⟨A, cap, rfl, hA, Nat.le_trans hc1 hc2⟩
theorem p_judge (l : List Pl.Policy) (hl : ∀ p ∈ l, okPolicy p) (a : Pl.Asker) (ha : OkAsk a) (port : Int) (q : Pl.Req) (hq : OkReq0 q) (hf : q.heads.length ≤ 1000) (tg qu : ByteArray) (bd : Value) :
    PCalls Tryz.prog 25 [.sl 5 (l.map polT), .agg (askT a), .v (.int .i64 port), .agg (reqT q tg qu bd)] (.tup [.v (.bool (Pl.judgeP (matchP a port q) l).1), .v (.int .u64 (Pl.judgeP (matchP a port q) l).2)]) where
  ent := ent_of Tryz.func25 rfl rfl
  run := fun m w vals hm hvl hv => by
    obtain ⟨x0, x1, x2, x3, rfl, h0, h1, h2, h3⟩ := args4 hvl hv
    obtain ⟨A0, cap0, rfl, hA0, hn⟩ := pols_inv hm hl h0
    obtain rfl := ask_inv h1
    rw [tr_v h2]
    obtain ⟨A, cap, rfl, hA, _, _⟩ := req_inv hm hq h3
    refine (judge l A0 cap0 a port q A cap tg qu bd w (Nat.le_refl _) hA0 hn ⟨ha.ns, ha.sa, hq.method, hq.path, hq.host, hA, hf⟩).mono fun e w' ⟨he, hlo⟩ => ?_
    rw [he]
    exact post_ex hm hlo (tr2 (.v _) (.v _))
theorem p_long (l : List Pl.Policy) (hl : ∀ p ∈ l, okPolicy p) (a : Pl.Asker) (ha : OkAsk a) (q : Pl.Req) (hq : OkReq0 q) (tg qu : ByteArray) (bd : Value) :
    PCalls Tryz.prog 7 [.sl 5 (l.map polT), .agg (askT a), .agg (reqT q tg qu bd)] (.v (.bool (long13 l a q))) where
  ent := ent_of Tryz.func7 rfl rfl
  run := fun m w vals hm hvl hv => by
    obtain ⟨x0, x1, x3, rfl, h0, h1, h3⟩ := args3 hvl hv
    obtain ⟨A0, cap0, rfl, hA0, hn⟩ := pols_inv hm hl h0
    obtain rfl := ask_inv h1
    obtain ⟨A, cap, rfl, hA, hn2, hbd⟩ := req_inv hm hq h3
    refine (long13_ l A0 cap0 a q A cap (.string tg) (.string qu) bd w (Nat.le_refl _) hA0 hn ⟨ha.ns, ha.sa, hq.method, hq.path, hq.host, hA, hn2⟩ rfl rfl hbd).mono fun e w' ⟨he, hlo⟩ => ?_
    rw [he]
    exact post_ex hm hlo (.v _)
theorem few_rule {r : Pl.Rule} (h : longRule r = false) : FewR r := by
  unfold longRule at h
  simp only [Bool.or_eq_false_iff, decide_eq_false_iff_not, List.any_eq_false] at h
  obtain ⟨⟨⟨⟨⟨h1, h2⟩, h3⟩, h4⟩, h5⟩, h6⟩ := h
  refine ⟨by omega, by omega, by omega, fun s hs => ?_, fun s hs => ?_, fun s hs => ?_⟩
  · have := h4 s hs
    simp [srcLong, termsB, rowLong] at this
    omega
  · have := h5 s hs
    simp [tgtLong, termsB, rowLong] at this
    omega
  · have := h6 s hs
    simp [whenLong, termsB, rowLong] at this
    omega
theorem few_pol {p : Pl.Policy} (h : longPol p = false) : FewP p := by
  unfold longPol at h
  simp only [Bool.or_eq_false_iff, decide_eq_false_iff_not, List.any_eq_false] at h
  exact ⟨by omega, fun r hr => few_rule (by simpa using h.2 r hr)⟩
theorem few_long {l : List Pl.Policy} {a : Pl.Asker} {q : Pl.Req} (h : long13 l a q = false) : FewL l ∧ l.length ≤ 30 ∧ q.heads.length ≤ 100 ∧ ∀ p ∈ l, FewP p := by
  unfold long13 longHeads at h
  simp only [Bool.or_eq_false_iff, decide_eq_false_iff_not, List.any_eq_false] at h
  have hp : ∀ p ∈ l, FewP p := fun p hp => few_pol (by simpa using h.2 p hp)
  exact ⟨⟨by omega, fun p h => ⟨(hp p h).n, (hp p h).r⟩⟩, by omega, by omega, hp⟩
end Go.Proofs.YtlcecabfmemfeaaGreat.Pol

/- split.Four, split.Seven, by the logic of states. -/
namespace Go.Proofs.YtlcecabfmemfeaaGreat.Pol
set_option linter.unusedVariables false
set_option linter.unusedSimpArgs false
open Go.RowKit Mem Sim Opn WAddr WName WMatch WAuth
set_option maxRecDepth 100000 in
set_option maxHeartbeats 1000000 in
theorem four1_ (p : Pl.Policy) (h : FewP p) : PCalls Tryz.prog 30 [.agg (polT p)] (.agg (polT (Pl.four4 p))) := by
  have c1 := halved_ p.rules h.n h.r
  refine pcalls_of Tryz.func30 rfl rfl Tryz.ntmps30 rfl ?_
  repeat' (first
    | refine then_go ?_
    | refine swp_seq ?_
    | ((refine swp_region (id := 0) ?_) <;> (refine sops_box (.free rfl rfl) rfl rfl rfl rfl rfl rfl ?_) <;> (refine sops_allocS str50 (.free rfl rfl) rfl rfl rfl rfl ?_) <;> (refine sops_nil ?_))
    | ((refine swp_region (id := 1) ?_) <;> (first | refine sops_pure (.free rfl rfl) rfl rfl (po_field_bx rfl rfl (tyF rfl)) ?_ | refine sops_pure (.free rfl rfl) rfl rfl (po_field rfl rfl (tyF rfl)) ?_) <;> (first | refine sops_pure (.free rfl rfl) rfl rfl (po_load_bx rfl rfl (tyT rfl) rfl rfl) ?_ | refine sops_pure (.free rfl rfl) rfl rfl (po_load rfl rfl (tyT rfl) rfl) ?_) <;> (refine sops_pure (.free rfl rfl) rfl rfl (po_call (c1) rfl (ac .nil)) ?_) <;> (first | refine sops_pure (.free rfl rfl) rfl rfl (po_field_bx rfl rfl (tyF rfl)) ?_ | refine sops_pure (.free rfl rfl) rfl rfl (po_field rfl rfl (tyF rfl)) ?_) <;> (refine sops_store (.free rfl rfl) rfl rfl rfl rfl rfl rfl (tyT rfl) rfl rfl ?_) <;> (refine sops_nil ?_))
    | ((refine swp_region (id := 2) ?_) <;> (first | refine sops_pure (.free rfl rfl) rfl rfl (po_load_bx_agg rfl rfl (tyT rfl) rfl (vc (vc (vc (vc (vc .nil))))) rfl) ?_ | refine sops_pure (.free rfl rfl) rfl rfl (po_load_agg rfl rfl (tyT rfl) rfl rfl) ?_) <;> (refine sops_store (.free rfl rfl) rfl rfl rfl rfl rfl rfl (tyT rfl) rfl rfl ?_) <;> (refine sops_nil ?_))
    | refine swp_ret ?_
    | refine swp_skip ?_
    | refine swp_block ?_
    | refine swp_exit ?_
    | refine block_go ?_
    | refine block_exit ?_
    | refine block_far rfl ?_
    | refine block_ret ?_
    | refine then_ret ?_
    | refine then_exit ?_
    | refine for_ret ?_
    | refine for_exit ?_
    | refine ct ?_
    | refine cf ?_
    | refine swp_cond rfl (fun hc => ?_) (fun hc => ?_)
    | exact retq1 (by first | exact .inr rfl | exact .inl rfl) rfl (.cell rfl rfl (tyT rfl) (vc (vc (vc (vc (vc .nil))))) rfl .nil)
    | refine retq (by first | exact .inr rfl | exact .inl rfl) rfl (.cell rfl rfl (tyT rfl) (vc (vc (vc (vc (vc .nil))))) rfl .nil) ?_)
theorem agg_le {a b c d : T} : ∀ m v, TR m (.agg [a, b, c, d, .v (.slice none 0 0)]) v → TR m (.agg [a, b, c, d, .sl 3 []]) v := fun m v h => by
  obtain ⟨vs, rfl, hc⟩ := agg_inv h
  obtain ⟨u0, vs, rfl, h0, hc⟩ := cellsAre_inv hc
  obtain ⟨u1, vs, rfl, h1, hc⟩ := cellsAre_inv hc
  obtain ⟨u2, vs, rfl, h2, hc⟩ := cellsAre_inv hc
  obtain ⟨u3, vs, rfl, h3, hc⟩ := cellsAre_inv hc
  obtain ⟨u4, vs, rfl, h4, hc⟩ := cellsAre_inv hc
  obtain rfl := cellsAre_inv0 hc
  cases h with
  | agg _ _ _ h5 _ =>
    exact agg_bwd (cellsAre_cons h0 (h5 _ (by simp)) (cellsAre_cons h1 (h5 _ (by simp)) (cellsAre_cons h2 (h5 _ (by simp)) (cellsAre_cons h3 (h5 _ (by simp)) (cellsAre_cons (nilT 3 m _ h4) (h5 _ (by simp)) (cellsAre_nil _))))))
def req0 : Pl.Req := ⟨⟨#[]⟩, ⟨#[]⟩, ⟨#[]⟩, []⟩
theorem req_le {a b c d e : T} {f : T} : ∀ m v, TR m (.agg [a, b, c, d, e, .v (.slice none 0 0), f]) v → TR m (.agg [a, b, c, d, e, .sl 2 [], f]) v := fun m v h => by
  obtain ⟨vs, rfl, hc⟩ := agg_inv h
  obtain ⟨u0, vs, rfl, h0, hc⟩ := cellsAre_inv hc
  obtain ⟨u1, vs, rfl, h1, hc⟩ := cellsAre_inv hc
  obtain ⟨u2, vs, rfl, h2, hc⟩ := cellsAre_inv hc
  obtain ⟨u3, vs, rfl, h3, hc⟩ := cellsAre_inv hc
  obtain ⟨u4, vs, rfl, h4, hc⟩ := cellsAre_inv hc
  obtain ⟨u5, vs, rfl, h5, hc⟩ := cellsAre_inv hc
  obtain ⟨u6, vs, rfl, h6, hc⟩ := cellsAre_inv hc
  obtain rfl := cellsAre_inv0 hc
  cases h with
  | agg _ _ _ h7 _ =>
    exact agg_bwd (cellsAre_cons h0 (h7 _ (by simp)) (cellsAre_cons h1 (h7 _ (by simp)) (cellsAre_cons h2 (h7 _ (by simp)) (cellsAre_cons h3 (h7 _ (by simp)) (cellsAre_cons h4 (h7 _ (by simp)) (cellsAre_cons (nilT 2 m _ h5) (h7 _ (by simp)) (cellsAre_cons h6 (h7 _ (by simp)) (cellsAre_nil _))))))))
theorem ok_noPol : okPolicy Pl.noPol := ⟨by decide, by decide, by decide, by decide, fun y hy => by cases hy⟩
set_option maxRecDepth 100000 in
set_option maxHeartbeats 2000000 in
theorem sSays_ (l : List Pl.Policy) (hl : ∀ p ∈ l, okPolicy p) (hn : l.length ≤ 1000) (allow : Int) (a : Pl.Asker) (ha : OkAsk a) (port : Int) (q : Pl.Req) (hq : OkReq0 q) (hf : q.heads.length ≤ 1000) (tg qu : ByteArray) (bd : Value) :
    PCalls Tryz.prog 32 [.sl 5 (l.map polT), .v (.int .i64 allow), .agg (askT a), .v (.int .i64 port), .agg (reqT q tg qu bd)] (.tup [.v (.bool (Pl.judgeP (matchP a port q) (Pl.saysL l allow)).1), .v (.int .u64 (Pl.judgeP (matchP a port q) (Pl.saysL l allow)).2)]) := by
  have hm1 : (l.map polT).length = l.length := List.length_map _
  have hbd : (l.map polT).length * 64 ≤ 140737488355328 := by omega
  have hmx : (l.map polT).length ≤ maxLen := by unfold maxLen; omega
  have c1 := clonePols (l.map polT) hbd hmx
  have c2 := p_judge (Pl.saysL l allow) (fun p hp => by
    unfold Pl.saysL at hp
    split at hp
    · rcases List.mem_append.1 hp with hp | hp
      · exact hl p hp
      · simp at hp; subst hp; exact ok_noPol
    · exact hl p hp) a ha port q hq hf tg qu bd
  unfold Pl.saysL at c2 ⊢
  refine pcalls_of Tryz.func32 rfl rfl Tryz.ntmps32 rfl ?_
  by_cases h1 : allow = 1
  · rw [if_pos h1] at c2 ⊢
    rw [List.map_append] at c2
    have g1 : ((l.map polT).length + 1) * 64 ≤ 140737488355328 := by omega
    have g2 : (l.map polT).length + 1 ≤ maxLen := by unfold maxLen; omega
    repeat' (first
      | refine then_go ?_
      | refine swp_seq ?_
      | ((refine swp_region (id := 0) ?_) <;> (first | refine sops_pure (.free rfl rfl) rfl rfl (po_buildSlice rfl (tyE rfl) (.cons rfl (.le agg_le) rfl rfl (.nil _)) rfl rfl rfl) ?_ | refine sops_box (.free rfl rfl) rfl rfl rfl rfl rfl rfl ?_) <;> (first | refine sops_pure (.free rfl rfl) rfl rfl (po_buildSlice rfl (tyE rfl) (.cons rfl (.le agg_le) rfl rfl (.nil _)) rfl rfl rfl) ?_ | refine sops_box (.free rfl rfl) rfl rfl rfl rfl rfl rfl ?_) <;> (first | refine sops_pure (.free rfl rfl) rfl rfl (po_buildSlice rfl (tyE rfl) (.cons rfl (.le agg_le) rfl rfl (.nil _)) rfl rfl rfl) ?_ | refine sops_pure (.free rfl rfl) rfl rfl (po_assign rfl rfl) ?_) <;> (first | refine sops_pure (.free rfl rfl) rfl rfl (po_buildSlice rfl (tyE rfl) (.cons rfl (.le agg_le) rfl rfl (.nil _)) rfl rfl rfl) ?_ | refine sops_pure (.free rfl rfl) rfl rfl (po_assign rfl rfl) ?_) <;> (refine sops_nil ?_))
      | ((refine swp_region (id := 1) ?_) <;> (first | refine sops_pure (.free rfl rfl) rfl rfl (po_buildSlice rfl (tyE rfl) (.cons rfl (.le agg_le) rfl rfl (.nil _)) rfl rfl rfl) ?_ | refine sops_pure (.free rfl rfl) rfl rfl (po_move rfl rfl) ?_) <;> (first | refine sops_pure (.free rfl rfl) rfl rfl (po_buildSlice rfl (tyE rfl) (.cons rfl (.le agg_le) rfl rfl (.nil _)) rfl rfl rfl) ?_ | refine sops_pure (.free rfl rfl) rfl rfl (po_cmp rfl rfl rfl rfl) ?_) <;> (refine sops_nil ?_))
      | ((refine swp_region (id := 2) ?_) <;> (first | refine sops_pure (.free rfl rfl) rfl rfl (po_buildSlice rfl (tyE rfl) (.cons rfl (.le agg_le) rfl rfl (.nil _)) rfl rfl rfl) ?_ | refine sops_pure (.free rfl rfl) rfl rfl (po_move rfl rfl) ?_) <;> (first | refine sops_pure (.free rfl rfl) rfl rfl (po_buildSlice rfl (tyE rfl) (.cons rfl (.le agg_le) rfl rfl (.nil _)) rfl rfl rfl) ?_ | refine sops_lcall (c1) (fun i => i) (fun i => i) (fun _ => false) (.free rfl rfl) rfl rfl rfl (by first | ((repeat' (first | exact .nil | refine .cons rfl rfl rfl ?_ | refine .vw rfl (by first | exact .t _ | exact .own rfl (by first | rfl | assumption | (simp; done) | (simp; omega)) | exact .nil _ | exact .emp _ | exact .fn _) ?_)) <;> fail) | fail) .nil .nil rfl rfl (fun _ h => Bool.noConfusion h) ?_ | refine sops_pure (.free rfl rfl) rfl rfl (po_call_see (c2) rfl (.cons rfl (by first | exact .t _ | exact .own rfl (by first | rfl | assumption | omega | (simp; done) | (simp; omega) | (simp at *; omega)) | exact .nil _ | exact .emp _ | exact .fn _ | (repeat' first | exact .agn | refine .agc ?_ ?_ | exact .t _ | exact .own rfl rfl)) .nil) rfl) ?_) <;> (first | refine sops_pure (.free rfl rfl) rfl rfl (po_buildSlice rfl (tyE rfl) (.cons rfl (.le agg_le) rfl rfl (.nil _)) rfl rfl rfl) ?_ | refine sops_pure (.free rfl rfl) rfl rfl (po_buildS str50 rfl .nil rfl) ?_) <;> (first | refine sops_pure (.free rfl rfl) rfl rfl (po_buildSlice rfl (tyE rfl) (.cons rfl (.le agg_le) rfl rfl (.nil _)) rfl rfl rfl) ?_ | refine sops_pure (.free rfl rfl) rfl rfl (po_buildSlice rfl (tyE rfl) (dc (.nil _)) rfl rfl rfl) ?_) <;> (first | refine sops_pure (.free rfl rfl) rfl rfl (po_buildSlice rfl (tyE rfl) (.cons rfl (.le agg_le) rfl rfl (.nil _)) rfl rfl rfl) ?_ | refine sap rfl (tyE rfl) ?_ | refine san rfl (tyE rfl) ?_) <;> (first | refine sops_pure (.free rfl rfl) rfl rfl (po_buildSlice rfl (tyE rfl) (.cons rfl (.le agg_le) rfl rfl (.nil _)) rfl rfl rfl) ?_ | refine sops_pure (.free rfl rfl) rfl rfl (po_assign rfl rfl) ?_) <;> (refine sops_nil ?_))
      | ((refine swp_region (id := 3) ?_) <;> (first | refine sops_pure (.free rfl rfl) rfl rfl (po_buildSlice rfl (tyE rfl) (.cons rfl (.le agg_le) rfl rfl (.nil _)) rfl rfl rfl) ?_ | refine sops_pure (.free rfl rfl) rfl rfl (po_move rfl rfl) ?_) <;> (first | refine sops_pure (.free rfl rfl) rfl rfl (po_buildSlice rfl (tyE rfl) (.cons rfl (.le agg_le) rfl rfl (.nil _)) rfl rfl rfl) ?_ | refine sops_pure (.free rfl rfl) rfl rfl (po_load_bx_agg rfl rfl (tyT rfl) rfl (vc (vc (vc .nil))) rfl) ?_ | refine sops_pure (.free rfl rfl) rfl rfl (po_load_agg rfl rfl (tyT rfl) rfl rfl) ?_) <;> (first | refine sops_pure (.free rfl rfl) rfl rfl (po_buildSlice rfl (tyE rfl) (.cons rfl (.le agg_le) rfl rfl (.nil _)) rfl rfl rfl) ?_ | refine sops_pure (.free rfl rfl) rfl rfl (po_move rfl rfl) ?_) <;> (first | refine sops_pure (.free rfl rfl) rfl rfl (po_buildSlice rfl (tyE rfl) (.cons rfl (.le agg_le) rfl rfl (.nil _)) rfl rfl rfl) ?_ | refine sops_pure (.free rfl rfl) rfl rfl (po_load_bx_agg rfl rfl (tyT rfl) rfl (vc (vc (vc (vc (vc (vc (vc .nil))))))) rfl) ?_ | refine sops_pure (.free rfl rfl) rfl rfl (po_load_agg rfl rfl (tyT rfl) rfl rfl) ?_) <;> (first | refine sops_pure (.free rfl rfl) rfl rfl (po_buildSlice rfl (tyE rfl) (.cons rfl (.le agg_le) rfl rfl (.nil _)) rfl rfl rfl) ?_ | refine sops_lcall (c1) (fun i => i) (fun i => i) (fun _ => false) (.free rfl rfl) rfl rfl rfl (by first | ((repeat' (first | exact .nil | refine .cons rfl rfl rfl ?_ | refine .vw rfl (by first | exact .t _ | exact .own rfl (by first | rfl | assumption | (simp; done) | (simp; omega)) | exact .nil _ | exact .emp _ | exact .fn _) ?_)) <;> fail) | fail) .nil .nil rfl rfl (fun _ h => Bool.noConfusion h) ?_ | refine sops_pure (.free rfl rfl) rfl rfl (po_call_see (c2) rfl (.cons rfl (by first | exact .t _ | exact .own rfl (by first | rfl | assumption | omega | (simp; done) | (simp; omega) | (simp at *; omega)) | exact .nil _ | exact .emp _ | exact .fn _ | (repeat' first | exact .agn | refine .agc ?_ ?_ | exact .t _ | exact .own rfl rfl)) (.cons rfl (by first | exact .t _ | exact .own rfl (by first | rfl | assumption | omega | (simp; done) | (simp; omega) | (simp at *; omega)) | exact .nil _ | exact .emp _ | exact .fn _ | (repeat' first | exact .agn | refine .agc ?_ ?_ | exact .t _ | exact .own rfl rfl)) (.cons rfl (by first | exact .t _ | exact .own rfl (by first | rfl | assumption | omega | (simp; done) | (simp; omega) | (simp at *; omega)) | exact .nil _ | exact .emp _ | exact .fn _ | (repeat' first | exact .agn | refine .agc ?_ ?_ | exact .t _ | exact .own rfl rfl)) (.cons rfl (by first | exact .t _ | exact .own rfl (by first | rfl | assumption | omega | (simp; done) | (simp; omega) | (simp at *; omega)) | exact .nil _ | exact .emp _ | exact .fn _ | (repeat' first | exact .agn | refine .agc ?_ ?_ | exact .t _ | exact .own rfl rfl)) .nil)))) rfl) ?_) <;> (first | refine sops_pure (.free rfl rfl) rfl rfl (po_buildSlice rfl (tyE rfl) (.cons rfl (.le agg_le) rfl rfl (.nil _)) rfl rfl rfl) ?_ | refine sops_pure (.free rfl rfl) rfl rfl (po_extract rfl rfl rfl) ?_) <;> (first | refine sops_pure (.free rfl rfl) rfl rfl (po_buildSlice rfl (tyE rfl) (.cons rfl (.le agg_le) rfl rfl (.nil _)) rfl rfl rfl) ?_ | refine sops_pure (.free rfl rfl) rfl rfl (po_extract rfl rfl rfl) ?_) <;> (first | refine sops_pure (.free rfl rfl) rfl rfl (po_buildSlice rfl (tyE rfl) (.cons rfl (.le agg_le) rfl rfl (.nil _)) rfl rfl rfl) ?_ | refine sops_pure (.free rfl rfl) rfl rfl (po_assign rfl rfl) ?_) <;> (first | refine sops_pure (.free rfl rfl) rfl rfl (po_buildSlice rfl (tyE rfl) (.cons rfl (.le agg_le) rfl rfl (.nil _)) rfl rfl rfl) ?_ | refine sops_pure (.free rfl rfl) rfl rfl (po_assign rfl rfl) ?_) <;> (refine sops_nil ?_))
      | refine swp_ret ?_
      | refine swp_skip ?_
      | refine swp_block ?_
      | refine swp_exit ?_
      | refine block_go ?_
      | refine block_exit ?_
      | refine block_far rfl ?_
      | refine block_ret ?_
      | refine then_ret ?_
      | refine then_exit ?_
      | refine for_ret ?_
      | refine for_exit ?_
      | refine ct ?_
      | refine cf ?_
      | refine swp_cond rfl (fun hc => ?_) (fun hc => ?_)
      | refine retq (by first | exact .inr rfl | exact .inl rfl) rfl (.tmp rfl (by first | exact .t _ | exact .own rfl (by first | rfl | assumption | (simp; done) | (simp; omega)) | exact .nil _ | exact .emp _ | exact .fn _) (.tmp rfl (by first | exact .t _ | exact .own rfl (by first | rfl | assumption | (simp; done) | (simp; omega)) | exact .nil _ | exact .emp _ | exact .fn _) .nil)) ?_)
    rfl
  · rw [if_neg h1] at c2 ⊢
    repeat' (first
      | refine then_go ?_
      | refine swp_seq ?_
      | ((refine swp_region (id := 0) ?_) <;> (refine sops_box (.free rfl rfl) rfl rfl rfl rfl rfl rfl ?_) <;> (refine sops_box (.free rfl rfl) rfl rfl rfl rfl rfl rfl ?_) <;> (refine sops_pure (.free rfl rfl) rfl rfl (po_assign rfl rfl) ?_) <;> (refine sops_pure (.free rfl rfl) rfl rfl (po_assign rfl rfl) ?_) <;> (refine sops_nil ?_))
      | ((refine swp_region (id := 1) ?_) <;> (refine sops_pure (.free rfl rfl) rfl rfl (po_move rfl rfl) ?_) <;> (refine sops_pure (.free rfl rfl) rfl rfl (po_cmp rfl rfl rfl rfl) ?_) <;> (refine sops_nil ?_))
      | ((refine swp_region (id := 2) ?_) <;> (refine sops_pure (.free rfl rfl) rfl rfl (po_move rfl rfl) ?_) <;> (refine sops_pure (.free rfl rfl) rfl rfl (po_call_see (c2) rfl (.cons rfl (by first | exact .t _ | exact .own rfl (by first | rfl | assumption | omega | (simp; done) | (simp; omega) | (simp at *; omega)) | exact .nil _ | exact .emp _ | exact .fn _ | (repeat' first | exact .agn | refine .agc ?_ ?_ | exact .t _ | exact .own rfl rfl)) .nil) rfl) ?_) <;> (refine sops_pure (.free rfl rfl) rfl rfl (po_buildS str50 rfl .nil rfl) ?_) <;> (refine sops_pure (.free rfl rfl) rfl rfl (po_buildSlice rfl (tyE rfl) (dc (.nil _)) rfl rfl rfl) ?_) <;> (first | refine sap rfl (tyE rfl) ?_ | refine san rfl (tyE rfl) ?_) <;> (refine sops_pure (.free rfl rfl) rfl rfl (po_assign rfl rfl) ?_) <;> (refine sops_nil ?_))
      | ((refine swp_region (id := 3) ?_) <;> (refine sops_pure (.free rfl rfl) rfl rfl (po_move rfl rfl) ?_) <;> (first | refine sops_pure (.free rfl rfl) rfl rfl (po_load_bx_agg rfl rfl (tyT rfl) rfl (vc (vc (vc .nil))) rfl) ?_ | refine sops_pure (.free rfl rfl) rfl rfl (po_load_agg rfl rfl (tyT rfl) rfl rfl) ?_) <;> (refine sops_pure (.free rfl rfl) rfl rfl (po_move rfl rfl) ?_) <;> (first | refine sops_pure (.free rfl rfl) rfl rfl (po_load_bx_agg rfl rfl (tyT rfl) rfl (vc (vc (vc (vc (vc (vc (vc .nil))))))) rfl) ?_ | refine sops_pure (.free rfl rfl) rfl rfl (po_load_agg rfl rfl (tyT rfl) rfl rfl) ?_) <;> (refine sops_pure (.free rfl rfl) rfl rfl (po_call_see (c2) rfl (.cons rfl (by first | exact .t _ | exact .own rfl (by first | rfl | assumption | omega | (simp; done) | (simp; omega) | (simp at *; omega)) | exact .nil _ | exact .emp _ | exact .fn _ | (repeat' first | exact .agn | refine .agc ?_ ?_ | exact .t _ | exact .own rfl rfl)) (.cons rfl (by first | exact .t _ | exact .own rfl (by first | rfl | assumption | omega | (simp; done) | (simp; omega) | (simp at *; omega)) | exact .nil _ | exact .emp _ | exact .fn _ | (repeat' first | exact .agn | refine .agc ?_ ?_ | exact .t _ | exact .own rfl rfl)) (.cons rfl (by first | exact .t _ | exact .own rfl (by first | rfl | assumption | omega | (simp; done) | (simp; omega) | (simp at *; omega)) | exact .nil _ | exact .emp _ | exact .fn _ | (repeat' first | exact .agn | refine .agc ?_ ?_ | exact .t _ | exact .own rfl rfl)) (.cons rfl (by first | exact .t _ | exact .own rfl (by first | rfl | assumption | omega | (simp; done) | (simp; omega) | (simp at *; omega)) | exact .nil _ | exact .emp _ | exact .fn _ | (repeat' first | exact .agn | refine .agc ?_ ?_ | exact .t _ | exact .own rfl rfl)) .nil)))) rfl) ?_) <;> (refine sops_pure (.free rfl rfl) rfl rfl (po_extract rfl rfl rfl) ?_) <;> (refine sops_pure (.free rfl rfl) rfl rfl (po_extract rfl rfl rfl) ?_) <;> (refine sops_pure (.free rfl rfl) rfl rfl (po_assign rfl rfl) ?_) <;> (refine sops_pure (.free rfl rfl) rfl rfl (po_assign rfl rfl) ?_) <;> (refine sops_nil ?_))
      | refine swp_ret ?_
      | refine swp_skip ?_
      | refine swp_block ?_
      | refine swp_exit ?_
      | refine block_go ?_
      | refine block_exit ?_
      | refine block_far rfl ?_
      | refine block_ret ?_
      | refine then_ret ?_
      | refine then_exit ?_
      | refine for_ret ?_
      | refine for_exit ?_
      | refine ct ?_
      | refine cf ?_
      | refine swp_cond rfl (fun hc => ?_) (fun hc => ?_)
      | refine retq (by first | exact .inr rfl | exact .inl rfl) rfl (.tmp rfl (by first | exact .t _ | exact .own rfl (by first | rfl | assumption | (simp; done) | (simp; omega)) | exact .nil _ | exact .emp _ | exact .fn _) (.tmp rfl (by first | exact .t _ | exact .own rfl (by first | rfl | assumption | (simp; done) | (simp; omega)) | exact .nil _ | exact .emp _ | exact .fn _) .nil)) ?_)
    rfl
set_option maxRecDepth 100000 in
set_option maxHeartbeats 2000000 in
theorem seven_ (l : List Pl.Policy) (hl : ∀ p ∈ l, okPolicy p) (hn : l.length ≤ 1000) (allow : Int) (a : Pl.Asker) (ha : OkAsk a) (port : Int) (q : Pl.Req) (hq : OkReq0 q) (hf : q.heads.length ≤ 1000) (tg qu : ByteArray) (bd : Value) :
    PCalls Tryz.prog 11 [.agg [.sl 5 (l.map polT), .v (.int .i64 allow)], .agg (askT a), .v (.int .i64 port), .agg (reqT q tg qu bd)] (.tup [.v (.bool (Pl.judgeP (matchP a port q) (Pl.saysL l allow)).1), .v (.int .u64 (Pl.judgeP (matchP a port q) (Pl.saysL l allow)).2)]) := by
  have c1 := sSays_ l hl hn allow a ha port q hq hf tg qu bd
  refine pcalls_of Tryz.func11 rfl rfl Tryz.ntmps11 rfl ?_
  repeat' (first
    | refine then_go ?_
    | refine swp_seq ?_
    | ((refine swp_region (id := 0) ?_) <;> (refine sops_box (.free rfl rfl) rfl rfl rfl rfl rfl rfl ?_) <;> (refine sops_box (.free rfl rfl) rfl rfl rfl rfl rfl rfl ?_) <;> (refine sops_box (.free rfl rfl) rfl rfl rfl rfl rfl rfl ?_) <;> (refine sops_pure (.free rfl rfl) rfl rfl (po_assign rfl rfl) ?_) <;> (refine sops_pure (.free rfl rfl) rfl rfl (po_assign rfl rfl) ?_) <;> (refine sops_nil ?_))
    | ((refine swp_region (id := 1) ?_) <;> (first | refine sops_pure (.free rfl rfl) rfl rfl (po_field_bx rfl rfl (tyF rfl)) ?_ | refine sops_pure (.free rfl rfl) rfl rfl (po_field rfl rfl (tyF rfl)) ?_) <;> (first | refine sops_pure (.free rfl rfl) rfl rfl (po_load_bx rfl rfl (tyT rfl) rfl rfl) ?_ | refine sops_pure (.free rfl rfl) rfl rfl (po_load rfl rfl (tyT rfl) rfl) ?_) <;> (first | refine sops_pure (.free rfl rfl) rfl rfl (po_field_bx rfl rfl (tyF rfl)) ?_ | refine sops_pure (.free rfl rfl) rfl rfl (po_field rfl rfl (tyF rfl)) ?_) <;> (first | refine sops_pure (.free rfl rfl) rfl rfl (po_load_bx rfl rfl (tyT rfl) rfl rfl) ?_ | refine sops_pure (.free rfl rfl) rfl rfl (po_load rfl rfl (tyT rfl) rfl) ?_) <;> (first | refine sops_pure (.free rfl rfl) rfl rfl (po_load_bx_agg rfl rfl (tyT rfl) rfl (vc (vc (vc .nil))) rfl) ?_ | refine sops_pure (.free rfl rfl) rfl rfl (po_load_agg rfl rfl (tyT rfl) rfl rfl) ?_) <;> (refine sops_pure (.free rfl rfl) rfl rfl (po_move rfl rfl) ?_) <;> (first | refine sops_pure (.free rfl rfl) rfl rfl (po_load_bx_agg rfl rfl (tyT rfl) rfl (vc (vc (vc (vc (vc (vc (vc .nil))))))) rfl) ?_ | refine sops_pure (.free rfl rfl) rfl rfl (po_load_agg rfl rfl (tyT rfl) rfl rfl) ?_) <;> (refine sops_pure (.free rfl rfl) rfl rfl (po_call (c1) rfl (ac (ac (ac (ac (ac .nil)))))) ?_) <;> (refine sops_pure (.free rfl rfl) rfl rfl (po_extract rfl rfl rfl) ?_) <;> (refine sops_pure (.free rfl rfl) rfl rfl (po_extract rfl rfl rfl) ?_) <;> (refine sops_pure (.free rfl rfl) rfl rfl (po_assign rfl rfl) ?_) <;> (refine sops_pure (.free rfl rfl) rfl rfl (po_assign rfl rfl) ?_) <;> (refine sops_nil ?_))
    | refine swp_ret ?_
    | refine swp_skip ?_
    | refine swp_block ?_
    | refine swp_exit ?_
    | refine block_go ?_
    | refine block_exit ?_
    | refine block_far rfl ?_
    | refine block_ret ?_
    | refine then_ret ?_
    | refine then_exit ?_
    | refine for_ret ?_
    | refine for_exit ?_
    | refine ct ?_
    | refine cf ?_
    | refine swp_cond rfl (fun hc => ?_) (fun hc => ?_)
    | refine retq (by first | exact .inr rfl | exact .inl rfl) rfl (.tmp rfl (by first | exact .t _ | exact .own rfl (by first | rfl | assumption | (simp; done) | (simp; omega)) | exact .nil _ | exact .emp _ | exact .fn _) (.tmp rfl (by first | exact .t _ | exact .own rfl (by first | rfl | assumption | (simp; done) | (simp; omega)) | exact .nil _ | exact .emp _ | exact .fn _) .nil)) ?_)
  rfl
theorem ok_four4 {p : Pl.Policy} (h : okPolicy p) : okPolicy (Pl.four4 p) := ⟨h.1, h.2.1, h.2.2.1, h.2.2.2.1, fun r hr => by
  obtain ⟨r0, h0, rfl⟩ := List.mem_map.1 hr
  obtain ⟨h1, h2, h3⟩ := h.2.2.2.2 r0 h0
  refine ⟨h1, fun t ht => ?_, fun w hw => by cases hw⟩
  obtain ⟨t0, h4, rfl⟩ := List.mem_map.1 ht
  exact ⟨(h2 t0 h4).1, (fun y hy => by cases hy), (fun y hy => by cases hy), (fun y hy => by cases hy)⟩⟩
theorem okReq0_0 : OkReq0 req0 := ⟨by decide, by decide, by decide, fun h hh => by cases hh⟩
set_option maxRecDepth 100000 in
set_option maxHeartbeats 2000000 in
theorem fourS_ (l : List Pl.Policy) (hl : ∀ p ∈ l, okPolicy p) (hf : ∀ p ∈ l, FewP p) (hn : l.length ≤ 1000) (allow : Int) (a : Pl.Asker) (ha : OkAsk a) (port : Int) :
    PCalls Tryz.prog 9 [.agg [.sl 5 (l.map polT), .v (.int .i64 allow)], .agg (askT a), .v (.int .i64 port)] (.tup [.v (.bool (Pl.judgeP (matchP a port req0) (Pl.saysL (l.map Pl.four4) allow)).1), .v (.int .u64 (Pl.judgeP (matchP a port req0) (Pl.saysL (l.map Pl.four4) allow)).2)]) := by
  have c1 := mapSPolicy Pl.four4 30 [] l (fun p hp => four1_ p (hf p hp)) hn
  have c2 := sSays_ (l.map Pl.four4) (fun p hp => by obtain ⟨p0, h0, rfl⟩ := List.mem_map.1 hp; exact ok_four4 (hl p0 h0)) (by rw [List.length_map]; exact hn) allow a ha port req0 okReq0_0 (by decide) ⟨#[]⟩ ⟨#[]⟩ (.slice none 0 0)
  refine pcalls_of Tryz.func9 rfl rfl Tryz.ntmps9 rfl ?_
  repeat' (first
    | refine then_go ?_
    | refine swp_seq ?_
    | ((refine swp_region (id := 0) ?_) <;> (first | refine sops_pure (.free rfl rfl) rfl rfl (po_call (c2) rfl (.cons rfl (.t _) (.cons rfl (.t _) (.cons rfl (.t _) (.cons rfl (.t _) (.cons rfl (.le req_le) .nil)))))) ?_ | refine sops_box (.free rfl rfl) rfl rfl rfl rfl rfl rfl ?_) <;> (first | refine sops_pure (.free rfl rfl) rfl rfl (po_call (c2) rfl (.cons rfl (.t _) (.cons rfl (.t _) (.cons rfl (.t _) (.cons rfl (.t _) (.cons rfl (.le req_le) .nil)))))) ?_ | refine sops_box (.free rfl rfl) rfl rfl rfl rfl rfl rfl ?_) <;> (first | refine sops_pure (.free rfl rfl) rfl rfl (po_call (c2) rfl (.cons rfl (.t _) (.cons rfl (.t _) (.cons rfl (.t _) (.cons rfl (.t _) (.cons rfl (.le req_le) .nil)))))) ?_ | refine sops_pure (.free rfl rfl) rfl rfl (po_assign rfl rfl) ?_) <;> (first | refine sops_pure (.free rfl rfl) rfl rfl (po_call (c2) rfl (.cons rfl (.t _) (.cons rfl (.t _) (.cons rfl (.t _) (.cons rfl (.t _) (.cons rfl (.le req_le) .nil)))))) ?_ | refine sops_pure (.free rfl rfl) rfl rfl (po_assign rfl rfl) ?_) <;> (refine sops_nil ?_))
    | ((refine swp_region (id := 1) ?_) <;> (first | refine sops_pure (.free rfl rfl) rfl rfl (po_call (c2) rfl (.cons rfl (.t _) (.cons rfl (.t _) (.cons rfl (.t _) (.cons rfl (.t _) (.cons rfl (.le req_le) .nil)))))) ?_ | refine sops_pure (.free rfl rfl) rfl rfl (po_field_bx rfl rfl (tyF rfl)) ?_ | refine sops_pure (.free rfl rfl) rfl rfl (po_field rfl rfl (tyF rfl)) ?_) <;> (first | refine sops_pure (.free rfl rfl) rfl rfl (po_call (c2) rfl (.cons rfl (.t _) (.cons rfl (.t _) (.cons rfl (.t _) (.cons rfl (.t _) (.cons rfl (.le req_le) .nil)))))) ?_ | refine sops_pure (.free rfl rfl) rfl rfl (po_load_bx rfl rfl (tyT rfl) rfl rfl) ?_ | refine sops_pure (.free rfl rfl) rfl rfl (po_load rfl rfl (tyT rfl) rfl) ?_) <;> (first | refine sops_pure (.free rfl rfl) rfl rfl (po_call (c2) rfl (.cons rfl (.t _) (.cons rfl (.t _) (.cons rfl (.t _) (.cons rfl (.t _) (.cons rfl (.le req_le) .nil)))))) ?_ | refine sops_pure (.free rfl rfl) rfl rfl (po_call (c1) rfl (ac (ac .nil))) ?_) <;> (first | refine sops_pure (.free rfl rfl) rfl rfl (po_call (c2) rfl (.cons rfl (.t _) (.cons rfl (.t _) (.cons rfl (.t _) (.cons rfl (.t _) (.cons rfl (.le req_le) .nil)))))) ?_ | refine sops_pure (.free rfl rfl) rfl rfl (po_assign rfl rfl) ?_) <;> (refine sops_nil ?_))
    | ((refine swp_region (id := 2) ?_) <;> (first | refine sops_pure (.free rfl rfl) rfl rfl (po_call (c2) rfl (.cons rfl (.t _) (.cons rfl (.t _) (.cons rfl (.t _) (.cons rfl (.t _) (.cons rfl (.le req_le) .nil)))))) ?_ | refine sops_pure (.free rfl rfl) rfl rfl (po_move rfl rfl) ?_) <;> (first | refine sops_pure (.free rfl rfl) rfl rfl (po_call (c2) rfl (.cons rfl (.t _) (.cons rfl (.t _) (.cons rfl (.t _) (.cons rfl (.t _) (.cons rfl (.le req_le) .nil)))))) ?_ | refine sops_pure (.free rfl rfl) rfl rfl (po_field_bx rfl rfl (tyF rfl)) ?_ | refine sops_pure (.free rfl rfl) rfl rfl (po_field rfl rfl (tyF rfl)) ?_) <;> (first | refine sops_pure (.free rfl rfl) rfl rfl (po_call (c2) rfl (.cons rfl (.t _) (.cons rfl (.t _) (.cons rfl (.t _) (.cons rfl (.t _) (.cons rfl (.le req_le) .nil)))))) ?_ | refine sops_pure (.free rfl rfl) rfl rfl (po_load_bx rfl rfl (tyT rfl) rfl rfl) ?_ | refine sops_pure (.free rfl rfl) rfl rfl (po_load rfl rfl (tyT rfl) rfl) ?_) <;> (first | refine sops_pure (.free rfl rfl) rfl rfl (po_call (c2) rfl (.cons rfl (.t _) (.cons rfl (.t _) (.cons rfl (.t _) (.cons rfl (.t _) (.cons rfl (.le req_le) .nil)))))) ?_ | refine sops_pure (.free rfl rfl) rfl rfl (po_load_bx_agg rfl rfl (tyT rfl) rfl (vc (vc (vc .nil))) rfl) ?_ | refine sops_pure (.free rfl rfl) rfl rfl (po_load_agg rfl rfl (tyT rfl) rfl rfl) ?_) <;> (first | refine sops_pure (.free rfl rfl) rfl rfl (po_call (c2) rfl (.cons rfl (.t _) (.cons rfl (.t _) (.cons rfl (.t _) (.cons rfl (.t _) (.cons rfl (.le req_le) .nil)))))) ?_ | refine sops_pure (.free rfl rfl) rfl rfl (po_move rfl rfl) ?_) <;> (first | refine sops_pure (.free rfl rfl) rfl rfl (po_call (c2) rfl (.cons rfl (.t _) (.cons rfl (.t _) (.cons rfl (.t _) (.cons rfl (.t _) (.cons rfl (.le req_le) .nil)))))) ?_ | refine sops_pure (.free rfl rfl) rfl rfl (po_buildS str33 rfl .nil rfl) ?_) <;> (first | refine sops_pure (.free rfl rfl) rfl rfl (po_call (c2) rfl (.cons rfl (.t _) (.cons rfl (.t _) (.cons rfl (.t _) (.cons rfl (.t _) (.cons rfl (.le req_le) .nil)))))) ?_ | refine sops_pure (.free rfl rfl) rfl rfl (po_call (c1) rfl (ac (ac (ac (ac (ac .nil)))))) ?_) <;> (first | refine sops_pure (.free rfl rfl) rfl rfl (po_call (c2) rfl (.cons rfl (.t _) (.cons rfl (.t _) (.cons rfl (.t _) (.cons rfl (.t _) (.cons rfl (.le req_le) .nil)))))) ?_ | refine sops_pure (.free rfl rfl) rfl rfl (po_extract rfl rfl rfl) ?_) <;> (first | refine sops_pure (.free rfl rfl) rfl rfl (po_call (c2) rfl (.cons rfl (.t _) (.cons rfl (.t _) (.cons rfl (.t _) (.cons rfl (.t _) (.cons rfl (.le req_le) .nil)))))) ?_ | refine sops_pure (.free rfl rfl) rfl rfl (po_extract rfl rfl rfl) ?_) <;> (first | refine sops_pure (.free rfl rfl) rfl rfl (po_call (c2) rfl (.cons rfl (.t _) (.cons rfl (.t _) (.cons rfl (.t _) (.cons rfl (.t _) (.cons rfl (.le req_le) .nil)))))) ?_ | refine sops_pure (.free rfl rfl) rfl rfl (po_assign rfl rfl) ?_) <;> (first | refine sops_pure (.free rfl rfl) rfl rfl (po_call (c2) rfl (.cons rfl (.t _) (.cons rfl (.t _) (.cons rfl (.t _) (.cons rfl (.t _) (.cons rfl (.le req_le) .nil)))))) ?_ | refine sops_pure (.free rfl rfl) rfl rfl (po_assign rfl rfl) ?_) <;> (refine sops_nil ?_))
    | refine swp_ret ?_
    | refine swp_skip ?_
    | refine swp_block ?_
    | refine swp_exit ?_
    | refine block_go ?_
    | refine block_exit ?_
    | refine block_far rfl ?_
    | refine block_ret ?_
    | refine then_ret ?_
    | refine then_exit ?_
    | refine for_ret ?_
    | refine for_exit ?_
    | refine ct ?_
    | refine cf ?_
    | refine swp_cond rfl (fun hc => ?_) (fun hc => ?_)
    | refine retq (by first | exact .inr rfl | exact .inl rfl) rfl (.tmp rfl (by first | exact .t _ | exact .own rfl (by first | rfl | assumption | (simp; done) | (simp; omega)) | exact .nil _ | exact .emp _ | exact .fn _) (.tmp rfl (by first | exact .t _ | exact .own rfl (by first | rfl | assumption | (simp; done) | (simp; omega)) | exact .nil _ | exact .emp _ | exact .fn _) .nil)) ?_)
  rfl
end Go.Proofs.YtlcecabfmemfeaaGreat.Pol

/- The chapter's examples, by the logic of states. -/
namespace Go.Proofs.YtlcecabfmemfeaaGreat.Pol
set_option linter.unusedVariables false
set_option linter.unusedSimpArgs false
open Go.RowKit Mem Sim Opn WAddr WName WMatch WAuth
inductive LeL : List T → List T → Prop
  | nil : LeL [] []
  | cons {a b : T} {as_ bs : List T} (h : ∀ m v, TR m a v → TR m b v) (hl : LeL as_ bs) : LeL (a :: as_) (b :: bs)
theorem le_refl (a : T) : ∀ m v, TR m a v → TR m a v := fun _ _ h => h
theorem LeL.at {cs ds : List T} (h : LeL cs ds) : cs.length = ds.length ∧ ∀ (j : Nat) a b m v, cs[j]? = some a → ds[j]? = some b → TR m a v → TR m b v := by
  induction h with
  | nil => exact ⟨rfl, fun j a b m v h => by simp at h⟩
  | cons h hl ih =>
    refine ⟨by simp [ih.1], fun j a b m v h1 h2 h3 => ?_⟩
    cases j with
    | zero => simp at h1 h2; subst h1 h2; exact h m v h3
    | succ j => exact ih.2 j a b m v (by simpa using h1) (by simpa using h2) h3
theorem aggLe {cs ds : List T} (h : LeL cs ds) : ∀ m v, TR m (.agg cs) v → TR m (.agg ds) v := fun m v hv => by
  obtain ⟨hl, ha⟩ := h.at
  cases hv with
  | agg _ vs h1 h2 h3 =>
    refine .agg ds vs (by omega) h2 fun j t v h4 h5 => ?_
    have hlt : j < cs.length := by rw [hl]; exact (List.getElem?_eq_some_iff.1 h4).1
    exact ha j _ t m v (List.getElem?_eq_getElem hlt) h4 (h3 j _ v (List.getElem?_eq_getElem hlt) h5)
def sGET : ByteArray := ⟨#[71, 69, 84]⟩
def sA : ByteArray := ⟨#[47, 97]⟩
def sB : ByteArray := ⟨#[47, 98]⟩
def exPols : List Pl.Policy := [⟨1, ⟨#[]⟩, 0, 0, [⟨[], [⟨[80], [⟨1, sGET⟩], [], []⟩], []⟩]⟩, ⟨2, ⟨#[]⟩, 0, 1, [⟨[], [⟨[], [], [⟨2, sA⟩], []⟩], []⟩]⟩]
set_option maxRecDepth 100000 in
set_option maxHeartbeats 1000000 in
theorem term14 (k : Int) (s : ByteArray) : PCalls Tryz.prog 52 [.v (.int .i64 k), .v (.string s)] (.sl 2 [[.v (.int .i64 k), .v (.string s)]]) := by
  refine pcalls_of Tryz.func52 rfl rfl Tryz.ntmps52 rfl ?_
  repeat' (first
    | refine then_go ?_
    | refine swp_seq ?_
    | ((refine swp_region (id := 0) ?_) <;> (refine sops_pure (.free rfl rfl) rfl rfl (po_assign rfl rfl) ?_) <;> (refine sops_nil ?_))
    | ((refine swp_region (id := 1) ?_) <;> (refine sops_pure (.free rfl rfl) rfl rfl (po_move rfl rfl) ?_) <;> (refine sops_pure (.free rfl rfl) rfl rfl (po_move rfl rfl) ?_) <;> (refine sops_pure (.free rfl rfl) rfl rfl (po_buildS str90 rfl (pc (pc .nil)) rfl) ?_) <;> (refine sops_pure (.free rfl rfl) rfl rfl (po_buildSlice rfl (tyE rfl) (dc (.nil _)) rfl rfl rfl) ?_) <;> (refine sops_pure (.free rfl rfl) rfl rfl (po_assign rfl rfl) ?_) <;> (refine sops_nil ?_))
    | refine swp_ret ?_
    | refine swp_skip ?_
    | refine swp_block ?_
    | refine swp_exit ?_
    | refine block_go ?_
    | refine block_exit ?_
    | refine block_far rfl ?_
    | refine block_ret ?_
    | refine then_ret ?_
    | refine then_exit ?_
    | refine for_ret ?_
    | refine for_exit ?_
    | refine ct ?_
    | refine cf ?_
    | refine swp_cond rfl (fun hc => ?_) (fun hc => ?_)
    | exact retq1 (by first | exact .inr rfl | exact .inl rfl) rfl (.tmp rfl (by first | exact .t _ | exact .own rfl (by first | rfl | assumption | (simp; done) | (simp; omega)) | exact .nil _ | exact .emp _ | exact .fn _) .nil)
    | refine retq (by first | exact .inr rfl | exact .inl rfl) rfl (.tmp rfl (by first | exact .t _ | exact .own rfl (by first | rfl | assumption | (simp; done) | (simp; omega)) | exact .nil _ | exact .emp _ | exact .fn _) .nil) ?_)
set_option maxRecDepth 100000 in
set_option maxHeartbeats 1000000 in
theorem example14 : PCalls Tryz.prog 28 [] (.sl 5 (exPols.map polT)) := by
  have c1 := term14 1 sGET
  have c2 := term14 2 sA
  refine pcalls_of Tryz.func28 rfl rfl Tryz.ntmps28 rfl ?_
  repeat' (first
    | refine then_go ?_
    | refine swp_seq ?_
    | ((refine swp_region (id := 0) ?_) <;> (first | refine sops_pure (.free rfl rfl) rfl rfl (po_buildSlice rfl (tyE rfl) (.cons rfl (.le (aggLe (.cons (le_refl (.sl 1 _)) (.cons (le_refl (.sl 2 _)) (.cons (nilT 2) (.cons (nilT 2) .nil)))))) rfl rfl (.nil _)) rfl rfl rfl) ?_ | refine sops_pure (.free rfl rfl) rfl rfl (po_buildSlice rfl (tyE rfl) (.cons rfl (.le (aggLe (.cons (nilT 1) (.cons (nilT 2) (.cons (le_refl (.sl 2 _)) (.cons (nilT 2) .nil)))))) rfl rfl (.nil _)) rfl rfl rfl) ?_ | refine sops_pure (.free rfl rfl) rfl rfl (po_buildSlice rfl (tyE rfl) (.cons rfl (.le (aggLe (.cons (nilT 3) (.cons (le_refl (.sl 4 _)) (.cons (nilT 2) .nil))))) rfl rfl (.nil _)) rfl rfl rfl) ?_ | refine sops_pure (.free rfl rfl) rfl rfl (po_assign rfl rfl) ?_) <;> (refine sops_nil ?_))
    | ((refine swp_region (id := 1) ?_) <;> (first | refine sops_pure (.free rfl rfl) rfl rfl (po_buildSlice rfl (tyE rfl) (.cons rfl (.le (aggLe (.cons (le_refl (.sl 1 _)) (.cons (le_refl (.sl 2 _)) (.cons (nilT 2) (.cons (nilT 2) .nil)))))) rfl rfl (.nil _)) rfl rfl rfl) ?_ | refine sops_pure (.free rfl rfl) rfl rfl (po_buildSlice rfl (tyE rfl) (.cons rfl (.le (aggLe (.cons (nilT 1) (.cons (nilT 2) (.cons (le_refl (.sl 2 _)) (.cons (nilT 2) .nil)))))) rfl rfl (.nil _)) rfl rfl rfl) ?_ | refine sops_pure (.free rfl rfl) rfl rfl (po_buildSlice rfl (tyE rfl) (.cons rfl (.le (aggLe (.cons (nilT 3) (.cons (le_refl (.sl 4 _)) (.cons (nilT 2) .nil))))) rfl rfl (.nil _)) rfl rfl rfl) ?_ | refine sops_pure (.free rfl rfl) rfl rfl (po_buildSlice rfl (tyE rfl) (dc (.nil _)) rfl rfl rfl) ?_) <;> (first | refine sops_pure (.free rfl rfl) rfl rfl (po_buildSlice rfl (tyE rfl) (.cons rfl (.le (aggLe (.cons (le_refl (.sl 1 _)) (.cons (le_refl (.sl 2 _)) (.cons (nilT 2) (.cons (nilT 2) .nil)))))) rfl rfl (.nil _)) rfl rfl rfl) ?_ | refine sops_pure (.free rfl rfl) rfl rfl (po_buildSlice rfl (tyE rfl) (.cons rfl (.le (aggLe (.cons (nilT 1) (.cons (nilT 2) (.cons (le_refl (.sl 2 _)) (.cons (nilT 2) .nil)))))) rfl rfl (.nil _)) rfl rfl rfl) ?_ | refine sops_pure (.free rfl rfl) rfl rfl (po_buildSlice rfl (tyE rfl) (.cons rfl (.le (aggLe (.cons (nilT 3) (.cons (le_refl (.sl 4 _)) (.cons (nilT 2) .nil))))) rfl rfl (.nil _)) rfl rfl rfl) ?_ | refine sops_pure (.free rfl rfl) rfl rfl (po_call (c1) rfl (ac (ac .nil))) ?_ | refine sops_pure (.free rfl rfl) rfl rfl (po_call (c2) rfl (ac (ac .nil))) ?_) <;> (first | refine sops_pure (.free rfl rfl) rfl rfl (po_buildSlice rfl (tyE rfl) (.cons rfl (.le (aggLe (.cons (le_refl (.sl 1 _)) (.cons (le_refl (.sl 2 _)) (.cons (nilT 2) (.cons (nilT 2) .nil)))))) rfl rfl (.nil _)) rfl rfl rfl) ?_ | refine sops_pure (.free rfl rfl) rfl rfl (po_buildSlice rfl (tyE rfl) (.cons rfl (.le (aggLe (.cons (nilT 1) (.cons (nilT 2) (.cons (le_refl (.sl 2 _)) (.cons (nilT 2) .nil)))))) rfl rfl (.nil _)) rfl rfl rfl) ?_ | refine sops_pure (.free rfl rfl) rfl rfl (po_buildSlice rfl (tyE rfl) (.cons rfl (.le (aggLe (.cons (nilT 3) (.cons (le_refl (.sl 4 _)) (.cons (nilT 2) .nil))))) rfl rfl (.nil _)) rfl rfl rfl) ?_ | refine sops_pure (.free rfl rfl) rfl rfl (po_buildS str80 rfl (pc (pc .nil)) rfl) ?_) <;> (first | refine sops_pure (.free rfl rfl) rfl rfl (po_buildSlice rfl (tyE rfl) (.cons rfl (.le (aggLe (.cons (le_refl (.sl 1 _)) (.cons (le_refl (.sl 2 _)) (.cons (nilT 2) (.cons (nilT 2) .nil)))))) rfl rfl (.nil _)) rfl rfl rfl) ?_ | refine sops_pure (.free rfl rfl) rfl rfl (po_buildSlice rfl (tyE rfl) (.cons rfl (.le (aggLe (.cons (nilT 1) (.cons (nilT 2) (.cons (le_refl (.sl 2 _)) (.cons (nilT 2) .nil)))))) rfl rfl (.nil _)) rfl rfl rfl) ?_ | refine sops_pure (.free rfl rfl) rfl rfl (po_buildSlice rfl (tyE rfl) (.cons rfl (.le (aggLe (.cons (nilT 3) (.cons (le_refl (.sl 4 _)) (.cons (nilT 2) .nil))))) rfl rfl (.nil _)) rfl rfl rfl) ?_ | refine sops_pure (.free rfl rfl) rfl rfl (po_buildSlice rfl (tyE rfl) (dc (.nil _)) rfl rfl rfl) ?_) <;> (first | refine sops_pure (.free rfl rfl) rfl rfl (po_buildSlice rfl (tyE rfl) (.cons rfl (.le (aggLe (.cons (le_refl (.sl 1 _)) (.cons (le_refl (.sl 2 _)) (.cons (nilT 2) (.cons (nilT 2) .nil)))))) rfl rfl (.nil _)) rfl rfl rfl) ?_ | refine sops_pure (.free rfl rfl) rfl rfl (po_buildSlice rfl (tyE rfl) (.cons rfl (.le (aggLe (.cons (nilT 1) (.cons (nilT 2) (.cons (le_refl (.sl 2 _)) (.cons (nilT 2) .nil)))))) rfl rfl (.nil _)) rfl rfl rfl) ?_ | refine sops_pure (.free rfl rfl) rfl rfl (po_buildSlice rfl (tyE rfl) (.cons rfl (.le (aggLe (.cons (nilT 3) (.cons (le_refl (.sl 4 _)) (.cons (nilT 2) .nil))))) rfl rfl (.nil _)) rfl rfl rfl) ?_ | refine sops_pure (.free rfl rfl) rfl rfl (po_buildS str46 rfl (pc .nil) rfl) ?_) <;> (first | refine sops_pure (.free rfl rfl) rfl rfl (po_buildSlice rfl (tyE rfl) (.cons rfl (.le (aggLe (.cons (le_refl (.sl 1 _)) (.cons (le_refl (.sl 2 _)) (.cons (nilT 2) (.cons (nilT 2) .nil)))))) rfl rfl (.nil _)) rfl rfl rfl) ?_ | refine sops_pure (.free rfl rfl) rfl rfl (po_buildSlice rfl (tyE rfl) (.cons rfl (.le (aggLe (.cons (nilT 1) (.cons (nilT 2) (.cons (le_refl (.sl 2 _)) (.cons (nilT 2) .nil)))))) rfl rfl (.nil _)) rfl rfl rfl) ?_ | refine sops_pure (.free rfl rfl) rfl rfl (po_buildSlice rfl (tyE rfl) (.cons rfl (.le (aggLe (.cons (nilT 3) (.cons (le_refl (.sl 4 _)) (.cons (nilT 2) .nil))))) rfl rfl (.nil _)) rfl rfl rfl) ?_ | refine sops_pure (.free rfl rfl) rfl rfl (po_buildSlice rfl (tyE rfl) (dc (.nil _)) rfl rfl rfl) ?_) <;> (first | refine sops_pure (.free rfl rfl) rfl rfl (po_buildSlice rfl (tyE rfl) (.cons rfl (.le (aggLe (.cons (le_refl (.sl 1 _)) (.cons (le_refl (.sl 2 _)) (.cons (nilT 2) (.cons (nilT 2) .nil)))))) rfl rfl (.nil _)) rfl rfl rfl) ?_ | refine sops_pure (.free rfl rfl) rfl rfl (po_buildSlice rfl (tyE rfl) (.cons rfl (.le (aggLe (.cons (nilT 1) (.cons (nilT 2) (.cons (le_refl (.sl 2 _)) (.cons (nilT 2) .nil)))))) rfl rfl (.nil _)) rfl rfl rfl) ?_ | refine sops_pure (.free rfl rfl) rfl rfl (po_buildSlice rfl (tyE rfl) (.cons rfl (.le (aggLe (.cons (nilT 3) (.cons (le_refl (.sl 4 _)) (.cons (nilT 2) .nil))))) rfl rfl (.nil _)) rfl rfl rfl) ?_ | refine sops_pure (.free rfl rfl) rfl rfl (po_buildS str50 rfl (pc (pc .nil)) rfl) ?_) <;> (first | refine sops_pure (.free rfl rfl) rfl rfl (po_buildSlice rfl (tyE rfl) (.cons rfl (.le (aggLe (.cons (le_refl (.sl 1 _)) (.cons (le_refl (.sl 2 _)) (.cons (nilT 2) (.cons (nilT 2) .nil)))))) rfl rfl (.nil _)) rfl rfl rfl) ?_ | refine sops_pure (.free rfl rfl) rfl rfl (po_buildSlice rfl (tyE rfl) (.cons rfl (.le (aggLe (.cons (nilT 1) (.cons (nilT 2) (.cons (le_refl (.sl 2 _)) (.cons (nilT 2) .nil)))))) rfl rfl (.nil _)) rfl rfl rfl) ?_ | refine sops_pure (.free rfl rfl) rfl rfl (po_buildSlice rfl (tyE rfl) (.cons rfl (.le (aggLe (.cons (nilT 3) (.cons (le_refl (.sl 4 _)) (.cons (nilT 2) .nil))))) rfl rfl (.nil _)) rfl rfl rfl) ?_ | refine sops_pure (.free rfl rfl) rfl rfl (po_call (c1) rfl (ac (ac .nil))) ?_ | refine sops_pure (.free rfl rfl) rfl rfl (po_call (c2) rfl (ac (ac .nil))) ?_) <;> (first | refine sops_pure (.free rfl rfl) rfl rfl (po_buildSlice rfl (tyE rfl) (.cons rfl (.le (aggLe (.cons (le_refl (.sl 1 _)) (.cons (le_refl (.sl 2 _)) (.cons (nilT 2) (.cons (nilT 2) .nil)))))) rfl rfl (.nil _)) rfl rfl rfl) ?_ | refine sops_pure (.free rfl rfl) rfl rfl (po_buildSlice rfl (tyE rfl) (.cons rfl (.le (aggLe (.cons (nilT 1) (.cons (nilT 2) (.cons (le_refl (.sl 2 _)) (.cons (nilT 2) .nil)))))) rfl rfl (.nil _)) rfl rfl rfl) ?_ | refine sops_pure (.free rfl rfl) rfl rfl (po_buildSlice rfl (tyE rfl) (.cons rfl (.le (aggLe (.cons (nilT 3) (.cons (le_refl (.sl 4 _)) (.cons (nilT 2) .nil))))) rfl rfl (.nil _)) rfl rfl rfl) ?_ | refine sops_pure (.free rfl rfl) rfl rfl (po_buildS str80 rfl (pc .nil) rfl) ?_) <;> (first | refine sops_pure (.free rfl rfl) rfl rfl (po_buildSlice rfl (tyE rfl) (.cons rfl (.le (aggLe (.cons (le_refl (.sl 1 _)) (.cons (le_refl (.sl 2 _)) (.cons (nilT 2) (.cons (nilT 2) .nil)))))) rfl rfl (.nil _)) rfl rfl rfl) ?_ | refine sops_pure (.free rfl rfl) rfl rfl (po_buildSlice rfl (tyE rfl) (.cons rfl (.le (aggLe (.cons (nilT 1) (.cons (nilT 2) (.cons (le_refl (.sl 2 _)) (.cons (nilT 2) .nil)))))) rfl rfl (.nil _)) rfl rfl rfl) ?_ | refine sops_pure (.free rfl rfl) rfl rfl (po_buildSlice rfl (tyE rfl) (.cons rfl (.le (aggLe (.cons (nilT 3) (.cons (le_refl (.sl 4 _)) (.cons (nilT 2) .nil))))) rfl rfl (.nil _)) rfl rfl rfl) ?_ | refine sops_pure (.free rfl rfl) rfl rfl (po_buildSlice rfl (tyE rfl) (dc (.nil _)) rfl rfl rfl) ?_) <;> (first | refine sops_pure (.free rfl rfl) rfl rfl (po_buildSlice rfl (tyE rfl) (.cons rfl (.le (aggLe (.cons (le_refl (.sl 1 _)) (.cons (le_refl (.sl 2 _)) (.cons (nilT 2) (.cons (nilT 2) .nil)))))) rfl rfl (.nil _)) rfl rfl rfl) ?_ | refine sops_pure (.free rfl rfl) rfl rfl (po_buildSlice rfl (tyE rfl) (.cons rfl (.le (aggLe (.cons (nilT 1) (.cons (nilT 2) (.cons (le_refl (.sl 2 _)) (.cons (nilT 2) .nil)))))) rfl rfl (.nil _)) rfl rfl rfl) ?_ | refine sops_pure (.free rfl rfl) rfl rfl (po_buildSlice rfl (tyE rfl) (.cons rfl (.le (aggLe (.cons (nilT 3) (.cons (le_refl (.sl 4 _)) (.cons (nilT 2) .nil))))) rfl rfl (.nil _)) rfl rfl rfl) ?_ | refine sops_pure (.free rfl rfl) rfl rfl (po_buildS str46 rfl (pc .nil) rfl) ?_) <;> (first | refine sops_pure (.free rfl rfl) rfl rfl (po_buildSlice rfl (tyE rfl) (.cons rfl (.le (aggLe (.cons (le_refl (.sl 1 _)) (.cons (le_refl (.sl 2 _)) (.cons (nilT 2) (.cons (nilT 2) .nil)))))) rfl rfl (.nil _)) rfl rfl rfl) ?_ | refine sops_pure (.free rfl rfl) rfl rfl (po_buildSlice rfl (tyE rfl) (.cons rfl (.le (aggLe (.cons (nilT 1) (.cons (nilT 2) (.cons (le_refl (.sl 2 _)) (.cons (nilT 2) .nil)))))) rfl rfl (.nil _)) rfl rfl rfl) ?_ | refine sops_pure (.free rfl rfl) rfl rfl (po_buildSlice rfl (tyE rfl) (.cons rfl (.le (aggLe (.cons (nilT 3) (.cons (le_refl (.sl 4 _)) (.cons (nilT 2) .nil))))) rfl rfl (.nil _)) rfl rfl rfl) ?_ | refine sops_pure (.free rfl rfl) rfl rfl (po_buildSlice rfl (tyE rfl) (dc (.nil _)) rfl rfl rfl) ?_) <;> (first | refine sops_pure (.free rfl rfl) rfl rfl (po_buildSlice rfl (tyE rfl) (.cons rfl (.le (aggLe (.cons (le_refl (.sl 1 _)) (.cons (le_refl (.sl 2 _)) (.cons (nilT 2) (.cons (nilT 2) .nil)))))) rfl rfl (.nil _)) rfl rfl rfl) ?_ | refine sops_pure (.free rfl rfl) rfl rfl (po_buildSlice rfl (tyE rfl) (.cons rfl (.le (aggLe (.cons (nilT 1) (.cons (nilT 2) (.cons (le_refl (.sl 2 _)) (.cons (nilT 2) .nil)))))) rfl rfl (.nil _)) rfl rfl rfl) ?_ | refine sops_pure (.free rfl rfl) rfl rfl (po_buildSlice rfl (tyE rfl) (.cons rfl (.le (aggLe (.cons (nilT 3) (.cons (le_refl (.sl 4 _)) (.cons (nilT 2) .nil))))) rfl rfl (.nil _)) rfl rfl rfl) ?_ | refine sops_pure (.free rfl rfl) rfl rfl (po_buildS str50 rfl (pc (pc (pc .nil))) rfl) ?_) <;> (first | refine sops_pure (.free rfl rfl) rfl rfl (po_buildSlice rfl (tyE rfl) (.cons rfl (.le (aggLe (.cons (le_refl (.sl 1 _)) (.cons (le_refl (.sl 2 _)) (.cons (nilT 2) (.cons (nilT 2) .nil)))))) rfl rfl (.nil _)) rfl rfl rfl) ?_ | refine sops_pure (.free rfl rfl) rfl rfl (po_buildSlice rfl (tyE rfl) (.cons rfl (.le (aggLe (.cons (nilT 1) (.cons (nilT 2) (.cons (le_refl (.sl 2 _)) (.cons (nilT 2) .nil)))))) rfl rfl (.nil _)) rfl rfl rfl) ?_ | refine sops_pure (.free rfl rfl) rfl rfl (po_buildSlice rfl (tyE rfl) (.cons rfl (.le (aggLe (.cons (nilT 3) (.cons (le_refl (.sl 4 _)) (.cons (nilT 2) .nil))))) rfl rfl (.nil _)) rfl rfl rfl) ?_ | refine sops_pure (.free rfl rfl) rfl rfl (po_buildSlice rfl (tyE rfl) (dc (dc (.nil _))) rfl rfl rfl) ?_) <;> (first | refine sops_pure (.free rfl rfl) rfl rfl (po_buildSlice rfl (tyE rfl) (.cons rfl (.le (aggLe (.cons (le_refl (.sl 1 _)) (.cons (le_refl (.sl 2 _)) (.cons (nilT 2) (.cons (nilT 2) .nil)))))) rfl rfl (.nil _)) rfl rfl rfl) ?_ | refine sops_pure (.free rfl rfl) rfl rfl (po_buildSlice rfl (tyE rfl) (.cons rfl (.le (aggLe (.cons (nilT 1) (.cons (nilT 2) (.cons (le_refl (.sl 2 _)) (.cons (nilT 2) .nil)))))) rfl rfl (.nil _)) rfl rfl rfl) ?_ | refine sops_pure (.free rfl rfl) rfl rfl (po_buildSlice rfl (tyE rfl) (.cons rfl (.le (aggLe (.cons (nilT 3) (.cons (le_refl (.sl 4 _)) (.cons (nilT 2) .nil))))) rfl rfl (.nil _)) rfl rfl rfl) ?_ | refine sops_pure (.free rfl rfl) rfl rfl (po_assign rfl rfl) ?_) <;> (refine sops_nil ?_))
    | refine swp_ret ?_
    | refine swp_skip ?_
    | refine swp_block ?_
    | refine swp_exit ?_
    | refine block_go ?_
    | refine block_exit ?_
    | refine block_far rfl ?_
    | refine block_ret ?_
    | refine then_ret ?_
    | refine then_exit ?_
    | refine for_ret ?_
    | refine for_exit ?_
    | refine ct ?_
    | refine cf ?_
    | refine swp_cond rfl (fun hc => ?_) (fun hc => ?_)
    | exact retq1 (by first | exact .inr rfl | exact .inl rfl) rfl (.tmp rfl (by first | exact .t _ | exact .own rfl (by first | rfl | assumption | (simp; done) | (simp; omega)) | exact .nil _ | exact .emp _ | exact .fn _) .nil)
    | refine retq (by first | exact .inr rfl | exact .inl rfl) rfl (.tmp rfl (by first | exact .t _ | exact .own rfl (by first | rfl | assumption | (simp; done) | (simp; omega)) | exact .nil _ | exact .emp _ | exact .fn _) .nil) ?_)
def who0 : Pl.Asker := ⟨⟨#[]⟩, ⟨#[]⟩, 0⟩
def reqOf (s : ByteArray) : Pl.Req := ⟨sGET, s, ⟨#[]⟩, []⟩
theorem v1 : Pl.judgeP (matchP who0 80 req0) (Pl.saysL ((exPols.map (Pl.halfP 0 1)).map Pl.four4) (Pl.allowsP exPols)) = (true, 1) := by kernel_rfl
theorem v2 : Pl.judgeP (matchP who0 81 req0) (Pl.saysL ((exPols.map (Pl.halfP 0 1)).map Pl.four4) (Pl.allowsP exPols)) = (false, 0) := by kernel_rfl
theorem v3 : Pl.judgeP (matchP who0 80 (reqOf sB)) (Pl.saysL (exPols.map (Pl.halfP 2 2)) (Pl.allowsP exPols)) = (true, 1) := by kernel_rfl
theorem v4 : Pl.judgeP (matchP who0 80 (reqOf sA)) (Pl.saysL (exPols.map (Pl.halfP 2 2)) (Pl.allowsP exPols)) = (false, 2) := by kernel_rfl
theorem v5 : Pl.judgeP (matchP who0 80 req0) (Pl.saysL ((exPols.map (Pl.halfP 1 0)).map Pl.four4) (Pl.allowsP exPols)) = (false, 2) := by kernel_rfl
end Go.Proofs.YtlcecabfmemfeaaGreat.Pol

/- The chapter's examples stand; what halves keep. -/
namespace Go.Proofs.YtlcecabfmemfeaaGreat.Pol
set_option linter.unusedVariables false
set_option linter.unusedSimpArgs false
open Go.RowKit Mem Sim Opn WAddr WName WMatch WAuth
theorem ok_fourR {r : Pl.Rule} (h : okRule r) : okRule (Pl.four r) := by
  obtain ⟨h1, h2, h3⟩ := h
  refine ⟨h1, fun t ht => ?_, fun w hw => by cases hw⟩
  obtain ⟨t0, h4, rfl⟩ := List.mem_map.1 ht
  exact ⟨(h2 t0 h4).1, (fun y hy => by cases hy), (fun y hy => by cases hy), (fun y hy => by cases hy)⟩
theorem ok_what {l : List Pl.Rule} (h : ∀ r ∈ l, okRule r) (k : Nat) : ∀ r ∈ Pl.what k l, okRule r := by
  match k with
  | 0 => exact fun r hr => h r ((List.mem_filter.1 hr).1)
  | 1 =>
    intro r hr
    obtain ⟨r0, h0, rfl⟩ := List.mem_map.1 hr
    exact ok_fourR (h r0 h0)
  | k + 2 => exact h
theorem ok_half {p : Pl.Policy} (h : okPolicy p) (D K : Nat) : okPolicy (Pl.halfP D K p) := by
  refine ⟨h.1, h.2.1, h.2.2.1, h.2.2.2.1, ?_⟩
  unfold Pl.halfP
  dsimp only
  split
  · exact ok_what h.2.2.2.2 D
  · exact ok_what h.2.2.2.2 K
theorem few_fourR {r : Pl.Rule} (h : FewR r) : FewR (Pl.four r) := by
  refine ⟨h.f, ?_, by simp [Pl.four], h.fs, fun t ht => ?_, fun w hw => by cases hw⟩
  · show (r.to_.map Pl.fourT).length ≤ 1000
    rw [List.length_map]; exact h.t
  · obtain ⟨t0, h4, rfl⟩ := List.mem_map.1 ht
    exact ⟨(h.ts t0 h4).1, by simp [Pl.fourT], by simp [Pl.fourT], by simp [Pl.fourT]⟩
theorem few_what {l : List Pl.Rule} (hn : l.length ≤ 1000) (h : ∀ r ∈ l, FewR r) (k : Nat) : (Pl.what k l).length ≤ 1000 ∧ ∀ r ∈ Pl.what k l, FewR r := by
  match k with
  | 0 => exact ⟨Nat.le_trans (List.length_filter_le _ _) hn, fun r hr => h r ((List.mem_filter.1 hr).1)⟩
  | 1 =>
    refine ⟨by show (l.map Pl.four).length ≤ 1000; rw [List.length_map]; exact hn, fun r hr => ?_⟩
    obtain ⟨r0, h0, rfl⟩ := List.mem_map.1 hr
    exact few_fourR (h r0 h0)
  | k + 2 => exact ⟨hn, h⟩
theorem few_half {p : Pl.Policy} (h : FewP p) (D K : Nat) : FewP (Pl.halfP D K p) := by
  have h1 := few_what h.n h.r D
  have h2 := few_what h.n h.r K
  unfold Pl.halfP
  constructor <;> dsimp only <;> split
  · exact h1.1
  · exact h2.1
  · exact h1.2
  · exact h2.2
theorem ok_halves {l : List Pl.Policy} (h : ∀ p ∈ l, okPolicy p) (D K : Nat) : ∀ p ∈ l.map (Pl.halfP D K), okPolicy p := fun p hp => by
  obtain ⟨p0, h0, rfl⟩ := List.mem_map.1 hp
  exact ok_half (h p0 h0) D K
theorem few_halves {l : List Pl.Policy} (h : ∀ p ∈ l, FewP p) (D K : Nat) : ∀ p ∈ l.map (Pl.halfP D K), FewP p := fun p hp => by
  obtain ⟨p0, h0, rfl⟩ := List.mem_map.1 hp
  exact few_half (h p0 h0) D K
theorem ex_ok : ∀ p ∈ exPols, okPolicy p := by
  intro p hp
  simp only [exPols, List.mem_cons, List.not_mem_nil, or_false] at hp
  rcases hp with rfl | rfl
  all_goals
    refine ⟨by decide, by decide, by decide, by decide, ?_⟩
    simp only [List.mem_cons, List.not_mem_nil, or_false, forall_eq, okRule, okTarget, okSource, okWhen, okTerm, okInt, false_imp_iff, implies_true, and_true, true_and]
    decide
theorem ex_few : ∀ p ∈ exPols, FewP p := by
  intro p hp
  simp only [exPols, List.mem_cons, List.not_mem_nil, or_false] at hp
  rcases hp with rfl | rfl
  all_goals
    refine ⟨by decide, fun r hr => ?_⟩
    simp only [List.mem_cons, List.not_mem_nil, or_false] at hr
    subst hr
    refine ⟨by decide, by decide, by decide, (fun s hs => by cases hs), fun s hs => ?_, (fun s hs => by cases hs)⟩
    simp only [List.mem_cons, List.not_mem_nil, or_false] at hs
    subst hs
    decide
theorem who0_ok : OkAsk who0 := ⟨by decide, by decide, by decide⟩
theorem reqOf_ok (s : ByteArray) (h : s.size ≤ maxLen) : OkReq0 (reqOf s) := ⟨by show sGET.size ≤ maxLen; decide, h, by show (⟨#[]⟩ : ByteArray).size ≤ maxLen; decide, fun h hh => by cases hh⟩
set_option maxRecDepth 100000 in
set_option maxHeartbeats 2000000 in
theorem awake14 : PCalls Tryz.prog 8 [] (.v (.bool true)) := by
  have c0 := example14
  have k4 := l4_ exPols ex_few (by decide)
  have k7 := l7_ exPols ex_few (by decide)
  have ka := alone_ exPols ex_few (by decide)
  have c1 := fourS_ (exPols.map (Pl.halfP 0 1)) (ok_halves ex_ok 0 1) (few_halves ex_few 0 1) (by decide) (Pl.allowsP exPols) who0 who0_ok 80
  have c2 := fourS_ (exPols.map (Pl.halfP 0 1)) (ok_halves ex_ok 0 1) (few_halves ex_few 0 1) (by decide) (Pl.allowsP exPols) who0 who0_ok 81
  have c3 := seven_ (exPols.map (Pl.halfP 2 2)) (ok_halves ex_ok 2 2) (by decide) (Pl.allowsP exPols) who0 who0_ok 80 (reqOf sB) (reqOf_ok _ (by decide)) (by decide) ⟨#[]⟩ ⟨#[]⟩ (.slice none 0 0)
  have c4 := seven_ (exPols.map (Pl.halfP 2 2)) (ok_halves ex_ok 2 2) (by decide) (Pl.allowsP exPols) who0 who0_ok 80 (reqOf sA) (reqOf_ok _ (by decide)) (by decide) ⟨#[]⟩ ⟨#[]⟩ (.slice none 0 0)
  have c5 := fourS_ (exPols.map (Pl.halfP 1 0)) (ok_halves ex_ok 1 0) (few_halves ex_few 1 0) (by decide) (Pl.allowsP exPols) who0 who0_ok 80
  rw [v1] at c1
  rw [v2] at c2
  rw [v3] at c3
  rw [v4] at c4
  rw [v5] at c5
  dsimp only at c1 c2 c3 c4 c5
  refine pcalls_of Tryz.func8 rfl rfl Tryz.ntmps8 rfl ?_
  repeat' (first
    | refine then_go ?_
    | refine swp_seq ?_
    | ((refine swp_region (id := 0) ?_) <;> (first | refine sops_pure (.free rfl rfl) rfl rfl (po_call (c3) rfl (.cons rfl (.t _) (.cons rfl (.t _) (.cons rfl (.t _) (.cons rfl (.le req_le) .nil))))) ?_ | refine sops_pure (.free rfl rfl) rfl rfl (po_call (c4) rfl (.cons rfl (.t _) (.cons rfl (.t _) (.cons rfl (.t _) (.cons rfl (.le req_le) .nil))))) ?_ | refine sops_pure (.free rfl rfl) rfl rfl (po_assign rfl rfl) ?_) <;> (refine sops_nil ?_))
    | ((refine swp_region (id := 1) ?_) <;> (first | refine sops_pure (.free rfl rfl) rfl rfl (po_call (c3) rfl (.cons rfl (.t _) (.cons rfl (.t _) (.cons rfl (.t _) (.cons rfl (.le req_le) .nil))))) ?_ | refine sops_pure (.free rfl rfl) rfl rfl (po_call (c4) rfl (.cons rfl (.t _) (.cons rfl (.t _) (.cons rfl (.t _) (.cons rfl (.le req_le) .nil))))) ?_ | refine sops_allocS str29 (.free rfl rfl) rfl rfl rfl rfl ?_) <;> (refine sops_nil ?_))
    | ((refine swp_draw_all (id := 2) mixed (by kernel_rfl) (by kernel_rfl) ?_) <;> (first | refine sdraw_pure (.free rfl rfl) rfl (po_call (c3) rfl (.cons rfl (.t _) (.cons rfl (.t _) (.cons rfl (.t _) (.cons rfl (.le req_le) .nil))))) ?_ | refine sdraw_pure (.free rfl rfl) rfl (po_call (c4) rfl (.cons rfl (.t _) (.cons rfl (.t _) (.cons rfl (.t _) (.cons rfl (.le req_le) .nil))))) ?_ | refine sdraw_pure (.free rfl rfl) rfl (po_call (c0) rfl .nil) ?_ | refine sdraw_pure (.free rfl rfl) rfl (po_call (k4) rfl .nil) ?_ | refine sdraw_pure (.free rfl rfl) rfl (po_call (k7) rfl .nil) ?_ | refine sdraw_pure (.free rfl rfl) rfl (po_call (ka) rfl .nil) ?_ | refine sdraw_pure (.free rfl rfl) rfl (po_call (c1) rfl .nil) ?_ | refine sdraw_pure (.free rfl rfl) rfl (po_call (c2) rfl .nil) ?_ | refine sdraw_pure (.free rfl rfl) rfl (po_call (c5) rfl .nil) ?_) <;> (first | refine sdraw_pure (.free rfl rfl) rfl (po_call (c3) rfl (.cons rfl (.t _) (.cons rfl (.t _) (.cons rfl (.t _) (.cons rfl (.le req_le) .nil))))) ?_ | refine sdraw_pure (.free rfl rfl) rfl (po_call (c4) rfl (.cons rfl (.t _) (.cons rfl (.t _) (.cons rfl (.t _) (.cons rfl (.le req_le) .nil))))) ?_ | refine sdraw_pure (.free rfl rfl) rfl (po_call (c0) rfl (ac .nil)) ?_ | refine sdraw_pure (.free rfl rfl) rfl (po_call (k4) rfl (ac .nil)) ?_ | refine sdraw_pure (.free rfl rfl) rfl (po_call (k7) rfl (ac .nil)) ?_ | refine sdraw_pure (.free rfl rfl) rfl (po_call (ka) rfl (ac .nil)) ?_ | refine sdraw_pure (.free rfl rfl) rfl (po_call (c1) rfl (ac .nil)) ?_ | refine sdraw_pure (.free rfl rfl) rfl (po_call (c2) rfl (ac .nil)) ?_ | refine sdraw_pure (.free rfl rfl) rfl (po_call (c5) rfl (ac .nil)) ?_) <;> (first | refine sdraw_pure (.free rfl rfl) rfl (po_call (c3) rfl (.cons rfl (.t _) (.cons rfl (.t _) (.cons rfl (.t _) (.cons rfl (.le req_le) .nil))))) ?_ | refine sdraw_pure (.free rfl rfl) rfl (po_call (c4) rfl (.cons rfl (.t _) (.cons rfl (.t _) (.cons rfl (.t _) (.cons rfl (.le req_le) .nil))))) ?_ | refine sdraw_pure (.free rfl rfl) rfl (po_load_bx_agg rfl rfl (tyT rfl) rfl (vc (vc (vc .nil))) rfl) ?_ | refine sdraw_pure (.free rfl rfl) rfl (po_load_agg rfl rfl (tyT rfl) rfl rfl) ?_) <;> (first | refine sdraw_pure (.free rfl rfl) rfl (po_call (c3) rfl (.cons rfl (.t _) (.cons rfl (.t _) (.cons rfl (.t _) (.cons rfl (.le req_le) .nil))))) ?_ | refine sdraw_pure (.free rfl rfl) rfl (po_call (c4) rfl (.cons rfl (.t _) (.cons rfl (.t _) (.cons rfl (.t _) (.cons rfl (.le req_le) .nil))))) ?_ | refine sdraw_pure (.free rfl rfl) rfl (po_call (c0) rfl (ac (ac (ac .nil)))) ?_ | refine sdraw_pure (.free rfl rfl) rfl (po_call (k4) rfl (ac (ac (ac .nil)))) ?_ | refine sdraw_pure (.free rfl rfl) rfl (po_call (k7) rfl (ac (ac (ac .nil)))) ?_ | refine sdraw_pure (.free rfl rfl) rfl (po_call (ka) rfl (ac (ac (ac .nil)))) ?_ | refine sdraw_pure (.free rfl rfl) rfl (po_call (c1) rfl (ac (ac (ac .nil)))) ?_ | refine sdraw_pure (.free rfl rfl) rfl (po_call (c2) rfl (ac (ac (ac .nil)))) ?_ | refine sdraw_pure (.free rfl rfl) rfl (po_call (c5) rfl (ac (ac (ac .nil)))) ?_) <;> (first | refine sdraw_pure (.free rfl rfl) rfl (po_call (c3) rfl (.cons rfl (.t _) (.cons rfl (.t _) (.cons rfl (.t _) (.cons rfl (.le req_le) .nil))))) ?_ | refine sdraw_pure (.free rfl rfl) rfl (po_call (c4) rfl (.cons rfl (.t _) (.cons rfl (.t _) (.cons rfl (.t _) (.cons rfl (.le req_le) .nil))))) ?_ | refine sdraw_pure (.free rfl rfl) rfl (po_move rfl rfl) ?_) <;> (first | refine sdraw_pure (.free rfl rfl) rfl (po_call (c3) rfl (.cons rfl (.t _) (.cons rfl (.t _) (.cons rfl (.t _) (.cons rfl (.le req_le) .nil))))) ?_ | refine sdraw_pure (.free rfl rfl) rfl (po_call (c4) rfl (.cons rfl (.t _) (.cons rfl (.t _) (.cons rfl (.t _) (.cons rfl (.le req_le) .nil))))) ?_ | refine sdraw_pure (.free rfl rfl) rfl (po_extract rfl rfl rfl) ?_) <;> (first | refine sdraw_pure (.free rfl rfl) rfl (po_call (c3) rfl (.cons rfl (.t _) (.cons rfl (.t _) (.cons rfl (.t _) (.cons rfl (.le req_le) .nil))))) ?_ | refine sdraw_pure (.free rfl rfl) rfl (po_call (c4) rfl (.cons rfl (.t _) (.cons rfl (.t _) (.cons rfl (.t _) (.cons rfl (.le req_le) .nil))))) ?_ | refine sdraw_pure (.free rfl rfl) rfl (po_extract rfl rfl rfl) ?_) <;> (first | refine sdraw_pure (.free rfl rfl) rfl (po_call (c3) rfl (.cons rfl (.t _) (.cons rfl (.t _) (.cons rfl (.t _) (.cons rfl (.le req_le) .nil))))) ?_ | refine sdraw_pure (.free rfl rfl) rfl (po_call (c4) rfl (.cons rfl (.t _) (.cons rfl (.t _) (.cons rfl (.t _) (.cons rfl (.le req_le) .nil))))) ?_ | refine sdraw_pure (.free rfl rfl) rfl (po_assign rfl rfl) ?_) <;> (first | refine sdraw_pure (.free rfl rfl) rfl (po_call (c3) rfl (.cons rfl (.t _) (.cons rfl (.t _) (.cons rfl (.t _) (.cons rfl (.le req_le) .nil))))) ?_ | refine sdraw_pure (.free rfl rfl) rfl (po_call (c4) rfl (.cons rfl (.t _) (.cons rfl (.t _) (.cons rfl (.t _) (.cons rfl (.le req_le) .nil))))) ?_ | refine sdraw_pure (.free rfl rfl) rfl (po_assign rfl rfl) ?_) <;> (refine sdraw_nil ?_) <;> (refine sops_nil ?_))
    | ((refine swp_draw_all (id := 3) mixed (by kernel_rfl) (by kernel_rfl) ?_) <;> (first | refine sdraw_pure (.free rfl rfl) rfl (po_call (c3) rfl (.cons rfl (.t _) (.cons rfl (.t _) (.cons rfl (.t _) (.cons rfl (.le req_le) .nil))))) ?_ | refine sdraw_pure (.free rfl rfl) rfl (po_call (c4) rfl (.cons rfl (.t _) (.cons rfl (.t _) (.cons rfl (.t _) (.cons rfl (.le req_le) .nil))))) ?_ | refine sdraw_pure (.free rfl rfl) rfl (po_call (c0) rfl .nil) ?_ | refine sdraw_pure (.free rfl rfl) rfl (po_call (k4) rfl .nil) ?_ | refine sdraw_pure (.free rfl rfl) rfl (po_call (k7) rfl .nil) ?_ | refine sdraw_pure (.free rfl rfl) rfl (po_call (ka) rfl .nil) ?_ | refine sdraw_pure (.free rfl rfl) rfl (po_call (c1) rfl .nil) ?_ | refine sdraw_pure (.free rfl rfl) rfl (po_call (c2) rfl .nil) ?_ | refine sdraw_pure (.free rfl rfl) rfl (po_call (c5) rfl .nil) ?_) <;> (first | refine sdraw_pure (.free rfl rfl) rfl (po_call (c3) rfl (.cons rfl (.t _) (.cons rfl (.t _) (.cons rfl (.t _) (.cons rfl (.le req_le) .nil))))) ?_ | refine sdraw_pure (.free rfl rfl) rfl (po_call (c4) rfl (.cons rfl (.t _) (.cons rfl (.t _) (.cons rfl (.t _) (.cons rfl (.le req_le) .nil))))) ?_ | refine sdraw_pure (.free rfl rfl) rfl (po_call (c0) rfl (ac .nil)) ?_ | refine sdraw_pure (.free rfl rfl) rfl (po_call (k4) rfl (ac .nil)) ?_ | refine sdraw_pure (.free rfl rfl) rfl (po_call (k7) rfl (ac .nil)) ?_ | refine sdraw_pure (.free rfl rfl) rfl (po_call (ka) rfl (ac .nil)) ?_ | refine sdraw_pure (.free rfl rfl) rfl (po_call (c1) rfl (ac .nil)) ?_ | refine sdraw_pure (.free rfl rfl) rfl (po_call (c2) rfl (ac .nil)) ?_ | refine sdraw_pure (.free rfl rfl) rfl (po_call (c5) rfl (ac .nil)) ?_) <;> (first | refine sdraw_pure (.free rfl rfl) rfl (po_call (c3) rfl (.cons rfl (.t _) (.cons rfl (.t _) (.cons rfl (.t _) (.cons rfl (.le req_le) .nil))))) ?_ | refine sdraw_pure (.free rfl rfl) rfl (po_call (c4) rfl (.cons rfl (.t _) (.cons rfl (.t _) (.cons rfl (.t _) (.cons rfl (.le req_le) .nil))))) ?_ | refine sdraw_pure (.free rfl rfl) rfl (po_load_bx_agg rfl rfl (tyT rfl) rfl (vc (vc (vc .nil))) rfl) ?_ | refine sdraw_pure (.free rfl rfl) rfl (po_load_agg rfl rfl (tyT rfl) rfl rfl) ?_) <;> (first | refine sdraw_pure (.free rfl rfl) rfl (po_call (c3) rfl (.cons rfl (.t _) (.cons rfl (.t _) (.cons rfl (.t _) (.cons rfl (.le req_le) .nil))))) ?_ | refine sdraw_pure (.free rfl rfl) rfl (po_call (c4) rfl (.cons rfl (.t _) (.cons rfl (.t _) (.cons rfl (.t _) (.cons rfl (.le req_le) .nil))))) ?_ | refine sdraw_pure (.free rfl rfl) rfl (po_call (c0) rfl (ac (ac (ac .nil)))) ?_ | refine sdraw_pure (.free rfl rfl) rfl (po_call (k4) rfl (ac (ac (ac .nil)))) ?_ | refine sdraw_pure (.free rfl rfl) rfl (po_call (k7) rfl (ac (ac (ac .nil)))) ?_ | refine sdraw_pure (.free rfl rfl) rfl (po_call (ka) rfl (ac (ac (ac .nil)))) ?_ | refine sdraw_pure (.free rfl rfl) rfl (po_call (c1) rfl (ac (ac (ac .nil)))) ?_ | refine sdraw_pure (.free rfl rfl) rfl (po_call (c2) rfl (ac (ac (ac .nil)))) ?_ | refine sdraw_pure (.free rfl rfl) rfl (po_call (c5) rfl (ac (ac (ac .nil)))) ?_) <;> (first | refine sdraw_pure (.free rfl rfl) rfl (po_call (c3) rfl (.cons rfl (.t _) (.cons rfl (.t _) (.cons rfl (.t _) (.cons rfl (.le req_le) .nil))))) ?_ | refine sdraw_pure (.free rfl rfl) rfl (po_call (c4) rfl (.cons rfl (.t _) (.cons rfl (.t _) (.cons rfl (.t _) (.cons rfl (.le req_le) .nil))))) ?_ | refine sdraw_pure (.free rfl rfl) rfl (po_move rfl rfl) ?_) <;> (first | refine sdraw_pure (.free rfl rfl) rfl (po_call (c3) rfl (.cons rfl (.t _) (.cons rfl (.t _) (.cons rfl (.t _) (.cons rfl (.le req_le) .nil))))) ?_ | refine sdraw_pure (.free rfl rfl) rfl (po_call (c4) rfl (.cons rfl (.t _) (.cons rfl (.t _) (.cons rfl (.t _) (.cons rfl (.le req_le) .nil))))) ?_ | refine sdraw_pure (.free rfl rfl) rfl (po_extract rfl rfl rfl) ?_) <;> (first | refine sdraw_pure (.free rfl rfl) rfl (po_call (c3) rfl (.cons rfl (.t _) (.cons rfl (.t _) (.cons rfl (.t _) (.cons rfl (.le req_le) .nil))))) ?_ | refine sdraw_pure (.free rfl rfl) rfl (po_call (c4) rfl (.cons rfl (.t _) (.cons rfl (.t _) (.cons rfl (.t _) (.cons rfl (.le req_le) .nil))))) ?_ | refine sdraw_pure (.free rfl rfl) rfl (po_extract rfl rfl rfl) ?_) <;> (first | refine sdraw_pure (.free rfl rfl) rfl (po_call (c3) rfl (.cons rfl (.t _) (.cons rfl (.t _) (.cons rfl (.t _) (.cons rfl (.le req_le) .nil))))) ?_ | refine sdraw_pure (.free rfl rfl) rfl (po_call (c4) rfl (.cons rfl (.t _) (.cons rfl (.t _) (.cons rfl (.t _) (.cons rfl (.le req_le) .nil))))) ?_ | refine sdraw_pure (.free rfl rfl) rfl (po_assign rfl rfl) ?_) <;> (first | refine sdraw_pure (.free rfl rfl) rfl (po_call (c3) rfl (.cons rfl (.t _) (.cons rfl (.t _) (.cons rfl (.t _) (.cons rfl (.le req_le) .nil))))) ?_ | refine sdraw_pure (.free rfl rfl) rfl (po_call (c4) rfl (.cons rfl (.t _) (.cons rfl (.t _) (.cons rfl (.t _) (.cons rfl (.le req_le) .nil))))) ?_ | refine sdraw_pure (.free rfl rfl) rfl (po_assign rfl rfl) ?_) <;> (refine sdraw_nil ?_) <;> (refine sops_nil ?_))
    | ((refine swp_draw_all (id := 4) mixed (by kernel_rfl) (by kernel_rfl) ?_) <;> (first | refine sdraw_pure (.free rfl rfl) rfl (po_call (c3) rfl (.cons rfl (.t _) (.cons rfl (.t _) (.cons rfl (.t _) (.cons rfl (.le req_le) .nil))))) ?_ | refine sdraw_pure (.free rfl rfl) rfl (po_call (c4) rfl (.cons rfl (.t _) (.cons rfl (.t _) (.cons rfl (.t _) (.cons rfl (.le req_le) .nil))))) ?_ | refine sdraw_pure (.free rfl rfl) rfl (po_call (c0) rfl .nil) ?_ | refine sdraw_pure (.free rfl rfl) rfl (po_call (k4) rfl .nil) ?_ | refine sdraw_pure (.free rfl rfl) rfl (po_call (k7) rfl .nil) ?_ | refine sdraw_pure (.free rfl rfl) rfl (po_call (ka) rfl .nil) ?_ | refine sdraw_pure (.free rfl rfl) rfl (po_call (c1) rfl .nil) ?_ | refine sdraw_pure (.free rfl rfl) rfl (po_call (c2) rfl .nil) ?_ | refine sdraw_pure (.free rfl rfl) rfl (po_call (c5) rfl .nil) ?_) <;> (first | refine sdraw_pure (.free rfl rfl) rfl (po_call (c3) rfl (.cons rfl (.t _) (.cons rfl (.t _) (.cons rfl (.t _) (.cons rfl (.le req_le) .nil))))) ?_ | refine sdraw_pure (.free rfl rfl) rfl (po_call (c4) rfl (.cons rfl (.t _) (.cons rfl (.t _) (.cons rfl (.t _) (.cons rfl (.le req_le) .nil))))) ?_ | refine sdraw_pure (.free rfl rfl) rfl (po_call (c0) rfl (ac .nil)) ?_ | refine sdraw_pure (.free rfl rfl) rfl (po_call (k4) rfl (ac .nil)) ?_ | refine sdraw_pure (.free rfl rfl) rfl (po_call (k7) rfl (ac .nil)) ?_ | refine sdraw_pure (.free rfl rfl) rfl (po_call (ka) rfl (ac .nil)) ?_ | refine sdraw_pure (.free rfl rfl) rfl (po_call (c1) rfl (ac .nil)) ?_ | refine sdraw_pure (.free rfl rfl) rfl (po_call (c2) rfl (ac .nil)) ?_ | refine sdraw_pure (.free rfl rfl) rfl (po_call (c5) rfl (ac .nil)) ?_) <;> (first | refine sdraw_pure (.free rfl rfl) rfl (po_call (c3) rfl (.cons rfl (.t _) (.cons rfl (.t _) (.cons rfl (.t _) (.cons rfl (.le req_le) .nil))))) ?_ | refine sdraw_pure (.free rfl rfl) rfl (po_call (c4) rfl (.cons rfl (.t _) (.cons rfl (.t _) (.cons rfl (.t _) (.cons rfl (.le req_le) .nil))))) ?_ | refine sdraw_pure (.free rfl rfl) rfl (po_load_bx_agg rfl rfl (tyT rfl) rfl (vc (vc (vc .nil))) rfl) ?_ | refine sdraw_pure (.free rfl rfl) rfl (po_load_agg rfl rfl (tyT rfl) rfl rfl) ?_) <;> (first | refine sdraw_pure (.free rfl rfl) rfl (po_call (c3) rfl (.cons rfl (.t _) (.cons rfl (.t _) (.cons rfl (.t _) (.cons rfl (.le req_le) .nil))))) ?_ | refine sdraw_pure (.free rfl rfl) rfl (po_call (c4) rfl (.cons rfl (.t _) (.cons rfl (.t _) (.cons rfl (.t _) (.cons rfl (.le req_le) .nil))))) ?_ | refine sdraw_pure (.free rfl rfl) rfl (po_buildS str33 rfl (pc (pc .nil)) rfl) ?_) <;> (first | refine sdraw_pure (.free rfl rfl) rfl (po_call (c3) rfl (.cons rfl (.t _) (.cons rfl (.t _) (.cons rfl (.t _) (.cons rfl (.le req_le) .nil))))) ?_ | refine sdraw_pure (.free rfl rfl) rfl (po_call (c4) rfl (.cons rfl (.t _) (.cons rfl (.t _) (.cons rfl (.t _) (.cons rfl (.le req_le) .nil))))) ?_ | refine sdraw_pure (.free rfl rfl) rfl (po_call (c0) rfl (ac (ac (ac (ac .nil))))) ?_ | refine sdraw_pure (.free rfl rfl) rfl (po_call (k4) rfl (ac (ac (ac (ac .nil))))) ?_ | refine sdraw_pure (.free rfl rfl) rfl (po_call (k7) rfl (ac (ac (ac (ac .nil))))) ?_ | refine sdraw_pure (.free rfl rfl) rfl (po_call (ka) rfl (ac (ac (ac (ac .nil))))) ?_ | refine sdraw_pure (.free rfl rfl) rfl (po_call (c1) rfl (ac (ac (ac (ac .nil))))) ?_ | refine sdraw_pure (.free rfl rfl) rfl (po_call (c2) rfl (ac (ac (ac (ac .nil))))) ?_ | refine sdraw_pure (.free rfl rfl) rfl (po_call (c5) rfl (ac (ac (ac (ac .nil))))) ?_) <;> (first | refine sdraw_pure (.free rfl rfl) rfl (po_call (c3) rfl (.cons rfl (.t _) (.cons rfl (.t _) (.cons rfl (.t _) (.cons rfl (.le req_le) .nil))))) ?_ | refine sdraw_pure (.free rfl rfl) rfl (po_call (c4) rfl (.cons rfl (.t _) (.cons rfl (.t _) (.cons rfl (.t _) (.cons rfl (.le req_le) .nil))))) ?_ | refine sdraw_pure (.free rfl rfl) rfl (po_move rfl rfl) ?_) <;> (first | refine sdraw_pure (.free rfl rfl) rfl (po_call (c3) rfl (.cons rfl (.t _) (.cons rfl (.t _) (.cons rfl (.t _) (.cons rfl (.le req_le) .nil))))) ?_ | refine sdraw_pure (.free rfl rfl) rfl (po_call (c4) rfl (.cons rfl (.t _) (.cons rfl (.t _) (.cons rfl (.t _) (.cons rfl (.le req_le) .nil))))) ?_ | refine sdraw_pure (.free rfl rfl) rfl (po_extract rfl rfl rfl) ?_) <;> (first | refine sdraw_pure (.free rfl rfl) rfl (po_call (c3) rfl (.cons rfl (.t _) (.cons rfl (.t _) (.cons rfl (.t _) (.cons rfl (.le req_le) .nil))))) ?_ | refine sdraw_pure (.free rfl rfl) rfl (po_call (c4) rfl (.cons rfl (.t _) (.cons rfl (.t _) (.cons rfl (.t _) (.cons rfl (.le req_le) .nil))))) ?_ | refine sdraw_pure (.free rfl rfl) rfl (po_extract rfl rfl rfl) ?_) <;> (first | refine sdraw_pure (.free rfl rfl) rfl (po_call (c3) rfl (.cons rfl (.t _) (.cons rfl (.t _) (.cons rfl (.t _) (.cons rfl (.le req_le) .nil))))) ?_ | refine sdraw_pure (.free rfl rfl) rfl (po_call (c4) rfl (.cons rfl (.t _) (.cons rfl (.t _) (.cons rfl (.t _) (.cons rfl (.le req_le) .nil))))) ?_ | refine sdraw_pure (.free rfl rfl) rfl (po_assign rfl rfl) ?_) <;> (first | refine sdraw_pure (.free rfl rfl) rfl (po_call (c3) rfl (.cons rfl (.t _) (.cons rfl (.t _) (.cons rfl (.t _) (.cons rfl (.le req_le) .nil))))) ?_ | refine sdraw_pure (.free rfl rfl) rfl (po_call (c4) rfl (.cons rfl (.t _) (.cons rfl (.t _) (.cons rfl (.t _) (.cons rfl (.le req_le) .nil))))) ?_ | refine sdraw_pure (.free rfl rfl) rfl (po_assign rfl rfl) ?_) <;> (refine sdraw_nil ?_) <;> (refine sops_nil ?_))
    | ((refine swp_draw_all (id := 5) mixed (by kernel_rfl) (by kernel_rfl) ?_) <;> (first | refine sdraw_pure (.free rfl rfl) rfl (po_call (c3) rfl (.cons rfl (.t _) (.cons rfl (.t _) (.cons rfl (.t _) (.cons rfl (.le req_le) .nil))))) ?_ | refine sdraw_pure (.free rfl rfl) rfl (po_call (c4) rfl (.cons rfl (.t _) (.cons rfl (.t _) (.cons rfl (.t _) (.cons rfl (.le req_le) .nil))))) ?_ | refine sdraw_pure (.free rfl rfl) rfl (po_call (c0) rfl .nil) ?_ | refine sdraw_pure (.free rfl rfl) rfl (po_call (k4) rfl .nil) ?_ | refine sdraw_pure (.free rfl rfl) rfl (po_call (k7) rfl .nil) ?_ | refine sdraw_pure (.free rfl rfl) rfl (po_call (ka) rfl .nil) ?_ | refine sdraw_pure (.free rfl rfl) rfl (po_call (c1) rfl .nil) ?_ | refine sdraw_pure (.free rfl rfl) rfl (po_call (c2) rfl .nil) ?_ | refine sdraw_pure (.free rfl rfl) rfl (po_call (c5) rfl .nil) ?_) <;> (first | refine sdraw_pure (.free rfl rfl) rfl (po_call (c3) rfl (.cons rfl (.t _) (.cons rfl (.t _) (.cons rfl (.t _) (.cons rfl (.le req_le) .nil))))) ?_ | refine sdraw_pure (.free rfl rfl) rfl (po_call (c4) rfl (.cons rfl (.t _) (.cons rfl (.t _) (.cons rfl (.t _) (.cons rfl (.le req_le) .nil))))) ?_ | refine sdraw_pure (.free rfl rfl) rfl (po_call (c0) rfl (ac .nil)) ?_ | refine sdraw_pure (.free rfl rfl) rfl (po_call (k4) rfl (ac .nil)) ?_ | refine sdraw_pure (.free rfl rfl) rfl (po_call (k7) rfl (ac .nil)) ?_ | refine sdraw_pure (.free rfl rfl) rfl (po_call (ka) rfl (ac .nil)) ?_ | refine sdraw_pure (.free rfl rfl) rfl (po_call (c1) rfl (ac .nil)) ?_ | refine sdraw_pure (.free rfl rfl) rfl (po_call (c2) rfl (ac .nil)) ?_ | refine sdraw_pure (.free rfl rfl) rfl (po_call (c5) rfl (ac .nil)) ?_) <;> (first | refine sdraw_pure (.free rfl rfl) rfl (po_call (c3) rfl (.cons rfl (.t _) (.cons rfl (.t _) (.cons rfl (.t _) (.cons rfl (.le req_le) .nil))))) ?_ | refine sdraw_pure (.free rfl rfl) rfl (po_call (c4) rfl (.cons rfl (.t _) (.cons rfl (.t _) (.cons rfl (.t _) (.cons rfl (.le req_le) .nil))))) ?_ | refine sdraw_pure (.free rfl rfl) rfl (po_load_bx_agg rfl rfl (tyT rfl) rfl (vc (vc (vc .nil))) rfl) ?_ | refine sdraw_pure (.free rfl rfl) rfl (po_load_agg rfl rfl (tyT rfl) rfl rfl) ?_) <;> (first | refine sdraw_pure (.free rfl rfl) rfl (po_call (c3) rfl (.cons rfl (.t _) (.cons rfl (.t _) (.cons rfl (.t _) (.cons rfl (.le req_le) .nil))))) ?_ | refine sdraw_pure (.free rfl rfl) rfl (po_call (c4) rfl (.cons rfl (.t _) (.cons rfl (.t _) (.cons rfl (.t _) (.cons rfl (.le req_le) .nil))))) ?_ | refine sdraw_pure (.free rfl rfl) rfl (po_buildS str33 rfl (pc (pc .nil)) rfl) ?_) <;> (first | refine sdraw_pure (.free rfl rfl) rfl (po_call (c3) rfl (.cons rfl (.t _) (.cons rfl (.t _) (.cons rfl (.t _) (.cons rfl (.le req_le) .nil))))) ?_ | refine sdraw_pure (.free rfl rfl) rfl (po_call (c4) rfl (.cons rfl (.t _) (.cons rfl (.t _) (.cons rfl (.t _) (.cons rfl (.le req_le) .nil))))) ?_ | refine sdraw_pure (.free rfl rfl) rfl (po_call (c0) rfl (ac (ac (ac (ac .nil))))) ?_ | refine sdraw_pure (.free rfl rfl) rfl (po_call (k4) rfl (ac (ac (ac (ac .nil))))) ?_ | refine sdraw_pure (.free rfl rfl) rfl (po_call (k7) rfl (ac (ac (ac (ac .nil))))) ?_ | refine sdraw_pure (.free rfl rfl) rfl (po_call (ka) rfl (ac (ac (ac (ac .nil))))) ?_ | refine sdraw_pure (.free rfl rfl) rfl (po_call (c1) rfl (ac (ac (ac (ac .nil))))) ?_ | refine sdraw_pure (.free rfl rfl) rfl (po_call (c2) rfl (ac (ac (ac (ac .nil))))) ?_ | refine sdraw_pure (.free rfl rfl) rfl (po_call (c5) rfl (ac (ac (ac (ac .nil))))) ?_) <;> (first | refine sdraw_pure (.free rfl rfl) rfl (po_call (c3) rfl (.cons rfl (.t _) (.cons rfl (.t _) (.cons rfl (.t _) (.cons rfl (.le req_le) .nil))))) ?_ | refine sdraw_pure (.free rfl rfl) rfl (po_call (c4) rfl (.cons rfl (.t _) (.cons rfl (.t _) (.cons rfl (.t _) (.cons rfl (.le req_le) .nil))))) ?_ | refine sdraw_pure (.free rfl rfl) rfl (po_move rfl rfl) ?_) <;> (first | refine sdraw_pure (.free rfl rfl) rfl (po_call (c3) rfl (.cons rfl (.t _) (.cons rfl (.t _) (.cons rfl (.t _) (.cons rfl (.le req_le) .nil))))) ?_ | refine sdraw_pure (.free rfl rfl) rfl (po_call (c4) rfl (.cons rfl (.t _) (.cons rfl (.t _) (.cons rfl (.t _) (.cons rfl (.le req_le) .nil))))) ?_ | refine sdraw_pure (.free rfl rfl) rfl (po_extract rfl rfl rfl) ?_) <;> (first | refine sdraw_pure (.free rfl rfl) rfl (po_call (c3) rfl (.cons rfl (.t _) (.cons rfl (.t _) (.cons rfl (.t _) (.cons rfl (.le req_le) .nil))))) ?_ | refine sdraw_pure (.free rfl rfl) rfl (po_call (c4) rfl (.cons rfl (.t _) (.cons rfl (.t _) (.cons rfl (.t _) (.cons rfl (.le req_le) .nil))))) ?_ | refine sdraw_pure (.free rfl rfl) rfl (po_extract rfl rfl rfl) ?_) <;> (first | refine sdraw_pure (.free rfl rfl) rfl (po_call (c3) rfl (.cons rfl (.t _) (.cons rfl (.t _) (.cons rfl (.t _) (.cons rfl (.le req_le) .nil))))) ?_ | refine sdraw_pure (.free rfl rfl) rfl (po_call (c4) rfl (.cons rfl (.t _) (.cons rfl (.t _) (.cons rfl (.t _) (.cons rfl (.le req_le) .nil))))) ?_ | refine sdraw_pure (.free rfl rfl) rfl (po_assign rfl rfl) ?_) <;> (first | refine sdraw_pure (.free rfl rfl) rfl (po_call (c3) rfl (.cons rfl (.t _) (.cons rfl (.t _) (.cons rfl (.t _) (.cons rfl (.le req_le) .nil))))) ?_ | refine sdraw_pure (.free rfl rfl) rfl (po_call (c4) rfl (.cons rfl (.t _) (.cons rfl (.t _) (.cons rfl (.t _) (.cons rfl (.le req_le) .nil))))) ?_ | refine sdraw_pure (.free rfl rfl) rfl (po_assign rfl rfl) ?_) <;> (refine sdraw_nil ?_) <;> (refine sops_nil ?_))
    | ((refine swp_draw_all (id := 6) mixed (by kernel_rfl) (by kernel_rfl) ?_) <;> (first | refine sdraw_pure (.free rfl rfl) rfl (po_call (c3) rfl (.cons rfl (.t _) (.cons rfl (.t _) (.cons rfl (.t _) (.cons rfl (.le req_le) .nil))))) ?_ | refine sdraw_pure (.free rfl rfl) rfl (po_call (c4) rfl (.cons rfl (.t _) (.cons rfl (.t _) (.cons rfl (.t _) (.cons rfl (.le req_le) .nil))))) ?_ | refine sdraw_pure (.free rfl rfl) rfl (po_call (c0) rfl .nil) ?_ | refine sdraw_pure (.free rfl rfl) rfl (po_call (k4) rfl .nil) ?_ | refine sdraw_pure (.free rfl rfl) rfl (po_call (k7) rfl .nil) ?_ | refine sdraw_pure (.free rfl rfl) rfl (po_call (ka) rfl .nil) ?_ | refine sdraw_pure (.free rfl rfl) rfl (po_call (c1) rfl .nil) ?_ | refine sdraw_pure (.free rfl rfl) rfl (po_call (c2) rfl .nil) ?_ | refine sdraw_pure (.free rfl rfl) rfl (po_call (c5) rfl .nil) ?_) <;> (first | refine sdraw_pure (.free rfl rfl) rfl (po_call (c3) rfl (.cons rfl (.t _) (.cons rfl (.t _) (.cons rfl (.t _) (.cons rfl (.le req_le) .nil))))) ?_ | refine sdraw_pure (.free rfl rfl) rfl (po_call (c4) rfl (.cons rfl (.t _) (.cons rfl (.t _) (.cons rfl (.t _) (.cons rfl (.le req_le) .nil))))) ?_ | refine sdraw_pure (.free rfl rfl) rfl (po_call (c0) rfl (ac .nil)) ?_ | refine sdraw_pure (.free rfl rfl) rfl (po_call (k4) rfl (ac .nil)) ?_ | refine sdraw_pure (.free rfl rfl) rfl (po_call (k7) rfl (ac .nil)) ?_ | refine sdraw_pure (.free rfl rfl) rfl (po_call (ka) rfl (ac .nil)) ?_ | refine sdraw_pure (.free rfl rfl) rfl (po_call (c1) rfl (ac .nil)) ?_ | refine sdraw_pure (.free rfl rfl) rfl (po_call (c2) rfl (ac .nil)) ?_ | refine sdraw_pure (.free rfl rfl) rfl (po_call (c5) rfl (ac .nil)) ?_) <;> (first | refine sdraw_pure (.free rfl rfl) rfl (po_call (c3) rfl (.cons rfl (.t _) (.cons rfl (.t _) (.cons rfl (.t _) (.cons rfl (.le req_le) .nil))))) ?_ | refine sdraw_pure (.free rfl rfl) rfl (po_call (c4) rfl (.cons rfl (.t _) (.cons rfl (.t _) (.cons rfl (.t _) (.cons rfl (.le req_le) .nil))))) ?_ | refine sdraw_pure (.free rfl rfl) rfl (po_load_bx_agg rfl rfl (tyT rfl) rfl (vc (vc (vc .nil))) rfl) ?_ | refine sdraw_pure (.free rfl rfl) rfl (po_load_agg rfl rfl (tyT rfl) rfl rfl) ?_) <;> (first | refine sdraw_pure (.free rfl rfl) rfl (po_call (c3) rfl (.cons rfl (.t _) (.cons rfl (.t _) (.cons rfl (.t _) (.cons rfl (.le req_le) .nil))))) ?_ | refine sdraw_pure (.free rfl rfl) rfl (po_call (c4) rfl (.cons rfl (.t _) (.cons rfl (.t _) (.cons rfl (.t _) (.cons rfl (.le req_le) .nil))))) ?_ | refine sdraw_pure (.free rfl rfl) rfl (po_call (c0) rfl (ac (ac (ac .nil)))) ?_ | refine sdraw_pure (.free rfl rfl) rfl (po_call (k4) rfl (ac (ac (ac .nil)))) ?_ | refine sdraw_pure (.free rfl rfl) rfl (po_call (k7) rfl (ac (ac (ac .nil)))) ?_ | refine sdraw_pure (.free rfl rfl) rfl (po_call (ka) rfl (ac (ac (ac .nil)))) ?_ | refine sdraw_pure (.free rfl rfl) rfl (po_call (c1) rfl (ac (ac (ac .nil)))) ?_ | refine sdraw_pure (.free rfl rfl) rfl (po_call (c2) rfl (ac (ac (ac .nil)))) ?_ | refine sdraw_pure (.free rfl rfl) rfl (po_call (c5) rfl (ac (ac (ac .nil)))) ?_) <;> (first | refine sdraw_pure (.free rfl rfl) rfl (po_call (c3) rfl (.cons rfl (.t _) (.cons rfl (.t _) (.cons rfl (.t _) (.cons rfl (.le req_le) .nil))))) ?_ | refine sdraw_pure (.free rfl rfl) rfl (po_call (c4) rfl (.cons rfl (.t _) (.cons rfl (.t _) (.cons rfl (.t _) (.cons rfl (.le req_le) .nil))))) ?_ | refine sdraw_pure (.free rfl rfl) rfl (po_move rfl rfl) ?_) <;> (first | refine sdraw_pure (.free rfl rfl) rfl (po_call (c3) rfl (.cons rfl (.t _) (.cons rfl (.t _) (.cons rfl (.t _) (.cons rfl (.le req_le) .nil))))) ?_ | refine sdraw_pure (.free rfl rfl) rfl (po_call (c4) rfl (.cons rfl (.t _) (.cons rfl (.t _) (.cons rfl (.t _) (.cons rfl (.le req_le) .nil))))) ?_ | refine sdraw_pure (.free rfl rfl) rfl (po_extract rfl rfl rfl) ?_) <;> (first | refine sdraw_pure (.free rfl rfl) rfl (po_call (c3) rfl (.cons rfl (.t _) (.cons rfl (.t _) (.cons rfl (.t _) (.cons rfl (.le req_le) .nil))))) ?_ | refine sdraw_pure (.free rfl rfl) rfl (po_call (c4) rfl (.cons rfl (.t _) (.cons rfl (.t _) (.cons rfl (.t _) (.cons rfl (.le req_le) .nil))))) ?_ | refine sdraw_pure (.free rfl rfl) rfl (po_extract rfl rfl rfl) ?_) <;> (first | refine sdraw_pure (.free rfl rfl) rfl (po_call (c3) rfl (.cons rfl (.t _) (.cons rfl (.t _) (.cons rfl (.t _) (.cons rfl (.le req_le) .nil))))) ?_ | refine sdraw_pure (.free rfl rfl) rfl (po_call (c4) rfl (.cons rfl (.t _) (.cons rfl (.t _) (.cons rfl (.t _) (.cons rfl (.le req_le) .nil))))) ?_ | refine sdraw_pure (.free rfl rfl) rfl (po_assign rfl rfl) ?_) <;> (first | refine sdraw_pure (.free rfl rfl) rfl (po_call (c3) rfl (.cons rfl (.t _) (.cons rfl (.t _) (.cons rfl (.t _) (.cons rfl (.le req_le) .nil))))) ?_ | refine sdraw_pure (.free rfl rfl) rfl (po_call (c4) rfl (.cons rfl (.t _) (.cons rfl (.t _) (.cons rfl (.t _) (.cons rfl (.le req_le) .nil))))) ?_ | refine sdraw_pure (.free rfl rfl) rfl (po_assign rfl rfl) ?_) <;> (refine sdraw_nil ?_) <;> (refine sops_nil ?_))
    | ((refine swp_region (id := 7) ?_) <;> (first | refine sops_pure (.free rfl rfl) rfl rfl (po_call (c3) rfl (.cons rfl (.t _) (.cons rfl (.t _) (.cons rfl (.t _) (.cons rfl (.le req_le) .nil))))) ?_ | refine sops_pure (.free rfl rfl) rfl rfl (po_call (c4) rfl (.cons rfl (.t _) (.cons rfl (.t _) (.cons rfl (.t _) (.cons rfl (.le req_le) .nil))))) ?_ | refine sops_pure (.free rfl rfl) rfl rfl (po_move rfl rfl) ?_) <;> (first | refine sops_pure (.free rfl rfl) rfl rfl (po_call (c3) rfl (.cons rfl (.t _) (.cons rfl (.t _) (.cons rfl (.t _) (.cons rfl (.le req_le) .nil))))) ?_ | refine sops_pure (.free rfl rfl) rfl rfl (po_call (c4) rfl (.cons rfl (.t _) (.cons rfl (.t _) (.cons rfl (.t _) (.cons rfl (.le req_le) .nil))))) ?_ | refine sops_pure (.free rfl rfl) rfl rfl (po_move rfl rfl) ?_) <;> (first | refine sops_pure gy rfl rfl (po_call (c3) rfl (.cons rfl (.t _) (.cons rfl (.t _) (.cons rfl (.t _) (.cons rfl (.le req_le) .nil))))) ?_ | refine sops_pure gy rfl rfl (po_call (c4) rfl (.cons rfl (.t _) (.cons rfl (.t _) (.cons rfl (.t _) (.cons rfl (.le req_le) .nil))))) ?_ | refine sops_pure gy rfl rfl (po_move rfl rfl) ?_ | refine sops_skip gn1 rfl rfl ?_ | ((refine sops_split rfl rfl rfl (fun hc => ?_) (fun hc => ?_)) <;> (first | refine sops_pure gy rfl rfl (po_call (c3) rfl (.cons rfl (.t _) (.cons rfl (.t _) (.cons rfl (.t _) (.cons rfl (.le req_le) .nil))))) ?_ | refine sops_pure gy rfl rfl (po_call (c4) rfl (.cons rfl (.t _) (.cons rfl (.t _) (.cons rfl (.t _) (.cons rfl (.le req_le) .nil))))) ?_ | refine sops_pure gy rfl rfl (po_move rfl rfl) ?_ | refine sops_skip gn1 rfl rfl ?_))) <;> (first | refine sops_pure gy rfl rfl (po_call (c3) rfl (.cons rfl (.t _) (.cons rfl (.t _) (.cons rfl (.t _) (.cons rfl (.le req_le) .nil))))) ?_ | refine sops_pure gy rfl rfl (po_call (c4) rfl (.cons rfl (.t _) (.cons rfl (.t _) (.cons rfl (.t _) (.cons rfl (.le req_le) .nil))))) ?_ | refine sops_pure gy rfl rfl (po_cmp rfl rfl rfl rfl) ?_ | refine sops_skip gn1 rfl rfl ?_) <;> (first | refine sops_pure (.free rfl rfl) rfl rfl (po_call (c3) rfl (.cons rfl (.t _) (.cons rfl (.t _) (.cons rfl (.t _) (.cons rfl (.le req_le) .nil))))) ?_ | refine sops_pure (.free rfl rfl) rfl rfl (po_call (c4) rfl (.cons rfl (.t _) (.cons rfl (.t _) (.cons rfl (.t _) (.cons rfl (.le req_le) .nil))))) ?_ | refine sops_pure (.free rfl rfl) rfl rfl (pkt rfl) ?_ | refine sops_pure (.free rfl rfl) rfl rfl (pkf rfl) ?_) <;> (first | refine sops_pure (.free rfl rfl) rfl rfl (po_call (c3) rfl (.cons rfl (.t _) (.cons rfl (.t _) (.cons rfl (.t _) (.cons rfl (.le req_le) .nil))))) ?_ | refine sops_pure (.free rfl rfl) rfl rfl (po_call (c4) rfl (.cons rfl (.t _) (.cons rfl (.t _) (.cons rfl (.t _) (.cons rfl (.le req_le) .nil))))) ?_ | refine sops_pure (.free rfl rfl) rfl rfl (po_move rfl rfl) ?_) <;> (first | refine sops_pure gy rfl rfl (po_call (c3) rfl (.cons rfl (.t _) (.cons rfl (.t _) (.cons rfl (.t _) (.cons rfl (.le req_le) .nil))))) ?_ | refine sops_pure gy rfl rfl (po_call (c4) rfl (.cons rfl (.t _) (.cons rfl (.t _) (.cons rfl (.t _) (.cons rfl (.le req_le) .nil))))) ?_ | refine sops_pure gy rfl rfl (po_move rfl rfl) ?_ | refine sops_skip gn1 rfl rfl ?_ | ((refine sops_split rfl rfl rfl (fun hc => ?_) (fun hc => ?_)) <;> (first | refine sops_pure gy rfl rfl (po_call (c3) rfl (.cons rfl (.t _) (.cons rfl (.t _) (.cons rfl (.t _) (.cons rfl (.le req_le) .nil))))) ?_ | refine sops_pure gy rfl rfl (po_call (c4) rfl (.cons rfl (.t _) (.cons rfl (.t _) (.cons rfl (.t _) (.cons rfl (.le req_le) .nil))))) ?_ | refine sops_pure gy rfl rfl (po_move rfl rfl) ?_ | refine sops_skip gn1 rfl rfl ?_))) <;> (first | refine sops_pure gy rfl rfl (po_call (c3) rfl (.cons rfl (.t _) (.cons rfl (.t _) (.cons rfl (.t _) (.cons rfl (.le req_le) .nil))))) ?_ | refine sops_pure gy rfl rfl (po_call (c4) rfl (.cons rfl (.t _) (.cons rfl (.t _) (.cons rfl (.t _) (.cons rfl (.le req_le) .nil))))) ?_ | refine sops_pure gy rfl rfl (po_not rfl rfl) ?_ | refine sops_skip gn1 rfl rfl ?_) <;> (first | refine sops_pure (.free rfl rfl) rfl rfl (po_call (c3) rfl (.cons rfl (.t _) (.cons rfl (.t _) (.cons rfl (.t _) (.cons rfl (.le req_le) .nil))))) ?_ | refine sops_pure (.free rfl rfl) rfl rfl (po_call (c4) rfl (.cons rfl (.t _) (.cons rfl (.t _) (.cons rfl (.t _) (.cons rfl (.le req_le) .nil))))) ?_ | refine sops_pure (.free rfl rfl) rfl rfl (pkt rfl) ?_ | refine sops_pure (.free rfl rfl) rfl rfl (pkf rfl) ?_) <;> (first | refine sops_pure (.free rfl rfl) rfl rfl (po_call (c3) rfl (.cons rfl (.t _) (.cons rfl (.t _) (.cons rfl (.t _) (.cons rfl (.le req_le) .nil))))) ?_ | refine sops_pure (.free rfl rfl) rfl rfl (po_call (c4) rfl (.cons rfl (.t _) (.cons rfl (.t _) (.cons rfl (.t _) (.cons rfl (.le req_le) .nil))))) ?_ | refine sops_pure (.free rfl rfl) rfl rfl (po_move rfl rfl) ?_) <;> (first | refine sops_pure gy rfl rfl (po_call (c3) rfl (.cons rfl (.t _) (.cons rfl (.t _) (.cons rfl (.t _) (.cons rfl (.le req_le) .nil))))) ?_ | refine sops_pure gy rfl rfl (po_call (c4) rfl (.cons rfl (.t _) (.cons rfl (.t _) (.cons rfl (.t _) (.cons rfl (.le req_le) .nil))))) ?_ | refine sops_pure gy rfl rfl (po_move rfl rfl) ?_ | refine sops_skip gn1 rfl rfl ?_ | ((refine sops_split rfl rfl rfl (fun hc => ?_) (fun hc => ?_)) <;> (first | refine sops_pure gy rfl rfl (po_call (c3) rfl (.cons rfl (.t _) (.cons rfl (.t _) (.cons rfl (.t _) (.cons rfl (.le req_le) .nil))))) ?_ | refine sops_pure gy rfl rfl (po_call (c4) rfl (.cons rfl (.t _) (.cons rfl (.t _) (.cons rfl (.t _) (.cons rfl (.le req_le) .nil))))) ?_ | refine sops_pure gy rfl rfl (po_move rfl rfl) ?_ | refine sops_skip gn1 rfl rfl ?_))) <;> (first | refine sops_pure gy rfl rfl (po_call (c3) rfl (.cons rfl (.t _) (.cons rfl (.t _) (.cons rfl (.t _) (.cons rfl (.le req_le) .nil))))) ?_ | refine sops_pure gy rfl rfl (po_call (c4) rfl (.cons rfl (.t _) (.cons rfl (.t _) (.cons rfl (.t _) (.cons rfl (.le req_le) .nil))))) ?_ | refine sops_pure gy rfl rfl (po_cmp rfl rfl rfl rfl) ?_ | refine sops_skip gn1 rfl rfl ?_) <;> (first | refine sops_pure (.free rfl rfl) rfl rfl (po_call (c3) rfl (.cons rfl (.t _) (.cons rfl (.t _) (.cons rfl (.t _) (.cons rfl (.le req_le) .nil))))) ?_ | refine sops_pure (.free rfl rfl) rfl rfl (po_call (c4) rfl (.cons rfl (.t _) (.cons rfl (.t _) (.cons rfl (.t _) (.cons rfl (.le req_le) .nil))))) ?_ | refine sops_pure (.free rfl rfl) rfl rfl (pkt rfl) ?_ | refine sops_pure (.free rfl rfl) rfl rfl (pkf rfl) ?_) <;> (first | refine sops_pure (.free rfl rfl) rfl rfl (po_call (c3) rfl (.cons rfl (.t _) (.cons rfl (.t _) (.cons rfl (.t _) (.cons rfl (.le req_le) .nil))))) ?_ | refine sops_pure (.free rfl rfl) rfl rfl (po_call (c4) rfl (.cons rfl (.t _) (.cons rfl (.t _) (.cons rfl (.t _) (.cons rfl (.le req_le) .nil))))) ?_ | refine sops_pure (.free rfl rfl) rfl rfl (po_move rfl rfl) ?_) <;> (first | refine sops_pure gy rfl rfl (po_call (c3) rfl (.cons rfl (.t _) (.cons rfl (.t _) (.cons rfl (.t _) (.cons rfl (.le req_le) .nil))))) ?_ | refine sops_pure gy rfl rfl (po_call (c4) rfl (.cons rfl (.t _) (.cons rfl (.t _) (.cons rfl (.t _) (.cons rfl (.le req_le) .nil))))) ?_ | refine sops_pure gy rfl rfl (po_move rfl rfl) ?_ | refine sops_skip gn1 rfl rfl ?_ | ((refine sops_split rfl rfl rfl (fun hc => ?_) (fun hc => ?_)) <;> (first | refine sops_pure gy rfl rfl (po_call (c3) rfl (.cons rfl (.t _) (.cons rfl (.t _) (.cons rfl (.t _) (.cons rfl (.le req_le) .nil))))) ?_ | refine sops_pure gy rfl rfl (po_call (c4) rfl (.cons rfl (.t _) (.cons rfl (.t _) (.cons rfl (.t _) (.cons rfl (.le req_le) .nil))))) ?_ | refine sops_pure gy rfl rfl (po_move rfl rfl) ?_ | refine sops_skip gn1 rfl rfl ?_))) <;> (first | refine sops_pure (.free rfl rfl) rfl rfl (po_call (c3) rfl (.cons rfl (.t _) (.cons rfl (.t _) (.cons rfl (.t _) (.cons rfl (.le req_le) .nil))))) ?_ | refine sops_pure (.free rfl rfl) rfl rfl (po_call (c4) rfl (.cons rfl (.t _) (.cons rfl (.t _) (.cons rfl (.t _) (.cons rfl (.le req_le) .nil))))) ?_ | refine sops_pure (.free rfl rfl) rfl rfl (pkt rfl) ?_ | refine sops_pure (.free rfl rfl) rfl rfl (pkf rfl) ?_) <;> (first | refine sops_pure (.free rfl rfl) rfl rfl (po_call (c3) rfl (.cons rfl (.t _) (.cons rfl (.t _) (.cons rfl (.t _) (.cons rfl (.le req_le) .nil))))) ?_ | refine sops_pure (.free rfl rfl) rfl rfl (po_call (c4) rfl (.cons rfl (.t _) (.cons rfl (.t _) (.cons rfl (.t _) (.cons rfl (.le req_le) .nil))))) ?_ | refine sops_pure (.free rfl rfl) rfl rfl (po_move rfl rfl) ?_) <;> (first | refine sops_pure gy rfl rfl (po_call (c3) rfl (.cons rfl (.t _) (.cons rfl (.t _) (.cons rfl (.t _) (.cons rfl (.le req_le) .nil))))) ?_ | refine sops_pure gy rfl rfl (po_call (c4) rfl (.cons rfl (.t _) (.cons rfl (.t _) (.cons rfl (.t _) (.cons rfl (.le req_le) .nil))))) ?_ | refine sops_pure gy rfl rfl (po_move rfl rfl) ?_ | refine sops_skip gn1 rfl rfl ?_ | ((refine sops_split rfl rfl rfl (fun hc => ?_) (fun hc => ?_)) <;> (first | refine sops_pure gy rfl rfl (po_call (c3) rfl (.cons rfl (.t _) (.cons rfl (.t _) (.cons rfl (.t _) (.cons rfl (.le req_le) .nil))))) ?_ | refine sops_pure gy rfl rfl (po_call (c4) rfl (.cons rfl (.t _) (.cons rfl (.t _) (.cons rfl (.t _) (.cons rfl (.le req_le) .nil))))) ?_ | refine sops_pure gy rfl rfl (po_move rfl rfl) ?_ | refine sops_skip gn1 rfl rfl ?_))) <;> (first | refine sops_pure gy rfl rfl (po_call (c3) rfl (.cons rfl (.t _) (.cons rfl (.t _) (.cons rfl (.t _) (.cons rfl (.le req_le) .nil))))) ?_ | refine sops_pure gy rfl rfl (po_call (c4) rfl (.cons rfl (.t _) (.cons rfl (.t _) (.cons rfl (.t _) (.cons rfl (.le req_le) .nil))))) ?_ | refine sops_pure gy rfl rfl (po_cmp rfl rfl rfl rfl) ?_ | refine sops_skip gn1 rfl rfl ?_) <;> (first | refine sops_pure (.free rfl rfl) rfl rfl (po_call (c3) rfl (.cons rfl (.t _) (.cons rfl (.t _) (.cons rfl (.t _) (.cons rfl (.le req_le) .nil))))) ?_ | refine sops_pure (.free rfl rfl) rfl rfl (po_call (c4) rfl (.cons rfl (.t _) (.cons rfl (.t _) (.cons rfl (.t _) (.cons rfl (.le req_le) .nil))))) ?_ | refine sops_pure (.free rfl rfl) rfl rfl (pkt rfl) ?_ | refine sops_pure (.free rfl rfl) rfl rfl (pkf rfl) ?_) <;> (first | refine sops_pure (.free rfl rfl) rfl rfl (po_call (c3) rfl (.cons rfl (.t _) (.cons rfl (.t _) (.cons rfl (.t _) (.cons rfl (.le req_le) .nil))))) ?_ | refine sops_pure (.free rfl rfl) rfl rfl (po_call (c4) rfl (.cons rfl (.t _) (.cons rfl (.t _) (.cons rfl (.t _) (.cons rfl (.le req_le) .nil))))) ?_ | refine sops_pure (.free rfl rfl) rfl rfl (po_move rfl rfl) ?_) <;> (first | refine sops_pure gy rfl rfl (po_call (c3) rfl (.cons rfl (.t _) (.cons rfl (.t _) (.cons rfl (.t _) (.cons rfl (.le req_le) .nil))))) ?_ | refine sops_pure gy rfl rfl (po_call (c4) rfl (.cons rfl (.t _) (.cons rfl (.t _) (.cons rfl (.t _) (.cons rfl (.le req_le) .nil))))) ?_ | refine sops_pure gy rfl rfl (po_move rfl rfl) ?_ | refine sops_skip gn1 rfl rfl ?_ | ((refine sops_split rfl rfl rfl (fun hc => ?_) (fun hc => ?_)) <;> (first | refine sops_pure gy rfl rfl (po_call (c3) rfl (.cons rfl (.t _) (.cons rfl (.t _) (.cons rfl (.t _) (.cons rfl (.le req_le) .nil))))) ?_ | refine sops_pure gy rfl rfl (po_call (c4) rfl (.cons rfl (.t _) (.cons rfl (.t _) (.cons rfl (.t _) (.cons rfl (.le req_le) .nil))))) ?_ | refine sops_pure gy rfl rfl (po_move rfl rfl) ?_ | refine sops_skip gn1 rfl rfl ?_))) <;> (first | refine sops_pure gy rfl rfl (po_call (c3) rfl (.cons rfl (.t _) (.cons rfl (.t _) (.cons rfl (.t _) (.cons rfl (.le req_le) .nil))))) ?_ | refine sops_pure gy rfl rfl (po_call (c4) rfl (.cons rfl (.t _) (.cons rfl (.t _) (.cons rfl (.t _) (.cons rfl (.le req_le) .nil))))) ?_ | refine sops_pure gy rfl rfl (po_not rfl rfl) ?_ | refine sops_skip gn1 rfl rfl ?_) <;> (first | refine sops_pure (.free rfl rfl) rfl rfl (po_call (c3) rfl (.cons rfl (.t _) (.cons rfl (.t _) (.cons rfl (.t _) (.cons rfl (.le req_le) .nil))))) ?_ | refine sops_pure (.free rfl rfl) rfl rfl (po_call (c4) rfl (.cons rfl (.t _) (.cons rfl (.t _) (.cons rfl (.t _) (.cons rfl (.le req_le) .nil))))) ?_ | refine sops_pure (.free rfl rfl) rfl rfl (pkt rfl) ?_ | refine sops_pure (.free rfl rfl) rfl rfl (pkf rfl) ?_) <;> (first | refine sops_pure (.free rfl rfl) rfl rfl (po_call (c3) rfl (.cons rfl (.t _) (.cons rfl (.t _) (.cons rfl (.t _) (.cons rfl (.le req_le) .nil))))) ?_ | refine sops_pure (.free rfl rfl) rfl rfl (po_call (c4) rfl (.cons rfl (.t _) (.cons rfl (.t _) (.cons rfl (.t _) (.cons rfl (.le req_le) .nil))))) ?_ | refine sops_pure (.free rfl rfl) rfl rfl (po_move rfl rfl) ?_) <;> (first | refine sops_pure gy rfl rfl (po_call (c3) rfl (.cons rfl (.t _) (.cons rfl (.t _) (.cons rfl (.t _) (.cons rfl (.le req_le) .nil))))) ?_ | refine sops_pure gy rfl rfl (po_call (c4) rfl (.cons rfl (.t _) (.cons rfl (.t _) (.cons rfl (.t _) (.cons rfl (.le req_le) .nil))))) ?_ | refine sops_pure gy rfl rfl (po_move rfl rfl) ?_ | refine sops_skip gn1 rfl rfl ?_ | ((refine sops_split rfl rfl rfl (fun hc => ?_) (fun hc => ?_)) <;> (first | refine sops_pure gy rfl rfl (po_call (c3) rfl (.cons rfl (.t _) (.cons rfl (.t _) (.cons rfl (.t _) (.cons rfl (.le req_le) .nil))))) ?_ | refine sops_pure gy rfl rfl (po_call (c4) rfl (.cons rfl (.t _) (.cons rfl (.t _) (.cons rfl (.t _) (.cons rfl (.le req_le) .nil))))) ?_ | refine sops_pure gy rfl rfl (po_move rfl rfl) ?_ | refine sops_skip gn1 rfl rfl ?_))) <;> (first | refine sops_pure gy rfl rfl (po_call (c3) rfl (.cons rfl (.t _) (.cons rfl (.t _) (.cons rfl (.t _) (.cons rfl (.le req_le) .nil))))) ?_ | refine sops_pure gy rfl rfl (po_call (c4) rfl (.cons rfl (.t _) (.cons rfl (.t _) (.cons rfl (.t _) (.cons rfl (.le req_le) .nil))))) ?_ | refine sops_pure gy rfl rfl (po_cmp rfl rfl rfl rfl) ?_ | refine sops_skip gn1 rfl rfl ?_) <;> (first | refine sops_pure (.free rfl rfl) rfl rfl (po_call (c3) rfl (.cons rfl (.t _) (.cons rfl (.t _) (.cons rfl (.t _) (.cons rfl (.le req_le) .nil))))) ?_ | refine sops_pure (.free rfl rfl) rfl rfl (po_call (c4) rfl (.cons rfl (.t _) (.cons rfl (.t _) (.cons rfl (.t _) (.cons rfl (.le req_le) .nil))))) ?_ | refine sops_pure (.free rfl rfl) rfl rfl (pkt rfl) ?_ | refine sops_pure (.free rfl rfl) rfl rfl (pkf rfl) ?_) <;> (first | refine sops_pure (.free rfl rfl) rfl rfl (po_call (c3) rfl (.cons rfl (.t _) (.cons rfl (.t _) (.cons rfl (.t _) (.cons rfl (.le req_le) .nil))))) ?_ | refine sops_pure (.free rfl rfl) rfl rfl (po_call (c4) rfl (.cons rfl (.t _) (.cons rfl (.t _) (.cons rfl (.t _) (.cons rfl (.le req_le) .nil))))) ?_ | refine sops_pure (.free rfl rfl) rfl rfl (po_move rfl rfl) ?_) <;> (first | refine sops_pure gy rfl rfl (po_call (c3) rfl (.cons rfl (.t _) (.cons rfl (.t _) (.cons rfl (.t _) (.cons rfl (.le req_le) .nil))))) ?_ | refine sops_pure gy rfl rfl (po_call (c4) rfl (.cons rfl (.t _) (.cons rfl (.t _) (.cons rfl (.t _) (.cons rfl (.le req_le) .nil))))) ?_ | refine sops_pure gy rfl rfl (po_move rfl rfl) ?_ | refine sops_skip gn1 rfl rfl ?_ | ((refine sops_split rfl rfl rfl (fun hc => ?_) (fun hc => ?_)) <;> (first | refine sops_pure gy rfl rfl (po_call (c3) rfl (.cons rfl (.t _) (.cons rfl (.t _) (.cons rfl (.t _) (.cons rfl (.le req_le) .nil))))) ?_ | refine sops_pure gy rfl rfl (po_call (c4) rfl (.cons rfl (.t _) (.cons rfl (.t _) (.cons rfl (.t _) (.cons rfl (.le req_le) .nil))))) ?_ | refine sops_pure gy rfl rfl (po_move rfl rfl) ?_ | refine sops_skip gn1 rfl rfl ?_))) <;> (first | refine sops_pure gy rfl rfl (po_call (c3) rfl (.cons rfl (.t _) (.cons rfl (.t _) (.cons rfl (.t _) (.cons rfl (.le req_le) .nil))))) ?_ | refine sops_pure gy rfl rfl (po_call (c4) rfl (.cons rfl (.t _) (.cons rfl (.t _) (.cons rfl (.t _) (.cons rfl (.le req_le) .nil))))) ?_ | refine sops_pure gy rfl rfl (po_not rfl rfl) ?_ | refine sops_skip gn1 rfl rfl ?_) <;> (first | refine sops_pure (.free rfl rfl) rfl rfl (po_call (c3) rfl (.cons rfl (.t _) (.cons rfl (.t _) (.cons rfl (.t _) (.cons rfl (.le req_le) .nil))))) ?_ | refine sops_pure (.free rfl rfl) rfl rfl (po_call (c4) rfl (.cons rfl (.t _) (.cons rfl (.t _) (.cons rfl (.t _) (.cons rfl (.le req_le) .nil))))) ?_ | refine sops_pure (.free rfl rfl) rfl rfl (pkt rfl) ?_ | refine sops_pure (.free rfl rfl) rfl rfl (pkf rfl) ?_) <;> (first | refine sops_pure (.free rfl rfl) rfl rfl (po_call (c3) rfl (.cons rfl (.t _) (.cons rfl (.t _) (.cons rfl (.t _) (.cons rfl (.le req_le) .nil))))) ?_ | refine sops_pure (.free rfl rfl) rfl rfl (po_call (c4) rfl (.cons rfl (.t _) (.cons rfl (.t _) (.cons rfl (.t _) (.cons rfl (.le req_le) .nil))))) ?_ | refine sops_pure (.free rfl rfl) rfl rfl (po_move rfl rfl) ?_) <;> (first | refine sops_pure gy rfl rfl (po_call (c3) rfl (.cons rfl (.t _) (.cons rfl (.t _) (.cons rfl (.t _) (.cons rfl (.le req_le) .nil))))) ?_ | refine sops_pure gy rfl rfl (po_call (c4) rfl (.cons rfl (.t _) (.cons rfl (.t _) (.cons rfl (.t _) (.cons rfl (.le req_le) .nil))))) ?_ | refine sops_pure gy rfl rfl (po_move rfl rfl) ?_ | refine sops_skip gn1 rfl rfl ?_ | ((refine sops_split rfl rfl rfl (fun hc => ?_) (fun hc => ?_)) <;> (first | refine sops_pure gy rfl rfl (po_call (c3) rfl (.cons rfl (.t _) (.cons rfl (.t _) (.cons rfl (.t _) (.cons rfl (.le req_le) .nil))))) ?_ | refine sops_pure gy rfl rfl (po_call (c4) rfl (.cons rfl (.t _) (.cons rfl (.t _) (.cons rfl (.t _) (.cons rfl (.le req_le) .nil))))) ?_ | refine sops_pure gy rfl rfl (po_move rfl rfl) ?_ | refine sops_skip gn1 rfl rfl ?_))) <;> (first | refine sops_pure gy rfl rfl (po_call (c3) rfl (.cons rfl (.t _) (.cons rfl (.t _) (.cons rfl (.t _) (.cons rfl (.le req_le) .nil))))) ?_ | refine sops_pure gy rfl rfl (po_call (c4) rfl (.cons rfl (.t _) (.cons rfl (.t _) (.cons rfl (.t _) (.cons rfl (.le req_le) .nil))))) ?_ | refine sops_pure gy rfl rfl (po_cmp rfl rfl rfl rfl) ?_ | refine sops_skip gn1 rfl rfl ?_) <;> (first | refine sops_pure (.free rfl rfl) rfl rfl (po_call (c3) rfl (.cons rfl (.t _) (.cons rfl (.t _) (.cons rfl (.t _) (.cons rfl (.le req_le) .nil))))) ?_ | refine sops_pure (.free rfl rfl) rfl rfl (po_call (c4) rfl (.cons rfl (.t _) (.cons rfl (.t _) (.cons rfl (.t _) (.cons rfl (.le req_le) .nil))))) ?_ | refine sops_pure (.free rfl rfl) rfl rfl (pkt rfl) ?_ | refine sops_pure (.free rfl rfl) rfl rfl (pkf rfl) ?_) <;> (first | refine sops_pure (.free rfl rfl) rfl rfl (po_call (c3) rfl (.cons rfl (.t _) (.cons rfl (.t _) (.cons rfl (.t _) (.cons rfl (.le req_le) .nil))))) ?_ | refine sops_pure (.free rfl rfl) rfl rfl (po_call (c4) rfl (.cons rfl (.t _) (.cons rfl (.t _) (.cons rfl (.t _) (.cons rfl (.le req_le) .nil))))) ?_ | refine sops_pure (.free rfl rfl) rfl rfl (po_assign rfl rfl) ?_) <;> (refine sops_nil ?_))
    | refine swp_ret ?_
    | refine swp_skip ?_
    | refine swp_block ?_
    | refine swp_exit ?_
    | refine block_go ?_
    | refine block_exit ?_
    | refine block_far rfl ?_
    | refine block_ret ?_
    | refine then_ret ?_
    | refine then_exit ?_
    | refine for_ret ?_
    | refine for_exit ?_
    | refine ct ?_
    | refine cf ?_
    | refine swp_cond rfl (fun hc => ?_) (fun hc => ?_)
    | refine retq (by first | exact .inr rfl | exact .inl rfl) rfl (.tmp rfl (by first | exact .t _ | exact .own rfl (by first | rfl | assumption | (simp; done) | (simp; omega)) | exact .nil _ | exact .emp _ | exact .fn _) .nil) ?_)
  rfl
end Go.Proofs.YtlcecabfmemfeaaGreat.Pol

/- policy.Same, split.Same: each is the same as itself. (Printed by mk_sp8.py.) -/
namespace Go.Proofs.YtlcecabfmemfeaaGreat.Pol
set_option linter.unusedVariables false
set_option linter.unusedSimpArgs false
open Go.RowKit Mem Sim Opn
theorem ex_two' (a b : Value) : Ex (.agg [.v a, .v b]) (.agg #[a, b]) := Ex.agg (cs := [.v a, .v b]) (vs := [a, b]) rfl (fun j t v h1 h2 => by
  match j, h1, h2 with
  | 0, h1, h2 => simp at h1 h2; rw [← h1, ← h2]
  | 1, h1, h2 => simp at h1 h2; rw [← h1, ← h2])
theorem len_ne {α : Type} {l : List α} : (!decide ((l.length : Int) = (l.length : Int))) = false := by simp
theorem qTerm_run (a : Pl.Term) (w : World) (x y : Operand) : ((do eqGuard .neq 90 x y (.agg #[.int .i64 a.k, .string a.s]) (.agg #[.int .i64 a.k, .string a.s]); binOp .neq 90 (.agg #[.int .i64 a.k, .string a.s]) (.agg #[.int .i64 a.k, .string a.s])) : Sem Value).run Tryz.prog w = .ok (.bool false) w := by
  have hm : Tryz.prog.eqGuardType Tryz.prog.depth 90 = false := by kernel_rfl
  rw [Sem.run_bind, run_eqGuard_agg _ _ _ _ _ _ _ hm]
  simp only [Result.andThen_ok]
  rw [run_neq_struct]
  simp [go_sem]
def ETerm (l : List Pl.Term) (k : Nat) : St := ⟨[(0, .t (.sl 2 (l.map termT))), (1, .t (.sl 2 (l.map termT))), (12, .t (.v (.int .i64 (l.length : Int)))), (13, .t (.v (.int .i64 (k : Int))))], [], []⟩
set_option maxRecDepth 100000 in
theorem equalTerm (l : List Pl.Term) (hn : l.length ≤ 1000) : PCalls Tryz.prog 114 [.sl 2 (l.map termT), .sl 2 (l.map termT)] (.v (.bool true)) := by
  have hm1 : (l.map termT).length = l.length := List.length_map _
  have h0 := len_ne (l := l.map termT)
  refine pcalls_of Tryz.func114 rfl rfl Tryz.ntmps114 rfl ?_
  repeat' (first
    | refine then_go ?_
    | refine swp_seq ?_
    | ((refine swp_region (id := 0) ?_) <;> (refine sops_pure (.free rfl rfl) rfl rfl (po_assign rfl rfl) ?_) <;> (refine sops_nil ?_))
    | ((refine swp_region (id := 1) ?_) <;> (refine sops_pure (.free rfl rfl) rfl rfl (po_move rfl rfl) ?_) <;> (refine sops_pure (.free rfl rfl) rfl rfl (pln rfl (tyS rfl)) ?_) <;> (refine sops_pure (.free rfl rfl) rfl rfl (po_move rfl rfl) ?_) <;> (refine sops_pure (.free rfl rfl) rfl rfl (pln rfl (tyS rfl)) ?_) <;> (refine sops_pure (.free rfl rfl) rfl rfl (po_cmp rfl rfl rfl rfl) ?_) <;> (refine sops_nil ?_))
    | ((refine swp_region (id := 3) ?_) <;> (refine sops_pure (.free rfl rfl) rfl rfl (po_move rfl rfl) ?_) <;> (refine sops_pure (.free rfl rfl) rfl rfl (pln rfl (tyS rfl)) ?_) <;> (refine sops_pure (.free rfl rfl) rfl rfl (po_move rfl rfl) ?_) <;> (refine sops_nil ?_))
    | refine swp_ret ?_
    | refine swp_skip ?_
    | refine swp_block ?_
    | refine swp_exit ?_
    | refine block_go ?_
    | refine block_exit ?_
    | refine block_far rfl ?_
    | refine block_ret ?_
    | refine then_ret ?_
    | refine then_exit ?_
    | refine for_ret ?_
    | refine for_exit ?_
    | refine ct ?_
    | refine cf ?_
    | refine swp_cond rfl (fun hc => ?_) (fun hc => ?_)
    | refine retq (by first | exact .inr rfl | exact .inl rfl) rfl (.tmp rfl (by first | exact .t _ | exact .own rfl (by first | rfl | assumption | (simp; done) | (simp; omega)) | exact .nil _ | exact .emp _ | exact .fn _) .nil) ?_)
  refine swp_for (ETerm l) (fun k => True) l.length ?_ trivial ?_
  · exact (weak_sub (.cons rfl (by first | rfl | (exact congrArg (fun n : Nat => A.t (.v (.int .i64 (n : Int)))) hm1)) rfl (.cons rfl (by first | rfl | (exact congrArg (fun n : Nat => A.t (.v (.int .i64 (n : Int)))) hm1)) rfl (.cons rfl (by first | rfl | (exact congrArg (fun n : Nat => A.t (.v (.int .i64 (n : Int)))) hm1)) rfl (.cons rfl (by first | rfl | (exact congrArg (fun n : Nat => A.t (.v (.int .i64 (n : Int)))) hm1)) rfl .nil)))) .nil .nil)
  intro k hk _
  unfold ETerm
  by_cases hlt : k < l.length
  · repeat' (first
      | refine then_go ?_
      | refine swp_seq ?_
      | refine for_next hlt (weak_sub (.cons rfl rfl rfl (.cons rfl rfl rfl (.cons rfl rfl rfl (.cons rfl rfl rfl .nil)))) .nil .nil) trivial
      | ((refine swp_region (id := 4) ?_) <;> (first | refine sops_pure (.free rfl rfl) rfl rfl (po_ex2 rfl rfl rfl (ex_two' _ _) (ex_two' _ _) (qTerm_run l[k])) ?_ | refine sops_pure (.free rfl rfl) rfl rfl (po_cmp rfl rfl rfl rfl) ?_) <;> (refine sops_nil ?_))
      | ((refine swp_region (id := 5) ?_) <;> (refine sops_pure (.free rfl rfl) rfl rfl (po_move rfl rfl) ?_) <;> (refine sops_pure (.free rfl rfl) rfl rfl (po_assign rfl rfl) ?_) <;> (refine sops_nil ?_))
      | ((refine swp_draw_all (id := 6) mixed (by kernel_rfl) (by kernel_rfl) ?_) <;> (refine sdraw_pure (.free rfl rfl) rfl (po_move rfl rfl) ?_) <;> (refine sdraw_pure (.free rfl rfl) rfl (po_move rfl rfl) ?_) <;> (refine sdraw_pure (.free rfl rfl) rfl (pix rfl (tyS rfl)) ?_) <;> (first | refine sdraw_pure (.free rfl rfl) rfl (po_load_bx_agg rfl rfl (tyT rfl) rfl (vc (vc .nil)) rfl) ?_ | refine sdraw_pure (.free rfl rfl) rfl (po_load_agg rfl rfl (tyT rfl) rfl rfl) ?_) <;> (refine sdraw_pure (.free rfl rfl) rfl (po_move rfl rfl) ?_) <;> (refine sdraw_pure (.free rfl rfl) rfl (po_move rfl rfl) ?_) <;> (refine sdraw_pure (.free rfl rfl) rfl (pix rfl (tyS rfl)) ?_) <;> (first | refine sdraw_pure (.free rfl rfl) rfl (po_load_bx_agg rfl rfl (tyT rfl) rfl (vc (vc .nil)) rfl) ?_ | refine sdraw_pure (.free rfl rfl) rfl (po_load_agg rfl rfl (tyT rfl) rfl rfl) ?_) <;> (first | refine sdraw_pure (.free rfl rfl) rfl (po_ex2 rfl rfl rfl (ex_two' _ _) (ex_two' _ _) (qTerm_run l[k])) ?_ | refine sdraw_pure (.free rfl rfl) rfl (po_boolq rfl rfl rfl (by kernel_rfl) (by first | exact .inl rfl | exact .inr rfl)) ?_) <;> (refine sdraw_nil ?_) <;> (refine sops_nil ?_))
      | ((refine swp_region (id := 8) ?_) <;> (first | refine sops_pure (.free rfl rfl) rfl rfl (po_inc rfl rfl rfl (by omega)) ?_ | refine sops_pure (.free rfl rfl) rfl rfl (po_arith rfl rfl rfl (ar_add (by first | rfl | (refine wrap_i64 ?_; omega)) rfl)) ?_) <;> (refine sops_pure (.free rfl rfl) rfl rfl (po_move rfl rfl) ?_) <;> (refine sops_nil ?_))
      | refine swp_ret ?_
      | refine swp_skip ?_
      | refine swp_block ?_
      | refine swp_exit ?_
      | refine block_go ?_
      | refine block_exit ?_
      | refine block_far rfl ?_
      | refine block_ret ?_
      | refine then_ret ?_
      | refine then_exit ?_
      | refine for_ret ?_
      | refine for_exit ?_
      | refine ct ?_
      | refine cf ?_
      | refine swp_cond rfl (fun hc => ?_) (fun hc => ?_)
      | refine retq (by first | exact .inr rfl | exact .inl rfl) rfl (.tmp rfl (by first | exact .t _ | exact .own rfl (by first | rfl | assumption | (simp; done) | (simp; omega)) | exact .nil _ | exact .emp _ | exact .fn _) .nil) ?_)
  · repeat' (first
      | refine then_go ?_
      | refine swp_seq ?_
      | ((refine swp_region (id := 4) ?_) <;> (refine sops_pure (.free rfl rfl) rfl rfl (po_cmp rfl rfl rfl rfl) ?_) <;> (refine sops_nil ?_))
      | ((refine swp_region (id := 9) ?_) <;> (refine sops_pure (.free rfl rfl) rfl rfl (po_assign rfl rfl) ?_) <;> (refine sops_nil ?_))
      | refine swp_ret ?_
      | refine swp_skip ?_
      | refine swp_block ?_
      | refine swp_exit ?_
      | refine block_go ?_
      | refine block_exit ?_
      | refine block_far rfl ?_
      | refine block_ret ?_
      | refine then_ret ?_
      | refine then_exit ?_
      | refine for_ret ?_
      | refine for_exit ?_
      | refine ct ?_
      | refine cf ?_
      | refine swp_cond rfl (fun hc => ?_) (fun hc => ?_)
      | refine retq (by first | exact .inr rfl | exact .inl rfl) rfl (.tmp rfl (by first | exact .t _ | exact .own rfl (by first | rfl | assumption | (simp; done) | (simp; omega)) | exact .nil _ | exact .emp _ | exact .fn _) .nil) ?_)
    rfl
theorem qCidr_run (a : Pl.Cidr) (w : World) (x y : Operand) : ((do eqGuard .neq 104 x y (.agg #[.int .u32 a.addr, .int .i64 a.bits]) (.agg #[.int .u32 a.addr, .int .i64 a.bits]); binOp .neq 104 (.agg #[.int .u32 a.addr, .int .i64 a.bits]) (.agg #[.int .u32 a.addr, .int .i64 a.bits])) : Sem Value).run Tryz.prog w = .ok (.bool false) w := by
  have hm : Tryz.prog.eqGuardType Tryz.prog.depth 104 = false := by kernel_rfl
  rw [Sem.run_bind, run_eqGuard_agg _ _ _ _ _ _ _ hm]
  simp only [Result.andThen_ok]
  rw [run_neq_struct]
  simp [go_sem]
def ECidr (l : List Pl.Cidr) (k : Nat) : St := ⟨[(0, .t (.sl 2 (l.map cidrT))), (1, .t (.sl 2 (l.map cidrT))), (12, .t (.v (.int .i64 (l.length : Int)))), (13, .t (.v (.int .i64 (k : Int))))], [], []⟩
set_option maxRecDepth 100000 in
theorem equalCidr (l : List Pl.Cidr) (hn : l.length ≤ 1000) : PCalls Tryz.prog 115 [.sl 2 (l.map cidrT), .sl 2 (l.map cidrT)] (.v (.bool true)) := by
  have hm1 : (l.map cidrT).length = l.length := List.length_map _
  have h0 := len_ne (l := l.map cidrT)
  refine pcalls_of Tryz.func115 rfl rfl Tryz.ntmps115 rfl ?_
  repeat' (first
    | refine then_go ?_
    | refine swp_seq ?_
    | ((refine swp_region (id := 0) ?_) <;> (refine sops_pure (.free rfl rfl) rfl rfl (po_assign rfl rfl) ?_) <;> (refine sops_nil ?_))
    | ((refine swp_region (id := 1) ?_) <;> (refine sops_pure (.free rfl rfl) rfl rfl (po_move rfl rfl) ?_) <;> (refine sops_pure (.free rfl rfl) rfl rfl (pln rfl (tyS rfl)) ?_) <;> (refine sops_pure (.free rfl rfl) rfl rfl (po_move rfl rfl) ?_) <;> (refine sops_pure (.free rfl rfl) rfl rfl (pln rfl (tyS rfl)) ?_) <;> (refine sops_pure (.free rfl rfl) rfl rfl (po_cmp rfl rfl rfl rfl) ?_) <;> (refine sops_nil ?_))
    | ((refine swp_region (id := 3) ?_) <;> (refine sops_pure (.free rfl rfl) rfl rfl (po_move rfl rfl) ?_) <;> (refine sops_pure (.free rfl rfl) rfl rfl (pln rfl (tyS rfl)) ?_) <;> (refine sops_pure (.free rfl rfl) rfl rfl (po_move rfl rfl) ?_) <;> (refine sops_nil ?_))
    | refine swp_ret ?_
    | refine swp_skip ?_
    | refine swp_block ?_
    | refine swp_exit ?_
    | refine block_go ?_
    | refine block_exit ?_
    | refine block_far rfl ?_
    | refine block_ret ?_
    | refine then_ret ?_
    | refine then_exit ?_
    | refine for_ret ?_
    | refine for_exit ?_
    | refine ct ?_
    | refine cf ?_
    | refine swp_cond rfl (fun hc => ?_) (fun hc => ?_)
    | refine retq (by first | exact .inr rfl | exact .inl rfl) rfl (.tmp rfl (by first | exact .t _ | exact .own rfl (by first | rfl | assumption | (simp; done) | (simp; omega)) | exact .nil _ | exact .emp _ | exact .fn _) .nil) ?_)
  refine swp_for (ECidr l) (fun k => True) l.length ?_ trivial ?_
  · exact (weak_sub (.cons rfl (by first | rfl | (exact congrArg (fun n : Nat => A.t (.v (.int .i64 (n : Int)))) hm1)) rfl (.cons rfl (by first | rfl | (exact congrArg (fun n : Nat => A.t (.v (.int .i64 (n : Int)))) hm1)) rfl (.cons rfl (by first | rfl | (exact congrArg (fun n : Nat => A.t (.v (.int .i64 (n : Int)))) hm1)) rfl (.cons rfl (by first | rfl | (exact congrArg (fun n : Nat => A.t (.v (.int .i64 (n : Int)))) hm1)) rfl .nil)))) .nil .nil)
  intro k hk _
  unfold ECidr
  by_cases hlt : k < l.length
  · repeat' (first
      | refine then_go ?_
      | refine swp_seq ?_
      | refine for_next hlt (weak_sub (.cons rfl rfl rfl (.cons rfl rfl rfl (.cons rfl rfl rfl (.cons rfl rfl rfl .nil)))) .nil .nil) trivial
      | ((refine swp_region (id := 4) ?_) <;> (first | refine sops_pure (.free rfl rfl) rfl rfl (po_ex2 rfl rfl rfl (ex_two' _ _) (ex_two' _ _) (qCidr_run l[k])) ?_ | refine sops_pure (.free rfl rfl) rfl rfl (po_cmp rfl rfl rfl rfl) ?_) <;> (refine sops_nil ?_))
      | ((refine swp_region (id := 5) ?_) <;> (refine sops_pure (.free rfl rfl) rfl rfl (po_move rfl rfl) ?_) <;> (refine sops_pure (.free rfl rfl) rfl rfl (po_assign rfl rfl) ?_) <;> (refine sops_nil ?_))
      | ((refine swp_draw_all (id := 6) mixed (by kernel_rfl) (by kernel_rfl) ?_) <;> (refine sdraw_pure (.free rfl rfl) rfl (po_move rfl rfl) ?_) <;> (refine sdraw_pure (.free rfl rfl) rfl (po_move rfl rfl) ?_) <;> (refine sdraw_pure (.free rfl rfl) rfl (pix rfl (tyS rfl)) ?_) <;> (first | refine sdraw_pure (.free rfl rfl) rfl (po_load_bx_agg rfl rfl (tyT rfl) rfl (vc (vc .nil)) rfl) ?_ | refine sdraw_pure (.free rfl rfl) rfl (po_load_agg rfl rfl (tyT rfl) rfl rfl) ?_) <;> (refine sdraw_pure (.free rfl rfl) rfl (po_move rfl rfl) ?_) <;> (refine sdraw_pure (.free rfl rfl) rfl (po_move rfl rfl) ?_) <;> (refine sdraw_pure (.free rfl rfl) rfl (pix rfl (tyS rfl)) ?_) <;> (first | refine sdraw_pure (.free rfl rfl) rfl (po_load_bx_agg rfl rfl (tyT rfl) rfl (vc (vc .nil)) rfl) ?_ | refine sdraw_pure (.free rfl rfl) rfl (po_load_agg rfl rfl (tyT rfl) rfl rfl) ?_) <;> (first | refine sdraw_pure (.free rfl rfl) rfl (po_ex2 rfl rfl rfl (ex_two' _ _) (ex_two' _ _) (qCidr_run l[k])) ?_ | refine sdraw_pure (.free rfl rfl) rfl (po_boolq rfl rfl rfl (by kernel_rfl) (by first | exact .inl rfl | exact .inr rfl)) ?_) <;> (refine sdraw_nil ?_) <;> (refine sops_nil ?_))
      | ((refine swp_region (id := 8) ?_) <;> (first | refine sops_pure (.free rfl rfl) rfl rfl (po_inc rfl rfl rfl (by omega)) ?_ | refine sops_pure (.free rfl rfl) rfl rfl (po_arith rfl rfl rfl (ar_add (by first | rfl | (refine wrap_i64 ?_; omega)) rfl)) ?_) <;> (refine sops_pure (.free rfl rfl) rfl rfl (po_move rfl rfl) ?_) <;> (refine sops_nil ?_))
      | refine swp_ret ?_
      | refine swp_skip ?_
      | refine swp_block ?_
      | refine swp_exit ?_
      | refine block_go ?_
      | refine block_exit ?_
      | refine block_far rfl ?_
      | refine block_ret ?_
      | refine then_ret ?_
      | refine then_exit ?_
      | refine for_ret ?_
      | refine for_exit ?_
      | refine ct ?_
      | refine cf ?_
      | refine swp_cond rfl (fun hc => ?_) (fun hc => ?_)
      | refine retq (by first | exact .inr rfl | exact .inl rfl) rfl (.tmp rfl (by first | exact .t _ | exact .own rfl (by first | rfl | assumption | (simp; done) | (simp; omega)) | exact .nil _ | exact .emp _ | exact .fn _) .nil) ?_)
  · repeat' (first
      | refine then_go ?_
      | refine swp_seq ?_
      | ((refine swp_region (id := 4) ?_) <;> (refine sops_pure (.free rfl rfl) rfl rfl (po_cmp rfl rfl rfl rfl) ?_) <;> (refine sops_nil ?_))
      | ((refine swp_region (id := 9) ?_) <;> (refine sops_pure (.free rfl rfl) rfl rfl (po_assign rfl rfl) ?_) <;> (refine sops_nil ?_))
      | refine swp_ret ?_
      | refine swp_skip ?_
      | refine swp_block ?_
      | refine swp_exit ?_
      | refine block_go ?_
      | refine block_exit ?_
      | refine block_far rfl ?_
      | refine block_ret ?_
      | refine then_ret ?_
      | refine then_exit ?_
      | refine for_ret ?_
      | refine for_exit ?_
      | refine ct ?_
      | refine cf ?_
      | refine swp_cond rfl (fun hc => ?_) (fun hc => ?_)
      | refine retq (by first | exact .inr rfl | exact .inl rfl) rfl (.tmp rfl (by first | exact .t _ | exact .own rfl (by first | rfl | assumption | (simp; done) | (simp; omega)) | exact .nil _ | exact .emp _ | exact .fn _) .nil) ?_)
    rfl
def EInt (l : List Int) (k : Nat) : St := ⟨[(0, .t (.sl 1 (l.map intT))), (1, .t (.sl 1 (l.map intT))), (12, .t (.v (.int .i64 (l.length : Int)))), (13, .t (.v (.int .i64 (k : Int))))], [], []⟩
set_option maxRecDepth 100000 in
theorem equalInt (l : List Int) (hn : l.length ≤ 1000) : PCalls Tryz.prog 116 [.sl 1 (l.map intT), .sl 1 (l.map intT)] (.v (.bool true)) := by
  have hm1 : (l.map intT).length = l.length := List.length_map _
  have h0 := len_ne (l := l.map intT)
  refine pcalls_of Tryz.func116 rfl rfl Tryz.ntmps116 rfl ?_
  repeat' (first
    | refine then_go ?_
    | refine swp_seq ?_
    | ((refine swp_region (id := 0) ?_) <;> (refine sops_pure (.free rfl rfl) rfl rfl (po_assign rfl rfl) ?_) <;> (refine sops_nil ?_))
    | ((refine swp_region (id := 1) ?_) <;> (refine sops_pure (.free rfl rfl) rfl rfl (po_move rfl rfl) ?_) <;> (refine sops_pure (.free rfl rfl) rfl rfl (pln rfl (tyS rfl)) ?_) <;> (refine sops_pure (.free rfl rfl) rfl rfl (po_move rfl rfl) ?_) <;> (refine sops_pure (.free rfl rfl) rfl rfl (pln rfl (tyS rfl)) ?_) <;> (refine sops_pure (.free rfl rfl) rfl rfl (po_cmp rfl rfl rfl rfl) ?_) <;> (refine sops_nil ?_))
    | ((refine swp_region (id := 3) ?_) <;> (refine sops_pure (.free rfl rfl) rfl rfl (po_move rfl rfl) ?_) <;> (refine sops_pure (.free rfl rfl) rfl rfl (pln rfl (tyS rfl)) ?_) <;> (refine sops_pure (.free rfl rfl) rfl rfl (po_move rfl rfl) ?_) <;> (refine sops_nil ?_))
    | refine swp_ret ?_
    | refine swp_skip ?_
    | refine swp_block ?_
    | refine swp_exit ?_
    | refine block_go ?_
    | refine block_exit ?_
    | refine block_far rfl ?_
    | refine block_ret ?_
    | refine then_ret ?_
    | refine then_exit ?_
    | refine for_ret ?_
    | refine for_exit ?_
    | refine ct ?_
    | refine cf ?_
    | refine swp_cond rfl (fun hc => ?_) (fun hc => ?_)
    | refine retq (by first | exact .inr rfl | exact .inl rfl) rfl (.tmp rfl (by first | exact .t _ | exact .own rfl (by first | rfl | assumption | (simp; done) | (simp; omega)) | exact .nil _ | exact .emp _ | exact .fn _) .nil) ?_)
  refine swp_for (EInt l) (fun k => True) l.length ?_ trivial ?_
  · exact (weak_sub (.cons rfl (by first | rfl | (exact congrArg (fun n : Nat => A.t (.v (.int .i64 (n : Int)))) hm1)) rfl (.cons rfl (by first | rfl | (exact congrArg (fun n : Nat => A.t (.v (.int .i64 (n : Int)))) hm1)) rfl (.cons rfl (by first | rfl | (exact congrArg (fun n : Nat => A.t (.v (.int .i64 (n : Int)))) hm1)) rfl (.cons rfl (by first | rfl | (exact congrArg (fun n : Nat => A.t (.v (.int .i64 (n : Int)))) hm1)) rfl .nil)))) .nil .nil)
  intro k hk _
  unfold EInt
  by_cases hlt : k < l.length
  · have hne : (!decide (l[k] = l[k])) = false := by simp
    repeat' (first
      | refine then_go ?_
      | refine swp_seq ?_
      | refine for_next hlt (weak_sub (.cons rfl rfl rfl (.cons rfl rfl rfl (.cons rfl rfl rfl (.cons rfl rfl rfl .nil)))) .nil .nil) trivial
      | ((refine swp_region (id := 4) ?_) <;> (refine sops_pure (.free rfl rfl) rfl rfl (po_cmp rfl rfl rfl rfl) ?_) <;> (refine sops_nil ?_))
      | ((refine swp_region (id := 5) ?_) <;> (refine sops_pure (.free rfl rfl) rfl rfl (po_move rfl rfl) ?_) <;> (refine sops_pure (.free rfl rfl) rfl rfl (po_assign rfl rfl) ?_) <;> (refine sops_nil ?_))
      | ((refine swp_draw_all (id := 6) mixed (by kernel_rfl) (by kernel_rfl) ?_) <;> (refine sdraw_pure (.free rfl rfl) rfl (po_move rfl rfl) ?_) <;> (refine sdraw_pure (.free rfl rfl) rfl (po_move rfl rfl) ?_) <;> (refine sdraw_pure (.free rfl rfl) rfl (pix rfl (tyS rfl)) ?_) <;> (first | refine sdraw_pure (.free rfl rfl) rfl (po_load_bx rfl rfl (tyT rfl) rfl rfl) ?_ | refine sdraw_pure (.free rfl rfl) rfl (po_load rfl rfl (tyT rfl) rfl) ?_) <;> (refine sdraw_pure (.free rfl rfl) rfl (po_move rfl rfl) ?_) <;> (refine sdraw_pure (.free rfl rfl) rfl (po_move rfl rfl) ?_) <;> (refine sdraw_pure (.free rfl rfl) rfl (pix rfl (tyS rfl)) ?_) <;> (first | refine sdraw_pure (.free rfl rfl) rfl (po_load_bx rfl rfl (tyT rfl) rfl rfl) ?_ | refine sdraw_pure (.free rfl rfl) rfl (po_load rfl rfl (tyT rfl) rfl) ?_) <;> (refine sdraw_pure (.free rfl rfl) rfl (po_cmp rfl rfl rfl rfl) ?_) <;> (refine sdraw_nil ?_) <;> (refine sops_nil ?_))
      | ((refine swp_region (id := 8) ?_) <;> (first | refine sops_pure (.free rfl rfl) rfl rfl (po_inc rfl rfl rfl (by omega)) ?_ | refine sops_pure (.free rfl rfl) rfl rfl (po_arith rfl rfl rfl (ar_add (by first | rfl | (refine wrap_i64 ?_; omega)) rfl)) ?_) <;> (refine sops_pure (.free rfl rfl) rfl rfl (po_move rfl rfl) ?_) <;> (refine sops_nil ?_))
      | refine swp_ret ?_
      | refine swp_skip ?_
      | refine swp_block ?_
      | refine swp_exit ?_
      | refine block_go ?_
      | refine block_exit ?_
      | refine block_far rfl ?_
      | refine block_ret ?_
      | refine then_ret ?_
      | refine then_exit ?_
      | refine for_ret ?_
      | refine for_exit ?_
      | refine ct ?_
      | refine cf ?_
      | refine swp_cond rfl (fun hc => ?_) (fun hc => ?_)
      | refine retq (by first | exact .inr rfl | exact .inl rfl) rfl (.tmp rfl (by first | exact .t _ | exact .own rfl (by first | rfl | assumption | (simp; done) | (simp; omega)) | exact .nil _ | exact .emp _ | exact .fn _) .nil) ?_)
  · repeat' (first
      | refine then_go ?_
      | refine swp_seq ?_
      | ((refine swp_region (id := 4) ?_) <;> (refine sops_pure (.free rfl rfl) rfl rfl (po_cmp rfl rfl rfl rfl) ?_) <;> (refine sops_nil ?_))
      | ((refine swp_region (id := 9) ?_) <;> (refine sops_pure (.free rfl rfl) rfl rfl (po_assign rfl rfl) ?_) <;> (refine sops_nil ?_))
      | refine swp_ret ?_
      | refine swp_skip ?_
      | refine swp_block ?_
      | refine swp_exit ?_
      | refine block_go ?_
      | refine block_exit ?_
      | refine block_far rfl ?_
      | refine block_ret ?_
      | refine then_ret ?_
      | refine then_exit ?_
      | refine for_ret ?_
      | refine for_exit ?_
      | refine ct ?_
      | refine cf ?_
      | refine swp_cond rfl (fun hc => ?_) (fun hc => ?_)
      | refine retq (by first | exact .inr rfl | exact .inl rfl) rfl (.tmp rfl (by first | exact .t _ | exact .own rfl (by first | rfl | assumption | (simp; done) | (simp; omega)) | exact .nil _ | exact .emp _ | exact .fn _) .nil) ?_)
    rfl
def EFSource (f : FuncId) (l : List Pl.Source) (k : Nat) : St := ⟨[(1, .t (.sl 3 (l.map sourceT))), (2, .t (.clo f [])), (15, .t (.sl 3 (l.map sourceT))), (16, .t (.v (.int .i64 (l.length : Int)))), (17, .t (.v (.int .i64 (k : Int))))], [], []⟩
set_option maxRecDepth 100000 in
set_option maxHeartbeats 1000000 in
theorem equalFSource (f : FuncId) (l : List Pl.Source) (hK : ∀ x ∈ l, PCalls Tryz.prog f ([.agg (sourceT x), .agg (sourceT x)] ++ []) (.v (.bool true))) (hn : l.length ≤ 1000) : PCalls Tryz.prog 83 [.sl 3 (l.map sourceT), .sl 3 (l.map sourceT), .clo f []] (.v (.bool true)) := by
  have hm1 : (l.map sourceT).length = l.length := List.length_map _
  have h0 := len_ne (l := l.map sourceT)
  refine pcalls_of Tryz.func83 rfl rfl Tryz.ntmps83 rfl ?_
  repeat' (first
    | refine then_go ?_
    | refine swp_seq ?_
    | ((refine swp_region (id := 0) ?_) <;> (refine sops_pure (.free rfl rfl) rfl rfl (po_assign rfl rfl) ?_) <;> (refine sops_nil ?_))
    | ((refine swp_region (id := 1) ?_) <;> (refine sops_pure (.free rfl rfl) rfl rfl (po_move rfl rfl) ?_) <;> (refine sops_pure (.free rfl rfl) rfl rfl (pln rfl (tyS rfl)) ?_) <;> (refine sops_pure (.free rfl rfl) rfl rfl (po_move rfl rfl) ?_) <;> (refine sops_pure (.free rfl rfl) rfl rfl (pln rfl (tyS rfl)) ?_) <;> (refine sops_pure (.free rfl rfl) rfl rfl (po_cmp rfl rfl rfl rfl) ?_) <;> (refine sops_nil ?_))
    | ((refine swp_region (id := 3) ?_) <;> (refine sops_pure (.free rfl rfl) rfl rfl (po_move rfl rfl) ?_) <;> (refine sops_pure (.free rfl rfl) rfl rfl (pln rfl (tyS rfl)) ?_) <;> (refine sops_pure (.free rfl rfl) rfl rfl (po_move rfl rfl) ?_) <;> (refine sops_nil ?_))
    | refine swp_ret ?_
    | refine swp_skip ?_
    | refine swp_block ?_
    | refine swp_exit ?_
    | refine block_go ?_
    | refine block_exit ?_
    | refine block_far rfl ?_
    | refine block_ret ?_
    | refine then_ret ?_
    | refine then_exit ?_
    | refine for_ret ?_
    | refine for_exit ?_
    | refine ct ?_
    | refine cf ?_
    | refine swp_cond rfl (fun hc => ?_) (fun hc => ?_)
    | refine retq (by first | exact .inr rfl | exact .inl rfl) rfl (.tmp rfl (by first | exact .t _ | exact .own rfl (by first | rfl | assumption | (simp; done) | (simp; omega)) | exact .nil _ | exact .emp _ | exact .fn _) .nil) ?_)
  refine swp_for (EFSource f l) (fun k => True) l.length ?_ trivial ?_
  · exact (weak_sub (.cons rfl (by first | rfl | (exact congrArg (fun n : Nat => A.t (.v (.int .i64 (n : Int)))) hm1)) rfl (.cons rfl (by first | rfl | (exact congrArg (fun n : Nat => A.t (.v (.int .i64 (n : Int)))) hm1)) rfl (.cons rfl (by first | rfl | (exact congrArg (fun n : Nat => A.t (.v (.int .i64 (n : Int)))) hm1)) rfl (.cons rfl (by first | rfl | (exact congrArg (fun n : Nat => A.t (.v (.int .i64 (n : Int)))) hm1)) rfl (.cons rfl (by first | rfl | (exact congrArg (fun n : Nat => A.t (.v (.int .i64 (n : Int)))) hm1)) rfl .nil))))) .nil .nil)
  intro k hk _
  unfold EFSource
  by_cases hlt : k < l.length
  · have c1 := hK _ (List.getElem_mem hlt)
    repeat' (first
      | refine then_go ?_
      | refine swp_seq ?_
      | refine for_next hlt (weak_sub (.cons rfl rfl rfl (.cons rfl rfl rfl (.cons rfl rfl rfl (.cons rfl rfl rfl (.cons rfl rfl rfl .nil))))) .nil .nil) trivial
      | ((refine swp_region (id := 4) ?_) <;> (refine sops_pure (.free rfl rfl) rfl rfl (po_cmp rfl rfl rfl rfl) ?_) <;> (refine sops_nil ?_))
      | ((refine swp_region (id := 5) ?_) <;> (refine sops_pure (.free rfl rfl) rfl rfl (po_move rfl rfl) ?_) <;> (refine sops_pure (.free rfl rfl) rfl rfl (pix rfl (tyS rfl)) ?_) <;> (first | refine sops_pure (.free rfl rfl) rfl rfl (po_load_bx_agg rfl rfl (tyT rfl) rfl (vc (vc (vc .nil))) rfl) ?_ | refine sops_pure (.free rfl rfl) rfl rfl (po_load_agg rfl rfl (tyT rfl) rfl rfl) ?_) <;> (refine sops_allocS str78 (.free rfl rfl) rfl rfl rfl rfl ?_) <;> (refine sops_pure (.free rfl rfl) rfl rfl (po_assign rfl rfl) ?_) <;> (refine sops_store (.free rfl rfl) rfl rfl rfl rfl rfl rfl (tyT rfl) rfl rfl ?_) <;> (refine sops_nil ?_))
      | ((refine swp_region (id := 6) ?_) <;> (refine sops_pure (.free rfl rfl) rfl rfl (po_move rfl rfl) ?_) <;> (refine sops_pure (.free rfl rfl) rfl rfl (po_move rfl rfl) ?_) <;> (refine sops_pure (.free rfl rfl) rfl rfl (pix rfl (tyS rfl)) ?_) <;> (first | refine sops_pure (.free rfl rfl) rfl rfl (po_load_bx_agg rfl rfl (tyT rfl) rfl (vc (vc (vc .nil))) rfl) ?_ | refine sops_pure (.free rfl rfl) rfl rfl (po_load_agg rfl rfl (tyT rfl) rfl rfl) ?_) <;> (refine sops_allocS str78 (.free rfl rfl) rfl rfl rfl rfl ?_) <;> (refine sops_store (.free rfl rfl) rfl rfl rfl rfl rfl rfl (tyT rfl) rfl rfl ?_) <;> (refine sops_nil ?_))
      | ((refine swp_region (id := 7) ?_) <;> (refine sops_pure (.free rfl rfl) rfl rfl (po_move rfl rfl) ?_) <;> (first | refine sops_pure (.free rfl rfl) rfl rfl (po_load_bx_agg rfl rfl (tyT rfl) rfl (vc (vc (vc .nil))) rfl) ?_ | refine sops_pure (.free rfl rfl) rfl rfl (po_load_agg rfl rfl (tyT rfl) rfl rfl) ?_) <;> (first | refine sops_pure (.free rfl rfl) rfl rfl (po_load_bx_agg rfl rfl (tyT rfl) rfl (vc (vc (vc .nil))) rfl) ?_ | refine sops_pure (.free rfl rfl) rfl rfl (po_load_agg rfl rfl (tyT rfl) rfl rfl) ?_) <;> (refine sops_pure (.free rfl rfl) rfl rfl (po_call_clo rfl rfl (ac (ac .nil)) (c1)) ?_) <;> (refine sops_pure (.free rfl rfl) rfl rfl (po_not rfl rfl) ?_) <;> (refine sops_nil ?_))
      | ((refine swp_region (id := 9) ?_) <;> (first | refine sops_pure (.free rfl rfl) rfl rfl (po_inc rfl rfl rfl (by omega)) ?_ | refine sops_pure (.free rfl rfl) rfl rfl (po_arith rfl rfl rfl (ar_add (by first | rfl | (refine wrap_i64 ?_; omega)) rfl)) ?_) <;> (refine sops_pure (.free rfl rfl) rfl rfl (po_move rfl rfl) ?_) <;> (refine sops_nil ?_))
      | refine swp_ret ?_
      | refine swp_skip ?_
      | refine swp_block ?_
      | refine swp_exit ?_
      | refine block_go ?_
      | refine block_exit ?_
      | refine block_far rfl ?_
      | refine block_ret ?_
      | refine then_ret ?_
      | refine then_exit ?_
      | refine for_ret ?_
      | refine for_exit ?_
      | refine ct ?_
      | refine cf ?_
      | refine swp_cond rfl (fun hc => ?_) (fun hc => ?_)
      | refine retq (by first | exact .inr rfl | exact .inl rfl) rfl (.tmp rfl (by first | exact .t _ | exact .own rfl (by first | rfl | assumption | (simp; done) | (simp; omega)) | exact .nil _ | exact .emp _ | exact .fn _) .nil) ?_)
  · repeat' (first
      | refine then_go ?_
      | refine swp_seq ?_
      | ((refine swp_region (id := 4) ?_) <;> (refine sops_pure (.free rfl rfl) rfl rfl (po_cmp rfl rfl rfl rfl) ?_) <;> (refine sops_nil ?_))
      | ((refine swp_region (id := 10) ?_) <;> (refine sops_pure (.free rfl rfl) rfl rfl (po_assign rfl rfl) ?_) <;> (refine sops_nil ?_))
      | refine swp_ret ?_
      | refine swp_skip ?_
      | refine swp_block ?_
      | refine swp_exit ?_
      | refine block_go ?_
      | refine block_exit ?_
      | refine block_far rfl ?_
      | refine block_ret ?_
      | refine then_ret ?_
      | refine then_exit ?_
      | refine for_ret ?_
      | refine for_exit ?_
      | refine ct ?_
      | refine cf ?_
      | refine swp_cond rfl (fun hc => ?_) (fun hc => ?_)
      | refine retq (by first | exact .inr rfl | exact .inl rfl) rfl (.tmp rfl (by first | exact .t _ | exact .own rfl (by first | rfl | assumption | (simp; done) | (simp; omega)) | exact .nil _ | exact .emp _ | exact .fn _) .nil) ?_)
    rfl
def EFTarget (f : FuncId) (l : List Pl.Target) (k : Nat) : St := ⟨[(1, .t (.sl 4 (l.map targetT))), (2, .t (.clo f [])), (15, .t (.sl 4 (l.map targetT))), (16, .t (.v (.int .i64 (l.length : Int)))), (17, .t (.v (.int .i64 (k : Int))))], [], []⟩
set_option maxRecDepth 100000 in
set_option maxHeartbeats 1000000 in
theorem equalFTarget (f : FuncId) (l : List Pl.Target) (hK : ∀ x ∈ l, PCalls Tryz.prog f ([.agg (targetT x), .agg (targetT x)] ++ []) (.v (.bool true))) (hn : l.length ≤ 1000) : PCalls Tryz.prog 85 [.sl 4 (l.map targetT), .sl 4 (l.map targetT), .clo f []] (.v (.bool true)) := by
  have hm1 : (l.map targetT).length = l.length := List.length_map _
  have h0 := len_ne (l := l.map targetT)
  refine pcalls_of Tryz.func85 rfl rfl Tryz.ntmps85 rfl ?_
  repeat' (first
    | refine then_go ?_
    | refine swp_seq ?_
    | ((refine swp_region (id := 0) ?_) <;> (refine sops_pure (.free rfl rfl) rfl rfl (po_assign rfl rfl) ?_) <;> (refine sops_nil ?_))
    | ((refine swp_region (id := 1) ?_) <;> (refine sops_pure (.free rfl rfl) rfl rfl (po_move rfl rfl) ?_) <;> (refine sops_pure (.free rfl rfl) rfl rfl (pln rfl (tyS rfl)) ?_) <;> (refine sops_pure (.free rfl rfl) rfl rfl (po_move rfl rfl) ?_) <;> (refine sops_pure (.free rfl rfl) rfl rfl (pln rfl (tyS rfl)) ?_) <;> (refine sops_pure (.free rfl rfl) rfl rfl (po_cmp rfl rfl rfl rfl) ?_) <;> (refine sops_nil ?_))
    | ((refine swp_region (id := 3) ?_) <;> (refine sops_pure (.free rfl rfl) rfl rfl (po_move rfl rfl) ?_) <;> (refine sops_pure (.free rfl rfl) rfl rfl (pln rfl (tyS rfl)) ?_) <;> (refine sops_pure (.free rfl rfl) rfl rfl (po_move rfl rfl) ?_) <;> (refine sops_nil ?_))
    | refine swp_ret ?_
    | refine swp_skip ?_
    | refine swp_block ?_
    | refine swp_exit ?_
    | refine block_go ?_
    | refine block_exit ?_
    | refine block_far rfl ?_
    | refine block_ret ?_
    | refine then_ret ?_
    | refine then_exit ?_
    | refine for_ret ?_
    | refine for_exit ?_
    | refine ct ?_
    | refine cf ?_
    | refine swp_cond rfl (fun hc => ?_) (fun hc => ?_)
    | refine retq (by first | exact .inr rfl | exact .inl rfl) rfl (.tmp rfl (by first | exact .t _ | exact .own rfl (by first | rfl | assumption | (simp; done) | (simp; omega)) | exact .nil _ | exact .emp _ | exact .fn _) .nil) ?_)
  refine swp_for (EFTarget f l) (fun k => True) l.length ?_ trivial ?_
  · exact (weak_sub (.cons rfl (by first | rfl | (exact congrArg (fun n : Nat => A.t (.v (.int .i64 (n : Int)))) hm1)) rfl (.cons rfl (by first | rfl | (exact congrArg (fun n : Nat => A.t (.v (.int .i64 (n : Int)))) hm1)) rfl (.cons rfl (by first | rfl | (exact congrArg (fun n : Nat => A.t (.v (.int .i64 (n : Int)))) hm1)) rfl (.cons rfl (by first | rfl | (exact congrArg (fun n : Nat => A.t (.v (.int .i64 (n : Int)))) hm1)) rfl (.cons rfl (by first | rfl | (exact congrArg (fun n : Nat => A.t (.v (.int .i64 (n : Int)))) hm1)) rfl .nil))))) .nil .nil)
  intro k hk _
  unfold EFTarget
  by_cases hlt : k < l.length
  · have c1 := hK _ (List.getElem_mem hlt)
    repeat' (first
      | refine then_go ?_
      | refine swp_seq ?_
      | refine for_next hlt (weak_sub (.cons rfl rfl rfl (.cons rfl rfl rfl (.cons rfl rfl rfl (.cons rfl rfl rfl (.cons rfl rfl rfl .nil))))) .nil .nil) trivial
      | ((refine swp_region (id := 4) ?_) <;> (refine sops_pure (.free rfl rfl) rfl rfl (po_cmp rfl rfl rfl rfl) ?_) <;> (refine sops_nil ?_))
      | ((refine swp_region (id := 5) ?_) <;> (refine sops_pure (.free rfl rfl) rfl rfl (po_move rfl rfl) ?_) <;> (refine sops_pure (.free rfl rfl) rfl rfl (pix rfl (tyS rfl)) ?_) <;> (first | refine sops_pure (.free rfl rfl) rfl rfl (po_load_bx_agg rfl rfl (tyT rfl) rfl (vc (vc (vc (vc .nil)))) rfl) ?_ | refine sops_pure (.free rfl rfl) rfl rfl (po_load_agg rfl rfl (tyT rfl) rfl rfl) ?_) <;> (refine sops_allocS str80 (.free rfl rfl) rfl rfl rfl rfl ?_) <;> (refine sops_pure (.free rfl rfl) rfl rfl (po_assign rfl rfl) ?_) <;> (refine sops_store (.free rfl rfl) rfl rfl rfl rfl rfl rfl (tyT rfl) rfl rfl ?_) <;> (refine sops_nil ?_))
      | ((refine swp_region (id := 6) ?_) <;> (refine sops_pure (.free rfl rfl) rfl rfl (po_move rfl rfl) ?_) <;> (refine sops_pure (.free rfl rfl) rfl rfl (po_move rfl rfl) ?_) <;> (refine sops_pure (.free rfl rfl) rfl rfl (pix rfl (tyS rfl)) ?_) <;> (first | refine sops_pure (.free rfl rfl) rfl rfl (po_load_bx_agg rfl rfl (tyT rfl) rfl (vc (vc (vc (vc .nil)))) rfl) ?_ | refine sops_pure (.free rfl rfl) rfl rfl (po_load_agg rfl rfl (tyT rfl) rfl rfl) ?_) <;> (refine sops_allocS str80 (.free rfl rfl) rfl rfl rfl rfl ?_) <;> (refine sops_store (.free rfl rfl) rfl rfl rfl rfl rfl rfl (tyT rfl) rfl rfl ?_) <;> (refine sops_nil ?_))
      | ((refine swp_region (id := 7) ?_) <;> (refine sops_pure (.free rfl rfl) rfl rfl (po_move rfl rfl) ?_) <;> (first | refine sops_pure (.free rfl rfl) rfl rfl (po_load_bx_agg rfl rfl (tyT rfl) rfl (vc (vc (vc (vc .nil)))) rfl) ?_ | refine sops_pure (.free rfl rfl) rfl rfl (po_load_agg rfl rfl (tyT rfl) rfl rfl) ?_) <;> (first | refine sops_pure (.free rfl rfl) rfl rfl (po_load_bx_agg rfl rfl (tyT rfl) rfl (vc (vc (vc (vc .nil)))) rfl) ?_ | refine sops_pure (.free rfl rfl) rfl rfl (po_load_agg rfl rfl (tyT rfl) rfl rfl) ?_) <;> (refine sops_pure (.free rfl rfl) rfl rfl (po_call_clo rfl rfl (ac (ac .nil)) (c1)) ?_) <;> (refine sops_pure (.free rfl rfl) rfl rfl (po_not rfl rfl) ?_) <;> (refine sops_nil ?_))
      | ((refine swp_region (id := 9) ?_) <;> (first | refine sops_pure (.free rfl rfl) rfl rfl (po_inc rfl rfl rfl (by omega)) ?_ | refine sops_pure (.free rfl rfl) rfl rfl (po_arith rfl rfl rfl (ar_add (by first | rfl | (refine wrap_i64 ?_; omega)) rfl)) ?_) <;> (refine sops_pure (.free rfl rfl) rfl rfl (po_move rfl rfl) ?_) <;> (refine sops_nil ?_))
      | refine swp_ret ?_
      | refine swp_skip ?_
      | refine swp_block ?_
      | refine swp_exit ?_
      | refine block_go ?_
      | refine block_exit ?_
      | refine block_far rfl ?_
      | refine block_ret ?_
      | refine then_ret ?_
      | refine then_exit ?_
      | refine for_ret ?_
      | refine for_exit ?_
      | refine ct ?_
      | refine cf ?_
      | refine swp_cond rfl (fun hc => ?_) (fun hc => ?_)
      | refine retq (by first | exact .inr rfl | exact .inl rfl) rfl (.tmp rfl (by first | exact .t _ | exact .own rfl (by first | rfl | assumption | (simp; done) | (simp; omega)) | exact .nil _ | exact .emp _ | exact .fn _) .nil) ?_)
  · repeat' (first
      | refine then_go ?_
      | refine swp_seq ?_
      | ((refine swp_region (id := 4) ?_) <;> (refine sops_pure (.free rfl rfl) rfl rfl (po_cmp rfl rfl rfl rfl) ?_) <;> (refine sops_nil ?_))
      | ((refine swp_region (id := 10) ?_) <;> (refine sops_pure (.free rfl rfl) rfl rfl (po_assign rfl rfl) ?_) <;> (refine sops_nil ?_))
      | refine swp_ret ?_
      | refine swp_skip ?_
      | refine swp_block ?_
      | refine swp_exit ?_
      | refine block_go ?_
      | refine block_exit ?_
      | refine block_far rfl ?_
      | refine block_ret ?_
      | refine then_ret ?_
      | refine then_exit ?_
      | refine for_ret ?_
      | refine for_exit ?_
      | refine ct ?_
      | refine cf ?_
      | refine swp_cond rfl (fun hc => ?_) (fun hc => ?_)
      | refine retq (by first | exact .inr rfl | exact .inl rfl) rfl (.tmp rfl (by first | exact .t _ | exact .own rfl (by first | rfl | assumption | (simp; done) | (simp; omega)) | exact .nil _ | exact .emp _ | exact .fn _) .nil) ?_)
    rfl
def EFWhen (f : FuncId) (l : List Pl.When) (k : Nat) : St := ⟨[(1, .t (.sl 2 (l.map whenT))), (2, .t (.clo f [])), (15, .t (.sl 2 (l.map whenT))), (16, .t (.v (.int .i64 (l.length : Int)))), (17, .t (.v (.int .i64 (k : Int))))], [], []⟩
set_option maxRecDepth 100000 in
set_option maxHeartbeats 1000000 in
theorem equalFWhen (f : FuncId) (l : List Pl.When) (hK : ∀ x ∈ l, PCalls Tryz.prog f ([.agg (whenT x), .agg (whenT x)] ++ []) (.v (.bool true))) (hn : l.length ≤ 1000) : PCalls Tryz.prog 87 [.sl 2 (l.map whenT), .sl 2 (l.map whenT), .clo f []] (.v (.bool true)) := by
  have hm1 : (l.map whenT).length = l.length := List.length_map _
  have h0 := len_ne (l := l.map whenT)
  refine pcalls_of Tryz.func87 rfl rfl Tryz.ntmps87 rfl ?_
  repeat' (first
    | refine then_go ?_
    | refine swp_seq ?_
    | ((refine swp_region (id := 0) ?_) <;> (refine sops_pure (.free rfl rfl) rfl rfl (po_assign rfl rfl) ?_) <;> (refine sops_nil ?_))
    | ((refine swp_region (id := 1) ?_) <;> (refine sops_pure (.free rfl rfl) rfl rfl (po_move rfl rfl) ?_) <;> (refine sops_pure (.free rfl rfl) rfl rfl (pln rfl (tyS rfl)) ?_) <;> (refine sops_pure (.free rfl rfl) rfl rfl (po_move rfl rfl) ?_) <;> (refine sops_pure (.free rfl rfl) rfl rfl (pln rfl (tyS rfl)) ?_) <;> (refine sops_pure (.free rfl rfl) rfl rfl (po_cmp rfl rfl rfl rfl) ?_) <;> (refine sops_nil ?_))
    | ((refine swp_region (id := 3) ?_) <;> (refine sops_pure (.free rfl rfl) rfl rfl (po_move rfl rfl) ?_) <;> (refine sops_pure (.free rfl rfl) rfl rfl (pln rfl (tyS rfl)) ?_) <;> (refine sops_pure (.free rfl rfl) rfl rfl (po_move rfl rfl) ?_) <;> (refine sops_nil ?_))
    | refine swp_ret ?_
    | refine swp_skip ?_
    | refine swp_block ?_
    | refine swp_exit ?_
    | refine block_go ?_
    | refine block_exit ?_
    | refine block_far rfl ?_
    | refine block_ret ?_
    | refine then_ret ?_
    | refine then_exit ?_
    | refine for_ret ?_
    | refine for_exit ?_
    | refine ct ?_
    | refine cf ?_
    | refine swp_cond rfl (fun hc => ?_) (fun hc => ?_)
    | refine retq (by first | exact .inr rfl | exact .inl rfl) rfl (.tmp rfl (by first | exact .t _ | exact .own rfl (by first | rfl | assumption | (simp; done) | (simp; omega)) | exact .nil _ | exact .emp _ | exact .fn _) .nil) ?_)
  refine swp_for (EFWhen f l) (fun k => True) l.length ?_ trivial ?_
  · exact (weak_sub (.cons rfl (by first | rfl | (exact congrArg (fun n : Nat => A.t (.v (.int .i64 (n : Int)))) hm1)) rfl (.cons rfl (by first | rfl | (exact congrArg (fun n : Nat => A.t (.v (.int .i64 (n : Int)))) hm1)) rfl (.cons rfl (by first | rfl | (exact congrArg (fun n : Nat => A.t (.v (.int .i64 (n : Int)))) hm1)) rfl (.cons rfl (by first | rfl | (exact congrArg (fun n : Nat => A.t (.v (.int .i64 (n : Int)))) hm1)) rfl (.cons rfl (by first | rfl | (exact congrArg (fun n : Nat => A.t (.v (.int .i64 (n : Int)))) hm1)) rfl .nil))))) .nil .nil)
  intro k hk _
  unfold EFWhen
  by_cases hlt : k < l.length
  · have c1 := hK _ (List.getElem_mem hlt)
    repeat' (first
      | refine then_go ?_
      | refine swp_seq ?_
      | refine for_next hlt (weak_sub (.cons rfl rfl rfl (.cons rfl rfl rfl (.cons rfl rfl rfl (.cons rfl rfl rfl (.cons rfl rfl rfl .nil))))) .nil .nil) trivial
      | ((refine swp_region (id := 4) ?_) <;> (refine sops_pure (.free rfl rfl) rfl rfl (po_cmp rfl rfl rfl rfl) ?_) <;> (refine sops_nil ?_))
      | ((refine swp_region (id := 5) ?_) <;> (refine sops_pure (.free rfl rfl) rfl rfl (po_move rfl rfl) ?_) <;> (refine sops_pure (.free rfl rfl) rfl rfl (pix rfl (tyS rfl)) ?_) <;> (first | refine sops_pure (.free rfl rfl) rfl rfl (po_load_bx_agg rfl rfl (tyT rfl) rfl (vc (vc .nil)) rfl) ?_ | refine sops_pure (.free rfl rfl) rfl rfl (po_load_agg rfl rfl (tyT rfl) rfl rfl) ?_) <;> (refine sops_allocS str82 (.free rfl rfl) rfl rfl rfl rfl ?_) <;> (refine sops_pure (.free rfl rfl) rfl rfl (po_assign rfl rfl) ?_) <;> (refine sops_store (.free rfl rfl) rfl rfl rfl rfl rfl rfl (tyT rfl) rfl rfl ?_) <;> (refine sops_nil ?_))
      | ((refine swp_region (id := 6) ?_) <;> (refine sops_pure (.free rfl rfl) rfl rfl (po_move rfl rfl) ?_) <;> (refine sops_pure (.free rfl rfl) rfl rfl (po_move rfl rfl) ?_) <;> (refine sops_pure (.free rfl rfl) rfl rfl (pix rfl (tyS rfl)) ?_) <;> (first | refine sops_pure (.free rfl rfl) rfl rfl (po_load_bx_agg rfl rfl (tyT rfl) rfl (vc (vc .nil)) rfl) ?_ | refine sops_pure (.free rfl rfl) rfl rfl (po_load_agg rfl rfl (tyT rfl) rfl rfl) ?_) <;> (refine sops_allocS str82 (.free rfl rfl) rfl rfl rfl rfl ?_) <;> (refine sops_store (.free rfl rfl) rfl rfl rfl rfl rfl rfl (tyT rfl) rfl rfl ?_) <;> (refine sops_nil ?_))
      | ((refine swp_region (id := 7) ?_) <;> (refine sops_pure (.free rfl rfl) rfl rfl (po_move rfl rfl) ?_) <;> (first | refine sops_pure (.free rfl rfl) rfl rfl (po_load_bx_agg rfl rfl (tyT rfl) rfl (vc (vc .nil)) rfl) ?_ | refine sops_pure (.free rfl rfl) rfl rfl (po_load_agg rfl rfl (tyT rfl) rfl rfl) ?_) <;> (first | refine sops_pure (.free rfl rfl) rfl rfl (po_load_bx_agg rfl rfl (tyT rfl) rfl (vc (vc .nil)) rfl) ?_ | refine sops_pure (.free rfl rfl) rfl rfl (po_load_agg rfl rfl (tyT rfl) rfl rfl) ?_) <;> (refine sops_pure (.free rfl rfl) rfl rfl (po_call_clo rfl rfl (ac (ac .nil)) (c1)) ?_) <;> (refine sops_pure (.free rfl rfl) rfl rfl (po_not rfl rfl) ?_) <;> (refine sops_nil ?_))
      | ((refine swp_region (id := 9) ?_) <;> (first | refine sops_pure (.free rfl rfl) rfl rfl (po_inc rfl rfl rfl (by omega)) ?_ | refine sops_pure (.free rfl rfl) rfl rfl (po_arith rfl rfl rfl (ar_add (by first | rfl | (refine wrap_i64 ?_; omega)) rfl)) ?_) <;> (refine sops_pure (.free rfl rfl) rfl rfl (po_move rfl rfl) ?_) <;> (refine sops_nil ?_))
      | refine swp_ret ?_
      | refine swp_skip ?_
      | refine swp_block ?_
      | refine swp_exit ?_
      | refine block_go ?_
      | refine block_exit ?_
      | refine block_far rfl ?_
      | refine block_ret ?_
      | refine then_ret ?_
      | refine then_exit ?_
      | refine for_ret ?_
      | refine for_exit ?_
      | refine ct ?_
      | refine cf ?_
      | refine swp_cond rfl (fun hc => ?_) (fun hc => ?_)
      | refine retq (by first | exact .inr rfl | exact .inl rfl) rfl (.tmp rfl (by first | exact .t _ | exact .own rfl (by first | rfl | assumption | (simp; done) | (simp; omega)) | exact .nil _ | exact .emp _ | exact .fn _) .nil) ?_)
  · repeat' (first
      | refine then_go ?_
      | refine swp_seq ?_
      | ((refine swp_region (id := 4) ?_) <;> (refine sops_pure (.free rfl rfl) rfl rfl (po_cmp rfl rfl rfl rfl) ?_) <;> (refine sops_nil ?_))
      | ((refine swp_region (id := 10) ?_) <;> (refine sops_pure (.free rfl rfl) rfl rfl (po_assign rfl rfl) ?_) <;> (refine sops_nil ?_))
      | refine swp_ret ?_
      | refine swp_skip ?_
      | refine swp_block ?_
      | refine swp_exit ?_
      | refine block_go ?_
      | refine block_exit ?_
      | refine block_far rfl ?_
      | refine block_ret ?_
      | refine then_ret ?_
      | refine then_exit ?_
      | refine for_ret ?_
      | refine for_exit ?_
      | refine ct ?_
      | refine cf ?_
      | refine swp_cond rfl (fun hc => ?_) (fun hc => ?_)
      | refine retq (by first | exact .inr rfl | exact .inl rfl) rfl (.tmp rfl (by first | exact .t _ | exact .own rfl (by first | rfl | assumption | (simp; done) | (simp; omega)) | exact .nil _ | exact .emp _ | exact .fn _) .nil) ?_)
    rfl
def EFRule (f : FuncId) (l : List Pl.Rule) (k : Nat) : St := ⟨[(1, .t (.sl 3 (l.map ruleT))), (2, .t (.clo f [])), (15, .t (.sl 3 (l.map ruleT))), (16, .t (.v (.int .i64 (l.length : Int)))), (17, .t (.v (.int .i64 (k : Int))))], [], []⟩
set_option maxRecDepth 100000 in
set_option maxHeartbeats 1000000 in
theorem equalFRule (f : FuncId) (l : List Pl.Rule) (hK : ∀ x ∈ l, PCalls Tryz.prog f ([.agg (ruleT x), .agg (ruleT x)] ++ []) (.v (.bool true))) (hn : l.length ≤ 1000) : PCalls Tryz.prog 62 [.sl 3 (l.map ruleT), .sl 3 (l.map ruleT), .clo f []] (.v (.bool true)) := by
  have hm1 : (l.map ruleT).length = l.length := List.length_map _
  have h0 := len_ne (l := l.map ruleT)
  refine pcalls_of Tryz.func62 rfl rfl Tryz.ntmps62 rfl ?_
  repeat' (first
    | refine then_go ?_
    | refine swp_seq ?_
    | ((refine swp_region (id := 0) ?_) <;> (refine sops_pure (.free rfl rfl) rfl rfl (po_assign rfl rfl) ?_) <;> (refine sops_nil ?_))
    | ((refine swp_region (id := 1) ?_) <;> (refine sops_pure (.free rfl rfl) rfl rfl (po_move rfl rfl) ?_) <;> (refine sops_pure (.free rfl rfl) rfl rfl (pln rfl (tyS rfl)) ?_) <;> (refine sops_pure (.free rfl rfl) rfl rfl (po_move rfl rfl) ?_) <;> (refine sops_pure (.free rfl rfl) rfl rfl (pln rfl (tyS rfl)) ?_) <;> (refine sops_pure (.free rfl rfl) rfl rfl (po_cmp rfl rfl rfl rfl) ?_) <;> (refine sops_nil ?_))
    | ((refine swp_region (id := 3) ?_) <;> (refine sops_pure (.free rfl rfl) rfl rfl (po_move rfl rfl) ?_) <;> (refine sops_pure (.free rfl rfl) rfl rfl (pln rfl (tyS rfl)) ?_) <;> (refine sops_pure (.free rfl rfl) rfl rfl (po_move rfl rfl) ?_) <;> (refine sops_nil ?_))
    | refine swp_ret ?_
    | refine swp_skip ?_
    | refine swp_block ?_
    | refine swp_exit ?_
    | refine block_go ?_
    | refine block_exit ?_
    | refine block_far rfl ?_
    | refine block_ret ?_
    | refine then_ret ?_
    | refine then_exit ?_
    | refine for_ret ?_
    | refine for_exit ?_
    | refine ct ?_
    | refine cf ?_
    | refine swp_cond rfl (fun hc => ?_) (fun hc => ?_)
    | refine retq (by first | exact .inr rfl | exact .inl rfl) rfl (.tmp rfl (by first | exact .t _ | exact .own rfl (by first | rfl | assumption | (simp; done) | (simp; omega)) | exact .nil _ | exact .emp _ | exact .fn _) .nil) ?_)
  refine swp_for (EFRule f l) (fun k => True) l.length ?_ trivial ?_
  · exact (weak_sub (.cons rfl (by first | rfl | (exact congrArg (fun n : Nat => A.t (.v (.int .i64 (n : Int)))) hm1)) rfl (.cons rfl (by first | rfl | (exact congrArg (fun n : Nat => A.t (.v (.int .i64 (n : Int)))) hm1)) rfl (.cons rfl (by first | rfl | (exact congrArg (fun n : Nat => A.t (.v (.int .i64 (n : Int)))) hm1)) rfl (.cons rfl (by first | rfl | (exact congrArg (fun n : Nat => A.t (.v (.int .i64 (n : Int)))) hm1)) rfl (.cons rfl (by first | rfl | (exact congrArg (fun n : Nat => A.t (.v (.int .i64 (n : Int)))) hm1)) rfl .nil))))) .nil .nil)
  intro k hk _
  unfold EFRule
  by_cases hlt : k < l.length
  · have c1 := hK _ (List.getElem_mem hlt)
    repeat' (first
      | refine then_go ?_
      | refine swp_seq ?_
      | refine for_next hlt (weak_sub (.cons rfl rfl rfl (.cons rfl rfl rfl (.cons rfl rfl rfl (.cons rfl rfl rfl (.cons rfl rfl rfl .nil))))) .nil .nil) trivial
      | ((refine swp_region (id := 4) ?_) <;> (refine sops_pure (.free rfl rfl) rfl rfl (po_cmp rfl rfl rfl rfl) ?_) <;> (refine sops_nil ?_))
      | ((refine swp_region (id := 5) ?_) <;> (refine sops_pure (.free rfl rfl) rfl rfl (po_move rfl rfl) ?_) <;> (refine sops_pure (.free rfl rfl) rfl rfl (pix rfl (tyS rfl)) ?_) <;> (first | refine sops_pure (.free rfl rfl) rfl rfl (po_load_bx_agg rfl rfl (tyT rfl) rfl (vc (vc (vc .nil))) rfl) ?_ | refine sops_pure (.free rfl rfl) rfl rfl (po_load_agg rfl rfl (tyT rfl) rfl rfl) ?_) <;> (refine sops_allocS str46 (.free rfl rfl) rfl rfl rfl rfl ?_) <;> (refine sops_pure (.free rfl rfl) rfl rfl (po_assign rfl rfl) ?_) <;> (refine sops_store (.free rfl rfl) rfl rfl rfl rfl rfl rfl (tyT rfl) rfl rfl ?_) <;> (refine sops_nil ?_))
      | ((refine swp_region (id := 6) ?_) <;> (refine sops_pure (.free rfl rfl) rfl rfl (po_move rfl rfl) ?_) <;> (refine sops_pure (.free rfl rfl) rfl rfl (po_move rfl rfl) ?_) <;> (refine sops_pure (.free rfl rfl) rfl rfl (pix rfl (tyS rfl)) ?_) <;> (first | refine sops_pure (.free rfl rfl) rfl rfl (po_load_bx_agg rfl rfl (tyT rfl) rfl (vc (vc (vc .nil))) rfl) ?_ | refine sops_pure (.free rfl rfl) rfl rfl (po_load_agg rfl rfl (tyT rfl) rfl rfl) ?_) <;> (refine sops_allocS str46 (.free rfl rfl) rfl rfl rfl rfl ?_) <;> (refine sops_store (.free rfl rfl) rfl rfl rfl rfl rfl rfl (tyT rfl) rfl rfl ?_) <;> (refine sops_nil ?_))
      | ((refine swp_region (id := 7) ?_) <;> (refine sops_pure (.free rfl rfl) rfl rfl (po_move rfl rfl) ?_) <;> (first | refine sops_pure (.free rfl rfl) rfl rfl (po_load_bx_agg rfl rfl (tyT rfl) rfl (vc (vc (vc .nil))) rfl) ?_ | refine sops_pure (.free rfl rfl) rfl rfl (po_load_agg rfl rfl (tyT rfl) rfl rfl) ?_) <;> (first | refine sops_pure (.free rfl rfl) rfl rfl (po_load_bx_agg rfl rfl (tyT rfl) rfl (vc (vc (vc .nil))) rfl) ?_ | refine sops_pure (.free rfl rfl) rfl rfl (po_load_agg rfl rfl (tyT rfl) rfl rfl) ?_) <;> (refine sops_pure (.free rfl rfl) rfl rfl (po_call_clo rfl rfl (ac (ac .nil)) (c1)) ?_) <;> (refine sops_pure (.free rfl rfl) rfl rfl (po_not rfl rfl) ?_) <;> (refine sops_nil ?_))
      | ((refine swp_region (id := 9) ?_) <;> (first | refine sops_pure (.free rfl rfl) rfl rfl (po_inc rfl rfl rfl (by omega)) ?_ | refine sops_pure (.free rfl rfl) rfl rfl (po_arith rfl rfl rfl (ar_add (by first | rfl | (refine wrap_i64 ?_; omega)) rfl)) ?_) <;> (refine sops_pure (.free rfl rfl) rfl rfl (po_move rfl rfl) ?_) <;> (refine sops_nil ?_))
      | refine swp_ret ?_
      | refine swp_skip ?_
      | refine swp_block ?_
      | refine swp_exit ?_
      | refine block_go ?_
      | refine block_exit ?_
      | refine block_far rfl ?_
      | refine block_ret ?_
      | refine then_ret ?_
      | refine then_exit ?_
      | refine for_ret ?_
      | refine for_exit ?_
      | refine ct ?_
      | refine cf ?_
      | refine swp_cond rfl (fun hc => ?_) (fun hc => ?_)
      | refine retq (by first | exact .inr rfl | exact .inl rfl) rfl (.tmp rfl (by first | exact .t _ | exact .own rfl (by first | rfl | assumption | (simp; done) | (simp; omega)) | exact .nil _ | exact .emp _ | exact .fn _) .nil) ?_)
  · repeat' (first
      | refine then_go ?_
      | refine swp_seq ?_
      | ((refine swp_region (id := 4) ?_) <;> (refine sops_pure (.free rfl rfl) rfl rfl (po_cmp rfl rfl rfl rfl) ?_) <;> (refine sops_nil ?_))
      | ((refine swp_region (id := 10) ?_) <;> (refine sops_pure (.free rfl rfl) rfl rfl (po_assign rfl rfl) ?_) <;> (refine sops_nil ?_))
      | refine swp_ret ?_
      | refine swp_skip ?_
      | refine swp_block ?_
      | refine swp_exit ?_
      | refine block_go ?_
      | refine block_exit ?_
      | refine block_far rfl ?_
      | refine block_ret ?_
      | refine then_ret ?_
      | refine then_exit ?_
      | refine for_ret ?_
      | refine for_exit ?_
      | refine ct ?_
      | refine cf ?_
      | refine swp_cond rfl (fun hc => ?_) (fun hc => ?_)
      | refine retq (by first | exact .inr rfl | exact .inl rfl) rfl (.tmp rfl (by first | exact .t _ | exact .own rfl (by first | rfl | assumption | (simp; done) | (simp; omega)) | exact .nil _ | exact .emp _ | exact .fn _) .nil) ?_)
    rfl
def EFPolicy (f : FuncId) (l : List Pl.Policy) (k : Nat) : St := ⟨[(1, .t (.sl 5 (l.map polT))), (2, .t (.clo f [])), (15, .t (.sl 5 (l.map polT))), (16, .t (.v (.int .i64 (l.length : Int)))), (17, .t (.v (.int .i64 (k : Int))))], [], []⟩
set_option maxRecDepth 100000 in
set_option maxHeartbeats 1000000 in
theorem equalFPolicy (f : FuncId) (l : List Pl.Policy) (hK : ∀ x ∈ l, PCalls Tryz.prog f ([.agg (polT x), .agg (polT x)] ++ []) (.v (.bool true))) (hn : l.length ≤ 1000) : PCalls Tryz.prog 47 [.sl 5 (l.map polT), .sl 5 (l.map polT), .clo f []] (.v (.bool true)) := by
  have hm1 : (l.map polT).length = l.length := List.length_map _
  have h0 := len_ne (l := l.map polT)
  refine pcalls_of Tryz.func47 rfl rfl Tryz.ntmps47 rfl ?_
  repeat' (first
    | refine then_go ?_
    | refine swp_seq ?_
    | ((refine swp_region (id := 0) ?_) <;> (refine sops_pure (.free rfl rfl) rfl rfl (po_assign rfl rfl) ?_) <;> (refine sops_nil ?_))
    | ((refine swp_region (id := 1) ?_) <;> (refine sops_pure (.free rfl rfl) rfl rfl (po_move rfl rfl) ?_) <;> (refine sops_pure (.free rfl rfl) rfl rfl (pln rfl (tyS rfl)) ?_) <;> (refine sops_pure (.free rfl rfl) rfl rfl (po_move rfl rfl) ?_) <;> (refine sops_pure (.free rfl rfl) rfl rfl (pln rfl (tyS rfl)) ?_) <;> (refine sops_pure (.free rfl rfl) rfl rfl (po_cmp rfl rfl rfl rfl) ?_) <;> (refine sops_nil ?_))
    | ((refine swp_region (id := 3) ?_) <;> (refine sops_pure (.free rfl rfl) rfl rfl (po_move rfl rfl) ?_) <;> (refine sops_pure (.free rfl rfl) rfl rfl (pln rfl (tyS rfl)) ?_) <;> (refine sops_pure (.free rfl rfl) rfl rfl (po_move rfl rfl) ?_) <;> (refine sops_nil ?_))
    | refine swp_ret ?_
    | refine swp_skip ?_
    | refine swp_block ?_
    | refine swp_exit ?_
    | refine block_go ?_
    | refine block_exit ?_
    | refine block_far rfl ?_
    | refine block_ret ?_
    | refine then_ret ?_
    | refine then_exit ?_
    | refine for_ret ?_
    | refine for_exit ?_
    | refine ct ?_
    | refine cf ?_
    | refine swp_cond rfl (fun hc => ?_) (fun hc => ?_)
    | refine retq (by first | exact .inr rfl | exact .inl rfl) rfl (.tmp rfl (by first | exact .t _ | exact .own rfl (by first | rfl | assumption | (simp; done) | (simp; omega)) | exact .nil _ | exact .emp _ | exact .fn _) .nil) ?_)
  refine swp_for (EFPolicy f l) (fun k => True) l.length ?_ trivial ?_
  · exact (weak_sub (.cons rfl (by first | rfl | (exact congrArg (fun n : Nat => A.t (.v (.int .i64 (n : Int)))) hm1)) rfl (.cons rfl (by first | rfl | (exact congrArg (fun n : Nat => A.t (.v (.int .i64 (n : Int)))) hm1)) rfl (.cons rfl (by first | rfl | (exact congrArg (fun n : Nat => A.t (.v (.int .i64 (n : Int)))) hm1)) rfl (.cons rfl (by first | rfl | (exact congrArg (fun n : Nat => A.t (.v (.int .i64 (n : Int)))) hm1)) rfl (.cons rfl (by first | rfl | (exact congrArg (fun n : Nat => A.t (.v (.int .i64 (n : Int)))) hm1)) rfl .nil))))) .nil .nil)
  intro k hk _
  unfold EFPolicy
  by_cases hlt : k < l.length
  · have c1 := hK _ (List.getElem_mem hlt)
    repeat' (first
      | refine then_go ?_
      | refine swp_seq ?_
      | refine for_next hlt (weak_sub (.cons rfl rfl rfl (.cons rfl rfl rfl (.cons rfl rfl rfl (.cons rfl rfl rfl (.cons rfl rfl rfl .nil))))) .nil .nil) trivial
      | ((refine swp_region (id := 4) ?_) <;> (refine sops_pure (.free rfl rfl) rfl rfl (po_cmp rfl rfl rfl rfl) ?_) <;> (refine sops_nil ?_))
      | ((refine swp_region (id := 5) ?_) <;> (refine sops_pure (.free rfl rfl) rfl rfl (po_move rfl rfl) ?_) <;> (refine sops_pure (.free rfl rfl) rfl rfl (pix rfl (tyS rfl)) ?_) <;> (first | refine sops_pure (.free rfl rfl) rfl rfl (po_load_bx_agg rfl rfl (tyT rfl) rfl (vc (vc (vc (vc (vc .nil))))) rfl) ?_ | refine sops_pure (.free rfl rfl) rfl rfl (po_load_agg rfl rfl (tyT rfl) rfl rfl) ?_) <;> (refine sops_allocS str50 (.free rfl rfl) rfl rfl rfl rfl ?_) <;> (refine sops_pure (.free rfl rfl) rfl rfl (po_assign rfl rfl) ?_) <;> (refine sops_store (.free rfl rfl) rfl rfl rfl rfl rfl rfl (tyT rfl) rfl rfl ?_) <;> (refine sops_nil ?_))
      | ((refine swp_region (id := 6) ?_) <;> (refine sops_pure (.free rfl rfl) rfl rfl (po_move rfl rfl) ?_) <;> (refine sops_pure (.free rfl rfl) rfl rfl (po_move rfl rfl) ?_) <;> (refine sops_pure (.free rfl rfl) rfl rfl (pix rfl (tyS rfl)) ?_) <;> (first | refine sops_pure (.free rfl rfl) rfl rfl (po_load_bx_agg rfl rfl (tyT rfl) rfl (vc (vc (vc (vc (vc .nil))))) rfl) ?_ | refine sops_pure (.free rfl rfl) rfl rfl (po_load_agg rfl rfl (tyT rfl) rfl rfl) ?_) <;> (refine sops_allocS str50 (.free rfl rfl) rfl rfl rfl rfl ?_) <;> (refine sops_store (.free rfl rfl) rfl rfl rfl rfl rfl rfl (tyT rfl) rfl rfl ?_) <;> (refine sops_nil ?_))
      | ((refine swp_region (id := 7) ?_) <;> (refine sops_pure (.free rfl rfl) rfl rfl (po_move rfl rfl) ?_) <;> (first | refine sops_pure (.free rfl rfl) rfl rfl (po_load_bx_agg rfl rfl (tyT rfl) rfl (vc (vc (vc (vc (vc .nil))))) rfl) ?_ | refine sops_pure (.free rfl rfl) rfl rfl (po_load_agg rfl rfl (tyT rfl) rfl rfl) ?_) <;> (first | refine sops_pure (.free rfl rfl) rfl rfl (po_load_bx_agg rfl rfl (tyT rfl) rfl (vc (vc (vc (vc (vc .nil))))) rfl) ?_ | refine sops_pure (.free rfl rfl) rfl rfl (po_load_agg rfl rfl (tyT rfl) rfl rfl) ?_) <;> (refine sops_pure (.free rfl rfl) rfl rfl (po_call_clo rfl rfl (ac (ac .nil)) (c1)) ?_) <;> (refine sops_pure (.free rfl rfl) rfl rfl (po_not rfl rfl) ?_) <;> (refine sops_nil ?_))
      | ((refine swp_region (id := 9) ?_) <;> (first | refine sops_pure (.free rfl rfl) rfl rfl (po_inc rfl rfl rfl (by omega)) ?_ | refine sops_pure (.free rfl rfl) rfl rfl (po_arith rfl rfl rfl (ar_add (by first | rfl | (refine wrap_i64 ?_; omega)) rfl)) ?_) <;> (refine sops_pure (.free rfl rfl) rfl rfl (po_move rfl rfl) ?_) <;> (refine sops_nil ?_))
      | refine swp_ret ?_
      | refine swp_skip ?_
      | refine swp_block ?_
      | refine swp_exit ?_
      | refine block_go ?_
      | refine block_exit ?_
      | refine block_far rfl ?_
      | refine block_ret ?_
      | refine then_ret ?_
      | refine then_exit ?_
      | refine for_ret ?_
      | refine for_exit ?_
      | refine ct ?_
      | refine cf ?_
      | refine swp_cond rfl (fun hc => ?_) (fun hc => ?_)
      | refine retq (by first | exact .inr rfl | exact .inl rfl) rfl (.tmp rfl (by first | exact .t _ | exact .own rfl (by first | rfl | assumption | (simp; done) | (simp; omega)) | exact .nil _ | exact .emp _ | exact .fn _) .nil) ?_)
  · repeat' (first
      | refine then_go ?_
      | refine swp_seq ?_
      | ((refine swp_region (id := 4) ?_) <;> (refine sops_pure (.free rfl rfl) rfl rfl (po_cmp rfl rfl rfl rfl) ?_) <;> (refine sops_nil ?_))
      | ((refine swp_region (id := 10) ?_) <;> (refine sops_pure (.free rfl rfl) rfl rfl (po_assign rfl rfl) ?_) <;> (refine sops_nil ?_))
      | refine swp_ret ?_
      | refine swp_skip ?_
      | refine swp_block ?_
      | refine swp_exit ?_
      | refine block_go ?_
      | refine block_exit ?_
      | refine block_far rfl ?_
      | refine block_ret ?_
      | refine then_ret ?_
      | refine then_exit ?_
      | refine for_ret ?_
      | refine for_exit ?_
      | refine ct ?_
      | refine cf ?_
      | refine swp_cond rfl (fun hc => ?_) (fun hc => ?_)
      | refine retq (by first | exact .inr rfl | exact .inl rfl) rfl (.tmp rfl (by first | exact .t _ | exact .own rfl (by first | rfl | assumption | (simp; done) | (simp; omega)) | exact .nil _ | exact .emp _ | exact .fn _) .nil) ?_)
    rfl
set_option maxRecDepth 100000 in
set_option maxHeartbeats 1000000 in
theorem sameSource_ (x : Pl.Source) (h : x.names.length ≤ 1000 ∧ x.spaces.length ≤ 1000 ∧ x.nets.length ≤ 1000) : PCalls Tryz.prog 84 [.agg (sourceT x), .agg (sourceT x)] (.v (.bool true)) := by
  have c0 := equalTerm x.names h.1
  have c1 := equalTerm x.spaces h.2.1
  have c2 := equalCidr x.nets h.2.2
  refine pcalls_of Tryz.func84 rfl rfl Tryz.ntmps84 rfl ?_
  repeat' (first
    | refine then_go ?_
    | refine swp_seq ?_
    | ((refine swp_region (id := 0) ?_) <;> (refine sops_box (.free rfl rfl) rfl rfl rfl rfl rfl rfl ?_) <;> (refine sops_box (.free rfl rfl) rfl rfl rfl rfl rfl rfl ?_) <;> (refine sops_pure (.free rfl rfl) rfl rfl (po_assign rfl rfl) ?_) <;> (refine sops_nil ?_))
    | ((refine swp_region (id := 1) ?_) <;> (first | refine sops_pure (.free rfl rfl) rfl rfl (po_field_bx rfl rfl (tyF rfl)) ?_ | refine sops_pure (.free rfl rfl) rfl rfl (po_field rfl rfl (tyF rfl)) ?_) <;> (first | refine sops_pure (.free rfl rfl) rfl rfl (po_load_bx rfl rfl (tyT rfl) rfl rfl) ?_ | refine sops_pure (.free rfl rfl) rfl rfl (po_load rfl rfl (tyT rfl) rfl) ?_) <;> (first | refine sops_pure (.free rfl rfl) rfl rfl (po_field_bx rfl rfl (tyF rfl)) ?_ | refine sops_pure (.free rfl rfl) rfl rfl (po_field rfl rfl (tyF rfl)) ?_) <;> (first | refine sops_pure (.free rfl rfl) rfl rfl (po_load_bx rfl rfl (tyT rfl) rfl rfl) ?_ | refine sops_pure (.free rfl rfl) rfl rfl (po_load rfl rfl (tyT rfl) rfl) ?_) <;> (first | refine sops_pure (.free rfl rfl) rfl rfl (po_call (c0) rfl (ac (ac .nil))) ?_ | refine sops_pure (.free rfl rfl) rfl rfl (po_call (c1) rfl (ac (ac .nil))) ?_ | refine sops_pure (.free rfl rfl) rfl rfl (po_call (c2) rfl (ac (ac .nil))) ?_) <;> (refine sops_pure (.free rfl rfl) rfl rfl (po_move rfl rfl) ?_) <;> (first | refine sops_pure gy rfl rfl (po_field_bx rfl rfl (tyF rfl)) ?_ | refine sops_pure gy rfl rfl (po_field rfl rfl (tyF rfl)) ?_ | refine sops_skip gn1 rfl rfl ?_ | ((refine sops_split rfl rfl rfl (fun hc => ?_) (fun hc => ?_)) <;> (first | refine sops_pure gy rfl rfl (po_field_bx rfl rfl (tyF rfl)) ?_ | refine sops_pure gy rfl rfl (po_field rfl rfl (tyF rfl)) ?_ | refine sops_skip gn1 rfl rfl ?_))) <;> (first | refine sops_pure gy rfl rfl (po_load_bx rfl rfl (tyT rfl) rfl rfl) ?_ | refine sops_pure gy rfl rfl (po_load rfl rfl (tyT rfl) rfl) ?_ | refine sops_skip gn1 rfl rfl ?_) <;> (first | refine sops_pure gy rfl rfl (po_field_bx rfl rfl (tyF rfl)) ?_ | refine sops_pure gy rfl rfl (po_field rfl rfl (tyF rfl)) ?_ | refine sops_skip gn1 rfl rfl ?_) <;> (first | refine sops_pure gy rfl rfl (po_load_bx rfl rfl (tyT rfl) rfl rfl) ?_ | refine sops_pure gy rfl rfl (po_load rfl rfl (tyT rfl) rfl) ?_ | refine sops_skip gn1 rfl rfl ?_) <;> (first | refine sops_pure gy rfl rfl (po_call (c0) rfl (ac (ac .nil))) ?_ | refine sops_pure gy rfl rfl (po_call (c1) rfl (ac (ac .nil))) ?_ | refine sops_pure gy rfl rfl (po_call (c2) rfl (ac (ac .nil))) ?_ | refine sops_skip gn1 rfl rfl ?_) <;> (first | refine sops_pure (.free rfl rfl) rfl rfl (pkt rfl) ?_ | refine sops_pure (.free rfl rfl) rfl rfl (pkf rfl) ?_) <;> (refine sops_pure (.free rfl rfl) rfl rfl (po_move rfl rfl) ?_) <;> (first | refine sops_pure gy rfl rfl (po_field_bx rfl rfl (tyF rfl)) ?_ | refine sops_pure gy rfl rfl (po_field rfl rfl (tyF rfl)) ?_ | refine sops_skip gn1 rfl rfl ?_ | ((refine sops_split rfl rfl rfl (fun hc => ?_) (fun hc => ?_)) <;> (first | refine sops_pure gy rfl rfl (po_field_bx rfl rfl (tyF rfl)) ?_ | refine sops_pure gy rfl rfl (po_field rfl rfl (tyF rfl)) ?_ | refine sops_skip gn1 rfl rfl ?_))) <;> (first | refine sops_pure gy rfl rfl (po_load_bx rfl rfl (tyT rfl) rfl rfl) ?_ | refine sops_pure gy rfl rfl (po_load rfl rfl (tyT rfl) rfl) ?_ | refine sops_skip gn1 rfl rfl ?_) <;> (first | refine sops_pure gy rfl rfl (po_field_bx rfl rfl (tyF rfl)) ?_ | refine sops_pure gy rfl rfl (po_field rfl rfl (tyF rfl)) ?_ | refine sops_skip gn1 rfl rfl ?_) <;> (first | refine sops_pure gy rfl rfl (po_load_bx rfl rfl (tyT rfl) rfl rfl) ?_ | refine sops_pure gy rfl rfl (po_load rfl rfl (tyT rfl) rfl) ?_ | refine sops_skip gn1 rfl rfl ?_) <;> (first | refine sops_pure gy rfl rfl (po_call (c0) rfl (ac (ac .nil))) ?_ | refine sops_pure gy rfl rfl (po_call (c1) rfl (ac (ac .nil))) ?_ | refine sops_pure gy rfl rfl (po_call (c2) rfl (ac (ac .nil))) ?_ | refine sops_skip gn1 rfl rfl ?_) <;> (first | refine sops_pure (.free rfl rfl) rfl rfl (pkt rfl) ?_ | refine sops_pure (.free rfl rfl) rfl rfl (pkf rfl) ?_) <;> (refine sops_pure (.free rfl rfl) rfl rfl (po_assign rfl rfl) ?_) <;> (refine sops_nil ?_))
    | refine swp_ret ?_
    | refine swp_skip ?_
    | refine swp_block ?_
    | refine swp_exit ?_
    | refine block_go ?_
    | refine block_exit ?_
    | refine block_far rfl ?_
    | refine block_ret ?_
    | refine then_ret ?_
    | refine then_exit ?_
    | refine for_ret ?_
    | refine for_exit ?_
    | refine ct ?_
    | refine cf ?_
    | refine swp_cond rfl (fun hc => ?_) (fun hc => ?_)
    | refine retq (by first | exact .inr rfl | exact .inl rfl) rfl (.tmp rfl (by first | exact .t _ | exact .own rfl (by first | rfl | assumption | (simp; done) | (simp; omega)) | exact .nil _ | exact .emp _ | exact .fn _) .nil) ?_)
  rfl
set_option maxRecDepth 100000 in
set_option maxHeartbeats 1000000 in
theorem sameTarget_ (x : Pl.Target) (h : x.ports.length ≤ 1000 ∧ x.methods.length ≤ 1000 ∧ x.paths.length ≤ 1000 ∧ x.hosts.length ≤ 1000) : PCalls Tryz.prog 86 [.agg (targetT x), .agg (targetT x)] (.v (.bool true)) := by
  have c0 := equalInt x.ports h.1
  have c1 := equalTerm x.methods h.2.1
  have c2 := equalTerm x.paths h.2.2.1
  have c3 := equalTerm x.hosts h.2.2.2
  refine pcalls_of Tryz.func86 rfl rfl Tryz.ntmps86 rfl ?_
  repeat' (first
    | refine then_go ?_
    | refine swp_seq ?_
    | ((refine swp_region (id := 0) ?_) <;> (refine sops_box (.free rfl rfl) rfl rfl rfl rfl rfl rfl ?_) <;> (refine sops_box (.free rfl rfl) rfl rfl rfl rfl rfl rfl ?_) <;> (refine sops_pure (.free rfl rfl) rfl rfl (po_assign rfl rfl) ?_) <;> (refine sops_nil ?_))
    | ((refine swp_region (id := 1) ?_) <;> (first | refine sops_pure (.free rfl rfl) rfl rfl (po_field_bx rfl rfl (tyF rfl)) ?_ | refine sops_pure (.free rfl rfl) rfl rfl (po_field rfl rfl (tyF rfl)) ?_) <;> (first | refine sops_pure (.free rfl rfl) rfl rfl (po_load_bx rfl rfl (tyT rfl) rfl rfl) ?_ | refine sops_pure (.free rfl rfl) rfl rfl (po_load rfl rfl (tyT rfl) rfl) ?_) <;> (first | refine sops_pure (.free rfl rfl) rfl rfl (po_field_bx rfl rfl (tyF rfl)) ?_ | refine sops_pure (.free rfl rfl) rfl rfl (po_field rfl rfl (tyF rfl)) ?_) <;> (first | refine sops_pure (.free rfl rfl) rfl rfl (po_load_bx rfl rfl (tyT rfl) rfl rfl) ?_ | refine sops_pure (.free rfl rfl) rfl rfl (po_load rfl rfl (tyT rfl) rfl) ?_) <;> (first | refine sops_pure (.free rfl rfl) rfl rfl (po_call (c0) rfl (ac (ac .nil))) ?_ | refine sops_pure (.free rfl rfl) rfl rfl (po_call (c1) rfl (ac (ac .nil))) ?_ | refine sops_pure (.free rfl rfl) rfl rfl (po_call (c2) rfl (ac (ac .nil))) ?_ | refine sops_pure (.free rfl rfl) rfl rfl (po_call (c3) rfl (ac (ac .nil))) ?_) <;> (refine sops_pure (.free rfl rfl) rfl rfl (po_move rfl rfl) ?_) <;> (first | refine sops_pure gy rfl rfl (po_field_bx rfl rfl (tyF rfl)) ?_ | refine sops_pure gy rfl rfl (po_field rfl rfl (tyF rfl)) ?_ | refine sops_skip gn1 rfl rfl ?_ | ((refine sops_split rfl rfl rfl (fun hc => ?_) (fun hc => ?_)) <;> (first | refine sops_pure gy rfl rfl (po_field_bx rfl rfl (tyF rfl)) ?_ | refine sops_pure gy rfl rfl (po_field rfl rfl (tyF rfl)) ?_ | refine sops_skip gn1 rfl rfl ?_))) <;> (first | refine sops_pure gy rfl rfl (po_load_bx rfl rfl (tyT rfl) rfl rfl) ?_ | refine sops_pure gy rfl rfl (po_load rfl rfl (tyT rfl) rfl) ?_ | refine sops_skip gn1 rfl rfl ?_) <;> (first | refine sops_pure gy rfl rfl (po_field_bx rfl rfl (tyF rfl)) ?_ | refine sops_pure gy rfl rfl (po_field rfl rfl (tyF rfl)) ?_ | refine sops_skip gn1 rfl rfl ?_) <;> (first | refine sops_pure gy rfl rfl (po_load_bx rfl rfl (tyT rfl) rfl rfl) ?_ | refine sops_pure gy rfl rfl (po_load rfl rfl (tyT rfl) rfl) ?_ | refine sops_skip gn1 rfl rfl ?_) <;> (first | refine sops_pure gy rfl rfl (po_call (c0) rfl (ac (ac .nil))) ?_ | refine sops_pure gy rfl rfl (po_call (c1) rfl (ac (ac .nil))) ?_ | refine sops_pure gy rfl rfl (po_call (c2) rfl (ac (ac .nil))) ?_ | refine sops_pure gy rfl rfl (po_call (c3) rfl (ac (ac .nil))) ?_ | refine sops_skip gn1 rfl rfl ?_) <;> (first | refine sops_pure (.free rfl rfl) rfl rfl (pkt rfl) ?_ | refine sops_pure (.free rfl rfl) rfl rfl (pkf rfl) ?_) <;> (refine sops_pure (.free rfl rfl) rfl rfl (po_move rfl rfl) ?_) <;> (first | refine sops_pure gy rfl rfl (po_field_bx rfl rfl (tyF rfl)) ?_ | refine sops_pure gy rfl rfl (po_field rfl rfl (tyF rfl)) ?_ | refine sops_skip gn1 rfl rfl ?_ | ((refine sops_split rfl rfl rfl (fun hc => ?_) (fun hc => ?_)) <;> (first | refine sops_pure gy rfl rfl (po_field_bx rfl rfl (tyF rfl)) ?_ | refine sops_pure gy rfl rfl (po_field rfl rfl (tyF rfl)) ?_ | refine sops_skip gn1 rfl rfl ?_))) <;> (first | refine sops_pure gy rfl rfl (po_load_bx rfl rfl (tyT rfl) rfl rfl) ?_ | refine sops_pure gy rfl rfl (po_load rfl rfl (tyT rfl) rfl) ?_ | refine sops_skip gn1 rfl rfl ?_) <;> (first | refine sops_pure gy rfl rfl (po_field_bx rfl rfl (tyF rfl)) ?_ | refine sops_pure gy rfl rfl (po_field rfl rfl (tyF rfl)) ?_ | refine sops_skip gn1 rfl rfl ?_) <;> (first | refine sops_pure gy rfl rfl (po_load_bx rfl rfl (tyT rfl) rfl rfl) ?_ | refine sops_pure gy rfl rfl (po_load rfl rfl (tyT rfl) rfl) ?_ | refine sops_skip gn1 rfl rfl ?_) <;> (first | refine sops_pure gy rfl rfl (po_call (c0) rfl (ac (ac .nil))) ?_ | refine sops_pure gy rfl rfl (po_call (c1) rfl (ac (ac .nil))) ?_ | refine sops_pure gy rfl rfl (po_call (c2) rfl (ac (ac .nil))) ?_ | refine sops_pure gy rfl rfl (po_call (c3) rfl (ac (ac .nil))) ?_ | refine sops_skip gn1 rfl rfl ?_) <;> (first | refine sops_pure (.free rfl rfl) rfl rfl (pkt rfl) ?_ | refine sops_pure (.free rfl rfl) rfl rfl (pkf rfl) ?_) <;> (refine sops_pure (.free rfl rfl) rfl rfl (po_move rfl rfl) ?_) <;> (first | refine sops_pure gy rfl rfl (po_field_bx rfl rfl (tyF rfl)) ?_ | refine sops_pure gy rfl rfl (po_field rfl rfl (tyF rfl)) ?_ | refine sops_skip gn1 rfl rfl ?_ | ((refine sops_split rfl rfl rfl (fun hc => ?_) (fun hc => ?_)) <;> (first | refine sops_pure gy rfl rfl (po_field_bx rfl rfl (tyF rfl)) ?_ | refine sops_pure gy rfl rfl (po_field rfl rfl (tyF rfl)) ?_ | refine sops_skip gn1 rfl rfl ?_))) <;> (first | refine sops_pure gy rfl rfl (po_load_bx rfl rfl (tyT rfl) rfl rfl) ?_ | refine sops_pure gy rfl rfl (po_load rfl rfl (tyT rfl) rfl) ?_ | refine sops_skip gn1 rfl rfl ?_) <;> (first | refine sops_pure gy rfl rfl (po_field_bx rfl rfl (tyF rfl)) ?_ | refine sops_pure gy rfl rfl (po_field rfl rfl (tyF rfl)) ?_ | refine sops_skip gn1 rfl rfl ?_) <;> (first | refine sops_pure gy rfl rfl (po_load_bx rfl rfl (tyT rfl) rfl rfl) ?_ | refine sops_pure gy rfl rfl (po_load rfl rfl (tyT rfl) rfl) ?_ | refine sops_skip gn1 rfl rfl ?_) <;> (first | refine sops_pure gy rfl rfl (po_call (c0) rfl (ac (ac .nil))) ?_ | refine sops_pure gy rfl rfl (po_call (c1) rfl (ac (ac .nil))) ?_ | refine sops_pure gy rfl rfl (po_call (c2) rfl (ac (ac .nil))) ?_ | refine sops_pure gy rfl rfl (po_call (c3) rfl (ac (ac .nil))) ?_ | refine sops_skip gn1 rfl rfl ?_) <;> (first | refine sops_pure (.free rfl rfl) rfl rfl (pkt rfl) ?_ | refine sops_pure (.free rfl rfl) rfl rfl (pkf rfl) ?_) <;> (refine sops_pure (.free rfl rfl) rfl rfl (po_assign rfl rfl) ?_) <;> (refine sops_nil ?_))
    | refine swp_ret ?_
    | refine swp_skip ?_
    | refine swp_block ?_
    | refine swp_exit ?_
    | refine block_go ?_
    | refine block_exit ?_
    | refine block_far rfl ?_
    | refine block_ret ?_
    | refine then_ret ?_
    | refine then_exit ?_
    | refine for_ret ?_
    | refine for_exit ?_
    | refine ct ?_
    | refine cf ?_
    | refine swp_cond rfl (fun hc => ?_) (fun hc => ?_)
    | refine retq (by first | exact .inr rfl | exact .inl rfl) rfl (.tmp rfl (by first | exact .t _ | exact .own rfl (by first | rfl | assumption | (simp; done) | (simp; omega)) | exact .nil _ | exact .emp _ | exact .fn _) .nil) ?_)
  rfl
set_option maxRecDepth 100000 in
set_option maxHeartbeats 1000000 in
theorem sameWhen_ (x : Pl.When) (h : x.terms.length ≤ 1000) : PCalls Tryz.prog 88 [.agg (whenT x), .agg (whenT x)] (.v (.bool true)) := by
  have c0 := equalTerm x.terms h
  have e0 : decide (x.head = x.head) = true := by simp
  refine pcalls_of Tryz.func88 rfl rfl Tryz.ntmps88 rfl ?_
  repeat' (first
    | refine then_go ?_
    | refine swp_seq ?_
    | ((refine swp_region (id := 0) ?_) <;> (refine sops_box (.free rfl rfl) rfl rfl rfl rfl rfl rfl ?_) <;> (refine sops_box (.free rfl rfl) rfl rfl rfl rfl rfl rfl ?_) <;> (refine sops_pure (.free rfl rfl) rfl rfl (po_assign rfl rfl) ?_) <;> (refine sops_nil ?_))
    | ((refine swp_region (id := 1) ?_) <;> (first | refine sops_pure (.free rfl rfl) rfl rfl (po_field_bx rfl rfl (tyF rfl)) ?_ | refine sops_pure (.free rfl rfl) rfl rfl (po_field rfl rfl (tyF rfl)) ?_) <;> (first | refine sops_pure (.free rfl rfl) rfl rfl (po_load_bx rfl rfl (tyT rfl) rfl rfl) ?_ | refine sops_pure (.free rfl rfl) rfl rfl (po_load rfl rfl (tyT rfl) rfl) ?_) <;> (first | refine sops_pure (.free rfl rfl) rfl rfl (po_field_bx rfl rfl (tyF rfl)) ?_ | refine sops_pure (.free rfl rfl) rfl rfl (po_field rfl rfl (tyF rfl)) ?_) <;> (first | refine sops_pure (.free rfl rfl) rfl rfl (po_load_bx rfl rfl (tyT rfl) rfl rfl) ?_ | refine sops_pure (.free rfl rfl) rfl rfl (po_load rfl rfl (tyT rfl) rfl) ?_) <;> (refine sops_pure (.free rfl rfl) rfl rfl (po_str rfl rfl rfl rfl) ?_) <;> (refine sops_pure (.free rfl rfl) rfl rfl (po_move rfl rfl) ?_) <;> (first | refine sops_pure gy rfl rfl (po_field_bx rfl rfl (tyF rfl)) ?_ | refine sops_pure gy rfl rfl (po_field rfl rfl (tyF rfl)) ?_ | refine sops_skip gn1 rfl rfl ?_ | ((refine sops_split rfl rfl rfl (fun hc => ?_) (fun hc => ?_)) <;> (first | refine sops_pure gy rfl rfl (po_field_bx rfl rfl (tyF rfl)) ?_ | refine sops_pure gy rfl rfl (po_field rfl rfl (tyF rfl)) ?_ | refine sops_skip gn1 rfl rfl ?_))) <;> (first | refine sops_pure gy rfl rfl (po_load_bx rfl rfl (tyT rfl) rfl rfl) ?_ | refine sops_pure gy rfl rfl (po_load rfl rfl (tyT rfl) rfl) ?_ | refine sops_skip gn1 rfl rfl ?_) <;> (first | refine sops_pure gy rfl rfl (po_field_bx rfl rfl (tyF rfl)) ?_ | refine sops_pure gy rfl rfl (po_field rfl rfl (tyF rfl)) ?_ | refine sops_skip gn1 rfl rfl ?_) <;> (first | refine sops_pure gy rfl rfl (po_load_bx rfl rfl (tyT rfl) rfl rfl) ?_ | refine sops_pure gy rfl rfl (po_load rfl rfl (tyT rfl) rfl) ?_ | refine sops_skip gn1 rfl rfl ?_) <;> (first | refine sops_pure gy rfl rfl (po_call (c0) rfl (ac (ac .nil))) ?_ | refine sops_skip gn1 rfl rfl ?_) <;> (first | refine sops_pure (.free rfl rfl) rfl rfl (pkt rfl) ?_ | refine sops_pure (.free rfl rfl) rfl rfl (pkf rfl) ?_) <;> (refine sops_pure (.free rfl rfl) rfl rfl (po_assign rfl rfl) ?_) <;> (refine sops_nil ?_))
    | refine swp_ret ?_
    | refine swp_skip ?_
    | refine swp_block ?_
    | refine swp_exit ?_
    | refine block_go ?_
    | refine block_exit ?_
    | refine block_far rfl ?_
    | refine block_ret ?_
    | refine then_ret ?_
    | refine then_exit ?_
    | refine for_ret ?_
    | refine for_exit ?_
    | refine ct ?_
    | refine cf ?_
    | refine swp_cond rfl (fun hc => ?_) (fun hc => ?_)
    | refine retq (by first | exact .inr rfl | exact .inl rfl) rfl (.tmp rfl (by first | exact .t _ | exact .own rfl (by first | rfl | assumption | (simp; done) | (simp; omega)) | exact .nil _ | exact .emp _ | exact .fn _) .nil) ?_)
  rfl
set_option maxRecDepth 100000 in
set_option maxHeartbeats 1000000 in
theorem sameRuleP_ (x : Pl.Rule) (h : FewR x) : PCalls Tryz.prog 63 [.agg (ruleT x), .agg (ruleT x)] (.v (.bool true)) := by
  have c0 := equalFSource 84 x.from_ (fun s hs => sameSource_ s (h.fs s hs)) h.f
  have c1 := equalFTarget 86 x.to_ (fun s hs => sameTarget_ s (h.ts s hs)) h.t
  have c2 := equalFWhen 88 x.when_ (fun s hs => sameWhen_ s (h.ws s hs)) h.w
  refine pcalls_of Tryz.func63 rfl rfl Tryz.ntmps63 rfl ?_
  repeat' (first
    | refine then_go ?_
    | refine swp_seq ?_
    | ((refine swp_region (id := 0) ?_) <;> (refine sops_box (.free rfl rfl) rfl rfl rfl rfl rfl rfl ?_) <;> (refine sops_box (.free rfl rfl) rfl rfl rfl rfl rfl rfl ?_) <;> (refine sops_pure (.free rfl rfl) rfl rfl (po_assign rfl rfl) ?_) <;> (refine sops_nil ?_))
    | ((refine swp_region (id := 1) ?_) <;> (first | refine sops_pure (.free rfl rfl) rfl rfl (po_field_bx rfl rfl (tyF rfl)) ?_ | refine sops_pure (.free rfl rfl) rfl rfl (po_field rfl rfl (tyF rfl)) ?_) <;> (first | refine sops_pure (.free rfl rfl) rfl rfl (po_load_bx rfl rfl (tyT rfl) rfl rfl) ?_ | refine sops_pure (.free rfl rfl) rfl rfl (po_load rfl rfl (tyT rfl) rfl) ?_) <;> (first | refine sops_pure (.free rfl rfl) rfl rfl (po_field_bx rfl rfl (tyF rfl)) ?_ | refine sops_pure (.free rfl rfl) rfl rfl (po_field rfl rfl (tyF rfl)) ?_) <;> (first | refine sops_pure (.free rfl rfl) rfl rfl (po_load_bx rfl rfl (tyT rfl) rfl rfl) ?_ | refine sops_pure (.free rfl rfl) rfl rfl (po_load rfl rfl (tyT rfl) rfl) ?_) <;> (first | refine sops_pure (.free rfl rfl) rfl rfl (po_call (c0) rfl (ac (ac (ac .nil)))) ?_ | refine sops_pure (.free rfl rfl) rfl rfl (po_call (c1) rfl (ac (ac (ac .nil)))) ?_ | refine sops_pure (.free rfl rfl) rfl rfl (po_call (c2) rfl (ac (ac (ac .nil)))) ?_) <;> (refine sops_pure (.free rfl rfl) rfl rfl (po_move rfl rfl) ?_) <;> (first | refine sops_pure gy rfl rfl (po_field_bx rfl rfl (tyF rfl)) ?_ | refine sops_pure gy rfl rfl (po_field rfl rfl (tyF rfl)) ?_ | refine sops_skip gn1 rfl rfl ?_ | ((refine sops_split rfl rfl rfl (fun hc => ?_) (fun hc => ?_)) <;> (first | refine sops_pure gy rfl rfl (po_field_bx rfl rfl (tyF rfl)) ?_ | refine sops_pure gy rfl rfl (po_field rfl rfl (tyF rfl)) ?_ | refine sops_skip gn1 rfl rfl ?_))) <;> (first | refine sops_pure gy rfl rfl (po_load_bx rfl rfl (tyT rfl) rfl rfl) ?_ | refine sops_pure gy rfl rfl (po_load rfl rfl (tyT rfl) rfl) ?_ | refine sops_skip gn1 rfl rfl ?_) <;> (first | refine sops_pure gy rfl rfl (po_field_bx rfl rfl (tyF rfl)) ?_ | refine sops_pure gy rfl rfl (po_field rfl rfl (tyF rfl)) ?_ | refine sops_skip gn1 rfl rfl ?_) <;> (first | refine sops_pure gy rfl rfl (po_load_bx rfl rfl (tyT rfl) rfl rfl) ?_ | refine sops_pure gy rfl rfl (po_load rfl rfl (tyT rfl) rfl) ?_ | refine sops_skip gn1 rfl rfl ?_) <;> (first | refine sops_pure gy rfl rfl (po_call (c0) rfl (ac (ac (ac .nil)))) ?_ | refine sops_pure gy rfl rfl (po_call (c1) rfl (ac (ac (ac .nil)))) ?_ | refine sops_pure gy rfl rfl (po_call (c2) rfl (ac (ac (ac .nil)))) ?_ | refine sops_skip gn1 rfl rfl ?_) <;> (first | refine sops_pure (.free rfl rfl) rfl rfl (pkt rfl) ?_ | refine sops_pure (.free rfl rfl) rfl rfl (pkf rfl) ?_) <;> (refine sops_pure (.free rfl rfl) rfl rfl (po_move rfl rfl) ?_) <;> (first | refine sops_pure gy rfl rfl (po_field_bx rfl rfl (tyF rfl)) ?_ | refine sops_pure gy rfl rfl (po_field rfl rfl (tyF rfl)) ?_ | refine sops_skip gn1 rfl rfl ?_ | ((refine sops_split rfl rfl rfl (fun hc => ?_) (fun hc => ?_)) <;> (first | refine sops_pure gy rfl rfl (po_field_bx rfl rfl (tyF rfl)) ?_ | refine sops_pure gy rfl rfl (po_field rfl rfl (tyF rfl)) ?_ | refine sops_skip gn1 rfl rfl ?_))) <;> (first | refine sops_pure gy rfl rfl (po_load_bx rfl rfl (tyT rfl) rfl rfl) ?_ | refine sops_pure gy rfl rfl (po_load rfl rfl (tyT rfl) rfl) ?_ | refine sops_skip gn1 rfl rfl ?_) <;> (first | refine sops_pure gy rfl rfl (po_field_bx rfl rfl (tyF rfl)) ?_ | refine sops_pure gy rfl rfl (po_field rfl rfl (tyF rfl)) ?_ | refine sops_skip gn1 rfl rfl ?_) <;> (first | refine sops_pure gy rfl rfl (po_load_bx rfl rfl (tyT rfl) rfl rfl) ?_ | refine sops_pure gy rfl rfl (po_load rfl rfl (tyT rfl) rfl) ?_ | refine sops_skip gn1 rfl rfl ?_) <;> (first | refine sops_pure gy rfl rfl (po_call (c0) rfl (ac (ac (ac .nil)))) ?_ | refine sops_pure gy rfl rfl (po_call (c1) rfl (ac (ac (ac .nil)))) ?_ | refine sops_pure gy rfl rfl (po_call (c2) rfl (ac (ac (ac .nil)))) ?_ | refine sops_skip gn1 rfl rfl ?_) <;> (first | refine sops_pure (.free rfl rfl) rfl rfl (pkt rfl) ?_ | refine sops_pure (.free rfl rfl) rfl rfl (pkf rfl) ?_) <;> (refine sops_pure (.free rfl rfl) rfl rfl (po_assign rfl rfl) ?_) <;> (refine sops_nil ?_))
    | refine swp_ret ?_
    | refine swp_skip ?_
    | refine swp_block ?_
    | refine swp_exit ?_
    | refine block_go ?_
    | refine block_exit ?_
    | refine block_far rfl ?_
    | refine block_ret ?_
    | refine then_ret ?_
    | refine then_exit ?_
    | refine for_ret ?_
    | refine for_exit ?_
    | refine ct ?_
    | refine cf ?_
    | refine swp_cond rfl (fun hc => ?_) (fun hc => ?_)
    | refine retq (by first | exact .inr rfl | exact .inl rfl) rfl (.tmp rfl (by first | exact .t _ | exact .own rfl (by first | rfl | assumption | (simp; done) | (simp; omega)) | exact .nil _ | exact .emp _ | exact .fn _) .nil) ?_)
  rfl
set_option maxRecDepth 100000 in
set_option maxHeartbeats 1000000 in
theorem samePol_ (x : Pl.Policy) (h : FewP x) : PCalls Tryz.prog 48 [.agg (polT x), .agg (polT x)] (.v (.bool true)) := by
  have c0 := equalFRule 63 x.rules (fun s hs => sameRuleP_ s (h.r s hs)) h.n
  have e0 : decide (x.id = x.id) = true := by simp
  have e1 : decide (x.ns = x.ns) = true := by simp
  have e2 : decide (x.service = x.service) = true := by simp
  have e3 : decide (x.deny = x.deny) = true := by simp
  refine pcalls_of Tryz.func48 rfl rfl Tryz.ntmps48 rfl ?_
  repeat' (first
    | refine then_go ?_
    | refine swp_seq ?_
    | ((refine swp_region (id := 0) ?_) <;> (refine sops_box (.free rfl rfl) rfl rfl rfl rfl rfl rfl ?_) <;> (refine sops_box (.free rfl rfl) rfl rfl rfl rfl rfl rfl ?_) <;> (refine sops_pure (.free rfl rfl) rfl rfl (po_assign rfl rfl) ?_) <;> (refine sops_nil ?_))
    | ((refine swp_region (id := 1) ?_) <;> (first | refine sops_pure (.free rfl rfl) rfl rfl (po_field_bx rfl rfl (tyF rfl)) ?_ | refine sops_pure (.free rfl rfl) rfl rfl (po_field rfl rfl (tyF rfl)) ?_) <;> (first | refine sops_pure (.free rfl rfl) rfl rfl (po_load_bx rfl rfl (tyT rfl) rfl rfl) ?_ | refine sops_pure (.free rfl rfl) rfl rfl (po_load rfl rfl (tyT rfl) rfl) ?_) <;> (first | refine sops_pure (.free rfl rfl) rfl rfl (po_field_bx rfl rfl (tyF rfl)) ?_ | refine sops_pure (.free rfl rfl) rfl rfl (po_field rfl rfl (tyF rfl)) ?_) <;> (first | refine sops_pure (.free rfl rfl) rfl rfl (po_load_bx rfl rfl (tyT rfl) rfl rfl) ?_ | refine sops_pure (.free rfl rfl) rfl rfl (po_load rfl rfl (tyT rfl) rfl) ?_) <;> (refine sops_pure (.free rfl rfl) rfl rfl (po_cmp rfl rfl rfl rfl) ?_) <;> (refine sops_pure (.free rfl rfl) rfl rfl (po_move rfl rfl) ?_) <;> (first | refine sops_pure gy rfl rfl (po_field_bx rfl rfl (tyF rfl)) ?_ | refine sops_pure gy rfl rfl (po_field rfl rfl (tyF rfl)) ?_ | refine sops_skip gn1 rfl rfl ?_ | ((refine sops_split rfl rfl rfl (fun hc => ?_) (fun hc => ?_)) <;> (first | refine sops_pure gy rfl rfl (po_field_bx rfl rfl (tyF rfl)) ?_ | refine sops_pure gy rfl rfl (po_field rfl rfl (tyF rfl)) ?_ | refine sops_skip gn1 rfl rfl ?_))) <;> (first | refine sops_pure gy rfl rfl (po_load_bx rfl rfl (tyT rfl) rfl rfl) ?_ | refine sops_pure gy rfl rfl (po_load rfl rfl (tyT rfl) rfl) ?_ | refine sops_skip gn1 rfl rfl ?_) <;> (first | refine sops_pure gy rfl rfl (po_field_bx rfl rfl (tyF rfl)) ?_ | refine sops_pure gy rfl rfl (po_field rfl rfl (tyF rfl)) ?_ | refine sops_skip gn1 rfl rfl ?_) <;> (first | refine sops_pure gy rfl rfl (po_load_bx rfl rfl (tyT rfl) rfl rfl) ?_ | refine sops_pure gy rfl rfl (po_load rfl rfl (tyT rfl) rfl) ?_ | refine sops_skip gn1 rfl rfl ?_) <;> (first | refine sops_pure gy rfl rfl (po_str rfl rfl rfl rfl) ?_ | refine sops_skip gn1 rfl rfl ?_) <;> (first | refine sops_pure (.free rfl rfl) rfl rfl (pkt rfl) ?_ | refine sops_pure (.free rfl rfl) rfl rfl (pkf rfl) ?_) <;> (refine sops_pure (.free rfl rfl) rfl rfl (po_move rfl rfl) ?_) <;> (first | refine sops_pure gy rfl rfl (po_field_bx rfl rfl (tyF rfl)) ?_ | refine sops_pure gy rfl rfl (po_field rfl rfl (tyF rfl)) ?_ | refine sops_skip gn1 rfl rfl ?_ | ((refine sops_split rfl rfl rfl (fun hc => ?_) (fun hc => ?_)) <;> (first | refine sops_pure gy rfl rfl (po_field_bx rfl rfl (tyF rfl)) ?_ | refine sops_pure gy rfl rfl (po_field rfl rfl (tyF rfl)) ?_ | refine sops_skip gn1 rfl rfl ?_))) <;> (first | refine sops_pure gy rfl rfl (po_load_bx rfl rfl (tyT rfl) rfl rfl) ?_ | refine sops_pure gy rfl rfl (po_load rfl rfl (tyT rfl) rfl) ?_ | refine sops_skip gn1 rfl rfl ?_) <;> (first | refine sops_pure gy rfl rfl (po_field_bx rfl rfl (tyF rfl)) ?_ | refine sops_pure gy rfl rfl (po_field rfl rfl (tyF rfl)) ?_ | refine sops_skip gn1 rfl rfl ?_) <;> (first | refine sops_pure gy rfl rfl (po_load_bx rfl rfl (tyT rfl) rfl rfl) ?_ | refine sops_pure gy rfl rfl (po_load rfl rfl (tyT rfl) rfl) ?_ | refine sops_skip gn1 rfl rfl ?_) <;> (first | refine sops_pure gy rfl rfl (po_cmp rfl rfl rfl rfl) ?_ | refine sops_skip gn1 rfl rfl ?_) <;> (first | refine sops_pure (.free rfl rfl) rfl rfl (pkt rfl) ?_ | refine sops_pure (.free rfl rfl) rfl rfl (pkf rfl) ?_) <;> (refine sops_pure (.free rfl rfl) rfl rfl (po_move rfl rfl) ?_) <;> (first | refine sops_pure gy rfl rfl (po_field_bx rfl rfl (tyF rfl)) ?_ | refine sops_pure gy rfl rfl (po_field rfl rfl (tyF rfl)) ?_ | refine sops_skip gn1 rfl rfl ?_ | ((refine sops_split rfl rfl rfl (fun hc => ?_) (fun hc => ?_)) <;> (first | refine sops_pure gy rfl rfl (po_field_bx rfl rfl (tyF rfl)) ?_ | refine sops_pure gy rfl rfl (po_field rfl rfl (tyF rfl)) ?_ | refine sops_skip gn1 rfl rfl ?_))) <;> (first | refine sops_pure gy rfl rfl (po_load_bx rfl rfl (tyT rfl) rfl rfl) ?_ | refine sops_pure gy rfl rfl (po_load rfl rfl (tyT rfl) rfl) ?_ | refine sops_skip gn1 rfl rfl ?_) <;> (first | refine sops_pure gy rfl rfl (po_field_bx rfl rfl (tyF rfl)) ?_ | refine sops_pure gy rfl rfl (po_field rfl rfl (tyF rfl)) ?_ | refine sops_skip gn1 rfl rfl ?_) <;> (first | refine sops_pure gy rfl rfl (po_load_bx rfl rfl (tyT rfl) rfl rfl) ?_ | refine sops_pure gy rfl rfl (po_load rfl rfl (tyT rfl) rfl) ?_ | refine sops_skip gn1 rfl rfl ?_) <;> (first | refine sops_pure gy rfl rfl (po_cmp rfl rfl rfl rfl) ?_ | refine sops_skip gn1 rfl rfl ?_) <;> (first | refine sops_pure (.free rfl rfl) rfl rfl (pkt rfl) ?_ | refine sops_pure (.free rfl rfl) rfl rfl (pkf rfl) ?_) <;> (refine sops_pure (.free rfl rfl) rfl rfl (po_move rfl rfl) ?_) <;> (first | refine sops_pure gy rfl rfl (po_field_bx rfl rfl (tyF rfl)) ?_ | refine sops_pure gy rfl rfl (po_field rfl rfl (tyF rfl)) ?_ | refine sops_skip gn1 rfl rfl ?_ | ((refine sops_split rfl rfl rfl (fun hc => ?_) (fun hc => ?_)) <;> (first | refine sops_pure gy rfl rfl (po_field_bx rfl rfl (tyF rfl)) ?_ | refine sops_pure gy rfl rfl (po_field rfl rfl (tyF rfl)) ?_ | refine sops_skip gn1 rfl rfl ?_))) <;> (first | refine sops_pure gy rfl rfl (po_load_bx rfl rfl (tyT rfl) rfl rfl) ?_ | refine sops_pure gy rfl rfl (po_load rfl rfl (tyT rfl) rfl) ?_ | refine sops_skip gn1 rfl rfl ?_) <;> (first | refine sops_pure gy rfl rfl (po_field_bx rfl rfl (tyF rfl)) ?_ | refine sops_pure gy rfl rfl (po_field rfl rfl (tyF rfl)) ?_ | refine sops_skip gn1 rfl rfl ?_) <;> (first | refine sops_pure gy rfl rfl (po_load_bx rfl rfl (tyT rfl) rfl rfl) ?_ | refine sops_pure gy rfl rfl (po_load rfl rfl (tyT rfl) rfl) ?_ | refine sops_skip gn1 rfl rfl ?_) <;> (first | refine sops_pure gy rfl rfl (po_call (c0) rfl (ac (ac (ac .nil)))) ?_ | refine sops_skip gn1 rfl rfl ?_) <;> (first | refine sops_pure (.free rfl rfl) rfl rfl (pkt rfl) ?_ | refine sops_pure (.free rfl rfl) rfl rfl (pkf rfl) ?_) <;> (refine sops_pure (.free rfl rfl) rfl rfl (po_assign rfl rfl) ?_) <;> (refine sops_nil ?_))
    | refine swp_ret ?_
    | refine swp_skip ?_
    | refine swp_block ?_
    | refine swp_exit ?_
    | refine block_go ?_
    | refine block_exit ?_
    | refine block_far rfl ?_
    | refine block_ret ?_
    | refine then_ret ?_
    | refine then_exit ?_
    | refine for_ret ?_
    | refine for_exit ?_
    | refine ct ?_
    | refine cf ?_
    | refine swp_cond rfl (fun hc => ?_) (fun hc => ?_)
    | refine retq (by first | exact .inr rfl | exact .inl rfl) rfl (.tmp rfl (by first | exact .t _ | exact .own rfl (by first | rfl | assumption | (simp; done) | (simp; omega)) | exact .nil _ | exact .emp _ | exact .fn _) .nil) ?_)
  rfl
set_option maxRecDepth 100000 in
set_option maxHeartbeats 1000000 in
theorem sameTab_ (l : List Pl.Policy) (hn : l.length ≤ 1000) (h : ∀ p ∈ l, FewP p) (al : Int) : PCalls Tryz.prog 22 [.agg [.sl 5 (l.map polT), .v (.int .i64 al)], .agg [.sl 5 (l.map polT), .v (.int .i64 al)]] (.v (.bool true)) := by
  have c0 := equalFPolicy 48 l (fun s hs => samePol_ s (h s hs)) hn
  have e0 : decide (al = al) = true := by simp
  refine pcalls_of Tryz.func22 rfl rfl Tryz.ntmps22 rfl ?_
  repeat' (first
    | refine then_go ?_
    | refine swp_seq ?_
    | ((refine swp_region (id := 0) ?_) <;> (refine sops_box (.free rfl rfl) rfl rfl rfl rfl rfl rfl ?_) <;> (refine sops_box (.free rfl rfl) rfl rfl rfl rfl rfl rfl ?_) <;> (refine sops_pure (.free rfl rfl) rfl rfl (po_assign rfl rfl) ?_) <;> (refine sops_nil ?_))
    | ((refine swp_region (id := 1) ?_) <;> (first | refine sops_pure (.free rfl rfl) rfl rfl (po_field_bx rfl rfl (tyF rfl)) ?_ | refine sops_pure (.free rfl rfl) rfl rfl (po_field rfl rfl (tyF rfl)) ?_) <;> (first | refine sops_pure (.free rfl rfl) rfl rfl (po_load_bx rfl rfl (tyT rfl) rfl rfl) ?_ | refine sops_pure (.free rfl rfl) rfl rfl (po_load rfl rfl (tyT rfl) rfl) ?_) <;> (first | refine sops_pure (.free rfl rfl) rfl rfl (po_field_bx rfl rfl (tyF rfl)) ?_ | refine sops_pure (.free rfl rfl) rfl rfl (po_field rfl rfl (tyF rfl)) ?_) <;> (first | refine sops_pure (.free rfl rfl) rfl rfl (po_load_bx rfl rfl (tyT rfl) rfl rfl) ?_ | refine sops_pure (.free rfl rfl) rfl rfl (po_load rfl rfl (tyT rfl) rfl) ?_) <;> (refine sops_pure (.free rfl rfl) rfl rfl (po_cmp rfl rfl rfl rfl) ?_) <;> (refine sops_pure (.free rfl rfl) rfl rfl (po_move rfl rfl) ?_) <;> (first | refine sops_pure gy rfl rfl (po_field_bx rfl rfl (tyF rfl)) ?_ | refine sops_pure gy rfl rfl (po_field rfl rfl (tyF rfl)) ?_ | refine sops_skip gn1 rfl rfl ?_ | ((refine sops_split rfl rfl rfl (fun hc => ?_) (fun hc => ?_)) <;> (first | refine sops_pure gy rfl rfl (po_field_bx rfl rfl (tyF rfl)) ?_ | refine sops_pure gy rfl rfl (po_field rfl rfl (tyF rfl)) ?_ | refine sops_skip gn1 rfl rfl ?_))) <;> (first | refine sops_pure gy rfl rfl (po_load_bx rfl rfl (tyT rfl) rfl rfl) ?_ | refine sops_pure gy rfl rfl (po_load rfl rfl (tyT rfl) rfl) ?_ | refine sops_skip gn1 rfl rfl ?_) <;> (first | refine sops_pure gy rfl rfl (po_field_bx rfl rfl (tyF rfl)) ?_ | refine sops_pure gy rfl rfl (po_field rfl rfl (tyF rfl)) ?_ | refine sops_skip gn1 rfl rfl ?_) <;> (first | refine sops_pure gy rfl rfl (po_load_bx rfl rfl (tyT rfl) rfl rfl) ?_ | refine sops_pure gy rfl rfl (po_load rfl rfl (tyT rfl) rfl) ?_ | refine sops_skip gn1 rfl rfl ?_) <;> (first | refine sops_pure gy rfl rfl (po_call (c0) rfl (ac (ac (ac .nil)))) ?_ | refine sops_skip gn1 rfl rfl ?_) <;> (first | refine sops_pure (.free rfl rfl) rfl rfl (pkt rfl) ?_ | refine sops_pure (.free rfl rfl) rfl rfl (pkf rfl) ?_) <;> (refine sops_pure (.free rfl rfl) rfl rfl (po_assign rfl rfl) ?_) <;> (refine sops_nil ?_))
    | refine swp_ret ?_
    | refine swp_skip ?_
    | refine swp_block ?_
    | refine swp_exit ?_
    | refine block_go ?_
    | refine block_exit ?_
    | refine block_far rfl ?_
    | refine block_ret ?_
    | refine then_ret ?_
    | refine then_exit ?_
    | refine for_ret ?_
    | refine for_exit ?_
    | refine ct ?_
    | refine cf ?_
    | refine swp_cond rfl (fun hc => ?_) (fun hc => ?_)
    | refine retq (by first | exact .inr rfl | exact .inl rfl) rfl (.tmp rfl (by first | exact .t _ | exact .own rfl (by first | rfl | assumption | (simp; done) | (simp; omega)) | exact .nil _ | exact .emp _ | exact .fn _) .nil) ?_)
  rfl
end Go.Proofs.YtlcecabfmemfeaaGreat.Pol

/- A logic of states: a region that draws its order, with operations that make and write boxes and rows among its operations. -/
namespace Go.Proofs.YtlcecabfmemfeaaGreat.Sim
set_option linter.unusedVariables false
set_option linter.unusedSimpArgs false
open Go.RowKit Mem

/-- what must have gone before each operation -/
def ancL (ops : Array Oper) : Nat → List (List Nat)
  | 0 => []
  | n + 1 => ancL ops n ++ [(deps ops n).foldl (fun acc j => bif acc.contains j then acc else j :: ((ancL ops n).getD j [] ++ acc)) []]
theorem ancL_len (ops : Array Oper) : ∀ n, (ancL ops n).length = n
  | 0 => rfl
  | n + 1 => by simp [ancL, ancL_len ops n]
theorem anc_fold {l : List (List Nat)} : ∀ (ds acc : List Nat) (x : Nat), x ∈ ds.foldl (fun acc j => bif acc.contains j then acc else j :: (l.getD j [] ++ acc)) acc → x ∈ acc ∨ ∃ j ∈ ds, x = j ∨ x ∈ l.getD j []
  | [], acc, x, h => .inl h
  | d :: ds, acc, x, h => by
    rw [List.foldl_cons] at h
    rcases anc_fold ds _ x h with h1 | ⟨j, h2, h3⟩
    · cases hc : acc.contains d with
      | true => rw [hc] at h1; exact .inl h1
      | false =>
        rw [hc] at h1
        simp only [cond_false, List.mem_cons, List.mem_append] at h1
        rcases h1 with h1 | h1 | h1
        · exact .inr ⟨d, by simp, .inl h1⟩
        · exact .inr ⟨d, by simp, .inr h1⟩
        · exact .inl h1
    · exact .inr ⟨j, by simp [h2], h3⟩
theorem ancL_get (ops : Array Oper) : ∀ (n k : Nat), k < n → (ancL ops n).getD k [] = (deps ops k).foldl (fun acc j => bif acc.contains j then acc else j :: ((ancL ops k).getD j [] ++ acc)) []
  | 0, k, h => by omega
  | n + 1, k, h => by
    rw [ancL]
    by_cases hk : k < n
    · rw [List.getD_eq_getElem?_getD, List.getElem?_append_left (by rw [ancL_len]; exact hk), ← List.getD_eq_getElem?_getD]
      exact ancL_get ops n k hk
    · obtain rfl : k = n := by omega
      rw [List.getD_eq_getElem?_getD, List.getElem?_append_right (by rw [ancL_len]; omega), ancL_len, Nat.sub_self]
      rfl
theorem anc_on {ops : Array Oper} {listed : Array Bool} (hcl : Closed ops listed) (hd : ∀ i, i < ops.size → ∀ j ∈ deps ops i, j < i) : ∀ (k : Nat), k < ops.size → (∀ j ∈ deps ops k, isOn listed j = true) → ∀ n, k < n → ∀ x, x ∈ (ancL ops n).getD k [] → isOn listed x = true ∧ x < k := by
  intro k
  induction k using Nat.strongRecOn with
  | ind k ih =>
    intro hk hon n hn x hx
    rw [ancL_get ops n k hn] at hx
    rcases anc_fold _ _ _ hx with h | ⟨j, h1, h2⟩
    · cases h
    · have hjk := hd k hk j h1
      rcases h2 with rfl | h2
      · exact ⟨hon _ h1, hjk⟩
      · have := ih j hjk (by omega) (fun y hy => hcl j y (hon j h1) hy) k hjk x h2
        exact ⟨this.1, by omega⟩
theorem anc_lt {ops : Array Oper} (hd : ∀ i, i < ops.size → ∀ j ∈ deps ops i, j < i) : ∀ (k : Nat), k < ops.size → ∀ n, k < n → ∀ x, x ∈ (ancL ops n).getD k [] → x < k := by
  intro k
  induction k using Nat.strongRecOn with
  | ind k ih =>
    intro hk n hn x hx
    rw [ancL_get ops n k hn] at hx
    rcases anc_fold _ _ _ hx with h | ⟨j, h1, h2⟩
    · cases h
    · have hjk := hd k hk j h1
      rcases h2 with rfl | h2
      · exact hjk
      · have := ih j hjk (by omega) k hjk x h2; omega
def ordB (A : List (List Nat)) (j k : Nat) : Bool := (A.getD k []).contains j || (A.getD j []).contains k
/-- the checks: of numbers written (W), and not looked at (X) -/
def anyB (ops : Array Oper) (M : Nat) (W X : List (List Nat)) : Bool :=
  ((List.range ops.size).all fun i => ((deps ops i).all fun j => decide (j < i)) && (match dstOf ops i with | some d => decide (writer ops d = some i) && decide (d < M) | none => true)) &&
  ((List.range ops.size).all fun i => match ops[i]? with
    | none => false
    | some o => ((slotsOf o).all fun s => match writer ops s with | none => true | some j => decide (j < i) && (deps ops i).contains j) && (match o.guard with | none => true | some (j, _) => decide (j < i) && (deps ops i).contains j)) &&
  ((List.range ops.size).all fun k => ((W.getD k []).all fun i => !((X.getD k []).contains i)) && (List.range ops.size).all fun j => Nat.beq j k || ordB (ancL ops ops.size) j k || ((W.getD j []).all fun i => (X.getD k []).contains i && !((W.getD k []).contains i)))
def rst {β : Type} (X : List Nat) (l : List (Nat × β)) : List (Nat × β) := l.filter fun p => !(X.contains p.1)
theorem get_rst {β : Type} (X : List Nat) (l : List (Nat × β)) (i : Nat) : get (rst X l) i = if X.contains i then none else get l i := by
  refine (get_filter (fun k => !(X.contains k)) l i).trans ?_
  cases X.contains i <;> rfl
def tput (d : Option Nat) (x : A) (tm : List (Nat × A)) : List (Nat × A) := match d with
  | some d => (d, x) :: tm
  | none => tm
/-- the operation hands back r; it leaves other boxes and rows -/
structure EStep (P : Program) (bx : List (Nat × List A)) (ow : List (Nat × Own)) (o : Oper) (ρ : Operand → Option A) (r : A) (bx' : List (Nat × List A)) (ow' : List (Nat × Own)) : Prop where
  go : ∀ (C : Ctx) (m : Mm) (g : Gh) (w : World) (a : Act) (Q : Exit → Act → World → Prop), EnvG C bx ow w m g → (∀ x ∈ o.op.operands.toList, ∀ y, ρ x = some y → AR m g y (a.eval x)) →
    o.wp P a w (fun a' w' => ∃ v m' g', a' = a.put o.dst v ∧ EnvG C bx' ow' w' m' g' ∧ AR m' g' r v ∧ ∀ x u, AR m g x u → AR m' g' x u) Q
inductive ERun (P : Program) (ops : Array Oper) (W X : List (List Nat)) : Nat → List Oper → List (Nat × A) → List (Nat × List A) → List (Nat × Own) → List (Nat × A) → List (Nat × List A) → List (Nat × Own) → Prop
  | nil (k : Nat) (tm : List (Nat × A)) (bx : List (Nat × List A)) (ow : List (Nat × Own)) : ERun P ops W X k [] tm bx ow tm bx ow
  | on {k : Nat} {o : Oper} {rest : List Oper} {tm tm' : List (Nat × A)} {bx bx' : List (Nat × List A)} {ow ow' : List (Nat × Own)} {r : A} (hg : GuardIs ops tm o true) (hW : W.getD k [] = []) (hp : ∀ bxr owr, PureOp P (rst (X.getD k []) bx ++ bxr) (rst (X.getD k []) ow ++ owr) o (evA tm) r) (h : ERun P ops W X (k + 1) rest (tput o.dst r tm) bx ow tm' bx' ow') : ERun P ops W X k (o :: rest) tm bx ow tm' bx' ow'
  | off {k : Nat} {o : Oper} {rest : List Oper} {tm tm' : List (Nat × A)} {bx bx' : List (Nat × List A)} {ow ow' : List (Nat × Own)} (hg : GuardIs ops tm o false) (hW : W.getD k [] = []) (h : ERun P ops W X (k + 1) rest (tput o.dst (.t (.v undef)) tm) bx ow tm' bx' ow') : ERun P ops W X k (o :: rest) tm bx ow tm' bx' ow'
  | eff {k : Nat} {o : Oper} {rest : List Oper} {tm tm' : List (Nat × A)} {bx bx' : List (Nat × List A)} {ow ow' : List (Nat × Own)} {r : A} (wb : List (Nat × List A)) (wo : List (Nat × Own)) (hg : GuardIs ops tm o true) (hW1 : (wb.all fun p => (W.getD k []).contains p.1) = true) (hW2 : (wo.all fun p => (W.getD k []).contains p.1) = true)
      (he : ∀ bxr owr, (∀ i, (X.getD k []).contains i = false → get bx i = none → get bxr i = none) → (∀ i, (X.getD k []).contains i = false → get ow i = none → get owr i = none) → EStep P (rst (X.getD k []) bx ++ bxr) (rst (X.getD k []) ow ++ owr) o (evA tm) r (wb ++ (rst (X.getD k []) bx ++ bxr)) (wo ++ (rst (X.getD k []) ow ++ owr)))
      (h : ERun P ops W X (k + 1) rest (tput o.dst r tm) (wb ++ bx) (wo ++ ow) tm' bx' ow') : ERun P ops W X k (o :: rest) tm bx ow tm' bx' ow'
/-- what one operation of such a run is -/
structure EAt (P : Program) (ops : Array Oper) (W X : List (List Nat)) (i : Nat) (o : Oper) (tm : List (Nat × A)) (bx bx' : List (Nat × List A)) (ow ow' : List (Nat × Own)) (x : A) : Prop where
  go : (GuardIs ops tm o true ∧ W.getD i [] = [] ∧ bx' = bx ∧ ow' = ow ∧ ∀ bxr owr, PureOp P (rst (X.getD i []) bx ++ bxr) (rst (X.getD i []) ow ++ owr) o (evA tm) x) ∨
    (GuardIs ops tm o false ∧ W.getD i [] = [] ∧ bx' = bx ∧ ow' = ow ∧ x = .t (.v undef)) ∨
    (GuardIs ops tm o true ∧ ∃ wb wo, (wb.all fun p => (W.getD i []).contains p.1) = true ∧ (wo.all fun p => (W.getD i []).contains p.1) = true ∧ bx' = wb ++ bx ∧ ow' = wo ++ ow ∧
      ∀ bxr owr, (∀ j, (X.getD i []).contains j = false → get bx j = none → get bxr j = none) → (∀ j, (X.getD i []).contains j = false → get ow j = none → get owr j = none) → EStep P (rst (X.getD i []) bx ++ bxr) (rst (X.getD i []) ow ++ owr) o (evA tm) x (wb ++ (rst (X.getD i []) bx ++ bxr)) (wo ++ (rst (X.getD i []) ow ++ owr)))
theorem erun_at {P : Program} {ops : Array Oper} {W X : List (List Nat)} {k : Nat} {l : List Oper} {tm tm' : List (Nat × A)} {bx bx' : List (Nat × List A)} {ow ow' : List (Nat × Own)} (h : ERun P ops W X k l tm bx ow tm' bx' ow') :
    ∃ (val : Nat → A) (tms : Nat → List (Nat × A)) (bxs : Nat → List (Nat × List A)) (ows : Nat → List (Nat × Own)), tms k = tm ∧ bxs k = bx ∧ ows k = ow ∧ tms (k + l.length) = tm' ∧ bxs (k + l.length) = bx' ∧ ows (k + l.length) = ow' ∧
      ∀ (i : Nat) o, l[i]? = some o → tms (k + i + 1) = tput o.dst (val (k + i)) (tms (k + i)) ∧ EAt P ops W X (k + i) o (tms (k + i)) (bxs (k + i)) (bxs (k + i + 1)) (ows (k + i)) (ows (k + i + 1)) (val (k + i)) := by
  have glue : ∀ {k : Nat} {o : Oper} {rest : List Oper} {tm tm' : List (Nat × A)} {bx bx1 bx' : List (Nat × List A)} {ow ow1 ow' : List (Nat × Own)} {r : A}, EAt P ops W X k o tm bx bx1 ow ow1 r →
      (∃ (val : Nat → A) (tms : Nat → List (Nat × A)) (bxs : Nat → List (Nat × List A)) (ows : Nat → List (Nat × Own)), tms (k + 1) = tput o.dst r tm ∧ bxs (k + 1) = bx1 ∧ ows (k + 1) = ow1 ∧ tms (k + 1 + rest.length) = tm' ∧ bxs (k + 1 + rest.length) = bx' ∧ ows (k + 1 + rest.length) = ow' ∧
        ∀ (i : Nat) o, rest[i]? = some o → tms (k + 1 + i + 1) = tput o.dst (val (k + 1 + i)) (tms (k + 1 + i)) ∧ EAt P ops W X (k + 1 + i) o (tms (k + 1 + i)) (bxs (k + 1 + i)) (bxs (k + 1 + i + 1)) (ows (k + 1 + i)) (ows (k + 1 + i + 1)) (val (k + 1 + i))) →
      ∃ (val : Nat → A) (tms : Nat → List (Nat × A)) (bxs : Nat → List (Nat × List A)) (ows : Nat → List (Nat × Own)), tms k = tm ∧ bxs k = bx ∧ ows k = ow ∧ tms (k + (o :: rest).length) = tm' ∧ bxs (k + (o :: rest).length) = bx' ∧ ows (k + (o :: rest).length) = ow' ∧
        ∀ (i : Nat) o', (o :: rest)[i]? = some o' → tms (k + i + 1) = tput o'.dst (val (k + i)) (tms (k + i)) ∧ EAt P ops W X (k + i) o' (tms (k + i)) (bxs (k + i)) (bxs (k + i + 1)) (ows (k + i)) (ows (k + i + 1)) (val (k + i)) := by
    rintro k o rest tm tm' bx bx1 bx' ow ow1 ow' r hat ⟨val, tms, bxs, ows, h1, h2, h3, h4, h5, h6, h7⟩
    have ne : ∀ q, k + 1 + q ≠ k := fun q => by omega
    refine ⟨fun j => if j = k then r else val j, fun j => if j = k then tm else tms j, fun j => if j = k then bx else bxs j, fun j => if j = k then ow else ows j, if_pos rfl, if_pos rfl, if_pos rfl, ?_, ?_, ?_, ?_⟩
    · show (if k + (o :: rest).length = k then tm else tms (k + (o :: rest).length)) = _
      rw [if_neg (by rw [List.length_cons]; omega), List.length_cons, show k + (rest.length + 1) = k + 1 + rest.length by omega]; exact h4
    · show (if k + (o :: rest).length = k then bx else bxs (k + (o :: rest).length)) = _
      rw [if_neg (by rw [List.length_cons]; omega), List.length_cons, show k + (rest.length + 1) = k + 1 + rest.length by omega]; exact h5
    · show (if k + (o :: rest).length = k then ow else ows (k + (o :: rest).length)) = _
      rw [if_neg (by rw [List.length_cons]; omega), List.length_cons, show k + (rest.length + 1) = k + 1 + rest.length by omega]; exact h6
    · intro i o' ho
      cases i with
      | zero =>
        simp at ho; subst ho
        simp only [Nat.add_zero, if_pos, if_neg (show ¬ (k + 1 = k) by omega)]
        rw [h1, h2, h3]
        exact ⟨rfl, hat⟩
      | succ i =>
        simp at ho
        have := h7 i o' ho
        rw [show k + (i + 1) = k + 1 + i by omega]
        simp only [if_neg (ne i), if_neg (show ¬ (k + 1 + i + 1 = k) by omega)]
        exact this
  induction h with
  | nil k tm bx ow => exact ⟨fun _ => default, fun _ => tm, fun _ => bx, fun _ => ow, rfl, rfl, rfl, rfl, rfl, rfl, fun i o h => by simp at h⟩
  | on hg hW hp _ ih => exact glue ⟨.inl ⟨hg, hW, rfl, rfl, hp⟩⟩ ih
  | off hg hW _ ih => exact glue ⟨.inr (.inl ⟨hg, hW, rfl, rfl, rfl⟩)⟩ ih
  | eff wb wo hg hW1 hW2 he _ ih => exact glue ⟨.inr (.inr ⟨hg, wb, wo, hW1, hW2, rfl, rfl, he⟩)⟩ ih
theorem tms_getE {ops : Array Oper} {val : Nat → A} {tms : Nat → List (Nat × A)} {n : Nat} (h : ∀ i, i < n → tms (i + 1) = tput (dstOf ops i) (val i) (tms i)) : ∀ i, i ≤ n → ∀ s x, get (tms i) s = some x → (∃ j, j < i ∧ dstOf ops j = some s ∧ x = val j) ∨ (get (tms 0) s = some x ∧ ∀ j, j < i → dstOf ops j ≠ some s)
  | 0, _, s, x, hx => .inr ⟨hx, fun j hj => by omega⟩
  | i + 1, hi, s, x, hx => by
    have ht := h i (by omega)
    have step : ∀ {y}, get (tms i) s = some y → dstOf ops i ≠ some s → (∃ j, j < i + 1 ∧ dstOf ops j = some s ∧ y = val j) ∨ (get (tms 0) s = some y ∧ ∀ j, j < i + 1 → dstOf ops j ≠ some s) := fun hy hn => by
      rcases tms_getE h i (by omega) s _ hy with ⟨j, h1, h2, h3⟩ | ⟨h1, h2⟩
      · exact .inl ⟨j, by omega, h2, h3⟩
      · refine .inr ⟨h1, fun j hj => ?_⟩
        rcases Nat.lt_or_ge j i with h3 | h3
        · exact h2 j h3
        · obtain rfl : j = i := by omega
          exact hn
    cases hd : dstOf ops i with
    | none => rw [ht, hd] at hx; exact step hx (by rw [hd]; simp)
    | some d =>
      rw [ht, hd] at hx
      change get ((d, val i) :: tms i) s = some x at hx
      rw [get_cons] at hx
      by_cases hds : d = s
      · rw [if_pos hds] at hx; injection hx with hx; subst hds
        exact .inl ⟨i, by omega, hd, hx.symm⟩
      · rw [if_neg hds] at hx
        exact step hx (by rw [hd]; simp [hds])
structure SAny (P : Program) (N : Nat) (ops : Array Oper) (W X : List (List Nat)) (Q : Exit → St → Prop) (k : Nat) (l : List Oper) (st : St) : Prop where
  go : ∃ tm' bx' ow', ERun P ops W X k l st.tm st.bx st.ow tm' bx' ow' ∧ Q .normal ⟨tm', bx', ow'⟩
section
variable {P : Program} {N : Nat} {Q : Exit → St → Prop} {ops : Array Oper} {W X : List (List Nat)} {k : Nat} {rest : List Oper} {o : Oper} {tm : List (Nat × A)} {bx : List (Nat × List A)} {ow : List (Nat × Own)}
theorem sany_nil {st : St} (h : Q .normal st) : SAny P N ops W X Q k [] st := ⟨⟨_, _, _, .nil k _ _ _, h⟩⟩
theorem sany_pure {d : Nat} {r : A} (hg : GuardIs ops tm o true) (hd : o.dst = some d) (hW : W.getD k [] = []) (hp : ∀ bxr owr, PureOp P (rst (X.getD k []) bx ++ bxr) (rst (X.getD k []) ow ++ owr) o (evA tm) r) (h : SAny P N ops W X Q (k + 1) rest ⟨(d, r) :: tm, bx, ow⟩) : SAny P N ops W X Q k (o :: rest) ⟨tm, bx, ow⟩ := by
  obtain ⟨tm', bx', ow', h1, h2⟩ := h
  exact ⟨⟨tm', bx', ow', .on hg hW hp (by rw [hd]; exact h1), h2⟩⟩
theorem sany_skip {d : Nat} (hg : GuardIs ops tm o false) (hd : o.dst = some d) (hW : W.getD k [] = []) (h : SAny P N ops W X Q (k + 1) rest ⟨(d, .t (.v undef)) :: tm, bx, ow⟩) : SAny P N ops W X Q k (o :: rest) ⟨tm, bx, ow⟩ := by
  obtain ⟨tm', bx', ow', h1, h2⟩ := h
  exact ⟨⟨tm', bx', ow', .off hg hW (by rw [hd]; exact h1), h2⟩⟩
theorem sany_split {j e : Nat} {want b : Bool} (hg : o.guard = some (j, want)) (hj : dstOf ops j = some e) (hs : get tm e = some (.t (.v (.bool b)))) (h1 : b = true → SAny P N ops W X Q k (o :: rest) ⟨tm, bx, ow⟩) (h0 : b = false → SAny P N ops W X Q k (o :: rest) ⟨tm, bx, ow⟩) : SAny P N ops W X Q k (o :: rest) ⟨tm, bx, ow⟩ := by
  cases b
  · exact h0 rfl
  · exact h1 rfl
theorem sany_eff {r : A} (wb : List (Nat × List A)) (wo : List (Nat × Own)) (hg : GuardIs ops tm o true) (hW1 : (wb.all fun p => (W.getD k []).contains p.1) = true) (hW2 : (wo.all fun p => (W.getD k []).contains p.1) = true)
    (he : ∀ bxr owr, (∀ i, (X.getD k []).contains i = false → get bx i = none → get bxr i = none) → (∀ i, (X.getD k []).contains i = false → get ow i = none → get owr i = none) → EStep P (rst (X.getD k []) bx ++ bxr) (rst (X.getD k []) ow ++ owr) o (evA tm) r (wb ++ (rst (X.getD k []) bx ++ bxr)) (wo ++ (rst (X.getD k []) ow ++ owr)))
    (h : SAny P N ops W X Q (k + 1) rest ⟨tput o.dst r tm, wb ++ bx, wo ++ ow⟩) : SAny P N ops W X Q k (o :: rest) ⟨tm, bx, ow⟩ := by
  obtain ⟨tm', bx', ow', h1, h2⟩ := h
  exact ⟨⟨tm', bx', ow', .eff wb wo hg hW1 hW2 he h1, h2⟩⟩
end
/-- what holds while such a region runs -/
structure AnyI (C : Ctx) (n : Nat) (W : List (List Nat)) (val : Nat → A) (bxs : Nat → List (Nat × List A)) (ows : Nat → List (Nat × Own)) (tm : List (Nat × A)) (a : Act) (vals : Nat → Option Value) (w' : World) (m' : Mm) (g' : Gh) (bxc : List (Nat × List A)) (owc : List (Nat × Own)) : Prop where
  env : EnvG C bxc owc w' m' g'
  vs : ∀ i v, vals i = some v → i < n → AR m' g' (val i) v
  old : ∀ s x, get tm s = some x → AR m' g' x (a.eval (.tmp s))
  pb : ∀ x, ∃ p, p ≤ n ∧ (∀ j, j < n → x ∈ W.getD j [] → ((vals j).isSome = true ↔ j < p)) ∧ get bxc x = get (bxs p) x
  po : ∀ x, ∃ p, p ≤ n ∧ (∀ j, j < n → x ∈ W.getD j [] → ((vals j).isSome = true ↔ j < p)) ∧ get owc x = get (ows p) x
theorem no_write {β : Type} {W : List (List Nat)} {f : Nat → List (Nat × β)} {n : Nat} (h : ∀ i, i < n → ∀ x, x ∉ W.getD i [] → get (f (i + 1)) x = get (f i) x) {x : Nat} : ∀ (d p : Nat), p + d ≤ n → (∀ j, p ≤ j → j < p + d → x ∉ W.getD j []) → get (f (p + d)) x = get (f p) x
  | 0, p, _, _ => rfl
  | d + 1, p, hn, hw => by
    rw [show p + (d + 1) = (p + d) + 1 by omega, h (p + d) (by omega) x (hw _ (by omega) (by omega))]
    exact no_write h d p (by omega) fun j h1 h2 => hw j h1 (by omega)
set_option maxHeartbeats 2000000 in
/-- a region that draws its order: whatever the order, what its operations leave in the text's order -/
theorem swp_any {P : Program} {N : Nat} {Q : Exit → St → Prop} {id : Nat} {l : List Oper} {tm : List (Nat × A)} {bx : List (Nat × List A)} {ow : List (Nat × Own)} (W X : List (List Nat)) (hm : P.follows .mixedOrders = true) (hB : anyB l.toArray N W X = true)
    (h : SAny P N l.toArray W X Q 0 l ⟨tm, bx, ow⟩) : SWp P N (.region id l.toArray true) Q ⟨tm, bx, ow⟩ := by
  obtain ⟨tm', bx', ow', hrun, hQ⟩ := h
  obtain ⟨val, tms, bxs, ows, ht0, hb0, ho0, htn, hbn, hon_, hstep⟩ := erun_at hrun
  rw [Nat.zero_add] at htn hbn hon_
  generalize hops' : l.toArray = ops at *
  have hlsz : l.length = ops.size := by rw [← hops']; simp
  rw [hlsz] at htn hbn hon_
  unfold anyB at hB
  simp only [Bool.and_eq_true] at hB
  obtain ⟨⟨hB1, hB2⟩, hB3⟩ := hB
  rw [List.all_eq_true] at hB1 hB2 hB3
  have hdl : ∀ i, i < ops.size → ∀ j ∈ deps ops i, j < i := fun i hi j hj => by
    have := hB1 i (by simpa using hi)
    simp only [Bool.and_eq_true] at this
    simpa using (List.all_eq_true.1 this.1) j hj
  have hwr : ∀ i d, i < ops.size → dstOf ops i = some d → writer ops d = some i ∧ d < N := fun i d hi hd => by
    have := hB1 i (by simpa using hi)
    simp only [Bool.and_eq_true] at this
    have h2 := this.2
    rw [hd] at h2
    simpa only [Bool.and_eq_true, decide_eq_true_eq] using h2
  have hops : ∀ i, i < ops.size → ∃ o, ops[i]? = some o ∧ l[i]? = some o := by
    intro i hi
    have hil : i < l.length := by omega
    refine ⟨l[i], ?_, List.getElem?_eq_getElem hil⟩
    have h0 : l.toArray[i]? = some l[i] := by simp [List.getElem?_eq_getElem hil]
    rwa [hops'] at h0
  have hat : ∀ i o, ops[i]? = some o → tms (i + 1) = tput o.dst (val i) (tms i) ∧ EAt P ops W X i o (tms i) (bxs i) (bxs (i + 1)) (ows i) (ows (i + 1)) (val i) := fun i o ho => by
    have hi : i < ops.size := by
      rcases Nat.lt_or_ge i ops.size with h | h
      · exact h
      · rw [Array.getElem?_eq_none h] at ho; cases ho
    obtain ⟨o', h1, h2⟩ := hops i hi
    rw [ho] at h1; injection h1 with h1; subst h1
    have := hstep i o h2
    rwa [Nat.zero_add] at this
  have htput : ∀ i, i < ops.size → tms (i + 1) = tput (dstOf ops i) (val i) (tms i) := fun i hi => by
    obtain ⟨o, h1, _⟩ := hops i hi
    have := (hat i o h1).1
    unfold dstOf; rw [h1]; exact this
  have hnwb : ∀ i, i < ops.size → ∀ x, x ∉ W.getD i [] → get (bxs (i + 1)) x = get (bxs i) x := fun i hi x hx => by
    obtain ⟨o, h1, _⟩ := hops i hi
    rcases (hat i o h1).2.go with ⟨_, _, h2, _⟩ | ⟨_, _, h2, _⟩ | ⟨_, wb, wo, h2, _, h3, _⟩
    · rw [h2]
    · rw [h2]
    · rw [h3, get_append]
      cases hg : get wb x with
      | none => rfl
      | some y => exact absurd (by simpa using (List.all_eq_true.1 h2) _ (get_mem hg)) hx
  have hnwo : ∀ i, i < ops.size → ∀ x, x ∉ W.getD i [] → get (ows (i + 1)) x = get (ows i) x := fun i hi x hx => by
    obtain ⟨o, h1, _⟩ := hops i hi
    rcases (hat i o h1).2.go with ⟨_, _, _, h2, _⟩ | ⟨_, _, _, h2, _⟩ | ⟨_, wb, wo, _, h2, _, h3, _⟩
    · rw [h2]
    · rw [h2]
    · rw [h3, get_append]
      cases hg : get wo x with
      | none => rfl
      | some y => exact absurd (by simpa using (List.all_eq_true.1 h2) _ (get_mem hg)) hx
  -- an operation's numbers, and the others'
  have hord : ∀ k j x, k < ops.size → j < ops.size → j ≠ k → x ∈ W.getD j [] → ((X.getD k []).contains x = false ∨ x ∈ W.getD k []) → ordB (ancL ops ops.size) j k = true := by
    intro k j x hk hj hjk hx hor
    have h1 := hB3 k (by simpa using hk)
    simp only [Bool.and_eq_true] at h1
    have h2 := (List.all_eq_true.1 h1.2) j (by simpa using hj)
    simp only [Bool.or_eq_true] at h2
    rcases h2 with (h2 | h2) | h2
    · exact absurd (Nat.eq_of_beq_eq_true h2) hjk
    · exact h2
    · have h3 := (List.all_eq_true.1 h2) x hx
      simp only [Bool.and_eq_true, Bool.not_eq_true'] at h3
      rcases hor with h4 | h4
      · rw [h4] at h3; exact absurd h3.1 (by simp)
      · have h5 : (W.getD k []).contains x = true := by simpa using h4
        rw [h5] at h3; exact absurd h3.2 (by simp)
  have hWX : ∀ k x, k < ops.size → x ∈ W.getD k [] → (X.getD k []).contains x = false := fun k x hk hx => by
    have h1 := hB3 k (by simpa using hk)
    simp only [Bool.and_eq_true] at h1
    simpa using (List.all_eq_true.1 h1.1) x hx
  refine .mk fun C a w ⟨m, g, hr⟩ => ?_
  have hfn := frame_none ops a
  have hev : ∀ {vals : Nat → Option Value} {i d v}, i < ops.size → dstOf ops i = some d → vals i = some v → (frame ops a vals).eval (.tmp d) = v := fun {vals i d v} hi hd hv => by
    obtain ⟨h1, h2⟩ := hwr i d hi hd
    exact frame_eval h1 hv (by rw [hr.size]; exact h2)
  have hslot : ∀ (vals : Nat → Option Value) (w' : World) (m' : Mm) (g' : Gh) (bxc : List (Nat × List A)) (owc : List (Nat × Own)), AnyI C ops.size W val bxs ows tm a vals w' m' g' bxc owc → ∀ i, i ≤ ops.size → ∀ s, (match writer ops s with | none => true | some j => (decide (j < i) && (vals j).isSome)) = true → ∀ y, get (tms i) s = some y → AR m' g' y ((frame ops a vals).eval (.tmp s)) := by
    intro vals w' m' g' bxc owc hI i hi s hs y hy
    rcases tms_getE htput i hi s y hy with ⟨j, hj1, hj2, rfl⟩ | ⟨hg0, hnone⟩
    · have hw := (hwr j s (by omega) hj2).1
      rw [hw] at hs
      simp only [Bool.and_eq_true, decide_eq_true_eq] at hs
      obtain ⟨v, hv⟩ := Option.isSome_iff_exists.1 hs.2
      rw [hev (by omega) hj2 hv]
      exact hI.vs j v hv (by omega)
    · rw [ht0] at hg0
      cases hw : writer ops s with
      | none => rw [frame_old hw]; exact hI.old s y hg0
      | some j =>
        rw [hw] at hs
        simp only [Bool.and_eq_true, decide_eq_true_eq] at hs
        exact absurd (writer_spec hw) (hnone j hs.1)
  have hput : ∀ (vals : Nat → Option Value) (i : Nat) (o : Oper) (v : Value), ops[i]? = some o → (frame ops a vals).put o.dst v = frame ops a (setV vals i v) := by
    intro vals i o v ho
    have hi : i < ops.size := by
      rcases Nat.lt_or_ge i ops.size with h | h
      · exact h
      · rw [Array.getElem?_eq_none h] at ho; cases ho
    cases hd : o.dst with
    | some d => exact frame_put (hwr i d hi (by unfold dstOf; rw [ho]; exact hd)).1 v
    | none =>
      refine frame_put_none (fun s hs => ?_) v v
      have := writer_spec hs
      rw [ho] at this
      simp only [Option.bind_some, hd] at this
      cases this
  have hd0 : Lo w w.drew := (Lo.refl w).drew
  refine wp_region_any hm (wpAny_inv (fun listed a' w' => listed.size = ops.size ∧ Closed ops listed ∧ ∃ vals m' g' bxc owc, a' = frame ops a vals ∧ (∀ i, isOn listed i = (vals i).isSome) ∧ AnyI C ops.size W val bxs ows tm a vals w' m' g' bxc owc) ?_ ?_ _ _ _ _ ⟨by simp, ?_, fun _ => none, m, g, bx, ow, hfn.symm, ?_, ⟨hr.env.step hd0 (Ext.refl _ _) (hr.env.sub.lo hd0), fun i v h => (by cases h), hr.tmps, fun x => ⟨0, Nat.zero_le _, fun j _ _ => by simp, by rw [hb0]⟩, fun x => ⟨0, Nat.zero_le _, fun j _ _ => by simp, by rw [ho0]⟩⟩⟩ (by simp) (by simp [List.countP_replicate]))
  · rintro listed a' w' i ⟨hsz, hcl, vals, m', g', bxc, owc, rfl, hon, hI⟩ _ hrd
    obtain ⟨hlt, hoff, hdeps⟩ := ready_spec hrd
    have hcl' : Closed ops (listed.setIfInBounds i true) := by
      intro x y hx hy
      rw [isOn_set (by omega)] at hx ⊢
      by_cases hxi : x = i
      · subst hxi; rw [hdeps y hy]; simp
      · simp [hxi] at hx
        rw [hcl x y hx hy]; simp
    have hon' : ∀ v x, isOn (listed.setIfInBounds i true) x = (setV vals i v x).isSome := by
      intro v x
      rw [isOn_set (by omega)]
      by_cases hx : x = i
      · subst hx; simp [setV]
      · simp [setV, hx, hon x]
    have hvi : vals i = none := by rw [hon i] at hoff; simpa using hoff
    have hfin : ∀ v w'' m'' g'' bx2 ow2, AnyI C ops.size W val bxs ows tm a (setV vals i v) w'' m'' g'' bx2 ow2 → (listed.setIfInBounds i true).size = ops.size ∧ Closed ops (listed.setIfInBounds i true) ∧ ∃ vals' m' g' bxc owc, frame ops a (setV vals i v) = frame ops a vals' ∧ (∀ x, isOn (listed.setIfInBounds i true) x = (vals' x).isSome) ∧ AnyI C ops.size W val bxs ows tm a vals' w'' m' g' bxc owc :=
      fun v w'' m'' g'' bx2 ow2 h => ⟨by simpa using hsz, hcl', _, m'', g'', bx2, ow2, rfl, hon' v, h⟩
    obtain ⟨o, ho⟩ : ∃ o, ops[i]? = some o := ⟨_, Array.getElem?_eq_getElem hlt⟩
    unfold wpOp
    rw [ho]
    simp only
    -- who writes what this one looks at has gone before, or comes behind
    have hpos : ∀ j x, j < ops.size → j ≠ i → x ∈ W.getD j [] → ((X.getD i []).contains x = false ∨ x ∈ W.getD i []) → ((vals j).isSome = true ↔ j < i) := by
      intro j x hj hji hx hor
      have h1 := hord i j x hlt hj hji hx hor
      unfold ordB at h1
      rw [Bool.or_eq_true] at h1
      rcases h1 with h1 | h1
      · have h2 := anc_on hcl hdl i hlt hdeps ops.size hlt j (by simpa using h1)
        exact ⟨fun _ => h2.2, fun _ => by rw [← hon j]; exact h2.1⟩
      · have h1' : i ∈ (ancL ops ops.size).getD j [] := by simpa using h1
        have h2 := anc_lt hdl j hj ops.size hj i h1'
        refine ⟨fun h3 => ?_, fun h3 => by omega⟩
        rw [← hon j] at h3
        have h4 := (anc_on hcl hdl j hj (fun y hy => hcl j y h3 hy) ops.size hj i h1').1
        rw [hoff] at h4; cases h4
    have hposB : ∀ x, (X.getD i []).contains x = false → get bxc x = get (bxs i) x := by
      intro x hx
      obtain ⟨p, hp, h1, h2⟩ := hI.pb x
      rw [h2]
      have hw : ∀ j, j < ops.size → x ∈ W.getD j [] → (j < p ↔ j < i) ∨ j = i := fun j hj hxj => by
        by_cases hji : j = i
        · exact .inr hji
        · exact .inl ((h1 j hj hxj).symm.trans (hpos j x hj hji hxj (.inl hx)))
      have hwi : x ∈ W.getD i [] → ¬ i < p := fun h3 h4 => by
        have := (h1 i hlt h3).2 h4
        rw [hvi] at this; cases this
      rcases Nat.le_total p i with hpi | hpi
      · obtain ⟨d, rfl⟩ : ∃ d, i = p + d := ⟨i - p, by omega⟩
        exact (no_write hnwb d p (by omega) fun j h3 h4 hxj => by
          rcases hw j (by omega) hxj with h5 | h5
          · have := h5.2 h4; omega
          · omega).symm
      · obtain ⟨d, rfl⟩ : ∃ d, p = i + d := ⟨p - i, by omega⟩
        exact no_write hnwb d i (by omega) fun j h3 h4 hxj => by
          rcases hw j (by omega) hxj with h5 | h5
          · have := h5.1 h4; omega
          · subst h5; exact hwi hxj h4
    have hposO : ∀ x, (X.getD i []).contains x = false → get owc x = get (ows i) x := by
      intro x hx
      obtain ⟨p, hp, h1, h2⟩ := hI.po x
      rw [h2]
      have hw : ∀ j, j < ops.size → x ∈ W.getD j [] → (j < p ↔ j < i) ∨ j = i := fun j hj hxj => by
        by_cases hji : j = i
        · exact .inr hji
        · exact .inl ((h1 j hj hxj).symm.trans (hpos j x hj hji hxj (.inl hx)))
      have hwi : x ∈ W.getD i [] → ¬ i < p := fun h3 h4 => by
        have := (h1 i hlt h3).2 h4
        rw [hvi] at this; cases this
      rcases Nat.le_total p i with hpi | hpi
      · obtain ⟨d, rfl⟩ : ∃ d, i = p + d := ⟨i - p, by omega⟩
        exact (no_write hnwo d p (by omega) fun j h3 h4 hxj => by
          rcases hw j (by omega) hxj with h5 | h5
          · have := h5.2 h4; omega
          · omega).symm
      · obtain ⟨d, rfl⟩ : ∃ d, p = i + d := ⟨p - i, by omega⟩
        exact no_write hnwo d i (by omega) fun j h3 h4 hxj => by
          rcases hw j (by omega) hxj with h5 | h5
          · have := h5.1 h4; omega
          · subst h5; exact hwi hxj h4
    have hgetB : ∀ x, get (rst (X.getD i []) (bxs i) ++ bxc) x = get bxc x := fun x => by
      rw [get_append, get_rst]
      cases hx : (X.getD i []).contains x with
      | true => rfl
      | false =>
        rw [hposB x hx]
        cases get (bxs i) x <;> rfl
    have hgetO : ∀ x, get (rst (X.getD i []) (ows i) ++ owc) x = get owc x := fun x => by
      rw [get_append, get_rst]
      cases hx : (X.getD i []).contains x with
      | true => rfl
      | false =>
        rw [hposO x hx]
        cases get (ows i) x <;> rfl
    have henv : EnvG C (rst (X.getD i []) (bxs i) ++ bxc) (rst (X.getD i []) (ows i) ++ owc) w' m' g' := hI.env.same hgetB hgetO
    have hB2' := hB2 i (by simpa using hlt)
    rw [ho] at hB2'
    simp only [Bool.and_eq_true] at hB2'
    have hdv : ∀ j, (deps ops i).contains j = true → (vals j).isSome = true := fun j hj => by rw [← hon j]; exact hdeps j (by simpa using hj)
    have hs1 : ∀ s, (match writer ops s with | none => true | some j => decide (j < i) && (deps ops i).contains j) = true → ∀ y, get (tms i) s = some y → AR m' g' y ((frame ops a vals).eval (.tmp s)) := by
      intro s hs y hy
      refine hslot vals w' m' g' bxc owc hI i (by omega) s ?_ y hy
      cases hw : writer ops s with
      | none => rfl
      | some j =>
        rw [hw] at hs
        simp only [Bool.and_eq_true] at hs ⊢
        exact ⟨hs.1, hdv j hs.2⟩
    have hgd : ∀ j want e, o.guard = some (j, want) → dstOf ops j = some e → ∀ y, get (tms i) e = some y → AR m' g' y ((frame ops a vals).eval (.tmp e)) := by
      intro j want e hg he y hy
      have h3 := hB2'.2
      rw [hg] at h3
      refine hs1 e ?_ y hy
      have hji : j < i := by simp only [Bool.and_eq_true, decide_eq_true_eq] at h3; exact h3.1
      rw [(hwr j e (by omega) he).1]
      exact h3
    have hops' : ∀ x ∈ o.op.operands.toList, ∀ y, evA (tms i) x = some y → AR m' g' y ((frame ops a vals).eval x) := by
      intro x hx y hy
      cases x with
      | tmp s => exact hs1 s ((List.all_eq_true.1 hB2'.1) s (mem_slots hx)) y hy
      | const v => injection hy with hy; subst hy; exact TR.v v
      | func f => injection hy with hy; subst hy; exact TR.v _
      | global i => cases hy
    have hset : ∀ v j, j ≠ i → setV vals i v j = vals j := fun v j hj => setV_other _ hj v
    -- what is added and turns nothing
    have hquiet : ∀ v w'' m'', W.getD i [] = [] → Lo w' w'' → Ext m' m'' w'.heap.size → Sub m'' w'' → AR m'' g' (val i) v → AnyI C ops.size W val bxs ows tm a (setV vals i v) w'' m'' g' bxc owc := by
      intro v w'' m'' hW hl he hs hv
      refine ⟨hI.env.step hl he hs, fun x u hu hx => ?_, fun s x hx => (hI.old s x hx).mono he.1, fun x => ?_, fun x => ?_⟩
      · by_cases hxi : x = i
        · subst hxi; rw [setV_same] at hu; injection hu with hu; subst hu; exact hv
        · rw [hset v x hxi] at hu; exact (hI.vs x u hu hx).mono he.1
      · obtain ⟨p, h1, h2, h3⟩ := hI.pb x
        refine ⟨p, h1, fun j hj hxj => ?_, h3⟩
        have hji : j ≠ i := fun e => by subst e; rw [hW] at hxj; cases hxj
        rw [hset v j hji]; exact h2 j hj hxj
      · obtain ⟨p, h1, h2, h3⟩ := hI.po x
        refine ⟨p, h1, fun j hj hxj => ?_, h3⟩
        have hji : j ≠ i := fun e => by subst e; rw [hW] at hxj; cases hxj
        rw [hset v j hji]; exact h2 j hj hxj
    rcases (hat i o ho).2.go with ⟨hg, hW, _, _, hp⟩ | ⟨hg, hW, _, _, hv⟩ | ⟨hg, wb, wo, hW1, hW2, hbe, hoe, he⟩
    · rw [if_pos (hg.wanted hgd)]
      refine .inl (Oper.wp_mono ?_ ((hp bxc owc).go C m' g' w' (frame ops a vals) _ henv hops'))
      rintro a2 w2 ⟨v, m2, rfl, hl2, he2, hs2, hv2⟩
      rw [hput vals i o v ho]
      exact hfin v w2 m2 g' bxc owc (hquiet v w2 m2 hW hl2 he2 hs2 hv2)
    · rw [if_neg (by rw [hg.wanted hgd]; simp)]
      rw [hput vals i o _ ho]
      exact hfin _ w' m' g' bxc owc (hquiet _ w' m' hW (Lo.refl _) (Ext.refl _ _) hI.env.sub (by rw [hv]; exact TR.v _))
    · rw [if_pos (hg.wanted hgd)]
      refine .inl (Oper.wp_mono ?_ ((he bxc owc (fun x hx hn => by rw [hposB x hx]; exact hn) (fun x hx hn => by rw [hposO x hx]; exact hn)).go C m' g' w' (frame ops a vals) _ henv hops'))
      rintro a2 w2 ⟨v, m2, g2, rfl, henv2, hv2, hk2⟩
      rw [hput vals i o v ho]
      refine hfin v w2 m2 g2 _ _ ⟨henv2, fun x u hu hx => ?_, fun s x hx => hk2 _ _ (hI.old s x hx), fun x => ?_, fun x => ?_⟩
      · by_cases hxi : x = i
        · subst hxi; rw [setV_same] at hu; injection hu with hu; subst hu; exact hv2
        · rw [hset v x hxi] at hu; exact hk2 _ _ (hI.vs x u hu hx)
      · by_cases hxW : x ∈ W.getD i []
        · refine ⟨i + 1, by omega, fun j hj hxj => ?_, ?_⟩
          · by_cases hji : j = i
            · subst hji; rw [setV_same]; simp
            · rw [hset v j hji, hpos j x hj hji hxj (.inr hxW)]; omega
          · rw [hbe, get_append wb (rst (X.getD i []) (bxs i) ++ bxc), hgetB, hposB x (hWX i x hlt hxW), get_append wb (bxs i)]
        · obtain ⟨p, h1, h2, h3⟩ := hI.pb x
          refine ⟨p, h1, fun j hj hxj => ?_, ?_⟩
          · have hji : j ≠ i := fun e => by subst e; exact hxW hxj
            rw [hset v j hji]; exact h2 j hj hxj
          · rw [get_append]
            cases hgw : get wb x with
            | none => simp only; rw [hgetB]; exact h3
            | some y => exact absurd (by simpa using (List.all_eq_true.1 hW1) _ (get_mem hgw)) hxW
      · by_cases hxW : x ∈ W.getD i []
        · refine ⟨i + 1, by omega, fun j hj hxj => ?_, ?_⟩
          · by_cases hji : j = i
            · subst hji; rw [setV_same]; simp
            · rw [hset v j hji, hpos j x hj hji hxj (.inr hxW)]; omega
          · rw [hoe, get_append wo (rst (X.getD i []) (ows i) ++ owc), hgetO, hposO x (hWX i x hlt hxW), get_append wo (ows i)]
        · obtain ⟨p, h1, h2, h3⟩ := hI.po x
          refine ⟨p, h1, fun j hj hxj => ?_, ?_⟩
          · have hji : j ≠ i := fun e => by subst e; exact hxW hxj
            rw [hset v j hji]; exact h2 j hj hxj
          · rw [get_append]
            cases hgw : get wo x with
            | none => simp only; rw [hgetO]; exact h3
            | some y => exact absurd (by simpa using (List.all_eq_true.1 hW2) _ (get_mem hgw)) hxW
  · rintro listed a' w' ⟨hsz, hcl, vals, m', g', bxc, owc, rfl, hon, hI⟩ hrd
    have hall : ∀ k, ∀ i, i < k → i < ops.size → isOn listed i = true := by
      intro k
      induction k with
      | zero => intro i hi; omega
      | succ k ih =>
        intro i hi hs
        rcases Nat.lt_or_ge i k with h | h
        · exact ih i h hs
        · have hik : i = k := by omega
          subst hik
          rcases Bool.eq_false_or_eq_true (isOn listed i) with h1 | h1
          · exact h1
          · exfalso
            have hmem : i ∈ Region.ready .any ops listed := by
              unfold Region.ready
              rw [List.mem_filter, List.mem_range]
              refine ⟨hs, ?_⟩
              simp only [Bool.and_eq_true, Bool.not_eq_true']
              constructor
              · unfold isOn at h1
                rw [Array.getD_eq_getD_getElem?, Array.getElem?_eq_getElem (by omega)] at h1 ⊢
                simpa using h1
              · rw [Array.getElem?_eq_getElem hs]
                simp only [Option.map_some, Option.getD_some]
                rw [Array.all_eq_true_iff_forall_mem]
                intro e he
                rcases Bool.eq_false_or_eq_true (Region.binds .any e) with hb | hb
                · have hj : e.on ∈ deps ops i := by
                    unfold deps
                    rw [Array.getElem?_eq_getElem hs]
                    simp only [Option.map_some, Option.getD_some, List.mem_map, List.mem_filter]
                    exact ⟨e, ⟨by simpa using he, hb⟩, rfl⟩
                  have := ih e.on (hdl i hs _ hj) (by have := hdl i hs _ hj; omega)
                  unfold isOn at this
                  simp [this]
                · simp [hb]
            rw [hrd] at hmem; cases hmem
    have hvs : ∀ i, i < ops.size → (vals i).isSome = true := fun i hi => by rw [← hon i]; exact hall (i + 1) i (by omega) hi
    have hendB : ∀ x, get bx' x = get bxc x := fun x => by
      obtain ⟨p, h1, h2, h3⟩ := hI.pb x
      rw [h3, ← hbn]
      obtain ⟨d, hd⟩ : ∃ d, ops.size = p + d := ⟨ops.size - p, by omega⟩
      rw [hd]
      exact no_write hnwb d p (by omega) fun j h4 h5 hxj => by
        have := (h2 j (by omega) hxj).1 (hvs j (by omega)); omega
    have hendO : ∀ x, get ow' x = get owc x := fun x => by
      obtain ⟨p, h1, h2, h3⟩ := hI.po x
      rw [h3, ← hon_]
      obtain ⟨d, hd⟩ : ∃ d, ops.size = p + d := ⟨ops.size - p, by omega⟩
      rw [hd]
      exact no_write hnwo d p (by omega) fun j h4 h5 hxj => by
        have := (h2 j (by omega) hxj).1 (hvs j (by omega)); omega
    refine ⟨_, ⟨m', g', hI.env.same hendB hendO, by simp [frame, hr.size], hr.defers, fun s x hx => ?_⟩, hQ⟩
    refine hslot vals w' m' g' bxc owc hI ops.size (Nat.le_refl _) s ?_ x (by rw [htn]; exact hx)
    cases hw : writer ops s with
    | none => rfl
    | some j =>
      have hjs := writer_spec hw
      have hjlt : j < ops.size := by
        rcases Nat.lt_or_ge j ops.size with h | h
        · exact h
        · rw [Array.getElem?_eq_none h] at hjs; cases hjs
      simp only [Bool.and_eq_true, decide_eq_true_eq]
      exact ⟨hjlt, hvs j hjlt⟩
  · intro i j h
    unfold isOn at h
    rw [Array.getD_eq_getD_getElem?] at h
    simp only [Array.getElem?_replicate] at h
    split at h <;> cases h
  · intro i
    unfold isOn
    rw [Array.getD_eq_getD_getElem?]
    simp only [Array.getElem?_replicate]
    split <;> rfl
end Go.Proofs.YtlcecabfmemfeaaGreat.Sim
