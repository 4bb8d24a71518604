/- Merged by bundle.py: SimSp4, SimBr13a, SimSp5, SimSp6, SimSp7, SimSp8, SimV. -/
import Derived.Test.YtlcecabfmemfeaaGreatSplitBlindB1
import Derived.Test.YtlcecabfmemfeaaGreatWJudge
import Derived.Test.YtlcecabfmemfeaaGreatWLong3
/- split.table and the halves, by the logic of states. -/
namespace Go.Proofs.YtlcecabfmemfeaaGreat.Pol
set_option linter.unusedVariables false
set_option linter.unusedSimpArgs false
open Go.RowKit Mem Sim Opn
abbrev TB (fd fa : FuncId) (t0 : T) (al : Int) : List (Nat × List A) := [(2000, [.t (.clo fd [])]), (2001, [.t (.clo fa [])]), (2002, [.t t0, .t (.v (.int .i64 al))])]
def updA (al : Int) (p : Pl.Policy) : Int := if p.deny = 1 then al else 1
abbrev RulesL (f : FuncId) (k : Nat) : Prop := ∀ l : List Pl.Rule, l.length ≤ 1000 → (∀ r ∈ l, FewR r) → LCalls Tryz.prog f [.own 1000 (l.map ruleT).length] [] [(1000, ⟨46, 3, l.map ruleT⟩)] (.t (.sl 3 ((Pl.what k l).map ruleT))) [] []
set_option maxRecDepth 100000 in
set_option maxHeartbeats 2000000 in
theorem table1 (fd fa : FuncId) (D K : Nat) (hD : RulesL fd D) (hA : RulesL fa K) (p : Pl.Policy) (hp : FewP p) (t0 : T) (al : Int) :
    LCalls Tryz.prog 58 [.t (.agg (polT p)), .bp 2000 0, .bp 2001 0, .bp 2002 0] (TB fd fa t0 al) [] (.t (.agg (polT (Pl.halfP D K p)))) (TB fd fa t0 (updA al p)) [] := by
  have c1 := ownPol p hp
  have c2 := hD p.rules hp.n hp.r
  have c3 := hA p.rules hp.n hp.r
  unfold Pl.halfP updA
  refine lcalls_of Tryz.func58 rfl rfl Tryz.ntmps58 rfl ?_
  by_cases hd : p.deny = 1
  · rw [if_pos hd, if_pos hd]
    repeat' (first
      | refine then_go ?_
      | refine swp_seq ?_
      | ((refine swp_region (id := 0) ?_) <;> (refine sops_box (.free rfl rfl) rfl rfl rfl rfl rfl rfl ?_) <;> (refine sops_allocS str50 (.free rfl rfl) rfl rfl rfl rfl ?_) <;> (refine sops_nil ?_))
      | ((refine swp_region (id := 1) ?_) <;> (first | refine sops_pure (.free rfl rfl) rfl rfl (po_load_bx_agg rfl rfl (tyT rfl) rfl (vc (vc (vc (vc (vc .nil))))) rfl) ?_ | refine sops_pure (.free rfl rfl) rfl rfl (po_load_agg rfl rfl (tyT rfl) rfl rfl) ?_) <;> (first | refine sops_lcall (c2) (fun i => i) (fun i => i) (fun _ => false) (.free rfl rfl) rfl rfl rfl (by repeat' (first | exact .nil | refine .cons rfl rfl rfl ?_ | refine .vw rfl (by first | exact .t _ | exact .own rfl (by first | rfl | assumption | (simp; done) | (simp; omega)) | exact .nil _ | exact .emp _ | exact .fn _) ?_)) .nil (.cons rfl rfl .nil) rfl rfl (fun _ h => Bool.noConfusion h) ?_ | refine sops_lcall (c1) (fun i => i) (fun i => i) (fun _ => false) (.free rfl rfl) rfl rfl rfl (by repeat' (first | exact .nil | refine .cons rfl rfl rfl ?_ | refine .vw rfl (by first | exact .t _ | exact .own rfl (by first | rfl | assumption | (simp; done) | (simp; omega)) | exact .nil _ | exact .emp _ | exact .fn _) ?_)) .nil .nil rfl rfl (fun _ h => Bool.noConfusion h) ?_) <;> (refine sops_store (.free rfl rfl) rfl rfl rfl rfl rfl rfl (tyT rfl) rfl rfl ?_) <;> (refine sops_nil ?_))
      | ((refine swp_region (id := 2) ?_) <;> (first | refine sops_pure (.free rfl rfl) rfl rfl (po_field_bx rfl rfl (tyF rfl)) ?_ | refine sops_pure (.free rfl rfl) rfl rfl (po_field rfl rfl (tyF rfl)) ?_) <;> (first | refine sops_pure (.free rfl rfl) rfl rfl (po_load_bx rfl rfl (tyT rfl) rfl rfl) ?_ | refine sops_pure (.free rfl rfl) rfl rfl (po_load rfl rfl (tyT rfl) rfl) ?_) <;> (refine sops_pure (.free rfl rfl) rfl rfl (po_cmp rfl rfl rfl rfl) ?_) <;> (refine sops_nil ?_))
      | ((refine swp_region (id := 3) ?_) <;> (first | refine sops_pure (.free rfl rfl) rfl rfl (po_load_bx rfl rfl (tyT rfl) rfl rfl) ?_ | refine sops_pure (.free rfl rfl) rfl rfl (po_load rfl rfl (tyT rfl) rfl) ?_) <;> (first | refine sops_pure (.free rfl rfl) rfl rfl (po_field_bx rfl rfl (tyF rfl)) ?_ | refine sops_pure (.free rfl rfl) rfl rfl (po_field rfl rfl (tyF rfl)) ?_) <;> (first | refine sops_pure (.free rfl rfl) rfl rfl (po_load_bx rfl rfl (tyT rfl) rfl rfl) ?_ | refine sops_pure (.free rfl rfl) rfl rfl (po_load rfl rfl (tyT rfl) rfl) ?_) <;> (first | refine sops_lcall_tclo (args := [_]) (caps := []) (c2) (fun i => i) (fun i => i) (fun _ => false) (.free rfl rfl) rfl rfl rfl rfl (by repeat' (first | exact .nil | refine .cons rfl rfl rfl ?_ | refine .vw rfl (by first | exact .t _ | exact .own rfl (by first | rfl | assumption | (simp; done) | (simp; omega)) | exact .nil _ | exact .emp _ | exact .fn _) ?_)) .nil (.cons rfl rfl .nil) rfl rfl (fun _ h => Bool.noConfusion h) ?_ | refine sops_lcall_clo (args := [_]) (caps0 := []) (c2) (fun i => i) (fun i => i) (fun _ => false) (.free rfl rfl) rfl rfl rfl rfl rfl rfl (by repeat' (first | exact .nil | refine .cons rfl rfl rfl ?_ | refine .vw rfl (by first | exact .t _ | exact .own rfl (by first | rfl | assumption | (simp; done) | (simp; omega)) | exact .nil _ | exact .emp _ | exact .fn _) ?_)) .nil (.cons rfl rfl .nil) rfl rfl (fun _ h => Bool.noConfusion h) ?_ | refine sops_lcall_tclo (args := [_]) (caps := []) (c1) (fun i => i) (fun i => i) (fun _ => false) (.free rfl rfl) rfl rfl rfl rfl (by repeat' (first | exact .nil | refine .cons rfl rfl rfl ?_ | refine .vw rfl (by first | exact .t _ | exact .own rfl (by first | rfl | assumption | (simp; done) | (simp; omega)) | exact .nil _ | exact .emp _ | exact .fn _) ?_)) .nil .nil rfl rfl (fun _ h => Bool.noConfusion h) ?_ | refine sops_lcall_clo (args := [_]) (caps0 := []) (c1) (fun i => i) (fun i => i) (fun _ => false) (.free rfl rfl) rfl rfl rfl rfl rfl rfl (by repeat' (first | exact .nil | refine .cons rfl rfl rfl ?_ | refine .vw rfl (by first | exact .t _ | exact .own rfl (by first | rfl | assumption | (simp; done) | (simp; omega)) | exact .nil _ | exact .emp _ | exact .fn _) ?_)) .nil .nil rfl rfl (fun _ h => Bool.noConfusion h) ?_) <;> (first | refine sops_pure (.free rfl rfl) rfl rfl (po_field_bx rfl rfl (tyF rfl)) ?_ | refine sops_pure (.free rfl rfl) rfl rfl (po_field rfl rfl (tyF rfl)) ?_) <;> (refine sops_store (.free rfl rfl) rfl rfl rfl rfl rfl rfl (tyT rfl) rfl rfl ?_) <;> (refine sops_nil ?_))
      | ((refine swp_region (id := 6) ?_) <;> (first | refine sops_pure (.free rfl rfl) rfl rfl (po_load_bx_agg rfl rfl (tyT rfl) rfl (vc (vc (vc (vc (vc .nil))))) rfl) ?_ | refine sops_pure (.free rfl rfl) rfl rfl (po_load_agg rfl rfl (tyT rfl) rfl rfl) ?_) <;> (refine sops_store (.free rfl rfl) rfl rfl rfl rfl rfl rfl (tyT rfl) rfl rfl ?_) <;> (refine sops_nil ?_))
      | refine swp_ret ?_
      | refine swp_skip ?_
      | refine swp_block ?_
      | refine swp_exit ?_
      | refine block_go ?_
      | refine block_exit ?_
      | refine block_far rfl ?_
      | refine block_ret ?_
      | refine then_ret ?_
      | refine then_exit ?_
      | refine for_ret ?_
      | refine for_exit ?_
      | refine ct ?_
      | refine cf ?_
      | refine swp_cond rfl (fun hc => ?_) (fun hc => ?_)
      | exact retl1 (by first | exact .inr rfl | exact .inl rfl) rfl (.cellT rfl rfl (tyT rfl) (vc (vc (vc (vc (vc .nil))))) rfl .nil) rfl (.cons rfl (by first | rfl | assumption | (symm; assumption)) rfl (.cons rfl (by first | rfl | assumption | (symm; assumption)) rfl (.cons rfl (by first | rfl | assumption | (symm; assumption)) rfl .nil))) .nil
      | refine retl (by first | exact .inr rfl | exact .inl rfl) rfl (.cellT rfl rfl (tyT rfl) (vc (vc (vc (vc (vc .nil))))) rfl .nil) ?_ rfl (.cons rfl (by first | rfl | assumption | (symm; assumption)) rfl (.cons rfl (by first | rfl | assumption | (symm; assumption)) rfl (.cons rfl (by first | rfl | assumption | (symm; assumption)) rfl .nil))) .nil)
  · rw [if_neg hd, if_neg hd]
    repeat' (first
      | refine then_go ?_
      | refine swp_seq ?_
      | ((refine swp_region (id := 0) ?_) <;> (refine sops_box (.free rfl rfl) rfl rfl rfl rfl rfl rfl ?_) <;> (refine sops_allocS str50 (.free rfl rfl) rfl rfl rfl rfl ?_) <;> (refine sops_nil ?_))
      | ((refine swp_region (id := 1) ?_) <;> (first | refine sops_pure (.free rfl rfl) rfl rfl (po_load_bx_agg rfl rfl (tyT rfl) rfl (vc (vc (vc (vc (vc .nil))))) rfl) ?_ | refine sops_pure (.free rfl rfl) rfl rfl (po_load_agg rfl rfl (tyT rfl) rfl rfl) ?_) <;> (first | refine sops_lcall (c3) (fun i => i) (fun i => i) (fun _ => false) (.free rfl rfl) rfl rfl rfl (by repeat' (first | exact .nil | refine .cons rfl rfl rfl ?_ | refine .vw rfl (by first | exact .t _ | exact .own rfl (by first | rfl | assumption | (simp; done) | (simp; omega)) | exact .nil _ | exact .emp _ | exact .fn _) ?_)) .nil (.cons rfl rfl .nil) rfl rfl (fun _ h => Bool.noConfusion h) ?_ | refine sops_lcall (c1) (fun i => i) (fun i => i) (fun _ => false) (.free rfl rfl) rfl rfl rfl (by repeat' (first | exact .nil | refine .cons rfl rfl rfl ?_ | refine .vw rfl (by first | exact .t _ | exact .own rfl (by first | rfl | assumption | (simp; done) | (simp; omega)) | exact .nil _ | exact .emp _ | exact .fn _) ?_)) .nil .nil rfl rfl (fun _ h => Bool.noConfusion h) ?_) <;> (refine sops_store (.free rfl rfl) rfl rfl rfl rfl rfl rfl (tyT rfl) rfl rfl ?_) <;> (refine sops_nil ?_))
      | ((refine swp_region (id := 2) ?_) <;> (first | refine sops_pure (.free rfl rfl) rfl rfl (po_field_bx rfl rfl (tyF rfl)) ?_ | refine sops_pure (.free rfl rfl) rfl rfl (po_field rfl rfl (tyF rfl)) ?_) <;> (first | refine sops_pure (.free rfl rfl) rfl rfl (po_load_bx rfl rfl (tyT rfl) rfl rfl) ?_ | refine sops_pure (.free rfl rfl) rfl rfl (po_load rfl rfl (tyT rfl) rfl) ?_) <;> (refine sops_pure (.free rfl rfl) rfl rfl (po_cmp rfl rfl rfl rfl) ?_) <;> (refine sops_nil ?_))
      | ((refine swp_region (id := 4) ?_) <;> (first | refine sops_pure (.free rfl rfl) rfl rfl (po_load_bx rfl rfl (tyT rfl) rfl rfl) ?_ | refine sops_pure (.free rfl rfl) rfl rfl (po_load rfl rfl (tyT rfl) rfl) ?_) <;> (first | refine sops_pure (.free rfl rfl) rfl rfl (po_field_bx rfl rfl (tyF rfl)) ?_ | refine sops_pure (.free rfl rfl) rfl rfl (po_field rfl rfl (tyF rfl)) ?_) <;> (first | refine sops_pure (.free rfl rfl) rfl rfl (po_load_bx rfl rfl (tyT rfl) rfl rfl) ?_ | refine sops_pure (.free rfl rfl) rfl rfl (po_load rfl rfl (tyT rfl) rfl) ?_) <;> (first | refine sops_lcall_tclo (args := [_]) (caps := []) (c3) (fun i => i) (fun i => i) (fun _ => false) (.free rfl rfl) rfl rfl rfl rfl (by repeat' (first | exact .nil | refine .cons rfl rfl rfl ?_ | refine .vw rfl (by first | exact .t _ | exact .own rfl (by first | rfl | assumption | (simp; done) | (simp; omega)) | exact .nil _ | exact .emp _ | exact .fn _) ?_)) .nil (.cons rfl rfl .nil) rfl rfl (fun _ h => Bool.noConfusion h) ?_ | refine sops_lcall_clo (args := [_]) (caps0 := []) (c3) (fun i => i) (fun i => i) (fun _ => false) (.free rfl rfl) rfl rfl rfl rfl rfl rfl (by repeat' (first | exact .nil | refine .cons rfl rfl rfl ?_ | refine .vw rfl (by first | exact .t _ | exact .own rfl (by first | rfl | assumption | (simp; done) | (simp; omega)) | exact .nil _ | exact .emp _ | exact .fn _) ?_)) .nil (.cons rfl rfl .nil) rfl rfl (fun _ h => Bool.noConfusion h) ?_ | refine sops_lcall_tclo (args := [_]) (caps := []) (c1) (fun i => i) (fun i => i) (fun _ => false) (.free rfl rfl) rfl rfl rfl rfl (by repeat' (first | exact .nil | refine .cons rfl rfl rfl ?_ | refine .vw rfl (by first | exact .t _ | exact .own rfl (by first | rfl | assumption | (simp; done) | (simp; omega)) | exact .nil _ | exact .emp _ | exact .fn _) ?_)) .nil .nil rfl rfl (fun _ h => Bool.noConfusion h) ?_ | refine sops_lcall_clo (args := [_]) (caps0 := []) (c1) (fun i => i) (fun i => i) (fun _ => false) (.free rfl rfl) rfl rfl rfl rfl rfl rfl (by repeat' (first | exact .nil | refine .cons rfl rfl rfl ?_ | refine .vw rfl (by first | exact .t _ | exact .own rfl (by first | rfl | assumption | (simp; done) | (simp; omega)) | exact .nil _ | exact .emp _ | exact .fn _) ?_)) .nil .nil rfl rfl (fun _ h => Bool.noConfusion h) ?_) <;> (first | refine sops_pure (.free rfl rfl) rfl rfl (po_field_bx rfl rfl (tyF rfl)) ?_ | refine sops_pure (.free rfl rfl) rfl rfl (po_field rfl rfl (tyF rfl)) ?_) <;> (refine sops_store (.free rfl rfl) rfl rfl rfl rfl rfl rfl (tyT rfl) rfl rfl ?_) <;> (refine sops_nil ?_))
      | ((refine swp_region (id := 5) ?_) <;> (first | refine sops_pure (.free rfl rfl) rfl rfl (po_field_bx rfl rfl (tyF rfl)) ?_ | refine sops_pure (.free rfl rfl) rfl rfl (po_field rfl rfl (tyF rfl)) ?_) <;> (refine sops_store (.free rfl rfl) rfl rfl rfl rfl rfl rfl (tyT rfl) rfl rfl ?_) <;> (refine sops_nil ?_))
      | ((refine swp_region (id := 6) ?_) <;> (first | refine sops_pure (.free rfl rfl) rfl rfl (po_load_bx_agg rfl rfl (tyT rfl) rfl (vc (vc (vc (vc (vc .nil))))) rfl) ?_ | refine sops_pure (.free rfl rfl) rfl rfl (po_load_agg rfl rfl (tyT rfl) rfl rfl) ?_) <;> (refine sops_store (.free rfl rfl) rfl rfl rfl rfl rfl rfl (tyT rfl) rfl rfl ?_) <;> (refine sops_nil ?_))
      | refine swp_ret ?_
      | refine swp_skip ?_
      | refine swp_block ?_
      | refine swp_exit ?_
      | refine block_go ?_
      | refine block_exit ?_
      | refine block_far rfl ?_
      | refine block_ret ?_
      | refine then_ret ?_
      | refine then_exit ?_
      | refine for_ret ?_
      | refine for_exit ?_
      | refine ct ?_
      | refine cf ?_
      | refine swp_cond rfl (fun hc => ?_) (fun hc => ?_)
      | exact retl1 (by first | exact .inr rfl | exact .inl rfl) rfl (.cellT rfl rfl (tyT rfl) (vc (vc (vc (vc (vc .nil))))) rfl .nil) rfl (.cons rfl (by first | rfl | assumption | (symm; assumption)) rfl (.cons rfl (by first | rfl | assumption | (symm; assumption)) rfl (.cons rfl (by first | rfl | assumption | (symm; assumption)) rfl .nil))) .nil
      | refine retl (by first | exact .inr rfl | exact .inl rfl) rfl (.cellT rfl rfl (tyT rfl) (vc (vc (vc (vc (vc .nil))))) rfl .nil) ?_ rfl (.cons rfl (by first | rfl | assumption | (symm; assumption)) rfl (.cons rfl (by first | rfl | assumption | (symm; assumption)) rfl (.cons rfl (by first | rfl | assumption | (symm; assumption)) rfl .nil))) .nil)
def alK (l : List Pl.Policy) (al : Int) (k : Nat) : Int := if (l.take k).any (fun p => decide (p.deny ≠ 1)) = true then 1 else al
theorem alK_succ {l : List Pl.Policy} {al : Int} {k : Nat} (h : k < l.length) : updA (alK l al k) l[k] = alK l al (k + 1) := by
  unfold updA alK
  rw [List.take_succ_eq_append_getElem h, List.any_append]
  by_cases hd : l[k].deny = 1
  · simp [hd]
  · simp [hd]
abbrev CL3 : A := .cl 58 [.bp 2000 0, .bp 2001 0, .bp 2002 0]
def MT (fd fa : FuncId) (D K : Nat) (xs : List Pl.Policy) (t0 : T) (al : Int) (k : Nat) : St := ⟨[(1, CL3), (5, .own 105 (((xs.take k).map (Pl.halfP D K)).map polT).length), (8, .t (.sl 5 (xs.map polT))), (9, .t (.v (.int .i64 (xs.length : Int)))), (10, .t (.v (.int .i64 (k : Int))))], TB fd fa t0 (alK xs al k), [(105, ⟨50, 5, ((xs.take k).map (Pl.halfP D K)).map polT⟩)]⟩
set_option maxRecDepth 100000 in
set_option maxHeartbeats 2000000 in
theorem mapTable (fd fa : FuncId) (D K : Nat) (hD : RulesL fd D) (hA : RulesL fa K) (xs : List Pl.Policy) (hp : ∀ p ∈ xs, FewP p) (hn : xs.length ≤ 1000) (t0 : T) (al : Int) :
    LCalls Tryz.prog 29 [.t (.sl 5 (xs.map polT)), CL3] (TB fd fa t0 al) [] (.t (.sl 5 ((xs.map (Pl.halfP D K)).map polT))) (TB fd fa t0 (alK xs al xs.length)) [] := by
  have hm1 : (xs.map polT).length = xs.length := List.length_map _
  refine lcalls_of Tryz.func29 rfl rfl Tryz.ntmps29 rfl ?_
  repeat' (first
    | refine then_go ?_
    | refine swp_seq ?_
    | ((refine swp_region (id := 0) ?_) <;> (refine sops_pure (.free rfl rfl) rfl rfl (po_assign rfl rfl) ?_) <;> (refine sops_nil ?_))
    | ((refine swp_region (id := 1) ?_) <;> (refine sops_pure (.free rfl rfl) rfl rfl (po_assign rfl rfl) ?_) <;> (refine sops_nil ?_))
    | ((refine swp_region (id := 2) ?_) <;> (refine sops_pure (.free rfl rfl) rfl rfl (po_move rfl rfl) ?_) <;> (refine sops_pure (.free rfl rfl) rfl rfl (po_len rfl rfl (by first | exact .t _ | exact .own rfl (by first | rfl | assumption | (simp; done) | (simp; omega)) | exact .nil _ | exact .emp _ | exact .fn _) (tyS rfl)) ?_) <;> (refine sops_pure (.free rfl rfl) rfl rfl (po_move rfl rfl) ?_) <;> (refine sops_nil ?_))
    | refine swp_ret ?_
    | refine swp_skip ?_
    | refine swp_block ?_
    | refine swp_exit ?_
    | refine block_go ?_
    | refine block_exit ?_
    | refine block_far rfl ?_
    | refine block_ret ?_
    | refine then_ret ?_
    | refine then_exit ?_
    | refine for_ret ?_
    | refine for_exit ?_
    | refine ct ?_
    | refine cf ?_
    | refine swp_cond rfl (fun hc => ?_) (fun hc => ?_)
    | refine retq (by first | exact .inr rfl | exact .inl rfl) rfl (.tmp rfl (by first | exact .t _ | exact .own rfl (by first | rfl | assumption | (simp; done) | (simp; omega)) | exact .nil _ | exact .emp _ | exact .fn _) .nil) ?_)
  refine swp_for (MT fd fa D K xs t0 al) (fun _ => True) xs.length ?_ trivial ?_
  · refine Weak.trans (weak_own0 (i := 105) 50 5 (s := 5) rfl rfl) ?_
    exact (weak_sub (.cons rfl (by first | rfl | (exact congrArg (fun n : Nat => A.t (.v (.int .i64 (n : Int)))) hm1)) rfl (.cons rfl (by first | rfl | (exact congrArg (fun n : Nat => A.t (.v (.int .i64 (n : Int)))) hm1)) rfl (.cons rfl (by first | rfl | (exact congrArg (fun n : Nat => A.t (.v (.int .i64 (n : Int)))) hm1)) rfl (.cons rfl (by first | rfl | (exact congrArg (fun n : Nat => A.t (.v (.int .i64 (n : Int)))) hm1)) rfl (.cons rfl (by first | rfl | (exact congrArg (fun n : Nat => A.t (.v (.int .i64 (n : Int)))) hm1)) rfl .nil))))) (.cons rfl (by first | rfl | (exact congrArg (fun n : Nat => A.t (.v (.int .i64 (n : Int)))) hm1)) rfl (.cons rfl (by first | rfl | (exact congrArg (fun n : Nat => A.t (.v (.int .i64 (n : Int)))) hm1)) rfl (.cons rfl (by first | rfl | (exact congrArg (fun n : Nat => A.t (.v (.int .i64 (n : Int)))) hm1)) rfl .nil))) (.cons rfl (by first | rfl | (exact congrArg (fun n : Nat => A.t (.v (.int .i64 (n : Int)))) hm1)) .nil))
  intro k hk _
  unfold MT
  by_cases hlt : k < xs.length
  · have c1 := table1 fd fa D K hD hA _ (hp _ (List.getElem_mem hlt)) t0 (alK xs al k)
    rw [alK_succ hlt] at c1
    have hsn := mapmap_take_succ polT (Pl.halfP D K) hlt
    have g1 : ((((xs.take k).map (Pl.halfP D K)).map polT).length + 1) * 64 ≤ 140737488355328 := by rw [mmt_len]; have := Nat.min_le_right k xs.length; omega
    have g2 : (((xs.take k).map (Pl.halfP D K)).map polT).length + 1 ≤ maxLen := by rw [mmt_len]; have := Nat.min_le_right k xs.length; unfold maxLen; omega
    repeat' (first
      | refine then_go ?_
      | refine swp_seq ?_
      | refine for_next hlt (weak_sub (.cons rfl (by first | rfl | (rw [hsn]; try rfl)) rfl (.cons rfl (by first | rfl | (rw [hsn]; try rfl)) rfl (.cons rfl (by first | rfl | (rw [hsn]; try rfl)) rfl (.cons rfl (by first | rfl | (rw [hsn]; try rfl)) rfl (.cons rfl (by first | rfl | (rw [hsn]; try rfl)) rfl .nil))))) (.cons rfl (by first | rfl | (rw [hsn]; try rfl)) rfl (.cons rfl (by first | rfl | (rw [hsn]; try rfl)) rfl (.cons rfl (by first | rfl | (rw [hsn]; try rfl)) rfl .nil))) (.cons rfl (by first | rfl | (rw [hsn]; try rfl)) .nil)) trivial
      | ((refine swp_region (id := 3) ?_) <;> (refine sops_pure (.free rfl rfl) rfl rfl (po_cmp rfl rfl rfl rfl) ?_) <;> (refine sops_nil ?_))
      | ((refine swp_region (id := 4) ?_) <;> (first | refine sops_pure (.free rfl rfl) rfl rfl (po_index_own rfl rfl rfl (by first | rfl | assumption | omega | (simp; done) | (simp; omega) | (simp at *; omega)) rfl (tyS rfl) (by first | rfl | omega) (by first | assumption | omega)) ?_ | refine sops_pure (.free rfl rfl) rfl rfl (po_index rfl rfl (by first | exact .t _ | exact .own rfl (by first | rfl | assumption | (simp; done) | (simp; omega)) | exact .nil _ | exact .emp _ | exact .fn _) rfl (tyS rfl) (by first | rfl | omega) (by first | rfl | assumption | exact map_at (by first | assumption | omega))) ?_) <;> (first | refine sops_pure (.free rfl rfl) rfl rfl (po_load_bx_agg rfl rfl (tyT rfl) rfl (vc (vc (vc (vc (vc .nil))))) rfl) ?_ | refine sops_pure (.free rfl rfl) rfl rfl (po_load_agg rfl rfl (tyT rfl) rfl rfl) ?_ | refine sops_pure (.free rfl rfl) rfl rfl (po_load_own_agg rfl rfl rfl (by first | rfl | assumption | omega | (simp; done) | (simp; omega) | (simp at *; omega)) (tyT rfl) (by first | rfl | assumption | exact map_at (by first | assumption | omega)) rfl rfl) ?_ | refine sops_pure (.free rfl rfl) rfl rfl (po_load_bx_ag rfl rfl (tyT rfl) rfl rfl rfl rfl) ?_) <;> (refine sops_allocS str50 (.free rfl rfl) rfl rfl rfl rfl ?_) <;> (first | refine sops_store (.free rfl rfl) rfl rfl rfl rfl rfl rfl (tyT rfl) rfl rfl ?_ | refine sops_store_own (by rfl) (.free rfl rfl) rfl rfl rfl rfl (by first | rfl | assumption | omega | (simp; done) | (simp; omega) | (simp at *; omega)) rfl (by first | exact .t _ | exact .own rfl (by first | rfl | assumption | (simp; done) | (simp; omega)) | exact .nil _ | exact .emp _ | exact .fn _) rfl rfl (tyT rfl) rfl (by first | rfl | assumption | exact map_at (by first | assumption | omega)) rfl ?_) <;> (refine sops_nil ?_))
      | ((refine swp_region (id := 5) ?_) <;> (refine sops_pure (.free rfl rfl) rfl rfl (po_move rfl rfl) ?_) <;> (refine sops_pure (.free rfl rfl) rfl rfl (po_move rfl rfl) ?_) <;> (first | refine sops_pure (.free rfl rfl) rfl rfl (po_load_bx_agg rfl rfl (tyT rfl) rfl (vc (vc (vc (vc (vc .nil))))) rfl) ?_ | refine sops_pure (.free rfl rfl) rfl rfl (po_load_agg rfl rfl (tyT rfl) rfl rfl) ?_ | refine sops_pure (.free rfl rfl) rfl rfl (po_load_own_agg rfl rfl rfl (by first | rfl | assumption | omega | (simp; done) | (simp; omega) | (simp at *; omega)) (tyT rfl) (by first | rfl | assumption | exact map_at (by first | assumption | omega)) rfl rfl) ?_ | refine sops_pure (.free rfl rfl) rfl rfl (po_load_bx_ag rfl rfl (tyT rfl) rfl rfl rfl rfl) ?_) <;> (first | refine sops_lcall_tclo (args := [_]) (caps := [_, _, _]) (c1) (fun i => i) (fun i => i) (fun _ => false) (.free rfl rfl) rfl rfl rfl rfl (by repeat' (first | exact .nil | refine .cons rfl rfl rfl ?_ | refine .vw rfl (by first | exact .t _ | exact .own rfl (by first | rfl | assumption | (simp; done) | (simp; omega)) | exact .nil _ | exact .emp _ | exact .fn _) ?_)) (.cons rfl rfl (.cons rfl rfl (.cons rfl rfl .nil))) .nil rfl rfl (fun _ h => Bool.noConfusion h) ?_ | refine sops_lcall_clo (args := [_]) (caps0 := [_, _, _]) (c1) (fun i => i) (fun i => i) (fun _ => false) (.free rfl rfl) rfl rfl rfl rfl rfl rfl (by repeat' (first | exact .nil | refine .cons rfl rfl rfl ?_ | refine .vw rfl (by first | exact .t _ | exact .own rfl (by first | rfl | assumption | (simp; done) | (simp; omega)) | exact .nil _ | exact .emp _ | exact .fn _) ?_)) (.cons rfl rfl (.cons rfl rfl (.cons rfl rfl .nil))) .nil rfl rfl (fun _ h => Bool.noConfusion h) ?_) <;> (refine sops_pure (.free rfl rfl) rfl rfl (po_buildSlice rfl (tyE rfl) (.cons rfl (by first | exact .t _ | exact .own rfl (by first | rfl | assumption | (simp; done) | (simp; omega)) | exact .nil _ | exact .emp _ | exact .fn _) rfl rfl (.nil _)) rfl rfl rfl) ?_) <;> (first | refine sops_append rfl rfl rfl rfl rfl rfl (by first | rfl | simp) rfl (by first | exact .t _ | exact .own rfl (by first | rfl | assumption | (simp; done) | (simp; omega)) | exact .nil _ | exact .emp _ | exact .fn _) (tyE rfl) (by first | assumption | (simp at *; omega)) (by first | assumption | (simp [maxLen] at *; omega)) ?_ | refine sops_append_nil rfl rfl rfl rfl rfl rfl rfl (by first | exact .t _ | exact .own rfl (by first | rfl | assumption | (simp; done) | (simp; omega)) | exact .nil _ | exact .emp _ | exact .fn _) (tyE rfl) (by first | assumption | (simp at *; omega)) (by first | assumption | (simp [maxLen] at *; omega)) ?_) <;> (refine sops_pure (.free rfl rfl) rfl rfl (po_assign rfl rfl) ?_) <;> (refine sops_nil ?_))
      | ((refine swp_region (id := 6) ?_) <;> (first | refine sops_pure (.free rfl rfl) rfl rfl (po_inc rfl rfl rfl (by omega)) ?_ | refine sops_pure (.free rfl rfl) rfl rfl (po_arith rfl rfl rfl (ar_add (by first | rfl | (refine wrap_i64 ?_; omega)) rfl)) ?_) <;> (refine sops_pure (.free rfl rfl) rfl rfl (po_move rfl rfl) ?_) <;> (refine sops_nil ?_))
      | refine swp_ret ?_
      | refine swp_skip ?_
      | refine swp_block ?_
      | refine swp_exit ?_
      | refine block_go ?_
      | refine block_exit ?_
      | refine block_far rfl ?_
      | refine block_ret ?_
      | refine then_ret ?_
      | refine then_exit ?_
      | refine for_ret ?_
      | refine for_exit ?_
      | refine ct ?_
      | refine cf ?_
      | refine swp_cond rfl (fun hc => ?_) (fun hc => ?_)
      | refine retq (by first | exact .inr rfl | exact .inl rfl) rfl (.tmp rfl (by first | exact .t _ | exact .own rfl (by first | rfl | assumption | (simp; done) | (simp; omega)) | exact .nil _ | exact .emp _ | exact .fn _) .nil) ?_)
  · obtain rfl : k = xs.length := by omega
    rw [List.take_length]
    repeat' (first
      | refine then_go ?_
      | refine swp_seq ?_
      | ((refine swp_region (id := 3) ?_) <;> (refine sops_pure (.free rfl rfl) rfl rfl (po_cmp rfl rfl rfl rfl) ?_) <;> (refine sops_nil ?_))
      | ((refine swp_region (id := 7) ?_) <;> (refine sops_pure (.free rfl rfl) rfl rfl (po_move rfl rfl) ?_) <;> (refine sops_pure (.free rfl rfl) rfl rfl (po_assign rfl rfl) ?_) <;> (refine sops_nil ?_))
      | refine swp_ret ?_
      | refine swp_skip ?_
      | refine swp_block ?_
      | refine swp_exit ?_
      | refine block_go ?_
      | refine block_exit ?_
      | refine block_far rfl ?_
      | refine block_ret ?_
      | refine then_ret ?_
      | refine then_exit ?_
      | refine for_ret ?_
      | refine for_exit ?_
      | refine ct ?_
      | refine cf ?_
      | refine swp_cond rfl (fun hc => ?_) (fun hc => ?_)
      | exact retl1 (by first | exact .inr rfl | exact .inl rfl) rfl (.tmpT rfl (by first | exact .t _ | exact .own rfl (by first | rfl | assumption | (simp; done) | (simp; omega)) | exact .nil _ | exact .emp _ | exact .fn _) .nil) rfl (.cons rfl (by first | rfl | assumption | (symm; assumption)) rfl (.cons rfl (by first | rfl | assumption | (symm; assumption)) rfl (.cons rfl (by first | rfl | assumption | (symm; assumption)) rfl .nil))) .nil
      | refine retl (by first | exact .inr rfl | exact .inl rfl) rfl (.tmpT rfl (by first | exact .t _ | exact .own rfl (by first | rfl | assumption | (simp; done) | (simp; omega)) | exact .nil _ | exact .emp _ | exact .fn _) .nil) ?_ rfl (.cons rfl (by first | rfl | assumption | (symm; assumption)) rfl (.cons rfl (by first | rfl | assumption | (symm; assumption)) rfl (.cons rfl (by first | rfl | assumption | (symm; assumption)) rfl .nil))) .nil)
def fbOf (l : List (Nat × Nat)) (i : Nat) : Nat := (get l i).getD i
theorem alK_all (l : List Pl.Policy) : alK l 0 l.length = Pl.allowsP l := by unfold alK Pl.allowsP; rw [List.take_length]
set_option maxRecDepth 100000 in
set_option maxHeartbeats 2000000 in
theorem table_ (fd fa : FuncId) (D K : Nat) (hD : RulesL fd D) (hA : RulesL fa K) (xs : List Pl.Policy) (hp : ∀ p ∈ xs, FewP p) (hn : xs.length ≤ 1000) :
    PCalls Tryz.prog 38 [.sl 5 (xs.map polT), .clo fd [], .clo fa []] (.agg [.sl 5 ((xs.map (Pl.halfP D K)).map polT), .v (.int .i64 (Pl.allowsP xs))]) := by
  have c1 := mapTable fd fa D K hD hA xs hp hn (.v (.slice none 0 0)) 0
  rw [alK_all] at c1
  refine pcalls_of Tryz.func38 rfl rfl Tryz.ntmps38 rfl ?_
  repeat' (first
    | refine then_go ?_
    | refine swp_seq ?_
    | ((refine swp_region (id := 0) ?_) <;> (refine sops_box (.free rfl rfl) rfl rfl rfl rfl rfl rfl ?_) <;> (refine sops_box (.free rfl rfl) rfl rfl rfl rfl rfl rfl ?_) <;> (refine sops_allocS str24 (.free rfl rfl) rfl rfl rfl rfl ?_) <;> (refine sops_nil ?_))
    | ((refine swp_region (id := 1) ?_) <;> (refine sops_pure (.free rfl rfl) rfl rfl (po_move rfl rfl) ?_) <;> (first | refine sops_pure (.free rfl rfl) rfl rfl (po_func rfl (ac (ac (ac .nil)))) ?_ | refine sops_pure (.free rfl rfl) rfl rfl (po_func_cl rfl (.cons rfl rfl (.cons rfl rfl (.cons rfl rfl .nil)))) ?_) <;> (refine sops_lcall (c1) (fbOf [(2000, 4), (2001, 5), (2002, 6)]) (fun i => i) (fun _ => false) (.free rfl rfl) rfl rfl rfl (by repeat' (first | exact .nil | refine .cons rfl rfl rfl ?_ | refine .vw rfl (by first | exact .t _ | exact .own rfl (by first | rfl | assumption | (simp; done) | (simp; omega)) | exact .nil _ | exact .emp _ | exact .fn _) ?_)) (.cons rfl rfl (.cons rfl rfl (.cons rfl rfl .nil))) .nil rfl rfl (fun _ h => Bool.noConfusion h) ?_) <;> (first | refine sops_pure (.free rfl rfl) rfl rfl (po_field_bx rfl rfl (tyF rfl)) ?_ | refine sops_pure (.free rfl rfl) rfl rfl (po_field rfl rfl (tyF rfl)) ?_ | refine sops_pure (.free rfl rfl) rfl rfl (po_field_own rfl rfl rfl (by first | rfl | assumption | omega | (simp; done) | (simp; omega) | (simp at *; omega)) (tyF rfl)) ?_) <;> (first | refine sops_store (.free rfl rfl) rfl rfl rfl rfl rfl rfl (tyT rfl) rfl rfl ?_ | refine sops_store_own (by rfl) (.free rfl rfl) rfl rfl rfl rfl (by first | rfl | assumption | omega | (simp; done) | (simp; omega) | (simp at *; omega)) rfl (by first | exact .t _ | exact .own rfl (by first | rfl | assumption | (simp; done) | (simp; omega)) | exact .nil _ | exact .emp _ | exact .fn _) rfl rfl (tyT rfl) rfl (by first | rfl | assumption | exact map_at (by first | assumption | omega)) rfl ?_) <;> (refine sops_nil ?_))
    | ((refine swp_region (id := 2) ?_) <;> (first | refine sops_pure (.free rfl rfl) rfl rfl (po_load_bx_agg rfl rfl (tyT rfl) rfl (vc (vc .nil)) rfl) ?_ | refine sops_pure (.free rfl rfl) rfl rfl (po_load_agg rfl rfl (tyT rfl) rfl rfl) ?_ | refine sops_pure (.free rfl rfl) rfl rfl (po_load_own_agg rfl rfl rfl (by first | rfl | assumption | omega | (simp; done) | (simp; omega) | (simp at *; omega)) (tyT rfl) (by first | rfl | assumption | exact map_at (by first | assumption | omega)) rfl rfl) ?_ | refine sops_pure (.free rfl rfl) rfl rfl (po_load_bx_ag rfl rfl (tyT rfl) rfl rfl rfl rfl) ?_) <;> (first | refine sops_store (.free rfl rfl) rfl rfl rfl rfl rfl rfl (tyT rfl) rfl rfl ?_ | refine sops_store_own (by rfl) (.free rfl rfl) rfl rfl rfl rfl (by first | rfl | assumption | omega | (simp; done) | (simp; omega) | (simp at *; omega)) rfl (by first | exact .t _ | exact .own rfl (by first | rfl | assumption | (simp; done) | (simp; omega)) | exact .nil _ | exact .emp _ | exact .fn _) rfl rfl (tyT rfl) rfl (by first | rfl | assumption | exact map_at (by first | assumption | omega)) rfl ?_) <;> (refine sops_nil ?_))
    | refine swp_ret ?_
    | refine swp_skip ?_
    | refine swp_block ?_
    | refine swp_exit ?_
    | refine block_go ?_
    | refine block_exit ?_
    | refine block_far rfl ?_
    | refine block_ret ?_
    | refine then_ret ?_
    | refine then_exit ?_
    | refine for_ret ?_
    | refine for_exit ?_
    | refine ct ?_
    | refine cf ?_
    | refine swp_cond rfl (fun hc => ?_) (fun hc => ?_)
    | exact retq1 (by first | exact .inr rfl | exact .inl rfl) rfl (.cell rfl rfl (tyT rfl) (vc (vc .nil)) rfl .nil)
    | refine retq (by first | exact .inr rfl | exact .inl rfl) rfl (.cell rfl rfl (tyT rfl) (vc (vc .nil)) rfl .nil) ?_)
set_option maxRecDepth 100000 in
set_option maxHeartbeats 1000000 in
theorem l4_ (xs : List Pl.Policy) (hp : ∀ p ∈ xs, FewP p) (hn : xs.length ≤ 1000) : PCalls Tryz.prog 14 [.sl 5 (xs.map polT)] (.agg [.sl 5 ((xs.map (Pl.halfP 0 1)).map polT), .v (.int .i64 (Pl.allowsP xs))]) := by
  have c1 := table_ 39 31 0 1 blindL halvedL xs hp hn
  refine pcalls_of Tryz.func14 rfl rfl Tryz.ntmps14 rfl ?_
  repeat' (first
    | refine then_go ?_
    | refine swp_seq ?_
    | ((refine swp_region (id := 0) ?_) <;> (refine sops_allocS str24 (.free rfl rfl) rfl rfl rfl rfl ?_) <;> (refine sops_nil ?_))
    | ((refine swp_region (id := 1) ?_) <;> (refine sops_pure (.free rfl rfl) rfl rfl (po_move rfl rfl) ?_) <;> (refine sops_pure (.free rfl rfl) rfl rfl (po_call (c1) rfl (ac (ac (ac .nil)))) ?_) <;> (refine sops_store (.free rfl rfl) rfl rfl rfl rfl rfl rfl (tyT rfl) rfl rfl ?_) <;> (refine sops_nil ?_))
    | refine swp_ret ?_
    | refine swp_skip ?_
    | refine swp_block ?_
    | refine swp_exit ?_
    | refine block_go ?_
    | refine block_exit ?_
    | refine block_far rfl ?_
    | refine block_ret ?_
    | refine then_ret ?_
    | refine then_exit ?_
    | refine for_ret ?_
    | refine for_exit ?_
    | refine ct ?_
    | refine cf ?_
    | refine swp_cond rfl (fun hc => ?_) (fun hc => ?_)
    | exact retq1 (by first | exact .inr rfl | exact .inl rfl) rfl (.cell rfl rfl (tyT rfl) (vc (vc .nil)) rfl .nil)
    | refine retq (by first | exact .inr rfl | exact .inl rfl) rfl (.cell rfl rfl (tyT rfl) (vc (vc .nil)) rfl .nil) ?_)
set_option maxRecDepth 100000 in
set_option maxHeartbeats 1000000 in
theorem alone_ (xs : List Pl.Policy) (hp : ∀ p ∈ xs, FewP p) (hn : xs.length ≤ 1000) : PCalls Tryz.prog 16 [.sl 5 (xs.map polT)] (.agg [.sl 5 ((xs.map (Pl.halfP 1 0)).map polT), .v (.int .i64 (Pl.allowsP xs))]) := by
  have c1 := table_ 31 39 1 0 halvedL blindL xs hp hn
  refine pcalls_of Tryz.func16 rfl rfl Tryz.ntmps16 rfl ?_
  repeat' (first
    | refine then_go ?_
    | refine swp_seq ?_
    | ((refine swp_region (id := 0) ?_) <;> (refine sops_allocS str24 (.free rfl rfl) rfl rfl rfl rfl ?_) <;> (refine sops_nil ?_))
    | ((refine swp_region (id := 1) ?_) <;> (refine sops_pure (.free rfl rfl) rfl rfl (po_move rfl rfl) ?_) <;> (refine sops_pure (.free rfl rfl) rfl rfl (po_call (c1) rfl (ac (ac (ac .nil)))) ?_) <;> (refine sops_store (.free rfl rfl) rfl rfl rfl rfl rfl rfl (tyT rfl) rfl rfl ?_) <;> (refine sops_nil ?_))
    | refine swp_ret ?_
    | refine swp_skip ?_
    | refine swp_block ?_
    | refine swp_exit ?_
    | refine block_go ?_
    | refine block_exit ?_
    | refine block_far rfl ?_
    | refine block_ret ?_
    | refine then_ret ?_
    | refine then_exit ?_
    | refine for_ret ?_
    | refine for_exit ?_
    | refine ct ?_
    | refine cf ?_
    | refine swp_cond rfl (fun hc => ?_) (fun hc => ?_)
    | exact retq1 (by first | exact .inr rfl | exact .inl rfl) rfl (.cell rfl rfl (tyT rfl) (vc (vc .nil)) rfl .nil)
    | refine retq (by first | exact .inr rfl | exact .inl rfl) rfl (.cell rfl rfl (tyT rfl) (vc (vc .nil)) rfl .nil) ?_)
set_option maxRecDepth 100000 in
set_option maxHeartbeats 1000000 in
theorem l7_ (xs : List Pl.Policy) (hp : ∀ p ∈ xs, FewP p) (hn : xs.length ≤ 1000) : PCalls Tryz.prog 15 [.sl 5 (xs.map polT)] (.agg [.sl 5 ((xs.map (Pl.halfP 2 2)).map polT), .v (.int .i64 (Pl.allowsP xs))]) := by
  have c1 := table_ 40 40 2 2 (fun l _ _ => wholeL l) (fun l _ _ => wholeL l) xs hp hn
  refine pcalls_of Tryz.func15 rfl rfl Tryz.ntmps15 rfl ?_
  repeat' (first
    | refine then_go ?_
    | refine swp_seq ?_
    | ((refine swp_region (id := 0) ?_) <;> (refine sops_allocS str24 (.free rfl rfl) rfl rfl rfl rfl ?_) <;> (refine sops_nil ?_))
    | ((refine swp_region (id := 1) ?_) <;> (refine sops_pure (.free rfl rfl) rfl rfl (po_assign rfl rfl) ?_) <;> (refine sops_nil ?_))
    | ((refine swp_region (id := 2) ?_) <;> (refine sops_pure (.free rfl rfl) rfl rfl (po_move rfl rfl) ?_) <;> (refine sops_pure (.free rfl rfl) rfl rfl (po_move rfl rfl) ?_) <;> (refine sops_pure (.free rfl rfl) rfl rfl (po_move rfl rfl) ?_) <;> (refine sops_pure (.free rfl rfl) rfl rfl (po_call (c1) rfl (ac (ac (ac .nil)))) ?_) <;> (refine sops_store (.free rfl rfl) rfl rfl rfl rfl rfl rfl (tyT rfl) rfl rfl ?_) <;> (refine sops_nil ?_))
    | refine swp_ret ?_
    | refine swp_skip ?_
    | refine swp_block ?_
    | refine swp_exit ?_
    | refine block_go ?_
    | refine block_exit ?_
    | refine block_far rfl ?_
    | refine block_ret ?_
    | refine then_ret ?_
    | refine then_exit ?_
    | refine for_ret ?_
    | refine for_exit ?_
    | refine ct ?_
    | refine cf ?_
    | refine swp_cond rfl (fun hc => ?_) (fun hc => ?_)
    | exact retq1 (by first | exact .inr rfl | exact .inl rfl) rfl (.cell rfl rfl (tyT rfl) (vc (vc .nil)) rfl .nil)
    | refine retq (by first | exact .inr rfl | exact .inl rfl) rfl (.cell rfl rfl (tyT rfl) (vc (vc .nil)) rfl .nil) ?_)
set_option maxRecDepth 100000 in
set_option maxHeartbeats 1000000 in
theorem clonePols (rows : List (List T)) (hbd : rows.length * 64 ≤ 140737488355328) (hmx : rows.length ≤ maxLen) : LCalls Tryz.prog 54 [.t (.sl 5 rows)] [] [] (.own 1000 rows.length) [] [(1000, ⟨50, 5, rows⟩)] := by
  have hbd' : 0 + rows.length * 64 ≤ 140737488355328 := by omega
  refine lcalls_of Tryz.func54 rfl rfl Tryz.ntmps54 rfl ?_
  repeat' (first
    | refine then_go ?_
    | refine swp_seq ?_
    | ((refine swp_region (id := 0) ?_) <;> (refine sops_pure (.free rfl rfl) rfl rfl (po_assign rfl rfl) ?_) <;> (refine sops_nil ?_))
    | ((refine swp_region (id := 1) ?_) <;> (refine sops_pure (.free rfl rfl) rfl rfl (po_move rfl rfl) ?_) <;> (first | refine sops_isnil (.free rfl rfl) rfl rfl rfl rfl (.t _) (tyS rfl) (fun b hnil => ?_) | refine sops_pure (.free rfl rfl) rfl rfl (po_boolq rfl rfl rfl (by kernel_rfl) (by first | exact .inl rfl | exact .inr rfl)) ?_) <;> (refine sops_nil ?_))
    | refine swp_ret ?_
    | refine swp_skip ?_
    | refine swp_block ?_
    | refine swp_exit ?_
    | refine block_go ?_
    | refine block_exit ?_
    | refine block_far rfl ?_
    | refine block_ret ?_
    | refine then_ret ?_
    | refine then_exit ?_
    | refine for_ret ?_
    | refine for_exit ?_
    | refine ct ?_
    | refine cf ?_
    | refine swp_cond rfl (fun hc => ?_) (fun hc => ?_)
    | refine retq (by first | exact .inr rfl | exact .inl rfl) rfl (.tmp rfl (by first | exact .t _ | exact .own rfl (by first | rfl | assumption | (simp; done) | (simp; omega)) | exact .nil _ | exact .emp _ | exact .fn _) .nil) ?_)
  · obtain rfl := hnil hc
    repeat' (first
      | refine then_go ?_
      | refine swp_seq ?_
      | refine swp_ret_weak (weak_own0 (i := 1000) 50 5 (s := 2) rfl rfl) ?_
      | ((refine swp_region (id := 2) ?_) <;> (refine sops_pure (.free rfl rfl) rfl rfl (po_assign rfl rfl) ?_) <;> (refine sops_nil ?_))
      | refine swp_ret ?_
      | refine swp_skip ?_
      | refine swp_block ?_
      | refine swp_exit ?_
      | refine block_go ?_
      | refine block_exit ?_
      | refine block_far rfl ?_
      | refine block_ret ?_
      | refine then_ret ?_
      | refine then_exit ?_
      | refine for_ret ?_
      | refine for_exit ?_
      | refine ct ?_
      | refine cf ?_
      | refine swp_cond rfl (fun hc => ?_) (fun hc => ?_)
      | exact retl1 (by first | exact .inr rfl | exact .inl rfl) rfl (.tmp rfl rfl .nil) rfl .nil (.cons rfl (by first | rfl | assumption | (symm; assumption)) .nil)
      | refine retl (by first | exact .inr rfl | exact .inl rfl) rfl (.tmp rfl rfl .nil) ?_ rfl .nil (.cons rfl (by first | rfl | assumption | (symm; assumption)) .nil))
  · repeat' (first
    | refine then_go ?_
    | refine swp_seq ?_
    | ((refine swp_region (id := 3) ?_) <;> (first | refine sops_build0i 1000 (.free rfl rfl) rfl rfl rfl (tyE rfl) rfl ?_ | refine sops_build0 (.free rfl rfl) rfl rfl rfl (tyE rfl) rfl ?_) <;> (first | refine sops_build0i 1000 (.free rfl rfl) rfl rfl rfl (tyE rfl) rfl ?_ | refine sops_pure (.free rfl rfl) rfl rfl (po_move rfl rfl) ?_) <;> (first | refine sops_build0i 1000 (.free rfl rfl) rfl rfl rfl (tyE rfl) rfl ?_ | refine sops_append rfl rfl rfl rfl rfl rfl (by first | rfl | simp) rfl (by first | exact .t _ | exact .own rfl (by first | rfl | assumption | (simp; done) | (simp; omega)) | exact .nil _ | exact .emp _ | exact .fn _) (tyE rfl) (by first | assumption | (simp at *; omega)) (by first | assumption | (simp [maxLen] at *; omega)) ?_ | refine sops_append_nil rfl rfl rfl rfl rfl rfl rfl (by first | exact .t _ | exact .own rfl (by first | rfl | assumption | (simp; done) | (simp; omega)) | exact .nil _ | exact .emp _ | exact .fn _) (tyE rfl) (by first | assumption | (simp at *; omega)) (by first | assumption | (simp [maxLen] at *; omega)) ?_) <;> (first | refine sops_build0i 1000 (.free rfl rfl) rfl rfl rfl (tyE rfl) rfl ?_ | refine sops_pure (.free rfl rfl) rfl rfl (po_assign rfl rfl) ?_) <;> (refine sops_nil ?_))
    | refine swp_ret ?_
    | refine swp_skip ?_
    | refine swp_block ?_
    | refine swp_exit ?_
    | refine block_go ?_
    | refine block_exit ?_
    | refine block_far rfl ?_
    | refine block_ret ?_
    | refine then_ret ?_
    | refine then_exit ?_
    | refine for_ret ?_
    | refine for_exit ?_
    | refine ct ?_
    | refine cf ?_
    | refine swp_cond rfl (fun hc => ?_) (fun hc => ?_)
    | refine retl (by first | exact .inr rfl | exact .inl rfl) rfl (.tmp rfl rfl .nil) ?_ rfl .nil (.cons rfl (by first | rfl | assumption | (symm; assumption)) .nil))
    rfl
end Go.Proofs.YtlcecabfmemfeaaGreat.Pol

/- auth's functions, as the logic of states has them. -/
namespace Go.Proofs.YtlcecabfmemfeaaGreat.Pol
set_option linter.unusedVariables false
set_option linter.unusedSimpArgs false
open Go.RowKit Mem Sim Opn WAddr WName WMatch WAuth
theorem tr2 {m : Mm} {a b : T} {x y : Value} (ha : TR m a x) (hb : TR m b y) : TR m (.tup [a, b]) (.tuple #[x, y]) := by
  refine .tup [a, b] #[x, y] rfl fun j t v h1 h2 => ?_
  match j, h1, h2 with
  | 0, h1, h2 => simp at h1 h2; subst h1 h2; exact ha
  | 1, h1, h2 => simp at h1 h2; subst h1 h2; exact hb
theorem args4 {m : Mm} {t0 t1 t2 t3 : T} {vals : Array Value} (hl : vals.size = [t0, t1, t2, t3].length) (hv : ∀ (i : Nat) t v, [t0, t1, t2, t3][i]? = some t → vals[i]? = some v → TR m t v) : ∃ x0 x1 x2 x3, vals = #[x0, x1, x2, x3] ∧ TR m t0 x0 ∧ TR m t1 x1 ∧ TR m t2 x2 ∧ TR m t3 x3 := by
  obtain ⟨l⟩ := vals
  match l, hl with
  | [x0, x1, x2, x3], _ => exact ⟨x0, x1, x2, x3, rfl, hv 0 _ _ rfl rfl, hv 1 _ _ rfl rfl, hv 2 _ _ rfl rfl, hv 3 _ _ rfl rfl⟩
theorem agg_inv {m : Mm} {cs : List T} {v : Value} (h : TR m (.agg cs) v) : ∃ vs : List Value, v = .agg vs.toArray ∧ CellsAre m cs vs := by
  cases h with
  | agg cs vs h h1 ht => exact ⟨vs.toList, by simp, by simpa using h, fun j t v h2 h3 => ⟨ht j t v h2 (by simpa using h3), h1 v (List.mem_of_getElem? h3)⟩⟩
theorem agg_bwd {m : Mm} {cs : List T} {vs : List Value} (h : CellsAre m cs vs) : TR m (.agg cs) (.agg vs.toArray) :=
  .agg cs vs.toArray (by simpa using h.1) (fun v hv => by
    obtain ⟨j, hj⟩ := List.getElem?_of_mem hv
    have hj' : vs[j]? = some v := by simpa using hj
    have hlt : j < cs.length := by rw [← h.1]; exact (List.getElem?_eq_some_iff.1 hj').1
    exact (h.2 j _ v (List.getElem?_eq_getElem hlt) hj').2) fun j t v h1 h2 => (h.2 j t v h1 (by simpa using h2)).1
theorem ask_inv {m : Mm} {a : Pl.Asker} {v : Value} (h : TR m (.agg (askT a)) v) : v = .agg #[.string a.ns, .string a.sa, .int .u32 a.addr] := by
  obtain ⟨vs, rfl, hc⟩ := agg_inv h
  rw [cells_ex hc [.string a.ns, .string a.sa, .int .u32 a.addr] rfl]
/-- what of a request fits, however many headers -/
structure OkReq0 (q : Pl.Req) : Prop where
  method : q.method.size ≤ maxLen
  path : q.path.size ≤ maxLen
  host : q.host.size ≤ maxLen
  heads : ∀ h ∈ q.heads, okHead h
theorem req_inv {m : Mm} {w : World} (hs : Sub m w) {q : Pl.Req} {tg qu : ByteArray} {bd v : Value} (hq : OkReq0 q) (h : TR m (.agg (reqT q tg qu bd)) v) : ∃ A cap, v = .agg #[.string q.method, .string tg, .string q.path, .string qu, .string q.host, .slice A q.heads.length cap, bd] ∧ SliceAt HeadR 2 w.heap.size w A q.heads ∧ q.heads.length ≤ maxLen ∧ bd.oneCell' = true := by
  obtain ⟨vs, rfl, hc⟩ := agg_inv h
  obtain ⟨u0, vs, rfl, h0, hc⟩ := cellsAre_inv hc
  obtain ⟨u1, vs, rfl, h1, hc⟩ := cellsAre_inv hc
  obtain ⟨u2, vs, rfl, h2, hc⟩ := cellsAre_inv hc
  obtain ⟨u3, vs, rfl, h3, hc⟩ := cellsAre_inv hc
  obtain ⟨u4, vs, rfl, h4, hc⟩ := cellsAre_inv hc
  obtain ⟨u5, vs, rfl, h5, hc⟩ := cellsAre_inv hc
  have hone : ∀ u ∈ vs, u.oneCell' = true := fun u hu => by
    obtain ⟨j, hj⟩ := List.getElem?_of_mem hu
    have hlt : j < 1 := by have := (List.getElem?_eq_some_iff.1 hj).1; have := hc.1; simp at this; omega
    have : j = 0 := by omega
    subst this
    exact (hc.2 0 _ u rfl hj).2
  obtain ⟨u6, vs, rfl, h6, hc⟩ := cellsAre_inv hc
  obtain rfl := cellsAre_inv0 hc
  obtain ⟨A, cap, e, hA, hc1, hc2⟩ := sl_fwd hs (by omega) (head_fwd hs) hq.heads h5
  injection e with e; subst e
  rw [tr_v h6] at hone
  rw [tr_v h0, tr_v h1, tr_v h2, tr_v h3, tr_v h4, tr_v h6]
  exact ⟨A, cap, rfl, hA, Nat.le_trans hc1 hc2, hone bd (by simp)⟩
theorem pols_inv {m : Mm} {w : World} (hs : Sub m w) {l : List Pl.Policy} {v : Value} (hl : ∀ p ∈ l, okPolicy p) (h : TR m (.sl 5 (l.map polT)) v) : ∃ A cap, v = .slice A l.length cap ∧ SliceAt PolicyR 5 w.heap.size w A l ∧ l.length ≤ maxLen := by
  obtain ⟨A, cap, e, hA, hc1, hc2⟩ := sl_fwd hs (by omega) (policy_fwd hs) hl h
  injection e with e; subst e
  exact ⟨A, cap, rfl, hA, Nat.le_trans hc1 hc2⟩
theorem p_judge (l : List Pl.Policy) (hl : ∀ p ∈ l, okPolicy p) (a : Pl.Asker) (ha : OkAsk a) (port : Int) (q : Pl.Req) (hq : OkReq0 q) (hf : q.heads.length ≤ 1000) (tg qu : ByteArray) (bd : Value) :
    PCalls Tryz.prog 25 [.sl 5 (l.map polT), .agg (askT a), .v (.int .i64 port), .agg (reqT q tg qu bd)] (.tup [.v (.bool (Pl.judgeP (matchP a port q) l).1), .v (.int .u64 (Pl.judgeP (matchP a port q) l).2)]) where
  ent := ent_of Tryz.func25 rfl rfl
  run := fun m w vals hm hvl hv => by
    obtain ⟨x0, x1, x2, x3, rfl, h0, h1, h2, h3⟩ := args4 hvl hv
    obtain ⟨A0, cap0, rfl, hA0, hn⟩ := pols_inv hm hl h0
    obtain rfl := ask_inv h1
    rw [tr_v h2]
    obtain ⟨A, cap, rfl, hA, _, _⟩ := req_inv hm hq h3
    refine (judge l A0 cap0 a port q A cap tg qu bd w (Nat.le_refl _) hA0 hn ⟨ha.ns, ha.sa, hq.method, hq.path, hq.host, hA, hf⟩).mono fun e w' ⟨he, hlo⟩ => ?_
    rw [he]
    exact post_ex hm hlo (tr2 (.v _) (.v _))
theorem p_long (l : List Pl.Policy) (hl : ∀ p ∈ l, okPolicy p) (a : Pl.Asker) (ha : OkAsk a) (q : Pl.Req) (hq : OkReq0 q) (tg qu : ByteArray) (bd : Value) :
    PCalls Tryz.prog 7 [.sl 5 (l.map polT), .agg (askT a), .agg (reqT q tg qu bd)] (.v (.bool (long13 l a q))) where
  ent := ent_of Tryz.func7 rfl rfl
  run := fun m w vals hm hvl hv => by
    obtain ⟨x0, x1, x3, rfl, h0, h1, h3⟩ := args3 hvl hv
    obtain ⟨A0, cap0, rfl, hA0, hn⟩ := pols_inv hm hl h0
    obtain rfl := ask_inv h1
    obtain ⟨A, cap, rfl, hA, hn2, hbd⟩ := req_inv hm hq h3
    refine (long13_ l A0 cap0 a q A cap (.string tg) (.string qu) bd w (Nat.le_refl _) hA0 hn ⟨ha.ns, ha.sa, hq.method, hq.path, hq.host, hA, hn2⟩ rfl rfl hbd).mono fun e w' ⟨he, hlo⟩ => ?_
    rw [he]
    exact post_ex hm hlo (.v _)
theorem few_rule {r : Pl.Rule} (h : longRule r = false) : FewR r := by
  unfold longRule at h
  simp only [Bool.or_eq_false_iff, decide_eq_false_iff_not, List.any_eq_false] at h
  obtain ⟨⟨⟨⟨⟨h1, h2⟩, h3⟩, h4⟩, h5⟩, h6⟩ := h
  refine ⟨by omega, by omega, by omega, fun s hs => ?_, fun s hs => ?_, fun s hs => ?_⟩
  · have := h4 s hs
    simp [srcLong, termsB, rowLong] at this
    omega
  · have := h5 s hs
    simp [tgtLong, termsB, rowLong] at this
    omega
  · have := h6 s hs
    simp [whenLong, termsB, rowLong] at this
    omega
theorem few_pol {p : Pl.Policy} (h : longPol p = false) : FewP p := by
  unfold longPol at h
  simp only [Bool.or_eq_false_iff, decide_eq_false_iff_not, List.any_eq_false] at h
  exact ⟨by omega, fun r hr => few_rule (by simpa using h.2 r hr)⟩
theorem few_long {l : List Pl.Policy} {a : Pl.Asker} {q : Pl.Req} (h : long13 l a q = false) : FewL l ∧ l.length ≤ 30 ∧ q.heads.length ≤ 100 ∧ ∀ p ∈ l, FewP p := by
  unfold long13 longHeads at h
  simp only [Bool.or_eq_false_iff, decide_eq_false_iff_not, List.any_eq_false] at h
  have hp : ∀ p ∈ l, FewP p := fun p hp => few_pol (by simpa using h.2 p hp)
  exact ⟨⟨by omega, fun p h => ⟨(hp p h).n, (hp p h).r⟩⟩, by omega, by omega, hp⟩
end Go.Proofs.YtlcecabfmemfeaaGreat.Pol

/- split.Four, split.Seven, by the logic of states. -/
namespace Go.Proofs.YtlcecabfmemfeaaGreat.Pol
set_option linter.unusedVariables false
set_option linter.unusedSimpArgs false
open Go.RowKit Mem Sim Opn WAddr WName WMatch WAuth
set_option maxRecDepth 100000 in
set_option maxHeartbeats 1000000 in
theorem four1_ (p : Pl.Policy) (h : FewP p) : PCalls Tryz.prog 30 [.agg (polT p)] (.agg (polT (Pl.four4 p))) := by
  have c1 := halved_ p.rules h.n h.r
  refine pcalls_of Tryz.func30 rfl rfl Tryz.ntmps30 rfl ?_
  repeat' (first
    | refine then_go ?_
    | refine swp_seq ?_
    | ((refine swp_region (id := 0) ?_) <;> (refine sops_box (.free rfl rfl) rfl rfl rfl rfl rfl rfl ?_) <;> (refine sops_allocS str50 (.free rfl rfl) rfl rfl rfl rfl ?_) <;> (refine sops_nil ?_))
    | ((refine swp_region (id := 1) ?_) <;> (first | refine sops_pure (.free rfl rfl) rfl rfl (po_field_bx rfl rfl (tyF rfl)) ?_ | refine sops_pure (.free rfl rfl) rfl rfl (po_field rfl rfl (tyF rfl)) ?_) <;> (first | refine sops_pure (.free rfl rfl) rfl rfl (po_load_bx rfl rfl (tyT rfl) rfl rfl) ?_ | refine sops_pure (.free rfl rfl) rfl rfl (po_load rfl rfl (tyT rfl) rfl) ?_) <;> (refine sops_pure (.free rfl rfl) rfl rfl (po_call (c1) rfl (ac .nil)) ?_) <;> (first | refine sops_pure (.free rfl rfl) rfl rfl (po_field_bx rfl rfl (tyF rfl)) ?_ | refine sops_pure (.free rfl rfl) rfl rfl (po_field rfl rfl (tyF rfl)) ?_) <;> (refine sops_store (.free rfl rfl) rfl rfl rfl rfl rfl rfl (tyT rfl) rfl rfl ?_) <;> (refine sops_nil ?_))
    | ((refine swp_region (id := 2) ?_) <;> (first | refine sops_pure (.free rfl rfl) rfl rfl (po_load_bx_agg rfl rfl (tyT rfl) rfl (vc (vc (vc (vc (vc .nil))))) rfl) ?_ | refine sops_pure (.free rfl rfl) rfl rfl (po_load_agg rfl rfl (tyT rfl) rfl rfl) ?_) <;> (refine sops_store (.free rfl rfl) rfl rfl rfl rfl rfl rfl (tyT rfl) rfl rfl ?_) <;> (refine sops_nil ?_))
    | refine swp_ret ?_
    | refine swp_skip ?_
    | refine swp_block ?_
    | refine swp_exit ?_
    | refine block_go ?_
    | refine block_exit ?_
    | refine block_far rfl ?_
    | refine block_ret ?_
    | refine then_ret ?_
    | refine then_exit ?_
    | refine for_ret ?_
    | refine for_exit ?_
    | refine ct ?_
    | refine cf ?_
    | refine swp_cond rfl (fun hc => ?_) (fun hc => ?_)
    | exact retq1 (by first | exact .inr rfl | exact .inl rfl) rfl (.cell rfl rfl (tyT rfl) (vc (vc (vc (vc (vc .nil))))) rfl .nil)
    | refine retq (by first | exact .inr rfl | exact .inl rfl) rfl (.cell rfl rfl (tyT rfl) (vc (vc (vc (vc (vc .nil))))) rfl .nil) ?_)
theorem agg_le {a b c d : T} : ∀ m v, TR m (.agg [a, b, c, d, .v (.slice none 0 0)]) v → TR m (.agg [a, b, c, d, .sl 3 []]) v := fun m v h => by
  obtain ⟨vs, rfl, hc⟩ := agg_inv h
  obtain ⟨u0, vs, rfl, h0, hc⟩ := cellsAre_inv hc
  obtain ⟨u1, vs, rfl, h1, hc⟩ := cellsAre_inv hc
  obtain ⟨u2, vs, rfl, h2, hc⟩ := cellsAre_inv hc
  obtain ⟨u3, vs, rfl, h3, hc⟩ := cellsAre_inv hc
  obtain ⟨u4, vs, rfl, h4, hc⟩ := cellsAre_inv hc
  obtain rfl := cellsAre_inv0 hc
  cases h with
  | agg _ _ _ h5 _ =>
    exact agg_bwd (cellsAre_cons h0 (h5 _ (by simp)) (cellsAre_cons h1 (h5 _ (by simp)) (cellsAre_cons h2 (h5 _ (by simp)) (cellsAre_cons h3 (h5 _ (by simp)) (cellsAre_cons (nilT 3 m _ h4) (h5 _ (by simp)) (cellsAre_nil _))))))
def req0 : Pl.Req := ⟨⟨#[]⟩, ⟨#[]⟩, ⟨#[]⟩, []⟩
theorem req_le {a b c d e : T} {f : T} : ∀ m v, TR m (.agg [a, b, c, d, e, .v (.slice none 0 0), f]) v → TR m (.agg [a, b, c, d, e, .sl 2 [], f]) v := fun m v h => by
  obtain ⟨vs, rfl, hc⟩ := agg_inv h
  obtain ⟨u0, vs, rfl, h0, hc⟩ := cellsAre_inv hc
  obtain ⟨u1, vs, rfl, h1, hc⟩ := cellsAre_inv hc
  obtain ⟨u2, vs, rfl, h2, hc⟩ := cellsAre_inv hc
  obtain ⟨u3, vs, rfl, h3, hc⟩ := cellsAre_inv hc
  obtain ⟨u4, vs, rfl, h4, hc⟩ := cellsAre_inv hc
  obtain ⟨u5, vs, rfl, h5, hc⟩ := cellsAre_inv hc
  obtain ⟨u6, vs, rfl, h6, hc⟩ := cellsAre_inv hc
  obtain rfl := cellsAre_inv0 hc
  cases h with
  | agg _ _ _ h7 _ =>
    exact agg_bwd (cellsAre_cons h0 (h7 _ (by simp)) (cellsAre_cons h1 (h7 _ (by simp)) (cellsAre_cons h2 (h7 _ (by simp)) (cellsAre_cons h3 (h7 _ (by simp)) (cellsAre_cons h4 (h7 _ (by simp)) (cellsAre_cons (nilT 2 m _ h5) (h7 _ (by simp)) (cellsAre_cons h6 (h7 _ (by simp)) (cellsAre_nil _))))))))
theorem ok_noPol : okPolicy Pl.noPol := ⟨by decide, by decide, by decide, by decide, fun y hy => by cases hy⟩
set_option maxRecDepth 100000 in
set_option maxHeartbeats 2000000 in
theorem sSays_ (l : List Pl.Policy) (hl : ∀ p ∈ l, okPolicy p) (hn : l.length ≤ 1000) (allow : Int) (a : Pl.Asker) (ha : OkAsk a) (port : Int) (q : Pl.Req) (hq : OkReq0 q) (hf : q.heads.length ≤ 1000) (tg qu : ByteArray) (bd : Value) :
    PCalls Tryz.prog 32 [.sl 5 (l.map polT), .v (.int .i64 allow), .agg (askT a), .v (.int .i64 port), .agg (reqT q tg qu bd)] (.tup [.v (.bool (Pl.judgeP (matchP a port q) (Pl.saysL l allow)).1), .v (.int .u64 (Pl.judgeP (matchP a port q) (Pl.saysL l allow)).2)]) := by
  have hm1 : (l.map polT).length = l.length := List.length_map _
  have hbd : (l.map polT).length * 64 ≤ 140737488355328 := by omega
  have hmx : (l.map polT).length ≤ maxLen := by unfold maxLen; omega
  have c1 := clonePols (l.map polT) hbd hmx
  have c2 := p_judge (Pl.saysL l allow) (fun p hp => by
    unfold Pl.saysL at hp
    split at hp
    · rcases List.mem_append.1 hp with hp | hp
      · exact hl p hp
      · simp at hp; subst hp; exact ok_noPol
    · exact hl p hp) a ha port q hq hf tg qu bd
  unfold Pl.saysL at c2 ⊢
  refine pcalls_of Tryz.func32 rfl rfl Tryz.ntmps32 rfl ?_
  by_cases h1 : allow = 1
  · rw [if_pos h1] at c2 ⊢
    rw [List.map_append] at c2
    have g1 : ((l.map polT).length + 1) * 64 ≤ 140737488355328 := by omega
    have g2 : (l.map polT).length + 1 ≤ maxLen := by unfold maxLen; omega
    repeat' (first
      | refine then_go ?_
      | refine swp_seq ?_
      | ((refine swp_region (id := 0) ?_) <;> (first | refine sops_pure (.free rfl rfl) rfl rfl (po_buildSlice rfl (tyE rfl) (.cons rfl (.le agg_le) rfl rfl (.nil _)) rfl rfl rfl) ?_ | refine sops_box (.free rfl rfl) rfl rfl rfl rfl rfl rfl ?_) <;> (first | refine sops_pure (.free rfl rfl) rfl rfl (po_buildSlice rfl (tyE rfl) (.cons rfl (.le agg_le) rfl rfl (.nil _)) rfl rfl rfl) ?_ | refine sops_box (.free rfl rfl) rfl rfl rfl rfl rfl rfl ?_) <;> (first | refine sops_pure (.free rfl rfl) rfl rfl (po_buildSlice rfl (tyE rfl) (.cons rfl (.le agg_le) rfl rfl (.nil _)) rfl rfl rfl) ?_ | refine sops_pure (.free rfl rfl) rfl rfl (po_assign rfl rfl) ?_) <;> (first | refine sops_pure (.free rfl rfl) rfl rfl (po_buildSlice rfl (tyE rfl) (.cons rfl (.le agg_le) rfl rfl (.nil _)) rfl rfl rfl) ?_ | refine sops_pure (.free rfl rfl) rfl rfl (po_assign rfl rfl) ?_) <;> (refine sops_nil ?_))
      | ((refine swp_region (id := 1) ?_) <;> (first | refine sops_pure (.free rfl rfl) rfl rfl (po_buildSlice rfl (tyE rfl) (.cons rfl (.le agg_le) rfl rfl (.nil _)) rfl rfl rfl) ?_ | refine sops_pure (.free rfl rfl) rfl rfl (po_move rfl rfl) ?_) <;> (first | refine sops_pure (.free rfl rfl) rfl rfl (po_buildSlice rfl (tyE rfl) (.cons rfl (.le agg_le) rfl rfl (.nil _)) rfl rfl rfl) ?_ | refine sops_pure (.free rfl rfl) rfl rfl (po_cmp rfl rfl rfl rfl) ?_) <;> (refine sops_nil ?_))
      | ((refine swp_region (id := 2) ?_) <;> (first | refine sops_pure (.free rfl rfl) rfl rfl (po_buildSlice rfl (tyE rfl) (.cons rfl (.le agg_le) rfl rfl (.nil _)) rfl rfl rfl) ?_ | refine sops_pure (.free rfl rfl) rfl rfl (po_move rfl rfl) ?_) <;> (first | refine sops_pure (.free rfl rfl) rfl rfl (po_buildSlice rfl (tyE rfl) (.cons rfl (.le agg_le) rfl rfl (.nil _)) rfl rfl rfl) ?_ | refine sops_lcall (c1) (fun i => i) (fun i => i) (fun _ => false) (.free rfl rfl) rfl rfl rfl (by repeat' (first | exact .nil | refine .cons rfl rfl rfl ?_ | refine .vw rfl (by first | exact .t _ | exact .own rfl (by first | rfl | assumption | (simp; done) | (simp; omega)) | exact .nil _ | exact .emp _ | exact .fn _) ?_)) .nil .nil rfl rfl (fun _ h => Bool.noConfusion h) ?_ | refine sops_pure (.free rfl rfl) rfl rfl (po_call_see (c2) rfl (.cons rfl (by first | exact .t _ | exact .own rfl (by first | rfl | assumption | omega | (simp; done) | (simp; omega) | (simp at *; omega)) | exact .nil _ | exact .emp _ | exact .fn _ | (repeat' first | exact .agn | refine .agc ?_ ?_ | exact .t _ | exact .own rfl rfl)) .nil) rfl) ?_) <;> (first | refine sops_pure (.free rfl rfl) rfl rfl (po_buildSlice rfl (tyE rfl) (.cons rfl (.le agg_le) rfl rfl (.nil _)) rfl rfl rfl) ?_ | refine sops_pure (.free rfl rfl) rfl rfl (po_buildS str50 rfl .nil rfl) ?_) <;> (first | refine sops_pure (.free rfl rfl) rfl rfl (po_buildSlice rfl (tyE rfl) (.cons rfl (.le agg_le) rfl rfl (.nil _)) rfl rfl rfl) ?_ | refine sops_pure (.free rfl rfl) rfl rfl (po_buildSlice rfl (tyE rfl) (.cons rfl (by first | exact .t _ | exact .own rfl (by first | rfl | assumption | (simp; done) | (simp; omega)) | exact .nil _ | exact .emp _ | exact .fn _) rfl rfl (.nil _)) rfl rfl rfl) ?_) <;> (first | refine sops_pure (.free rfl rfl) rfl rfl (po_buildSlice rfl (tyE rfl) (.cons rfl (.le agg_le) rfl rfl (.nil _)) rfl rfl rfl) ?_ | refine sops_append rfl rfl rfl rfl rfl rfl (by first | rfl | simp) rfl (by first | exact .t _ | exact .own rfl (by first | rfl | assumption | (simp; done) | (simp; omega)) | exact .nil _ | exact .emp _ | exact .fn _) (tyE rfl) (by first | assumption | (simp at *; omega)) (by first | assumption | (simp [maxLen] at *; omega)) ?_ | refine sops_append_nil rfl rfl rfl rfl rfl rfl rfl (by first | exact .t _ | exact .own rfl (by first | rfl | assumption | (simp; done) | (simp; omega)) | exact .nil _ | exact .emp _ | exact .fn _) (tyE rfl) (by first | assumption | (simp at *; omega)) (by first | assumption | (simp [maxLen] at *; omega)) ?_) <;> (first | refine sops_pure (.free rfl rfl) rfl rfl (po_buildSlice rfl (tyE rfl) (.cons rfl (.le agg_le) rfl rfl (.nil _)) rfl rfl rfl) ?_ | refine sops_pure (.free rfl rfl) rfl rfl (po_assign rfl rfl) ?_) <;> (refine sops_nil ?_))
      | ((refine swp_region (id := 3) ?_) <;> (first | refine sops_pure (.free rfl rfl) rfl rfl (po_buildSlice rfl (tyE rfl) (.cons rfl (.le agg_le) rfl rfl (.nil _)) rfl rfl rfl) ?_ | refine sops_pure (.free rfl rfl) rfl rfl (po_move rfl rfl) ?_) <;> (first | refine sops_pure (.free rfl rfl) rfl rfl (po_buildSlice rfl (tyE rfl) (.cons rfl (.le agg_le) rfl rfl (.nil _)) rfl rfl rfl) ?_ | refine sops_pure (.free rfl rfl) rfl rfl (po_load_bx_agg rfl rfl (tyT rfl) rfl (vc (vc (vc .nil))) rfl) ?_ | refine sops_pure (.free rfl rfl) rfl rfl (po_load_agg rfl rfl (tyT rfl) rfl rfl) ?_) <;> (first | refine sops_pure (.free rfl rfl) rfl rfl (po_buildSlice rfl (tyE rfl) (.cons rfl (.le agg_le) rfl rfl (.nil _)) rfl rfl rfl) ?_ | refine sops_pure (.free rfl rfl) rfl rfl (po_move rfl rfl) ?_) <;> (first | refine sops_pure (.free rfl rfl) rfl rfl (po_buildSlice rfl (tyE rfl) (.cons rfl (.le agg_le) rfl rfl (.nil _)) rfl rfl rfl) ?_ | refine sops_pure (.free rfl rfl) rfl rfl (po_load_bx_agg rfl rfl (tyT rfl) rfl (vc (vc (vc (vc (vc (vc (vc .nil))))))) rfl) ?_ | refine sops_pure (.free rfl rfl) rfl rfl (po_load_agg rfl rfl (tyT rfl) rfl rfl) ?_) <;> (first | refine sops_pure (.free rfl rfl) rfl rfl (po_buildSlice rfl (tyE rfl) (.cons rfl (.le agg_le) rfl rfl (.nil _)) rfl rfl rfl) ?_ | refine sops_lcall (c1) (fun i => i) (fun i => i) (fun _ => false) (.free rfl rfl) rfl rfl rfl (by repeat' (first | exact .nil | refine .cons rfl rfl rfl ?_ | refine .vw rfl (by first | exact .t _ | exact .own rfl (by first | rfl | assumption | (simp; done) | (simp; omega)) | exact .nil _ | exact .emp _ | exact .fn _) ?_)) .nil .nil rfl rfl (fun _ h => Bool.noConfusion h) ?_ | refine sops_pure (.free rfl rfl) rfl rfl (po_call_see (c2) rfl (.cons rfl (by first | exact .t _ | exact .own rfl (by first | rfl | assumption | omega | (simp; done) | (simp; omega) | (simp at *; omega)) | exact .nil _ | exact .emp _ | exact .fn _ | (repeat' first | exact .agn | refine .agc ?_ ?_ | exact .t _ | exact .own rfl rfl)) (.cons rfl (by first | exact .t _ | exact .own rfl (by first | rfl | assumption | omega | (simp; done) | (simp; omega) | (simp at *; omega)) | exact .nil _ | exact .emp _ | exact .fn _ | (repeat' first | exact .agn | refine .agc ?_ ?_ | exact .t _ | exact .own rfl rfl)) (.cons rfl (by first | exact .t _ | exact .own rfl (by first | rfl | assumption | omega | (simp; done) | (simp; omega) | (simp at *; omega)) | exact .nil _ | exact .emp _ | exact .fn _ | (repeat' first | exact .agn | refine .agc ?_ ?_ | exact .t _ | exact .own rfl rfl)) (.cons rfl (by first | exact .t _ | exact .own rfl (by first | rfl | assumption | omega | (simp; done) | (simp; omega) | (simp at *; omega)) | exact .nil _ | exact .emp _ | exact .fn _ | (repeat' first | exact .agn | refine .agc ?_ ?_ | exact .t _ | exact .own rfl rfl)) .nil)))) rfl) ?_) <;> (first | refine sops_pure (.free rfl rfl) rfl rfl (po_buildSlice rfl (tyE rfl) (.cons rfl (.le agg_le) rfl rfl (.nil _)) rfl rfl rfl) ?_ | refine sops_pure (.free rfl rfl) rfl rfl (po_extract rfl rfl rfl) ?_) <;> (first | refine sops_pure (.free rfl rfl) rfl rfl (po_buildSlice rfl (tyE rfl) (.cons rfl (.le agg_le) rfl rfl (.nil _)) rfl rfl rfl) ?_ | refine sops_pure (.free rfl rfl) rfl rfl (po_extract rfl rfl rfl) ?_) <;> (first | refine sops_pure (.free rfl rfl) rfl rfl (po_buildSlice rfl (tyE rfl) (.cons rfl (.le agg_le) rfl rfl (.nil _)) rfl rfl rfl) ?_ | refine sops_pure (.free rfl rfl) rfl rfl (po_assign rfl rfl) ?_) <;> (first | refine sops_pure (.free rfl rfl) rfl rfl (po_buildSlice rfl (tyE rfl) (.cons rfl (.le agg_le) rfl rfl (.nil _)) rfl rfl rfl) ?_ | refine sops_pure (.free rfl rfl) rfl rfl (po_assign rfl rfl) ?_) <;> (refine sops_nil ?_))
      | refine swp_ret ?_
      | refine swp_skip ?_
      | refine swp_block ?_
      | refine swp_exit ?_
      | refine block_go ?_
      | refine block_exit ?_
      | refine block_far rfl ?_
      | refine block_ret ?_
      | refine then_ret ?_
      | refine then_exit ?_
      | refine for_ret ?_
      | refine for_exit ?_
      | refine ct ?_
      | refine cf ?_
      | refine swp_cond rfl (fun hc => ?_) (fun hc => ?_)
      | refine retq (by first | exact .inr rfl | exact .inl rfl) rfl (.tmp rfl (by first | exact .t _ | exact .own rfl (by first | rfl | assumption | (simp; done) | (simp; omega)) | exact .nil _ | exact .emp _ | exact .fn _) (.tmp rfl (by first | exact .t _ | exact .own rfl (by first | rfl | assumption | (simp; done) | (simp; omega)) | exact .nil _ | exact .emp _ | exact .fn _) .nil)) ?_)
    rfl
  · rw [if_neg h1] at c2 ⊢
    repeat' (first
      | refine then_go ?_
      | refine swp_seq ?_
      | ((refine swp_region (id := 0) ?_) <;> (refine sops_box (.free rfl rfl) rfl rfl rfl rfl rfl rfl ?_) <;> (refine sops_box (.free rfl rfl) rfl rfl rfl rfl rfl rfl ?_) <;> (refine sops_pure (.free rfl rfl) rfl rfl (po_assign rfl rfl) ?_) <;> (refine sops_pure (.free rfl rfl) rfl rfl (po_assign rfl rfl) ?_) <;> (refine sops_nil ?_))
      | ((refine swp_region (id := 1) ?_) <;> (refine sops_pure (.free rfl rfl) rfl rfl (po_move rfl rfl) ?_) <;> (refine sops_pure (.free rfl rfl) rfl rfl (po_cmp rfl rfl rfl rfl) ?_) <;> (refine sops_nil ?_))
      | ((refine swp_region (id := 2) ?_) <;> (refine sops_pure (.free rfl rfl) rfl rfl (po_move rfl rfl) ?_) <;> (refine sops_pure (.free rfl rfl) rfl rfl (po_call_see (c2) rfl (.cons rfl (by first | exact .t _ | exact .own rfl (by first | rfl | assumption | omega | (simp; done) | (simp; omega) | (simp at *; omega)) | exact .nil _ | exact .emp _ | exact .fn _ | (repeat' first | exact .agn | refine .agc ?_ ?_ | exact .t _ | exact .own rfl rfl)) .nil) rfl) ?_) <;> (refine sops_pure (.free rfl rfl) rfl rfl (po_buildS str50 rfl .nil rfl) ?_) <;> (refine sops_pure (.free rfl rfl) rfl rfl (po_buildSlice rfl (tyE rfl) (.cons rfl (by first | exact .t _ | exact .own rfl (by first | rfl | assumption | (simp; done) | (simp; omega)) | exact .nil _ | exact .emp _ | exact .fn _) rfl rfl (.nil _)) rfl rfl rfl) ?_) <;> (first | refine sops_append rfl rfl rfl rfl rfl rfl (by first | rfl | simp) rfl (by first | exact .t _ | exact .own rfl (by first | rfl | assumption | (simp; done) | (simp; omega)) | exact .nil _ | exact .emp _ | exact .fn _) (tyE rfl) (by first | assumption | (simp at *; omega)) (by first | assumption | (simp [maxLen] at *; omega)) ?_ | refine sops_append_nil rfl rfl rfl rfl rfl rfl rfl (by first | exact .t _ | exact .own rfl (by first | rfl | assumption | (simp; done) | (simp; omega)) | exact .nil _ | exact .emp _ | exact .fn _) (tyE rfl) (by first | assumption | (simp at *; omega)) (by first | assumption | (simp [maxLen] at *; omega)) ?_) <;> (refine sops_pure (.free rfl rfl) rfl rfl (po_assign rfl rfl) ?_) <;> (refine sops_nil ?_))
      | ((refine swp_region (id := 3) ?_) <;> (refine sops_pure (.free rfl rfl) rfl rfl (po_move rfl rfl) ?_) <;> (first | refine sops_pure (.free rfl rfl) rfl rfl (po_load_bx_agg rfl rfl (tyT rfl) rfl (vc (vc (vc .nil))) rfl) ?_ | refine sops_pure (.free rfl rfl) rfl rfl (po_load_agg rfl rfl (tyT rfl) rfl rfl) ?_) <;> (refine sops_pure (.free rfl rfl) rfl rfl (po_move rfl rfl) ?_) <;> (first | refine sops_pure (.free rfl rfl) rfl rfl (po_load_bx_agg rfl rfl (tyT rfl) rfl (vc (vc (vc (vc (vc (vc (vc .nil))))))) rfl) ?_ | refine sops_pure (.free rfl rfl) rfl rfl (po_load_agg rfl rfl (tyT rfl) rfl rfl) ?_) <;> (refine sops_pure (.free rfl rfl) rfl rfl (po_call_see (c2) rfl (.cons rfl (by first | exact .t _ | exact .own rfl (by first | rfl | assumption | omega | (simp; done) | (simp; omega) | (simp at *; omega)) | exact .nil _ | exact .emp _ | exact .fn _ | (repeat' first | exact .agn | refine .agc ?_ ?_ | exact .t _ | exact .own rfl rfl)) (.cons rfl (by first | exact .t _ | exact .own rfl (by first | rfl | assumption | omega | (simp; done) | (simp; omega) | (simp at *; omega)) | exact .nil _ | exact .emp _ | exact .fn _ | (repeat' first | exact .agn | refine .agc ?_ ?_ | exact .t _ | exact .own rfl rfl)) (.cons rfl (by first | exact .t _ | exact .own rfl (by first | rfl | assumption | omega | (simp; done) | (simp; omega) | (simp at *; omega)) | exact .nil _ | exact .emp _ | exact .fn _ | (repeat' first | exact .agn | refine .agc ?_ ?_ | exact .t _ | exact .own rfl rfl)) (.cons rfl (by first | exact .t _ | exact .own rfl (by first | rfl | assumption | omega | (simp; done) | (simp; omega) | (simp at *; omega)) | exact .nil _ | exact .emp _ | exact .fn _ | (repeat' first | exact .agn | refine .agc ?_ ?_ | exact .t _ | exact .own rfl rfl)) .nil)))) rfl) ?_) <;> (refine sops_pure (.free rfl rfl) rfl rfl (po_extract rfl rfl rfl) ?_) <;> (refine sops_pure (.free rfl rfl) rfl rfl (po_extract rfl rfl rfl) ?_) <;> (refine sops_pure (.free rfl rfl) rfl rfl (po_assign rfl rfl) ?_) <;> (refine sops_pure (.free rfl rfl) rfl rfl (po_assign rfl rfl) ?_) <;> (refine sops_nil ?_))
      | refine swp_ret ?_
      | refine swp_skip ?_
      | refine swp_block ?_
      | refine swp_exit ?_
      | refine block_go ?_
      | refine block_exit ?_
      | refine block_far rfl ?_
      | refine block_ret ?_
      | refine then_ret ?_
      | refine then_exit ?_
      | refine for_ret ?_
      | refine for_exit ?_
      | refine ct ?_
      | refine cf ?_
      | refine swp_cond rfl (fun hc => ?_) (fun hc => ?_)
      | refine retq (by first | exact .inr rfl | exact .inl rfl) rfl (.tmp rfl (by first | exact .t _ | exact .own rfl (by first | rfl | assumption | (simp; done) | (simp; omega)) | exact .nil _ | exact .emp _ | exact .fn _) (.tmp rfl (by first | exact .t _ | exact .own rfl (by first | rfl | assumption | (simp; done) | (simp; omega)) | exact .nil _ | exact .emp _ | exact .fn _) .nil)) ?_)
    rfl
set_option maxRecDepth 100000 in
set_option maxHeartbeats 2000000 in
theorem seven_ (l : List Pl.Policy) (hl : ∀ p ∈ l, okPolicy p) (hn : l.length ≤ 1000) (allow : Int) (a : Pl.Asker) (ha : OkAsk a) (port : Int) (q : Pl.Req) (hq : OkReq0 q) (hf : q.heads.length ≤ 1000) (tg qu : ByteArray) (bd : Value) :
    PCalls Tryz.prog 11 [.agg [.sl 5 (l.map polT), .v (.int .i64 allow)], .agg (askT a), .v (.int .i64 port), .agg (reqT q tg qu bd)] (.tup [.v (.bool (Pl.judgeP (matchP a port q) (Pl.saysL l allow)).1), .v (.int .u64 (Pl.judgeP (matchP a port q) (Pl.saysL l allow)).2)]) := by
  have c1 := sSays_ l hl hn allow a ha port q hq hf tg qu bd
  refine pcalls_of Tryz.func11 rfl rfl Tryz.ntmps11 rfl ?_
  repeat' (first
    | refine then_go ?_
    | refine swp_seq ?_
    | ((refine swp_region (id := 0) ?_) <;> (refine sops_box (.free rfl rfl) rfl rfl rfl rfl rfl rfl ?_) <;> (refine sops_box (.free rfl rfl) rfl rfl rfl rfl rfl rfl ?_) <;> (refine sops_box (.free rfl rfl) rfl rfl rfl rfl rfl rfl ?_) <;> (refine sops_pure (.free rfl rfl) rfl rfl (po_assign rfl rfl) ?_) <;> (refine sops_pure (.free rfl rfl) rfl rfl (po_assign rfl rfl) ?_) <;> (refine sops_nil ?_))
    | ((refine swp_region (id := 1) ?_) <;> (first | refine sops_pure (.free rfl rfl) rfl rfl (po_field_bx rfl rfl (tyF rfl)) ?_ | refine sops_pure (.free rfl rfl) rfl rfl (po_field rfl rfl (tyF rfl)) ?_) <;> (first | refine sops_pure (.free rfl rfl) rfl rfl (po_load_bx rfl rfl (tyT rfl) rfl rfl) ?_ | refine sops_pure (.free rfl rfl) rfl rfl (po_load rfl rfl (tyT rfl) rfl) ?_) <;> (first | refine sops_pure (.free rfl rfl) rfl rfl (po_field_bx rfl rfl (tyF rfl)) ?_ | refine sops_pure (.free rfl rfl) rfl rfl (po_field rfl rfl (tyF rfl)) ?_) <;> (first | refine sops_pure (.free rfl rfl) rfl rfl (po_load_bx rfl rfl (tyT rfl) rfl rfl) ?_ | refine sops_pure (.free rfl rfl) rfl rfl (po_load rfl rfl (tyT rfl) rfl) ?_) <;> (first | refine sops_pure (.free rfl rfl) rfl rfl (po_load_bx_agg rfl rfl (tyT rfl) rfl (vc (vc (vc .nil))) rfl) ?_ | refine sops_pure (.free rfl rfl) rfl rfl (po_load_agg rfl rfl (tyT rfl) rfl rfl) ?_) <;> (refine sops_pure (.free rfl rfl) rfl rfl (po_move rfl rfl) ?_) <;> (first | refine sops_pure (.free rfl rfl) rfl rfl (po_load_bx_agg rfl rfl (tyT rfl) rfl (vc (vc (vc (vc (vc (vc (vc .nil))))))) rfl) ?_ | refine sops_pure (.free rfl rfl) rfl rfl (po_load_agg rfl rfl (tyT rfl) rfl rfl) ?_) <;> (refine sops_pure (.free rfl rfl) rfl rfl (po_call (c1) rfl (ac (ac (ac (ac (ac .nil)))))) ?_) <;> (refine sops_pure (.free rfl rfl) rfl rfl (po_extract rfl rfl rfl) ?_) <;> (refine sops_pure (.free rfl rfl) rfl rfl (po_extract rfl rfl rfl) ?_) <;> (refine sops_pure (.free rfl rfl) rfl rfl (po_assign rfl rfl) ?_) <;> (refine sops_pure (.free rfl rfl) rfl rfl (po_assign rfl rfl) ?_) <;> (refine sops_nil ?_))
    | refine swp_ret ?_
    | refine swp_skip ?_
    | refine swp_block ?_
    | refine swp_exit ?_
    | refine block_go ?_
    | refine block_exit ?_
    | refine block_far rfl ?_
    | refine block_ret ?_
    | refine then_ret ?_
    | refine then_exit ?_
    | refine for_ret ?_
    | refine for_exit ?_
    | refine ct ?_
    | refine cf ?_
    | refine swp_cond rfl (fun hc => ?_) (fun hc => ?_)
    | refine retq (by first | exact .inr rfl | exact .inl rfl) rfl (.tmp rfl (by first | exact .t _ | exact .own rfl (by first | rfl | assumption | (simp; done) | (simp; omega)) | exact .nil _ | exact .emp _ | exact .fn _) (.tmp rfl (by first | exact .t _ | exact .own rfl (by first | rfl | assumption | (simp; done) | (simp; omega)) | exact .nil _ | exact .emp _ | exact .fn _) .nil)) ?_)
  rfl
theorem ok_four4 {p : Pl.Policy} (h : okPolicy p) : okPolicy (Pl.four4 p) := ⟨h.1, h.2.1, h.2.2.1, h.2.2.2.1, fun r hr => by
  obtain ⟨r0, h0, rfl⟩ := List.mem_map.1 hr
  obtain ⟨h1, h2, h3⟩ := h.2.2.2.2 r0 h0
  refine ⟨h1, fun t ht => ?_, fun w hw => by cases hw⟩
  obtain ⟨t0, h4, rfl⟩ := List.mem_map.1 ht
  exact ⟨(h2 t0 h4).1, (fun y hy => by cases hy), (fun y hy => by cases hy), (fun y hy => by cases hy)⟩⟩
theorem okReq0_0 : OkReq0 req0 := ⟨by decide, by decide, by decide, fun h hh => by cases hh⟩
set_option maxRecDepth 100000 in
set_option maxHeartbeats 2000000 in
theorem fourS_ (l : List Pl.Policy) (hl : ∀ p ∈ l, okPolicy p) (hf : ∀ p ∈ l, FewP p) (hn : l.length ≤ 1000) (allow : Int) (a : Pl.Asker) (ha : OkAsk a) (port : Int) :
    PCalls Tryz.prog 9 [.agg [.sl 5 (l.map polT), .v (.int .i64 allow)], .agg (askT a), .v (.int .i64 port)] (.tup [.v (.bool (Pl.judgeP (matchP a port req0) (Pl.saysL (l.map Pl.four4) allow)).1), .v (.int .u64 (Pl.judgeP (matchP a port req0) (Pl.saysL (l.map Pl.four4) allow)).2)]) := by
  have c1 := mapSPolicy Pl.four4 30 [] l (fun p hp => four1_ p (hf p hp)) hn
  have c2 := sSays_ (l.map Pl.four4) (fun p hp => by obtain ⟨p0, h0, rfl⟩ := List.mem_map.1 hp; exact ok_four4 (hl p0 h0)) (by rw [List.length_map]; exact hn) allow a ha port req0 okReq0_0 (by decide) ⟨#[]⟩ ⟨#[]⟩ (.slice none 0 0)
  refine pcalls_of Tryz.func9 rfl rfl Tryz.ntmps9 rfl ?_
  repeat' (first
    | refine then_go ?_
    | refine swp_seq ?_
    | ((refine swp_region (id := 0) ?_) <;> (first | refine sops_pure (.free rfl rfl) rfl rfl (po_call (c2) rfl (.cons rfl (.t _) (.cons rfl (.t _) (.cons rfl (.t _) (.cons rfl (.t _) (.cons rfl (.le req_le) .nil)))))) ?_ | refine sops_box (.free rfl rfl) rfl rfl rfl rfl rfl rfl ?_) <;> (first | refine sops_pure (.free rfl rfl) rfl rfl (po_call (c2) rfl (.cons rfl (.t _) (.cons rfl (.t _) (.cons rfl (.t _) (.cons rfl (.t _) (.cons rfl (.le req_le) .nil)))))) ?_ | refine sops_box (.free rfl rfl) rfl rfl rfl rfl rfl rfl ?_) <;> (first | refine sops_pure (.free rfl rfl) rfl rfl (po_call (c2) rfl (.cons rfl (.t _) (.cons rfl (.t _) (.cons rfl (.t _) (.cons rfl (.t _) (.cons rfl (.le req_le) .nil)))))) ?_ | refine sops_pure (.free rfl rfl) rfl rfl (po_assign rfl rfl) ?_) <;> (first | refine sops_pure (.free rfl rfl) rfl rfl (po_call (c2) rfl (.cons rfl (.t _) (.cons rfl (.t _) (.cons rfl (.t _) (.cons rfl (.t _) (.cons rfl (.le req_le) .nil)))))) ?_ | refine sops_pure (.free rfl rfl) rfl rfl (po_assign rfl rfl) ?_) <;> (refine sops_nil ?_))
    | ((refine swp_region (id := 1) ?_) <;> (first | refine sops_pure (.free rfl rfl) rfl rfl (po_call (c2) rfl (.cons rfl (.t _) (.cons rfl (.t _) (.cons rfl (.t _) (.cons rfl (.t _) (.cons rfl (.le req_le) .nil)))))) ?_ | refine sops_pure (.free rfl rfl) rfl rfl (po_field_bx rfl rfl (tyF rfl)) ?_ | refine sops_pure (.free rfl rfl) rfl rfl (po_field rfl rfl (tyF rfl)) ?_) <;> (first | refine sops_pure (.free rfl rfl) rfl rfl (po_call (c2) rfl (.cons rfl (.t _) (.cons rfl (.t _) (.cons rfl (.t _) (.cons rfl (.t _) (.cons rfl (.le req_le) .nil)))))) ?_ | refine sops_pure (.free rfl rfl) rfl rfl (po_load_bx rfl rfl (tyT rfl) rfl rfl) ?_ | refine sops_pure (.free rfl rfl) rfl rfl (po_load rfl rfl (tyT rfl) rfl) ?_) <;> (first | refine sops_pure (.free rfl rfl) rfl rfl (po_call (c2) rfl (.cons rfl (.t _) (.cons rfl (.t _) (.cons rfl (.t _) (.cons rfl (.t _) (.cons rfl (.le req_le) .nil)))))) ?_ | refine sops_pure (.free rfl rfl) rfl rfl (po_call (c1) rfl (ac (ac .nil))) ?_) <;> (first | refine sops_pure (.free rfl rfl) rfl rfl (po_call (c2) rfl (.cons rfl (.t _) (.cons rfl (.t _) (.cons rfl (.t _) (.cons rfl (.t _) (.cons rfl (.le req_le) .nil)))))) ?_ | refine sops_pure (.free rfl rfl) rfl rfl (po_assign rfl rfl) ?_) <;> (refine sops_nil ?_))
    | ((refine swp_region (id := 2) ?_) <;> (first | refine sops_pure (.free rfl rfl) rfl rfl (po_call (c2) rfl (.cons rfl (.t _) (.cons rfl (.t _) (.cons rfl (.t _) (.cons rfl (.t _) (.cons rfl (.le req_le) .nil)))))) ?_ | refine sops_pure (.free rfl rfl) rfl rfl (po_move rfl rfl) ?_) <;> (first | refine sops_pure (.free rfl rfl) rfl rfl (po_call (c2) rfl (.cons rfl (.t _) (.cons rfl (.t _) (.cons rfl (.t _) (.cons rfl (.t _) (.cons rfl (.le req_le) .nil)))))) ?_ | refine sops_pure (.free rfl rfl) rfl rfl (po_field_bx rfl rfl (tyF rfl)) ?_ | refine sops_pure (.free rfl rfl) rfl rfl (po_field rfl rfl (tyF rfl)) ?_) <;> (first | refine sops_pure (.free rfl rfl) rfl rfl (po_call (c2) rfl (.cons rfl (.t _) (.cons rfl (.t _) (.cons rfl (.t _) (.cons rfl (.t _) (.cons rfl (.le req_le) .nil)))))) ?_ | refine sops_pure (.free rfl rfl) rfl rfl (po_load_bx rfl rfl (tyT rfl) rfl rfl) ?_ | refine sops_pure (.free rfl rfl) rfl rfl (po_load rfl rfl (tyT rfl) rfl) ?_) <;> (first | refine sops_pure (.free rfl rfl) rfl rfl (po_call (c2) rfl (.cons rfl (.t _) (.cons rfl (.t _) (.cons rfl (.t _) (.cons rfl (.t _) (.cons rfl (.le req_le) .nil)))))) ?_ | refine sops_pure (.free rfl rfl) rfl rfl (po_load_bx_agg rfl rfl (tyT rfl) rfl (vc (vc (vc .nil))) rfl) ?_ | refine sops_pure (.free rfl rfl) rfl rfl (po_load_agg rfl rfl (tyT rfl) rfl rfl) ?_) <;> (first | refine sops_pure (.free rfl rfl) rfl rfl (po_call (c2) rfl (.cons rfl (.t _) (.cons rfl (.t _) (.cons rfl (.t _) (.cons rfl (.t _) (.cons rfl (.le req_le) .nil)))))) ?_ | refine sops_pure (.free rfl rfl) rfl rfl (po_move rfl rfl) ?_) <;> (first | refine sops_pure (.free rfl rfl) rfl rfl (po_call (c2) rfl (.cons rfl (.t _) (.cons rfl (.t _) (.cons rfl (.t _) (.cons rfl (.t _) (.cons rfl (.le req_le) .nil)))))) ?_ | refine sops_pure (.free rfl rfl) rfl rfl (po_buildS str33 rfl .nil rfl) ?_) <;> (first | refine sops_pure (.free rfl rfl) rfl rfl (po_call (c2) rfl (.cons rfl (.t _) (.cons rfl (.t _) (.cons rfl (.t _) (.cons rfl (.t _) (.cons rfl (.le req_le) .nil)))))) ?_ | refine sops_pure (.free rfl rfl) rfl rfl (po_call (c1) rfl (ac (ac (ac (ac (ac .nil)))))) ?_) <;> (first | refine sops_pure (.free rfl rfl) rfl rfl (po_call (c2) rfl (.cons rfl (.t _) (.cons rfl (.t _) (.cons rfl (.t _) (.cons rfl (.t _) (.cons rfl (.le req_le) .nil)))))) ?_ | refine sops_pure (.free rfl rfl) rfl rfl (po_extract rfl rfl rfl) ?_) <;> (first | refine sops_pure (.free rfl rfl) rfl rfl (po_call (c2) rfl (.cons rfl (.t _) (.cons rfl (.t _) (.cons rfl (.t _) (.cons rfl (.t _) (.cons rfl (.le req_le) .nil)))))) ?_ | refine sops_pure (.free rfl rfl) rfl rfl (po_extract rfl rfl rfl) ?_) <;> (first | refine sops_pure (.free rfl rfl) rfl rfl (po_call (c2) rfl (.cons rfl (.t _) (.cons rfl (.t _) (.cons rfl (.t _) (.cons rfl (.t _) (.cons rfl (.le req_le) .nil)))))) ?_ | refine sops_pure (.free rfl rfl) rfl rfl (po_assign rfl rfl) ?_) <;> (first | refine sops_pure (.free rfl rfl) rfl rfl (po_call (c2) rfl (.cons rfl (.t _) (.cons rfl (.t _) (.cons rfl (.t _) (.cons rfl (.t _) (.cons rfl (.le req_le) .nil)))))) ?_ | refine sops_pure (.free rfl rfl) rfl rfl (po_assign rfl rfl) ?_) <;> (refine sops_nil ?_))
    | refine swp_ret ?_
    | refine swp_skip ?_
    | refine swp_block ?_
    | refine swp_exit ?_
    | refine block_go ?_
    | refine block_exit ?_
    | refine block_far rfl ?_
    | refine block_ret ?_
    | refine then_ret ?_
    | refine then_exit ?_
    | refine for_ret ?_
    | refine for_exit ?_
    | refine ct ?_
    | refine cf ?_
    | refine swp_cond rfl (fun hc => ?_) (fun hc => ?_)
    | refine retq (by first | exact .inr rfl | exact .inl rfl) rfl (.tmp rfl (by first | exact .t _ | exact .own rfl (by first | rfl | assumption | (simp; done) | (simp; omega)) | exact .nil _ | exact .emp _ | exact .fn _) (.tmp rfl (by first | exact .t _ | exact .own rfl (by first | rfl | assumption | (simp; done) | (simp; omega)) | exact .nil _ | exact .emp _ | exact .fn _) .nil)) ?_)
  rfl
end Go.Proofs.YtlcecabfmemfeaaGreat.Pol

/- The chapter's examples, by the logic of states. -/
namespace Go.Proofs.YtlcecabfmemfeaaGreat.Pol
set_option linter.unusedVariables false
set_option linter.unusedSimpArgs false
open Go.RowKit Mem Sim Opn WAddr WName WMatch WAuth
inductive LeL : List T → List T → Prop
  | nil : LeL [] []
  | cons {a b : T} {as_ bs : List T} (h : ∀ m v, TR m a v → TR m b v) (hl : LeL as_ bs) : LeL (a :: as_) (b :: bs)
theorem le_refl (a : T) : ∀ m v, TR m a v → TR m a v := fun _ _ h => h
theorem LeL.at {cs ds : List T} (h : LeL cs ds) : cs.length = ds.length ∧ ∀ (j : Nat) a b m v, cs[j]? = some a → ds[j]? = some b → TR m a v → TR m b v := by
  induction h with
  | nil => exact ⟨rfl, fun j a b m v h => by simp at h⟩
  | cons h hl ih =>
    refine ⟨by simp [ih.1], fun j a b m v h1 h2 h3 => ?_⟩
    cases j with
    | zero => simp at h1 h2; subst h1 h2; exact h m v h3
    | succ j => exact ih.2 j a b m v (by simpa using h1) (by simpa using h2) h3
theorem aggLe {cs ds : List T} (h : LeL cs ds) : ∀ m v, TR m (.agg cs) v → TR m (.agg ds) v := fun m v hv => by
  obtain ⟨hl, ha⟩ := h.at
  cases hv with
  | agg _ vs h1 h2 h3 =>
    refine .agg ds vs (by omega) h2 fun j t v h4 h5 => ?_
    have hlt : j < cs.length := by rw [hl]; exact (List.getElem?_eq_some_iff.1 h4).1
    exact ha j _ t m v (List.getElem?_eq_getElem hlt) h4 (h3 j _ v (List.getElem?_eq_getElem hlt) h5)
def sGET : ByteArray := ⟨#[71, 69, 84]⟩
def sA : ByteArray := ⟨#[47, 97]⟩
def sB : ByteArray := ⟨#[47, 98]⟩
def exPols : List Pl.Policy := [⟨1, ⟨#[]⟩, 0, 0, [⟨[], [⟨[80], [⟨1, sGET⟩], [], []⟩], []⟩]⟩, ⟨2, ⟨#[]⟩, 0, 1, [⟨[], [⟨[], [], [⟨2, sA⟩], []⟩], []⟩]⟩]
set_option maxRecDepth 100000 in
set_option maxHeartbeats 1000000 in
theorem term14 (k : Int) (s : ByteArray) : PCalls Tryz.prog 52 [.v (.int .i64 k), .v (.string s)] (.sl 2 [[.v (.int .i64 k), .v (.string s)]]) := by
  refine pcalls_of Tryz.func52 rfl rfl Tryz.ntmps52 rfl ?_
  repeat' (first
    | refine then_go ?_
    | refine swp_seq ?_
    | ((refine swp_region (id := 0) ?_) <;> (refine sops_pure (.free rfl rfl) rfl rfl (po_assign rfl rfl) ?_) <;> (refine sops_nil ?_))
    | ((refine swp_region (id := 1) ?_) <;> (refine sops_pure (.free rfl rfl) rfl rfl (po_move rfl rfl) ?_) <;> (refine sops_pure (.free rfl rfl) rfl rfl (po_move rfl rfl) ?_) <;> (refine sops_pure (.free rfl rfl) rfl rfl (po_buildS str90 rfl (.cons rfl (by first | exact .t _ | exact .own rfl (by first | rfl | assumption | (simp; done) | (simp; omega)) | exact .nil _ | exact .emp _ | exact .fn _) (.cons rfl (by first | exact .t _ | exact .own rfl (by first | rfl | assumption | (simp; done) | (simp; omega)) | exact .nil _ | exact .emp _ | exact .fn _) .nil)) rfl) ?_) <;> (refine sops_pure (.free rfl rfl) rfl rfl (po_buildSlice rfl (tyE rfl) (.cons rfl (by first | exact .t _ | exact .own rfl (by first | rfl | assumption | (simp; done) | (simp; omega)) | exact .nil _ | exact .emp _ | exact .fn _) rfl rfl (.nil _)) rfl rfl rfl) ?_) <;> (refine sops_pure (.free rfl rfl) rfl rfl (po_assign rfl rfl) ?_) <;> (refine sops_nil ?_))
    | refine swp_ret ?_
    | refine swp_skip ?_
    | refine swp_block ?_
    | refine swp_exit ?_
    | refine block_go ?_
    | refine block_exit ?_
    | refine block_far rfl ?_
    | refine block_ret ?_
    | refine then_ret ?_
    | refine then_exit ?_
    | refine for_ret ?_
    | refine for_exit ?_
    | refine ct ?_
    | refine cf ?_
    | refine swp_cond rfl (fun hc => ?_) (fun hc => ?_)
    | exact retq1 (by first | exact .inr rfl | exact .inl rfl) rfl (.tmp rfl (by first | exact .t _ | exact .own rfl (by first | rfl | assumption | (simp; done) | (simp; omega)) | exact .nil _ | exact .emp _ | exact .fn _) .nil)
    | refine retq (by first | exact .inr rfl | exact .inl rfl) rfl (.tmp rfl (by first | exact .t _ | exact .own rfl (by first | rfl | assumption | (simp; done) | (simp; omega)) | exact .nil _ | exact .emp _ | exact .fn _) .nil) ?_)
set_option maxRecDepth 100000 in
set_option maxHeartbeats 1000000 in
theorem example14 : PCalls Tryz.prog 28 [] (.sl 5 (exPols.map polT)) := by
  have c1 := term14 1 sGET
  have c2 := term14 2 sA
  refine pcalls_of Tryz.func28 rfl rfl Tryz.ntmps28 rfl ?_
  repeat' (first
    | refine then_go ?_
    | refine swp_seq ?_
    | ((refine swp_region (id := 0) ?_) <;> (first | refine sops_pure (.free rfl rfl) rfl rfl (po_buildSlice rfl (tyE rfl) (.cons rfl (.le (aggLe (.cons (le_refl (.sl 1 _)) (.cons (le_refl (.sl 2 _)) (.cons (nilT 2) (.cons (nilT 2) .nil)))))) rfl rfl (.nil _)) rfl rfl rfl) ?_ | refine sops_pure (.free rfl rfl) rfl rfl (po_buildSlice rfl (tyE rfl) (.cons rfl (.le (aggLe (.cons (nilT 1) (.cons (nilT 2) (.cons (le_refl (.sl 2 _)) (.cons (nilT 2) .nil)))))) rfl rfl (.nil _)) rfl rfl rfl) ?_ | refine sops_pure (.free rfl rfl) rfl rfl (po_buildSlice rfl (tyE rfl) (.cons rfl (.le (aggLe (.cons (nilT 3) (.cons (le_refl (.sl 4 _)) (.cons (nilT 2) .nil))))) rfl rfl (.nil _)) rfl rfl rfl) ?_ | refine sops_pure (.free rfl rfl) rfl rfl (po_assign rfl rfl) ?_) <;> (refine sops_nil ?_))
    | ((refine swp_region (id := 1) ?_) <;> (first | refine sops_pure (.free rfl rfl) rfl rfl (po_buildSlice rfl (tyE rfl) (.cons rfl (.le (aggLe (.cons (le_refl (.sl 1 _)) (.cons (le_refl (.sl 2 _)) (.cons (nilT 2) (.cons (nilT 2) .nil)))))) rfl rfl (.nil _)) rfl rfl rfl) ?_ | refine sops_pure (.free rfl rfl) rfl rfl (po_buildSlice rfl (tyE rfl) (.cons rfl (.le (aggLe (.cons (nilT 1) (.cons (nilT 2) (.cons (le_refl (.sl 2 _)) (.cons (nilT 2) .nil)))))) rfl rfl (.nil _)) rfl rfl rfl) ?_ | refine sops_pure (.free rfl rfl) rfl rfl (po_buildSlice rfl (tyE rfl) (.cons rfl (.le (aggLe (.cons (nilT 3) (.cons (le_refl (.sl 4 _)) (.cons (nilT 2) .nil))))) rfl rfl (.nil _)) rfl rfl rfl) ?_ | refine sops_pure (.free rfl rfl) rfl rfl (po_buildSlice rfl (tyE rfl) (.cons rfl (by first | exact .t _ | exact .own rfl (by first | rfl | assumption | (simp; done) | (simp; omega)) | exact .nil _ | exact .emp _ | exact .fn _) rfl rfl (.nil _)) rfl rfl rfl) ?_) <;> (first | refine sops_pure (.free rfl rfl) rfl rfl (po_buildSlice rfl (tyE rfl) (.cons rfl (.le (aggLe (.cons (le_refl (.sl 1 _)) (.cons (le_refl (.sl 2 _)) (.cons (nilT 2) (.cons (nilT 2) .nil)))))) rfl rfl (.nil _)) rfl rfl rfl) ?_ | refine sops_pure (.free rfl rfl) rfl rfl (po_buildSlice rfl (tyE rfl) (.cons rfl (.le (aggLe (.cons (nilT 1) (.cons (nilT 2) (.cons (le_refl (.sl 2 _)) (.cons (nilT 2) .nil)))))) rfl rfl (.nil _)) rfl rfl rfl) ?_ | refine sops_pure (.free rfl rfl) rfl rfl (po_buildSlice rfl (tyE rfl) (.cons rfl (.le (aggLe (.cons (nilT 3) (.cons (le_refl (.sl 4 _)) (.cons (nilT 2) .nil))))) rfl rfl (.nil _)) rfl rfl rfl) ?_ | refine sops_pure (.free rfl rfl) rfl rfl (po_call (c1) rfl (ac (ac .nil))) ?_ | refine sops_pure (.free rfl rfl) rfl rfl (po_call (c2) rfl (ac (ac .nil))) ?_) <;> (first | refine sops_pure (.free rfl rfl) rfl rfl (po_buildSlice rfl (tyE rfl) (.cons rfl (.le (aggLe (.cons (le_refl (.sl 1 _)) (.cons (le_refl (.sl 2 _)) (.cons (nilT 2) (.cons (nilT 2) .nil)))))) rfl rfl (.nil _)) rfl rfl rfl) ?_ | refine sops_pure (.free rfl rfl) rfl rfl (po_buildSlice rfl (tyE rfl) (.cons rfl (.le (aggLe (.cons (nilT 1) (.cons (nilT 2) (.cons (le_refl (.sl 2 _)) (.cons (nilT 2) .nil)))))) rfl rfl (.nil _)) rfl rfl rfl) ?_ | refine sops_pure (.free rfl rfl) rfl rfl (po_buildSlice rfl (tyE rfl) (.cons rfl (.le (aggLe (.cons (nilT 3) (.cons (le_refl (.sl 4 _)) (.cons (nilT 2) .nil))))) rfl rfl (.nil _)) rfl rfl rfl) ?_ | refine sops_pure (.free rfl rfl) rfl rfl (po_buildS str80 rfl (.cons rfl (by first | exact .t _ | exact .own rfl (by first | rfl | assumption | (simp; done) | (simp; omega)) | exact .nil _ | exact .emp _ | exact .fn _) (.cons rfl (by first | exact .t _ | exact .own rfl (by first | rfl | assumption | (simp; done) | (simp; omega)) | exact .nil _ | exact .emp _ | exact .fn _) .nil)) rfl) ?_) <;> (first | refine sops_pure (.free rfl rfl) rfl rfl (po_buildSlice rfl (tyE rfl) (.cons rfl (.le (aggLe (.cons (le_refl (.sl 1 _)) (.cons (le_refl (.sl 2 _)) (.cons (nilT 2) (.cons (nilT 2) .nil)))))) rfl rfl (.nil _)) rfl rfl rfl) ?_ | refine sops_pure (.free rfl rfl) rfl rfl (po_buildSlice rfl (tyE rfl) (.cons rfl (.le (aggLe (.cons (nilT 1) (.cons (nilT 2) (.cons (le_refl (.sl 2 _)) (.cons (nilT 2) .nil)))))) rfl rfl (.nil _)) rfl rfl rfl) ?_ | refine sops_pure (.free rfl rfl) rfl rfl (po_buildSlice rfl (tyE rfl) (.cons rfl (.le (aggLe (.cons (nilT 3) (.cons (le_refl (.sl 4 _)) (.cons (nilT 2) .nil))))) rfl rfl (.nil _)) rfl rfl rfl) ?_ | refine sops_pure (.free rfl rfl) rfl rfl (po_buildSlice rfl (tyE rfl) (.cons rfl (by first | exact .t _ | exact .own rfl (by first | rfl | assumption | (simp; done) | (simp; omega)) | exact .nil _ | exact .emp _ | exact .fn _) rfl rfl (.nil _)) rfl rfl rfl) ?_) <;> (first | refine sops_pure (.free rfl rfl) rfl rfl (po_buildSlice rfl (tyE rfl) (.cons rfl (.le (aggLe (.cons (le_refl (.sl 1 _)) (.cons (le_refl (.sl 2 _)) (.cons (nilT 2) (.cons (nilT 2) .nil)))))) rfl rfl (.nil _)) rfl rfl rfl) ?_ | refine sops_pure (.free rfl rfl) rfl rfl (po_buildSlice rfl (tyE rfl) (.cons rfl (.le (aggLe (.cons (nilT 1) (.cons (nilT 2) (.cons (le_refl (.sl 2 _)) (.cons (nilT 2) .nil)))))) rfl rfl (.nil _)) rfl rfl rfl) ?_ | refine sops_pure (.free rfl rfl) rfl rfl (po_buildSlice rfl (tyE rfl) (.cons rfl (.le (aggLe (.cons (nilT 3) (.cons (le_refl (.sl 4 _)) (.cons (nilT 2) .nil))))) rfl rfl (.nil _)) rfl rfl rfl) ?_ | refine sops_pure (.free rfl rfl) rfl rfl (po_buildS str46 rfl (.cons rfl (by first | exact .t _ | exact .own rfl (by first | rfl | assumption | (simp; done) | (simp; omega)) | exact .nil _ | exact .emp _ | exact .fn _) .nil) rfl) ?_) <;> (first | refine sops_pure (.free rfl rfl) rfl rfl (po_buildSlice rfl (tyE rfl) (.cons rfl (.le (aggLe (.cons (le_refl (.sl 1 _)) (.cons (le_refl (.sl 2 _)) (.cons (nilT 2) (.cons (nilT 2) .nil)))))) rfl rfl (.nil _)) rfl rfl rfl) ?_ | refine sops_pure (.free rfl rfl) rfl rfl (po_buildSlice rfl (tyE rfl) (.cons rfl (.le (aggLe (.cons (nilT 1) (.cons (nilT 2) (.cons (le_refl (.sl 2 _)) (.cons (nilT 2) .nil)))))) rfl rfl (.nil _)) rfl rfl rfl) ?_ | refine sops_pure (.free rfl rfl) rfl rfl (po_buildSlice rfl (tyE rfl) (.cons rfl (.le (aggLe (.cons (nilT 3) (.cons (le_refl (.sl 4 _)) (.cons (nilT 2) .nil))))) rfl rfl (.nil _)) rfl rfl rfl) ?_ | refine sops_pure (.free rfl rfl) rfl rfl (po_buildSlice rfl (tyE rfl) (.cons rfl (by first | exact .t _ | exact .own rfl (by first | rfl | assumption | (simp; done) | (simp; omega)) | exact .nil _ | exact .emp _ | exact .fn _) rfl rfl (.nil _)) rfl rfl rfl) ?_) <;> (first | refine sops_pure (.free rfl rfl) rfl rfl (po_buildSlice rfl (tyE rfl) (.cons rfl (.le (aggLe (.cons (le_refl (.sl 1 _)) (.cons (le_refl (.sl 2 _)) (.cons (nilT 2) (.cons (nilT 2) .nil)))))) rfl rfl (.nil _)) rfl rfl rfl) ?_ | refine sops_pure (.free rfl rfl) rfl rfl (po_buildSlice rfl (tyE rfl) (.cons rfl (.le (aggLe (.cons (nilT 1) (.cons (nilT 2) (.cons (le_refl (.sl 2 _)) (.cons (nilT 2) .nil)))))) rfl rfl (.nil _)) rfl rfl rfl) ?_ | refine sops_pure (.free rfl rfl) rfl rfl (po_buildSlice rfl (tyE rfl) (.cons rfl (.le (aggLe (.cons (nilT 3) (.cons (le_refl (.sl 4 _)) (.cons (nilT 2) .nil))))) rfl rfl (.nil _)) rfl rfl rfl) ?_ | refine sops_pure (.free rfl rfl) rfl rfl (po_buildS str50 rfl (.cons rfl (by first | exact .t _ | exact .own rfl (by first | rfl | assumption | (simp; done) | (simp; omega)) | exact .nil _ | exact .emp _ | exact .fn _) (.cons rfl (by first | exact .t _ | exact .own rfl (by first | rfl | assumption | (simp; done) | (simp; omega)) | exact .nil _ | exact .emp _ | exact .fn _) .nil)) rfl) ?_) <;> (first | refine sops_pure (.free rfl rfl) rfl rfl (po_buildSlice rfl (tyE rfl) (.cons rfl (.le (aggLe (.cons (le_refl (.sl 1 _)) (.cons (le_refl (.sl 2 _)) (.cons (nilT 2) (.cons (nilT 2) .nil)))))) rfl rfl (.nil _)) rfl rfl rfl) ?_ | refine sops_pure (.free rfl rfl) rfl rfl (po_buildSlice rfl (tyE rfl) (.cons rfl (.le (aggLe (.cons (nilT 1) (.cons (nilT 2) (.cons (le_refl (.sl 2 _)) (.cons (nilT 2) .nil)))))) rfl rfl (.nil _)) rfl rfl rfl) ?_ | refine sops_pure (.free rfl rfl) rfl rfl (po_buildSlice rfl (tyE rfl) (.cons rfl (.le (aggLe (.cons (nilT 3) (.cons (le_refl (.sl 4 _)) (.cons (nilT 2) .nil))))) rfl rfl (.nil _)) rfl rfl rfl) ?_ | refine sops_pure (.free rfl rfl) rfl rfl (po_call (c1) rfl (ac (ac .nil))) ?_ | refine sops_pure (.free rfl rfl) rfl rfl (po_call (c2) rfl (ac (ac .nil))) ?_) <;> (first | refine sops_pure (.free rfl rfl) rfl rfl (po_buildSlice rfl (tyE rfl) (.cons rfl (.le (aggLe (.cons (le_refl (.sl 1 _)) (.cons (le_refl (.sl 2 _)) (.cons (nilT 2) (.cons (nilT 2) .nil)))))) rfl rfl (.nil _)) rfl rfl rfl) ?_ | refine sops_pure (.free rfl rfl) rfl rfl (po_buildSlice rfl (tyE rfl) (.cons rfl (.le (aggLe (.cons (nilT 1) (.cons (nilT 2) (.cons (le_refl (.sl 2 _)) (.cons (nilT 2) .nil)))))) rfl rfl (.nil _)) rfl rfl rfl) ?_ | refine sops_pure (.free rfl rfl) rfl rfl (po_buildSlice rfl (tyE rfl) (.cons rfl (.le (aggLe (.cons (nilT 3) (.cons (le_refl (.sl 4 _)) (.cons (nilT 2) .nil))))) rfl rfl (.nil _)) rfl rfl rfl) ?_ | refine sops_pure (.free rfl rfl) rfl rfl (po_buildS str80 rfl (.cons rfl (by first | exact .t _ | exact .own rfl (by first | rfl | assumption | (simp; done) | (simp; omega)) | exact .nil _ | exact .emp _ | exact .fn _) .nil) rfl) ?_) <;> (first | refine sops_pure (.free rfl rfl) rfl rfl (po_buildSlice rfl (tyE rfl) (.cons rfl (.le (aggLe (.cons (le_refl (.sl 1 _)) (.cons (le_refl (.sl 2 _)) (.cons (nilT 2) (.cons (nilT 2) .nil)))))) rfl rfl (.nil _)) rfl rfl rfl) ?_ | refine sops_pure (.free rfl rfl) rfl rfl (po_buildSlice rfl (tyE rfl) (.cons rfl (.le (aggLe (.cons (nilT 1) (.cons (nilT 2) (.cons (le_refl (.sl 2 _)) (.cons (nilT 2) .nil)))))) rfl rfl (.nil _)) rfl rfl rfl) ?_ | refine sops_pure (.free rfl rfl) rfl rfl (po_buildSlice rfl (tyE rfl) (.cons rfl (.le (aggLe (.cons (nilT 3) (.cons (le_refl (.sl 4 _)) (.cons (nilT 2) .nil))))) rfl rfl (.nil _)) rfl rfl rfl) ?_ | refine sops_pure (.free rfl rfl) rfl rfl (po_buildSlice rfl (tyE rfl) (.cons rfl (by first | exact .t _ | exact .own rfl (by first | rfl | assumption | (simp; done) | (simp; omega)) | exact .nil _ | exact .emp _ | exact .fn _) rfl rfl (.nil _)) rfl rfl rfl) ?_) <;> (first | refine sops_pure (.free rfl rfl) rfl rfl (po_buildSlice rfl (tyE rfl) (.cons rfl (.le (aggLe (.cons (le_refl (.sl 1 _)) (.cons (le_refl (.sl 2 _)) (.cons (nilT 2) (.cons (nilT 2) .nil)))))) rfl rfl (.nil _)) rfl rfl rfl) ?_ | refine sops_pure (.free rfl rfl) rfl rfl (po_buildSlice rfl (tyE rfl) (.cons rfl (.le (aggLe (.cons (nilT 1) (.cons (nilT 2) (.cons (le_refl (.sl 2 _)) (.cons (nilT 2) .nil)))))) rfl rfl (.nil _)) rfl rfl rfl) ?_ | refine sops_pure (.free rfl rfl) rfl rfl (po_buildSlice rfl (tyE rfl) (.cons rfl (.le (aggLe (.cons (nilT 3) (.cons (le_refl (.sl 4 _)) (.cons (nilT 2) .nil))))) rfl rfl (.nil _)) rfl rfl rfl) ?_ | refine sops_pure (.free rfl rfl) rfl rfl (po_buildS str46 rfl (.cons rfl (by first | exact .t _ | exact .own rfl (by first | rfl | assumption | (simp; done) | (simp; omega)) | exact .nil _ | exact .emp _ | exact .fn _) .nil) rfl) ?_) <;> (first | refine sops_pure (.free rfl rfl) rfl rfl (po_buildSlice rfl (tyE rfl) (.cons rfl (.le (aggLe (.cons (le_refl (.sl 1 _)) (.cons (le_refl (.sl 2 _)) (.cons (nilT 2) (.cons (nilT 2) .nil)))))) rfl rfl (.nil _)) rfl rfl rfl) ?_ | refine sops_pure (.free rfl rfl) rfl rfl (po_buildSlice rfl (tyE rfl) (.cons rfl (.le (aggLe (.cons (nilT 1) (.cons (nilT 2) (.cons (le_refl (.sl 2 _)) (.cons (nilT 2) .nil)))))) rfl rfl (.nil _)) rfl rfl rfl) ?_ | refine sops_pure (.free rfl rfl) rfl rfl (po_buildSlice rfl (tyE rfl) (.cons rfl (.le (aggLe (.cons (nilT 3) (.cons (le_refl (.sl 4 _)) (.cons (nilT 2) .nil))))) rfl rfl (.nil _)) rfl rfl rfl) ?_ | refine sops_pure (.free rfl rfl) rfl rfl (po_buildSlice rfl (tyE rfl) (.cons rfl (by first | exact .t _ | exact .own rfl (by first | rfl | assumption | (simp; done) | (simp; omega)) | exact .nil _ | exact .emp _ | exact .fn _) rfl rfl (.nil _)) rfl rfl rfl) ?_) <;> (first | refine sops_pure (.free rfl rfl) rfl rfl (po_buildSlice rfl (tyE rfl) (.cons rfl (.le (aggLe (.cons (le_refl (.sl 1 _)) (.cons (le_refl (.sl 2 _)) (.cons (nilT 2) (.cons (nilT 2) .nil)))))) rfl rfl (.nil _)) rfl rfl rfl) ?_ | refine sops_pure (.free rfl rfl) rfl rfl (po_buildSlice rfl (tyE rfl) (.cons rfl (.le (aggLe (.cons (nilT 1) (.cons (nilT 2) (.cons (le_refl (.sl 2 _)) (.cons (nilT 2) .nil)))))) rfl rfl (.nil _)) rfl rfl rfl) ?_ | refine sops_pure (.free rfl rfl) rfl rfl (po_buildSlice rfl (tyE rfl) (.cons rfl (.le (aggLe (.cons (nilT 3) (.cons (le_refl (.sl 4 _)) (.cons (nilT 2) .nil))))) rfl rfl (.nil _)) rfl rfl rfl) ?_ | refine sops_pure (.free rfl rfl) rfl rfl (po_buildS str50 rfl (.cons rfl (by first | exact .t _ | exact .own rfl (by first | rfl | assumption | (simp; done) | (simp; omega)) | exact .nil _ | exact .emp _ | exact .fn _) (.cons rfl (by first | exact .t _ | exact .own rfl (by first | rfl | assumption | (simp; done) | (simp; omega)) | exact .nil _ | exact .emp _ | exact .fn _) (.cons rfl (by first | exact .t _ | exact .own rfl (by first | rfl | assumption | (simp; done) | (simp; omega)) | exact .nil _ | exact .emp _ | exact .fn _) .nil))) rfl) ?_) <;> (first | refine sops_pure (.free rfl rfl) rfl rfl (po_buildSlice rfl (tyE rfl) (.cons rfl (.le (aggLe (.cons (le_refl (.sl 1 _)) (.cons (le_refl (.sl 2 _)) (.cons (nilT 2) (.cons (nilT 2) .nil)))))) rfl rfl (.nil _)) rfl rfl rfl) ?_ | refine sops_pure (.free rfl rfl) rfl rfl (po_buildSlice rfl (tyE rfl) (.cons rfl (.le (aggLe (.cons (nilT 1) (.cons (nilT 2) (.cons (le_refl (.sl 2 _)) (.cons (nilT 2) .nil)))))) rfl rfl (.nil _)) rfl rfl rfl) ?_ | refine sops_pure (.free rfl rfl) rfl rfl (po_buildSlice rfl (tyE rfl) (.cons rfl (.le (aggLe (.cons (nilT 3) (.cons (le_refl (.sl 4 _)) (.cons (nilT 2) .nil))))) rfl rfl (.nil _)) rfl rfl rfl) ?_ | refine sops_pure (.free rfl rfl) rfl rfl (po_buildSlice rfl (tyE rfl) (.cons rfl (by first | exact .t _ | exact .own rfl (by first | rfl | assumption | (simp; done) | (simp; omega)) | exact .nil _ | exact .emp _ | exact .fn _) rfl rfl (.cons rfl (by first | exact .t _ | exact .own rfl (by first | rfl | assumption | (simp; done) | (simp; omega)) | exact .nil _ | exact .emp _ | exact .fn _) rfl rfl (.nil _))) rfl rfl rfl) ?_) <;> (first | refine sops_pure (.free rfl rfl) rfl rfl (po_buildSlice rfl (tyE rfl) (.cons rfl (.le (aggLe (.cons (le_refl (.sl 1 _)) (.cons (le_refl (.sl 2 _)) (.cons (nilT 2) (.cons (nilT 2) .nil)))))) rfl rfl (.nil _)) rfl rfl rfl) ?_ | refine sops_pure (.free rfl rfl) rfl rfl (po_buildSlice rfl (tyE rfl) (.cons rfl (.le (aggLe (.cons (nilT 1) (.cons (nilT 2) (.cons (le_refl (.sl 2 _)) (.cons (nilT 2) .nil)))))) rfl rfl (.nil _)) rfl rfl rfl) ?_ | refine sops_pure (.free rfl rfl) rfl rfl (po_buildSlice rfl (tyE rfl) (.cons rfl (.le (aggLe (.cons (nilT 3) (.cons (le_refl (.sl 4 _)) (.cons (nilT 2) .nil))))) rfl rfl (.nil _)) rfl rfl rfl) ?_ | refine sops_pure (.free rfl rfl) rfl rfl (po_assign rfl rfl) ?_) <;> (refine sops_nil ?_))
    | refine swp_ret ?_
    | refine swp_skip ?_
    | refine swp_block ?_
    | refine swp_exit ?_
    | refine block_go ?_
    | refine block_exit ?_
    | refine block_far rfl ?_
    | refine block_ret ?_
    | refine then_ret ?_
    | refine then_exit ?_
    | refine for_ret ?_
    | refine for_exit ?_
    | refine ct ?_
    | refine cf ?_
    | refine swp_cond rfl (fun hc => ?_) (fun hc => ?_)
    | exact retq1 (by first | exact .inr rfl | exact .inl rfl) rfl (.tmp rfl (by first | exact .t _ | exact .own rfl (by first | rfl | assumption | (simp; done) | (simp; omega)) | exact .nil _ | exact .emp _ | exact .fn _) .nil)
    | refine retq (by first | exact .inr rfl | exact .inl rfl) rfl (.tmp rfl (by first | exact .t _ | exact .own rfl (by first | rfl | assumption | (simp; done) | (simp; omega)) | exact .nil _ | exact .emp _ | exact .fn _) .nil) ?_)
def who0 : Pl.Asker := ⟨⟨#[]⟩, ⟨#[]⟩, 0⟩
def reqOf (s : ByteArray) : Pl.Req := ⟨sGET, s, ⟨#[]⟩, []⟩
theorem v1 : Pl.judgeP (matchP who0 80 req0) (Pl.saysL ((exPols.map (Pl.halfP 0 1)).map Pl.four4) (Pl.allowsP exPols)) = (true, 1) := by kernel_rfl
theorem v2 : Pl.judgeP (matchP who0 81 req0) (Pl.saysL ((exPols.map (Pl.halfP 0 1)).map Pl.four4) (Pl.allowsP exPols)) = (false, 0) := by kernel_rfl
theorem v3 : Pl.judgeP (matchP who0 80 (reqOf sB)) (Pl.saysL (exPols.map (Pl.halfP 2 2)) (Pl.allowsP exPols)) = (true, 1) := by kernel_rfl
theorem v4 : Pl.judgeP (matchP who0 80 (reqOf sA)) (Pl.saysL (exPols.map (Pl.halfP 2 2)) (Pl.allowsP exPols)) = (false, 2) := by kernel_rfl
theorem v5 : Pl.judgeP (matchP who0 80 req0) (Pl.saysL ((exPols.map (Pl.halfP 1 0)).map Pl.four4) (Pl.allowsP exPols)) = (false, 2) := by kernel_rfl
end Go.Proofs.YtlcecabfmemfeaaGreat.Pol

/- The chapter's examples stand; what halves keep. -/
namespace Go.Proofs.YtlcecabfmemfeaaGreat.Pol
set_option linter.unusedVariables false
set_option linter.unusedSimpArgs false
open Go.RowKit Mem Sim Opn WAddr WName WMatch WAuth
theorem ok_fourR {r : Pl.Rule} (h : okRule r) : okRule (Pl.four r) := by
  obtain ⟨h1, h2, h3⟩ := h
  refine ⟨h1, fun t ht => ?_, fun w hw => by cases hw⟩
  obtain ⟨t0, h4, rfl⟩ := List.mem_map.1 ht
  exact ⟨(h2 t0 h4).1, (fun y hy => by cases hy), (fun y hy => by cases hy), (fun y hy => by cases hy)⟩
theorem ok_what {l : List Pl.Rule} (h : ∀ r ∈ l, okRule r) (k : Nat) : ∀ r ∈ Pl.what k l, okRule r := by
  match k with
  | 0 => exact fun r hr => h r ((List.mem_filter.1 hr).1)
  | 1 =>
    intro r hr
    obtain ⟨r0, h0, rfl⟩ := List.mem_map.1 hr
    exact ok_fourR (h r0 h0)
  | k + 2 => exact h
theorem ok_half {p : Pl.Policy} (h : okPolicy p) (D K : Nat) : okPolicy (Pl.halfP D K p) := by
  refine ⟨h.1, h.2.1, h.2.2.1, h.2.2.2.1, ?_⟩
  unfold Pl.halfP
  dsimp only
  split
  · exact ok_what h.2.2.2.2 D
  · exact ok_what h.2.2.2.2 K
theorem few_fourR {r : Pl.Rule} (h : FewR r) : FewR (Pl.four r) := by
  refine ⟨h.f, ?_, by simp [Pl.four], h.fs, fun t ht => ?_, fun w hw => by cases hw⟩
  · show (r.to_.map Pl.fourT).length ≤ 1000
    rw [List.length_map]; exact h.t
  · obtain ⟨t0, h4, rfl⟩ := List.mem_map.1 ht
    exact ⟨(h.ts t0 h4).1, by simp [Pl.fourT], by simp [Pl.fourT], by simp [Pl.fourT]⟩
theorem few_what {l : List Pl.Rule} (hn : l.length ≤ 1000) (h : ∀ r ∈ l, FewR r) (k : Nat) : (Pl.what k l).length ≤ 1000 ∧ ∀ r ∈ Pl.what k l, FewR r := by
  match k with
  | 0 => exact ⟨Nat.le_trans (List.length_filter_le _ _) hn, fun r hr => h r ((List.mem_filter.1 hr).1)⟩
  | 1 =>
    refine ⟨by show (l.map Pl.four).length ≤ 1000; rw [List.length_map]; exact hn, fun r hr => ?_⟩
    obtain ⟨r0, h0, rfl⟩ := List.mem_map.1 hr
    exact few_fourR (h r0 h0)
  | k + 2 => exact ⟨hn, h⟩
theorem few_half {p : Pl.Policy} (h : FewP p) (D K : Nat) : FewP (Pl.halfP D K p) := by
  have h1 := few_what h.n h.r D
  have h2 := few_what h.n h.r K
  unfold Pl.halfP
  constructor <;> dsimp only <;> split
  · exact h1.1
  · exact h2.1
  · exact h1.2
  · exact h2.2
theorem ok_halves {l : List Pl.Policy} (h : ∀ p ∈ l, okPolicy p) (D K : Nat) : ∀ p ∈ l.map (Pl.halfP D K), okPolicy p := fun p hp => by
  obtain ⟨p0, h0, rfl⟩ := List.mem_map.1 hp
  exact ok_half (h p0 h0) D K
theorem few_halves {l : List Pl.Policy} (h : ∀ p ∈ l, FewP p) (D K : Nat) : ∀ p ∈ l.map (Pl.halfP D K), FewP p := fun p hp => by
  obtain ⟨p0, h0, rfl⟩ := List.mem_map.1 hp
  exact few_half (h p0 h0) D K
theorem ex_ok : ∀ p ∈ exPols, okPolicy p := by
  intro p hp
  simp only [exPols, List.mem_cons, List.not_mem_nil, or_false] at hp
  rcases hp with rfl | rfl
  all_goals
    refine ⟨by decide, by decide, by decide, by decide, ?_⟩
    simp only [List.mem_cons, List.not_mem_nil, or_false, forall_eq, okRule, okTarget, okSource, okWhen, okTerm, okInt, false_imp_iff, implies_true, and_true, true_and]
    decide
theorem ex_few : ∀ p ∈ exPols, FewP p := by
  intro p hp
  simp only [exPols, List.mem_cons, List.not_mem_nil, or_false] at hp
  rcases hp with rfl | rfl
  all_goals
    refine ⟨by decide, fun r hr => ?_⟩
    simp only [List.mem_cons, List.not_mem_nil, or_false] at hr
    subst hr
    refine ⟨by decide, by decide, by decide, (fun s hs => by cases hs), fun s hs => ?_, (fun s hs => by cases hs)⟩
    simp only [List.mem_cons, List.not_mem_nil, or_false] at hs
    subst hs
    decide
theorem who0_ok : OkAsk who0 := ⟨by decide, by decide, by decide⟩
theorem reqOf_ok (s : ByteArray) (h : s.size ≤ maxLen) : OkReq0 (reqOf s) := ⟨by show sGET.size ≤ maxLen; decide, h, by show (⟨#[]⟩ : ByteArray).size ≤ maxLen; decide, fun h hh => by cases hh⟩
set_option maxRecDepth 100000 in
set_option maxHeartbeats 2000000 in
theorem awake14 : PCalls Tryz.prog 8 [] (.v (.bool true)) := by
  have c0 := example14
  have k4 := l4_ exPols ex_few (by decide)
  have k7 := l7_ exPols ex_few (by decide)
  have ka := alone_ exPols ex_few (by decide)
  have c1 := fourS_ (exPols.map (Pl.halfP 0 1)) (ok_halves ex_ok 0 1) (few_halves ex_few 0 1) (by decide) (Pl.allowsP exPols) who0 who0_ok 80
  have c2 := fourS_ (exPols.map (Pl.halfP 0 1)) (ok_halves ex_ok 0 1) (few_halves ex_few 0 1) (by decide) (Pl.allowsP exPols) who0 who0_ok 81
  have c3 := seven_ (exPols.map (Pl.halfP 2 2)) (ok_halves ex_ok 2 2) (by decide) (Pl.allowsP exPols) who0 who0_ok 80 (reqOf sB) (reqOf_ok _ (by decide)) (by decide) ⟨#[]⟩ ⟨#[]⟩ (.slice none 0 0)
  have c4 := seven_ (exPols.map (Pl.halfP 2 2)) (ok_halves ex_ok 2 2) (by decide) (Pl.allowsP exPols) who0 who0_ok 80 (reqOf sA) (reqOf_ok _ (by decide)) (by decide) ⟨#[]⟩ ⟨#[]⟩ (.slice none 0 0)
  have c5 := fourS_ (exPols.map (Pl.halfP 1 0)) (ok_halves ex_ok 1 0) (few_halves ex_few 1 0) (by decide) (Pl.allowsP exPols) who0 who0_ok 80
  rw [v1] at c1
  rw [v2] at c2
  rw [v3] at c3
  rw [v4] at c4
  rw [v5] at c5
  dsimp only at c1 c2 c3 c4 c5
  refine pcalls_of Tryz.func8 rfl rfl Tryz.ntmps8 rfl ?_
  repeat' (first
    | refine then_go ?_
    | refine swp_seq ?_
    | ((refine swp_region (id := 0) ?_) <;> (first | refine sops_pure (.free rfl rfl) rfl rfl (po_call (c3) rfl (.cons rfl (.t _) (.cons rfl (.t _) (.cons rfl (.t _) (.cons rfl (.le req_le) .nil))))) ?_ | refine sops_pure (.free rfl rfl) rfl rfl (po_call (c4) rfl (.cons rfl (.t _) (.cons rfl (.t _) (.cons rfl (.t _) (.cons rfl (.le req_le) .nil))))) ?_ | refine sops_pure (.free rfl rfl) rfl rfl (po_assign rfl rfl) ?_) <;> (refine sops_nil ?_))
    | ((refine swp_region (id := 1) ?_) <;> (first | refine sops_pure (.free rfl rfl) rfl rfl (po_call (c3) rfl (.cons rfl (.t _) (.cons rfl (.t _) (.cons rfl (.t _) (.cons rfl (.le req_le) .nil))))) ?_ | refine sops_pure (.free rfl rfl) rfl rfl (po_call (c4) rfl (.cons rfl (.t _) (.cons rfl (.t _) (.cons rfl (.t _) (.cons rfl (.le req_le) .nil))))) ?_ | refine sops_allocS str29 (.free rfl rfl) rfl rfl rfl rfl ?_) <;> (refine sops_nil ?_))
    | ((refine swp_draw_all (id := 2) mixed (by kernel_rfl) (by kernel_rfl) ?_) <;> (first | refine sdraw_pure (.free rfl rfl) rfl (po_call (c3) rfl (.cons rfl (.t _) (.cons rfl (.t _) (.cons rfl (.t _) (.cons rfl (.le req_le) .nil))))) ?_ | refine sdraw_pure (.free rfl rfl) rfl (po_call (c4) rfl (.cons rfl (.t _) (.cons rfl (.t _) (.cons rfl (.t _) (.cons rfl (.le req_le) .nil))))) ?_ | refine sdraw_pure (.free rfl rfl) rfl (po_call (c0) rfl .nil) ?_ | refine sdraw_pure (.free rfl rfl) rfl (po_call (k4) rfl .nil) ?_ | refine sdraw_pure (.free rfl rfl) rfl (po_call (k7) rfl .nil) ?_ | refine sdraw_pure (.free rfl rfl) rfl (po_call (ka) rfl .nil) ?_ | refine sdraw_pure (.free rfl rfl) rfl (po_call (c1) rfl .nil) ?_ | refine sdraw_pure (.free rfl rfl) rfl (po_call (c2) rfl .nil) ?_ | refine sdraw_pure (.free rfl rfl) rfl (po_call (c5) rfl .nil) ?_) <;> (first | refine sdraw_pure (.free rfl rfl) rfl (po_call (c3) rfl (.cons rfl (.t _) (.cons rfl (.t _) (.cons rfl (.t _) (.cons rfl (.le req_le) .nil))))) ?_ | refine sdraw_pure (.free rfl rfl) rfl (po_call (c4) rfl (.cons rfl (.t _) (.cons rfl (.t _) (.cons rfl (.t _) (.cons rfl (.le req_le) .nil))))) ?_ | refine sdraw_pure (.free rfl rfl) rfl (po_call (c0) rfl (ac .nil)) ?_ | refine sdraw_pure (.free rfl rfl) rfl (po_call (k4) rfl (ac .nil)) ?_ | refine sdraw_pure (.free rfl rfl) rfl (po_call (k7) rfl (ac .nil)) ?_ | refine sdraw_pure (.free rfl rfl) rfl (po_call (ka) rfl (ac .nil)) ?_ | refine sdraw_pure (.free rfl rfl) rfl (po_call (c1) rfl (ac .nil)) ?_ | refine sdraw_pure (.free rfl rfl) rfl (po_call (c2) rfl (ac .nil)) ?_ | refine sdraw_pure (.free rfl rfl) rfl (po_call (c5) rfl (ac .nil)) ?_) <;> (first | refine sdraw_pure (.free rfl rfl) rfl (po_call (c3) rfl (.cons rfl (.t _) (.cons rfl (.t _) (.cons rfl (.t _) (.cons rfl (.le req_le) .nil))))) ?_ | refine sdraw_pure (.free rfl rfl) rfl (po_call (c4) rfl (.cons rfl (.t _) (.cons rfl (.t _) (.cons rfl (.t _) (.cons rfl (.le req_le) .nil))))) ?_ | refine sdraw_pure (.free rfl rfl) rfl (po_load_bx_agg rfl rfl (tyT rfl) rfl (vc (vc (vc .nil))) rfl) ?_ | refine sdraw_pure (.free rfl rfl) rfl (po_load_agg rfl rfl (tyT rfl) rfl rfl) ?_) <;> (first | refine sdraw_pure (.free rfl rfl) rfl (po_call (c3) rfl (.cons rfl (.t _) (.cons rfl (.t _) (.cons rfl (.t _) (.cons rfl (.le req_le) .nil))))) ?_ | refine sdraw_pure (.free rfl rfl) rfl (po_call (c4) rfl (.cons rfl (.t _) (.cons rfl (.t _) (.cons rfl (.t _) (.cons rfl (.le req_le) .nil))))) ?_ | refine sdraw_pure (.free rfl rfl) rfl (po_call (c0) rfl (ac (ac (ac .nil)))) ?_ | refine sdraw_pure (.free rfl rfl) rfl (po_call (k4) rfl (ac (ac (ac .nil)))) ?_ | refine sdraw_pure (.free rfl rfl) rfl (po_call (k7) rfl (ac (ac (ac .nil)))) ?_ | refine sdraw_pure (.free rfl rfl) rfl (po_call (ka) rfl (ac (ac (ac .nil)))) ?_ | refine sdraw_pure (.free rfl rfl) rfl (po_call (c1) rfl (ac (ac (ac .nil)))) ?_ | refine sdraw_pure (.free rfl rfl) rfl (po_call (c2) rfl (ac (ac (ac .nil)))) ?_ | refine sdraw_pure (.free rfl rfl) rfl (po_call (c5) rfl (ac (ac (ac .nil)))) ?_) <;> (first | refine sdraw_pure (.free rfl rfl) rfl (po_call (c3) rfl (.cons rfl (.t _) (.cons rfl (.t _) (.cons rfl (.t _) (.cons rfl (.le req_le) .nil))))) ?_ | refine sdraw_pure (.free rfl rfl) rfl (po_call (c4) rfl (.cons rfl (.t _) (.cons rfl (.t _) (.cons rfl (.t _) (.cons rfl (.le req_le) .nil))))) ?_ | refine sdraw_pure (.free rfl rfl) rfl (po_move rfl rfl) ?_) <;> (first | refine sdraw_pure (.free rfl rfl) rfl (po_call (c3) rfl (.cons rfl (.t _) (.cons rfl (.t _) (.cons rfl (.t _) (.cons rfl (.le req_le) .nil))))) ?_ | refine sdraw_pure (.free rfl rfl) rfl (po_call (c4) rfl (.cons rfl (.t _) (.cons rfl (.t _) (.cons rfl (.t _) (.cons rfl (.le req_le) .nil))))) ?_ | refine sdraw_pure (.free rfl rfl) rfl (po_extract rfl rfl rfl) ?_) <;> (first | refine sdraw_pure (.free rfl rfl) rfl (po_call (c3) rfl (.cons rfl (.t _) (.cons rfl (.t _) (.cons rfl (.t _) (.cons rfl (.le req_le) .nil))))) ?_ | refine sdraw_pure (.free rfl rfl) rfl (po_call (c4) rfl (.cons rfl (.t _) (.cons rfl (.t _) (.cons rfl (.t _) (.cons rfl (.le req_le) .nil))))) ?_ | refine sdraw_pure (.free rfl rfl) rfl (po_extract rfl rfl rfl) ?_) <;> (first | refine sdraw_pure (.free rfl rfl) rfl (po_call (c3) rfl (.cons rfl (.t _) (.cons rfl (.t _) (.cons rfl (.t _) (.cons rfl (.le req_le) .nil))))) ?_ | refine sdraw_pure (.free rfl rfl) rfl (po_call (c4) rfl (.cons rfl (.t _) (.cons rfl (.t _) (.cons rfl (.t _) (.cons rfl (.le req_le) .nil))))) ?_ | refine sdraw_pure (.free rfl rfl) rfl (po_assign rfl rfl) ?_) <;> (first | refine sdraw_pure (.free rfl rfl) rfl (po_call (c3) rfl (.cons rfl (.t _) (.cons rfl (.t _) (.cons rfl (.t _) (.cons rfl (.le req_le) .nil))))) ?_ | refine sdraw_pure (.free rfl rfl) rfl (po_call (c4) rfl (.cons rfl (.t _) (.cons rfl (.t _) (.cons rfl (.t _) (.cons rfl (.le req_le) .nil))))) ?_ | refine sdraw_pure (.free rfl rfl) rfl (po_assign rfl rfl) ?_) <;> (refine sdraw_nil ?_) <;> (refine sops_nil ?_))
    | ((refine swp_draw_all (id := 3) mixed (by kernel_rfl) (by kernel_rfl) ?_) <;> (first | refine sdraw_pure (.free rfl rfl) rfl (po_call (c3) rfl (.cons rfl (.t _) (.cons rfl (.t _) (.cons rfl (.t _) (.cons rfl (.le req_le) .nil))))) ?_ | refine sdraw_pure (.free rfl rfl) rfl (po_call (c4) rfl (.cons rfl (.t _) (.cons rfl (.t _) (.cons rfl (.t _) (.cons rfl (.le req_le) .nil))))) ?_ | refine sdraw_pure (.free rfl rfl) rfl (po_call (c0) rfl .nil) ?_ | refine sdraw_pure (.free rfl rfl) rfl (po_call (k4) rfl .nil) ?_ | refine sdraw_pure (.free rfl rfl) rfl (po_call (k7) rfl .nil) ?_ | refine sdraw_pure (.free rfl rfl) rfl (po_call (ka) rfl .nil) ?_ | refine sdraw_pure (.free rfl rfl) rfl (po_call (c1) rfl .nil) ?_ | refine sdraw_pure (.free rfl rfl) rfl (po_call (c2) rfl .nil) ?_ | refine sdraw_pure (.free rfl rfl) rfl (po_call (c5) rfl .nil) ?_) <;> (first | refine sdraw_pure (.free rfl rfl) rfl (po_call (c3) rfl (.cons rfl (.t _) (.cons rfl (.t _) (.cons rfl (.t _) (.cons rfl (.le req_le) .nil))))) ?_ | refine sdraw_pure (.free rfl rfl) rfl (po_call (c4) rfl (.cons rfl (.t _) (.cons rfl (.t _) (.cons rfl (.t _) (.cons rfl (.le req_le) .nil))))) ?_ | refine sdraw_pure (.free rfl rfl) rfl (po_call (c0) rfl (ac .nil)) ?_ | refine sdraw_pure (.free rfl rfl) rfl (po_call (k4) rfl (ac .nil)) ?_ | refine sdraw_pure (.free rfl rfl) rfl (po_call (k7) rfl (ac .nil)) ?_ | refine sdraw_pure (.free rfl rfl) rfl (po_call (ka) rfl (ac .nil)) ?_ | refine sdraw_pure (.free rfl rfl) rfl (po_call (c1) rfl (ac .nil)) ?_ | refine sdraw_pure (.free rfl rfl) rfl (po_call (c2) rfl (ac .nil)) ?_ | refine sdraw_pure (.free rfl rfl) rfl (po_call (c5) rfl (ac .nil)) ?_) <;> (first | refine sdraw_pure (.free rfl rfl) rfl (po_call (c3) rfl (.cons rfl (.t _) (.cons rfl (.t _) (.cons rfl (.t _) (.cons rfl (.le req_le) .nil))))) ?_ | refine sdraw_pure (.free rfl rfl) rfl (po_call (c4) rfl (.cons rfl (.t _) (.cons rfl (.t _) (.cons rfl (.t _) (.cons rfl (.le req_le) .nil))))) ?_ | refine sdraw_pure (.free rfl rfl) rfl (po_load_bx_agg rfl rfl (tyT rfl) rfl (vc (vc (vc .nil))) rfl) ?_ | refine sdraw_pure (.free rfl rfl) rfl (po_load_agg rfl rfl (tyT rfl) rfl rfl) ?_) <;> (first | refine sdraw_pure (.free rfl rfl) rfl (po_call (c3) rfl (.cons rfl (.t _) (.cons rfl (.t _) (.cons rfl (.t _) (.cons rfl (.le req_le) .nil))))) ?_ | refine sdraw_pure (.free rfl rfl) rfl (po_call (c4) rfl (.cons rfl (.t _) (.cons rfl (.t _) (.cons rfl (.t _) (.cons rfl (.le req_le) .nil))))) ?_ | refine sdraw_pure (.free rfl rfl) rfl (po_call (c0) rfl (ac (ac (ac .nil)))) ?_ | refine sdraw_pure (.free rfl rfl) rfl (po_call (k4) rfl (ac (ac (ac .nil)))) ?_ | refine sdraw_pure (.free rfl rfl) rfl (po_call (k7) rfl (ac (ac (ac .nil)))) ?_ | refine sdraw_pure (.free rfl rfl) rfl (po_call (ka) rfl (ac (ac (ac .nil)))) ?_ | refine sdraw_pure (.free rfl rfl) rfl (po_call (c1) rfl (ac (ac (ac .nil)))) ?_ | refine sdraw_pure (.free rfl rfl) rfl (po_call (c2) rfl (ac (ac (ac .nil)))) ?_ | refine sdraw_pure (.free rfl rfl) rfl (po_call (c5) rfl (ac (ac (ac .nil)))) ?_) <;> (first | refine sdraw_pure (.free rfl rfl) rfl (po_call (c3) rfl (.cons rfl (.t _) (.cons rfl (.t _) (.cons rfl (.t _) (.cons rfl (.le req_le) .nil))))) ?_ | refine sdraw_pure (.free rfl rfl) rfl (po_call (c4) rfl (.cons rfl (.t _) (.cons rfl (.t _) (.cons rfl (.t _) (.cons rfl (.le req_le) .nil))))) ?_ | refine sdraw_pure (.free rfl rfl) rfl (po_move rfl rfl) ?_) <;> (first | refine sdraw_pure (.free rfl rfl) rfl (po_call (c3) rfl (.cons rfl (.t _) (.cons rfl (.t _) (.cons rfl (.t _) (.cons rfl (.le req_le) .nil))))) ?_ | refine sdraw_pure (.free rfl rfl) rfl (po_call (c4) rfl (.cons rfl (.t _) (.cons rfl (.t _) (.cons rfl (.t _) (.cons rfl (.le req_le) .nil))))) ?_ | refine sdraw_pure (.free rfl rfl) rfl (po_extract rfl rfl rfl) ?_) <;> (first | refine sdraw_pure (.free rfl rfl) rfl (po_call (c3) rfl (.cons rfl (.t _) (.cons rfl (.t _) (.cons rfl (.t _) (.cons rfl (.le req_le) .nil))))) ?_ | refine sdraw_pure (.free rfl rfl) rfl (po_call (c4) rfl (.cons rfl (.t _) (.cons rfl (.t _) (.cons rfl (.t _) (.cons rfl (.le req_le) .nil))))) ?_ | refine sdraw_pure (.free rfl rfl) rfl (po_extract rfl rfl rfl) ?_) <;> (first | refine sdraw_pure (.free rfl rfl) rfl (po_call (c3) rfl (.cons rfl (.t _) (.cons rfl (.t _) (.cons rfl (.t _) (.cons rfl (.le req_le) .nil))))) ?_ | refine sdraw_pure (.free rfl rfl) rfl (po_call (c4) rfl (.cons rfl (.t _) (.cons rfl (.t _) (.cons rfl (.t _) (.cons rfl (.le req_le) .nil))))) ?_ | refine sdraw_pure (.free rfl rfl) rfl (po_assign rfl rfl) ?_) <;> (first | refine sdraw_pure (.free rfl rfl) rfl (po_call (c3) rfl (.cons rfl (.t _) (.cons rfl (.t _) (.cons rfl (.t _) (.cons rfl (.le req_le) .nil))))) ?_ | refine sdraw_pure (.free rfl rfl) rfl (po_call (c4) rfl (.cons rfl (.t _) (.cons rfl (.t _) (.cons rfl (.t _) (.cons rfl (.le req_le) .nil))))) ?_ | refine sdraw_pure (.free rfl rfl) rfl (po_assign rfl rfl) ?_) <;> (refine sdraw_nil ?_) <;> (refine sops_nil ?_))
    | ((refine swp_draw_all (id := 4) mixed (by kernel_rfl) (by kernel_rfl) ?_) <;> (first | refine sdraw_pure (.free rfl rfl) rfl (po_call (c3) rfl (.cons rfl (.t _) (.cons rfl (.t _) (.cons rfl (.t _) (.cons rfl (.le req_le) .nil))))) ?_ | refine sdraw_pure (.free rfl rfl) rfl (po_call (c4) rfl (.cons rfl (.t _) (.cons rfl (.t _) (.cons rfl (.t _) (.cons rfl (.le req_le) .nil))))) ?_ | refine sdraw_pure (.free rfl rfl) rfl (po_call (c0) rfl .nil) ?_ | refine sdraw_pure (.free rfl rfl) rfl (po_call (k4) rfl .nil) ?_ | refine sdraw_pure (.free rfl rfl) rfl (po_call (k7) rfl .nil) ?_ | refine sdraw_pure (.free rfl rfl) rfl (po_call (ka) rfl .nil) ?_ | refine sdraw_pure (.free rfl rfl) rfl (po_call (c1) rfl .nil) ?_ | refine sdraw_pure (.free rfl rfl) rfl (po_call (c2) rfl .nil) ?_ | refine sdraw_pure (.free rfl rfl) rfl (po_call (c5) rfl .nil) ?_) <;> (first | refine sdraw_pure (.free rfl rfl) rfl (po_call (c3) rfl (.cons rfl (.t _) (.cons rfl (.t _) (.cons rfl (.t _) (.cons rfl (.le req_le) .nil))))) ?_ | refine sdraw_pure (.free rfl rfl) rfl (po_call (c4) rfl (.cons rfl (.t _) (.cons rfl (.t _) (.cons rfl (.t _) (.cons rfl (.le req_le) .nil))))) ?_ | refine sdraw_pure (.free rfl rfl) rfl (po_call (c0) rfl (ac .nil)) ?_ | refine sdraw_pure (.free rfl rfl) rfl (po_call (k4) rfl (ac .nil)) ?_ | refine sdraw_pure (.free rfl rfl) rfl (po_call (k7) rfl (ac .nil)) ?_ | refine sdraw_pure (.free rfl rfl) rfl (po_call (ka) rfl (ac .nil)) ?_ | refine sdraw_pure (.free rfl rfl) rfl (po_call (c1) rfl (ac .nil)) ?_ | refine sdraw_pure (.free rfl rfl) rfl (po_call (c2) rfl (ac .nil)) ?_ | refine sdraw_pure (.free rfl rfl) rfl (po_call (c5) rfl (ac .nil)) ?_) <;> (first | refine sdraw_pure (.free rfl rfl) rfl (po_call (c3) rfl (.cons rfl (.t _) (.cons rfl (.t _) (.cons rfl (.t _) (.cons rfl (.le req_le) .nil))))) ?_ | refine sdraw_pure (.free rfl rfl) rfl (po_call (c4) rfl (.cons rfl (.t _) (.cons rfl (.t _) (.cons rfl (.t _) (.cons rfl (.le req_le) .nil))))) ?_ | refine sdraw_pure (.free rfl rfl) rfl (po_load_bx_agg rfl rfl (tyT rfl) rfl (vc (vc (vc .nil))) rfl) ?_ | refine sdraw_pure (.free rfl rfl) rfl (po_load_agg rfl rfl (tyT rfl) rfl rfl) ?_) <;> (first | refine sdraw_pure (.free rfl rfl) rfl (po_call (c3) rfl (.cons rfl (.t _) (.cons rfl (.t _) (.cons rfl (.t _) (.cons rfl (.le req_le) .nil))))) ?_ | refine sdraw_pure (.free rfl rfl) rfl (po_call (c4) rfl (.cons rfl (.t _) (.cons rfl (.t _) (.cons rfl (.t _) (.cons rfl (.le req_le) .nil))))) ?_ | refine sdraw_pure (.free rfl rfl) rfl (po_buildS str33 rfl (.cons rfl (by first | exact .t _ | exact .own rfl (by first | rfl | assumption | (simp; done) | (simp; omega)) | exact .nil _ | exact .emp _ | exact .fn _) (.cons rfl (by first | exact .t _ | exact .own rfl (by first | rfl | assumption | (simp; done) | (simp; omega)) | exact .nil _ | exact .emp _ | exact .fn _) .nil)) rfl) ?_) <;> (first | refine sdraw_pure (.free rfl rfl) rfl (po_call (c3) rfl (.cons rfl (.t _) (.cons rfl (.t _) (.cons rfl (.t _) (.cons rfl (.le req_le) .nil))))) ?_ | refine sdraw_pure (.free rfl rfl) rfl (po_call (c4) rfl (.cons rfl (.t _) (.cons rfl (.t _) (.cons rfl (.t _) (.cons rfl (.le req_le) .nil))))) ?_ | refine sdraw_pure (.free rfl rfl) rfl (po_call (c0) rfl (ac (ac (ac (ac .nil))))) ?_ | refine sdraw_pure (.free rfl rfl) rfl (po_call (k4) rfl (ac (ac (ac (ac .nil))))) ?_ | refine sdraw_pure (.free rfl rfl) rfl (po_call (k7) rfl (ac (ac (ac (ac .nil))))) ?_ | refine sdraw_pure (.free rfl rfl) rfl (po_call (ka) rfl (ac (ac (ac (ac .nil))))) ?_ | refine sdraw_pure (.free rfl rfl) rfl (po_call (c1) rfl (ac (ac (ac (ac .nil))))) ?_ | refine sdraw_pure (.free rfl rfl) rfl (po_call (c2) rfl (ac (ac (ac (ac .nil))))) ?_ | refine sdraw_pure (.free rfl rfl) rfl (po_call (c5) rfl (ac (ac (ac (ac .nil))))) ?_) <;> (first | refine sdraw_pure (.free rfl rfl) rfl (po_call (c3) rfl (.cons rfl (.t _) (.cons rfl (.t _) (.cons rfl (.t _) (.cons rfl (.le req_le) .nil))))) ?_ | refine sdraw_pure (.free rfl rfl) rfl (po_call (c4) rfl (.cons rfl (.t _) (.cons rfl (.t _) (.cons rfl (.t _) (.cons rfl (.le req_le) .nil))))) ?_ | refine sdraw_pure (.free rfl rfl) rfl (po_move rfl rfl) ?_) <;> (first | refine sdraw_pure (.free rfl rfl) rfl (po_call (c3) rfl (.cons rfl (.t _) (.cons rfl (.t _) (.cons rfl (.t _) (.cons rfl (.le req_le) .nil))))) ?_ | refine sdraw_pure (.free rfl rfl) rfl (po_call (c4) rfl (.cons rfl (.t _) (.cons rfl (.t _) (.cons rfl (.t _) (.cons rfl (.le req_le) .nil))))) ?_ | refine sdraw_pure (.free rfl rfl) rfl (po_extract rfl rfl rfl) ?_) <;> (first | refine sdraw_pure (.free rfl rfl) rfl (po_call (c3) rfl (.cons rfl (.t _) (.cons rfl (.t _) (.cons rfl (.t _) (.cons rfl (.le req_le) .nil))))) ?_ | refine sdraw_pure (.free rfl rfl) rfl (po_call (c4) rfl (.cons rfl (.t _) (.cons rfl (.t _) (.cons rfl (.t _) (.cons rfl (.le req_le) .nil))))) ?_ | refine sdraw_pure (.free rfl rfl) rfl (po_extract rfl rfl rfl) ?_) <;> (first | refine sdraw_pure (.free rfl rfl) rfl (po_call (c3) rfl (.cons rfl (.t _) (.cons rfl (.t _) (.cons rfl (.t _) (.cons rfl (.le req_le) .nil))))) ?_ | refine sdraw_pure (.free rfl rfl) rfl (po_call (c4) rfl (.cons rfl (.t _) (.cons rfl (.t _) (.cons rfl (.t _) (.cons rfl (.le req_le) .nil))))) ?_ | refine sdraw_pure (.free rfl rfl) rfl (po_assign rfl rfl) ?_) <;> (first | refine sdraw_pure (.free rfl rfl) rfl (po_call (c3) rfl (.cons rfl (.t _) (.cons rfl (.t _) (.cons rfl (.t _) (.cons rfl (.le req_le) .nil))))) ?_ | refine sdraw_pure (.free rfl rfl) rfl (po_call (c4) rfl (.cons rfl (.t _) (.cons rfl (.t _) (.cons rfl (.t _) (.cons rfl (.le req_le) .nil))))) ?_ | refine sdraw_pure (.free rfl rfl) rfl (po_assign rfl rfl) ?_) <;> (refine sdraw_nil ?_) <;> (refine sops_nil ?_))
    | ((refine swp_draw_all (id := 5) mixed (by kernel_rfl) (by kernel_rfl) ?_) <;> (first | refine sdraw_pure (.free rfl rfl) rfl (po_call (c3) rfl (.cons rfl (.t _) (.cons rfl (.t _) (.cons rfl (.t _) (.cons rfl (.le req_le) .nil))))) ?_ | refine sdraw_pure (.free rfl rfl) rfl (po_call (c4) rfl (.cons rfl (.t _) (.cons rfl (.t _) (.cons rfl (.t _) (.cons rfl (.le req_le) .nil))))) ?_ | refine sdraw_pure (.free rfl rfl) rfl (po_call (c0) rfl .nil) ?_ | refine sdraw_pure (.free rfl rfl) rfl (po_call (k4) rfl .nil) ?_ | refine sdraw_pure (.free rfl rfl) rfl (po_call (k7) rfl .nil) ?_ | refine sdraw_pure (.free rfl rfl) rfl (po_call (ka) rfl .nil) ?_ | refine sdraw_pure (.free rfl rfl) rfl (po_call (c1) rfl .nil) ?_ | refine sdraw_pure (.free rfl rfl) rfl (po_call (c2) rfl .nil) ?_ | refine sdraw_pure (.free rfl rfl) rfl (po_call (c5) rfl .nil) ?_) <;> (first | refine sdraw_pure (.free rfl rfl) rfl (po_call (c3) rfl (.cons rfl (.t _) (.cons rfl (.t _) (.cons rfl (.t _) (.cons rfl (.le req_le) .nil))))) ?_ | refine sdraw_pure (.free rfl rfl) rfl (po_call (c4) rfl (.cons rfl (.t _) (.cons rfl (.t _) (.cons rfl (.t _) (.cons rfl (.le req_le) .nil))))) ?_ | refine sdraw_pure (.free rfl rfl) rfl (po_call (c0) rfl (ac .nil)) ?_ | refine sdraw_pure (.free rfl rfl) rfl (po_call (k4) rfl (ac .nil)) ?_ | refine sdraw_pure (.free rfl rfl) rfl (po_call (k7) rfl (ac .nil)) ?_ | refine sdraw_pure (.free rfl rfl) rfl (po_call (ka) rfl (ac .nil)) ?_ | refine sdraw_pure (.free rfl rfl) rfl (po_call (c1) rfl (ac .nil)) ?_ | refine sdraw_pure (.free rfl rfl) rfl (po_call (c2) rfl (ac .nil)) ?_ | refine sdraw_pure (.free rfl rfl) rfl (po_call (c5) rfl (ac .nil)) ?_) <;> (first | refine sdraw_pure (.free rfl rfl) rfl (po_call (c3) rfl (.cons rfl (.t _) (.cons rfl (.t _) (.cons rfl (.t _) (.cons rfl (.le req_le) .nil))))) ?_ | refine sdraw_pure (.free rfl rfl) rfl (po_call (c4) rfl (.cons rfl (.t _) (.cons rfl (.t _) (.cons rfl (.t _) (.cons rfl (.le req_le) .nil))))) ?_ | refine sdraw_pure (.free rfl rfl) rfl (po_load_bx_agg rfl rfl (tyT rfl) rfl (vc (vc (vc .nil))) rfl) ?_ | refine sdraw_pure (.free rfl rfl) rfl (po_load_agg rfl rfl (tyT rfl) rfl rfl) ?_) <;> (first | refine sdraw_pure (.free rfl rfl) rfl (po_call (c3) rfl (.cons rfl (.t _) (.cons rfl (.t _) (.cons rfl (.t _) (.cons rfl (.le req_le) .nil))))) ?_ | refine sdraw_pure (.free rfl rfl) rfl (po_call (c4) rfl (.cons rfl (.t _) (.cons rfl (.t _) (.cons rfl (.t _) (.cons rfl (.le req_le) .nil))))) ?_ | refine sdraw_pure (.free rfl rfl) rfl (po_buildS str33 rfl (.cons rfl (by first | exact .t _ | exact .own rfl (by first | rfl | assumption | (simp; done) | (simp; omega)) | exact .nil _ | exact .emp _ | exact .fn _) (.cons rfl (by first | exact .t _ | exact .own rfl (by first | rfl | assumption | (simp; done) | (simp; omega)) | exact .nil _ | exact .emp _ | exact .fn _) .nil)) rfl) ?_) <;> (first | refine sdraw_pure (.free rfl rfl) rfl (po_call (c3) rfl (.cons rfl (.t _) (.cons rfl (.t _) (.cons rfl (.t _) (.cons rfl (.le req_le) .nil))))) ?_ | refine sdraw_pure (.free rfl rfl) rfl (po_call (c4) rfl (.cons rfl (.t _) (.cons rfl (.t _) (.cons rfl (.t _) (.cons rfl (.le req_le) .nil))))) ?_ | refine sdraw_pure (.free rfl rfl) rfl (po_call (c0) rfl (ac (ac (ac (ac .nil))))) ?_ | refine sdraw_pure (.free rfl rfl) rfl (po_call (k4) rfl (ac (ac (ac (ac .nil))))) ?_ | refine sdraw_pure (.free rfl rfl) rfl (po_call (k7) rfl (ac (ac (ac (ac .nil))))) ?_ | refine sdraw_pure (.free rfl rfl) rfl (po_call (ka) rfl (ac (ac (ac (ac .nil))))) ?_ | refine sdraw_pure (.free rfl rfl) rfl (po_call (c1) rfl (ac (ac (ac (ac .nil))))) ?_ | refine sdraw_pure (.free rfl rfl) rfl (po_call (c2) rfl (ac (ac (ac (ac .nil))))) ?_ | refine sdraw_pure (.free rfl rfl) rfl (po_call (c5) rfl (ac (ac (ac (ac .nil))))) ?_) <;> (first | refine sdraw_pure (.free rfl rfl) rfl (po_call (c3) rfl (.cons rfl (.t _) (.cons rfl (.t _) (.cons rfl (.t _) (.cons rfl (.le req_le) .nil))))) ?_ | refine sdraw_pure (.free rfl rfl) rfl (po_call (c4) rfl (.cons rfl (.t _) (.cons rfl (.t _) (.cons rfl (.t _) (.cons rfl (.le req_le) .nil))))) ?_ | refine sdraw_pure (.free rfl rfl) rfl (po_move rfl rfl) ?_) <;> (first | refine sdraw_pure (.free rfl rfl) rfl (po_call (c3) rfl (.cons rfl (.t _) (.cons rfl (.t _) (.cons rfl (.t _) (.cons rfl (.le req_le) .nil))))) ?_ | refine sdraw_pure (.free rfl rfl) rfl (po_call (c4) rfl (.cons rfl (.t _) (.cons rfl (.t _) (.cons rfl (.t _) (.cons rfl (.le req_le) .nil))))) ?_ | refine sdraw_pure (.free rfl rfl) rfl (po_extract rfl rfl rfl) ?_) <;> (first | refine sdraw_pure (.free rfl rfl) rfl (po_call (c3) rfl (.cons rfl (.t _) (.cons rfl (.t _) (.cons rfl (.t _) (.cons rfl (.le req_le) .nil))))) ?_ | refine sdraw_pure (.free rfl rfl) rfl (po_call (c4) rfl (.cons rfl (.t _) (.cons rfl (.t _) (.cons rfl (.t _) (.cons rfl (.le req_le) .nil))))) ?_ | refine sdraw_pure (.free rfl rfl) rfl (po_extract rfl rfl rfl) ?_) <;> (first | refine sdraw_pure (.free rfl rfl) rfl (po_call (c3) rfl (.cons rfl (.t _) (.cons rfl (.t _) (.cons rfl (.t _) (.cons rfl (.le req_le) .nil))))) ?_ | refine sdraw_pure (.free rfl rfl) rfl (po_call (c4) rfl (.cons rfl (.t _) (.cons rfl (.t _) (.cons rfl (.t _) (.cons rfl (.le req_le) .nil))))) ?_ | refine sdraw_pure (.free rfl rfl) rfl (po_assign rfl rfl) ?_) <;> (first | refine sdraw_pure (.free rfl rfl) rfl (po_call (c3) rfl (.cons rfl (.t _) (.cons rfl (.t _) (.cons rfl (.t _) (.cons rfl (.le req_le) .nil))))) ?_ | refine sdraw_pure (.free rfl rfl) rfl (po_call (c4) rfl (.cons rfl (.t _) (.cons rfl (.t _) (.cons rfl (.t _) (.cons rfl (.le req_le) .nil))))) ?_ | refine sdraw_pure (.free rfl rfl) rfl (po_assign rfl rfl) ?_) <;> (refine sdraw_nil ?_) <;> (refine sops_nil ?_))
    | ((refine swp_draw_all (id := 6) mixed (by kernel_rfl) (by kernel_rfl) ?_) <;> (first | refine sdraw_pure (.free rfl rfl) rfl (po_call (c3) rfl (.cons rfl (.t _) (.cons rfl (.t _) (.cons rfl (.t _) (.cons rfl (.le req_le) .nil))))) ?_ | refine sdraw_pure (.free rfl rfl) rfl (po_call (c4) rfl (.cons rfl (.t _) (.cons rfl (.t _) (.cons rfl (.t _) (.cons rfl (.le req_le) .nil))))) ?_ | refine sdraw_pure (.free rfl rfl) rfl (po_call (c0) rfl .nil) ?_ | refine sdraw_pure (.free rfl rfl) rfl (po_call (k4) rfl .nil) ?_ | refine sdraw_pure (.free rfl rfl) rfl (po_call (k7) rfl .nil) ?_ | refine sdraw_pure (.free rfl rfl) rfl (po_call (ka) rfl .nil) ?_ | refine sdraw_pure (.free rfl rfl) rfl (po_call (c1) rfl .nil) ?_ | refine sdraw_pure (.free rfl rfl) rfl (po_call (c2) rfl .nil) ?_ | refine sdraw_pure (.free rfl rfl) rfl (po_call (c5) rfl .nil) ?_) <;> (first | refine sdraw_pure (.free rfl rfl) rfl (po_call (c3) rfl (.cons rfl (.t _) (.cons rfl (.t _) (.cons rfl (.t _) (.cons rfl (.le req_le) .nil))))) ?_ | refine sdraw_pure (.free rfl rfl) rfl (po_call (c4) rfl (.cons rfl (.t _) (.cons rfl (.t _) (.cons rfl (.t _) (.cons rfl (.le req_le) .nil))))) ?_ | refine sdraw_pure (.free rfl rfl) rfl (po_call (c0) rfl (ac .nil)) ?_ | refine sdraw_pure (.free rfl rfl) rfl (po_call (k4) rfl (ac .nil)) ?_ | refine sdraw_pure (.free rfl rfl) rfl (po_call (k7) rfl (ac .nil)) ?_ | refine sdraw_pure (.free rfl rfl) rfl (po_call (ka) rfl (ac .nil)) ?_ | refine sdraw_pure (.free rfl rfl) rfl (po_call (c1) rfl (ac .nil)) ?_ | refine sdraw_pure (.free rfl rfl) rfl (po_call (c2) rfl (ac .nil)) ?_ | refine sdraw_pure (.free rfl rfl) rfl (po_call (c5) rfl (ac .nil)) ?_) <;> (first | refine sdraw_pure (.free rfl rfl) rfl (po_call (c3) rfl (.cons rfl (.t _) (.cons rfl (.t _) (.cons rfl (.t _) (.cons rfl (.le req_le) .nil))))) ?_ | refine sdraw_pure (.free rfl rfl) rfl (po_call (c4) rfl (.cons rfl (.t _) (.cons rfl (.t _) (.cons rfl (.t _) (.cons rfl (.le req_le) .nil))))) ?_ | refine sdraw_pure (.free rfl rfl) rfl (po_load_bx_agg rfl rfl (tyT rfl) rfl (vc (vc (vc .nil))) rfl) ?_ | refine sdraw_pure (.free rfl rfl) rfl (po_load_agg rfl rfl (tyT rfl) rfl rfl) ?_) <;> (first | refine sdraw_pure (.free rfl rfl) rfl (po_call (c3) rfl (.cons rfl (.t _) (.cons rfl (.t _) (.cons rfl (.t _) (.cons rfl (.le req_le) .nil))))) ?_ | refine sdraw_pure (.free rfl rfl) rfl (po_call (c4) rfl (.cons rfl (.t _) (.cons rfl (.t _) (.cons rfl (.t _) (.cons rfl (.le req_le) .nil))))) ?_ | refine sdraw_pure (.free rfl rfl) rfl (po_call (c0) rfl (ac (ac (ac .nil)))) ?_ | refine sdraw_pure (.free rfl rfl) rfl (po_call (k4) rfl (ac (ac (ac .nil)))) ?_ | refine sdraw_pure (.free rfl rfl) rfl (po_call (k7) rfl (ac (ac (ac .nil)))) ?_ | refine sdraw_pure (.free rfl rfl) rfl (po_call (ka) rfl (ac (ac (ac .nil)))) ?_ | refine sdraw_pure (.free rfl rfl) rfl (po_call (c1) rfl (ac (ac (ac .nil)))) ?_ | refine sdraw_pure (.free rfl rfl) rfl (po_call (c2) rfl (ac (ac (ac .nil)))) ?_ | refine sdraw_pure (.free rfl rfl) rfl (po_call (c5) rfl (ac (ac (ac .nil)))) ?_) <;> (first | refine sdraw_pure (.free rfl rfl) rfl (po_call (c3) rfl (.cons rfl (.t _) (.cons rfl (.t _) (.cons rfl (.t _) (.cons rfl (.le req_le) .nil))))) ?_ | refine sdraw_pure (.free rfl rfl) rfl (po_call (c4) rfl (.cons rfl (.t _) (.cons rfl (.t _) (.cons rfl (.t _) (.cons rfl (.le req_le) .nil))))) ?_ | refine sdraw_pure (.free rfl rfl) rfl (po_move rfl rfl) ?_) <;> (first | refine sdraw_pure (.free rfl rfl) rfl (po_call (c3) rfl (.cons rfl (.t _) (.cons rfl (.t _) (.cons rfl (.t _) (.cons rfl (.le req_le) .nil))))) ?_ | refine sdraw_pure (.free rfl rfl) rfl (po_call (c4) rfl (.cons rfl (.t _) (.cons rfl (.t _) (.cons rfl (.t _) (.cons rfl (.le req_le) .nil))))) ?_ | refine sdraw_pure (.free rfl rfl) rfl (po_extract rfl rfl rfl) ?_) <;> (first | refine sdraw_pure (.free rfl rfl) rfl (po_call (c3) rfl (.cons rfl (.t _) (.cons rfl (.t _) (.cons rfl (.t _) (.cons rfl (.le req_le) .nil))))) ?_ | refine sdraw_pure (.free rfl rfl) rfl (po_call (c4) rfl (.cons rfl (.t _) (.cons rfl (.t _) (.cons rfl (.t _) (.cons rfl (.le req_le) .nil))))) ?_ | refine sdraw_pure (.free rfl rfl) rfl (po_extract rfl rfl rfl) ?_) <;> (first | refine sdraw_pure (.free rfl rfl) rfl (po_call (c3) rfl (.cons rfl (.t _) (.cons rfl (.t _) (.cons rfl (.t _) (.cons rfl (.le req_le) .nil))))) ?_ | refine sdraw_pure (.free rfl rfl) rfl (po_call (c4) rfl (.cons rfl (.t _) (.cons rfl (.t _) (.cons rfl (.t _) (.cons rfl (.le req_le) .nil))))) ?_ | refine sdraw_pure (.free rfl rfl) rfl (po_assign rfl rfl) ?_) <;> (first | refine sdraw_pure (.free rfl rfl) rfl (po_call (c3) rfl (.cons rfl (.t _) (.cons rfl (.t _) (.cons rfl (.t _) (.cons rfl (.le req_le) .nil))))) ?_ | refine sdraw_pure (.free rfl rfl) rfl (po_call (c4) rfl (.cons rfl (.t _) (.cons rfl (.t _) (.cons rfl (.t _) (.cons rfl (.le req_le) .nil))))) ?_ | refine sdraw_pure (.free rfl rfl) rfl (po_assign rfl rfl) ?_) <;> (refine sdraw_nil ?_) <;> (refine sops_nil ?_))
    | ((refine swp_region (id := 7) ?_) <;> (first | refine sops_pure (.free rfl rfl) rfl rfl (po_call (c3) rfl (.cons rfl (.t _) (.cons rfl (.t _) (.cons rfl (.t _) (.cons rfl (.le req_le) .nil))))) ?_ | refine sops_pure (.free rfl rfl) rfl rfl (po_call (c4) rfl (.cons rfl (.t _) (.cons rfl (.t _) (.cons rfl (.t _) (.cons rfl (.le req_le) .nil))))) ?_ | refine sops_pure (.free rfl rfl) rfl rfl (po_move rfl rfl) ?_) <;> (first | refine sops_pure (.free rfl rfl) rfl rfl (po_call (c3) rfl (.cons rfl (.t _) (.cons rfl (.t _) (.cons rfl (.t _) (.cons rfl (.le req_le) .nil))))) ?_ | refine sops_pure (.free rfl rfl) rfl rfl (po_call (c4) rfl (.cons rfl (.t _) (.cons rfl (.t _) (.cons rfl (.t _) (.cons rfl (.le req_le) .nil))))) ?_ | refine sops_pure (.free rfl rfl) rfl rfl (po_move rfl rfl) ?_) <;> (first | refine sops_pure gy rfl rfl (po_call (c3) rfl (.cons rfl (.t _) (.cons rfl (.t _) (.cons rfl (.t _) (.cons rfl (.le req_le) .nil))))) ?_ | refine sops_pure gy rfl rfl (po_call (c4) rfl (.cons rfl (.t _) (.cons rfl (.t _) (.cons rfl (.t _) (.cons rfl (.le req_le) .nil))))) ?_ | refine sops_pure gy rfl rfl (po_move rfl rfl) ?_ | refine sops_skip gn1 rfl rfl ?_ | ((refine sops_split rfl rfl rfl (fun hc => ?_) (fun hc => ?_)) <;> (first | refine sops_pure gy rfl rfl (po_call (c3) rfl (.cons rfl (.t _) (.cons rfl (.t _) (.cons rfl (.t _) (.cons rfl (.le req_le) .nil))))) ?_ | refine sops_pure gy rfl rfl (po_call (c4) rfl (.cons rfl (.t _) (.cons rfl (.t _) (.cons rfl (.t _) (.cons rfl (.le req_le) .nil))))) ?_ | refine sops_pure gy rfl rfl (po_move rfl rfl) ?_ | refine sops_skip gn1 rfl rfl ?_))) <;> (first | refine sops_pure gy rfl rfl (po_call (c3) rfl (.cons rfl (.t _) (.cons rfl (.t _) (.cons rfl (.t _) (.cons rfl (.le req_le) .nil))))) ?_ | refine sops_pure gy rfl rfl (po_call (c4) rfl (.cons rfl (.t _) (.cons rfl (.t _) (.cons rfl (.t _) (.cons rfl (.le req_le) .nil))))) ?_ | refine sops_pure gy rfl rfl (po_cmp rfl rfl rfl rfl) ?_ | refine sops_skip gn1 rfl rfl ?_) <;> (first | refine sops_pure (.free rfl rfl) rfl rfl (po_call (c3) rfl (.cons rfl (.t _) (.cons rfl (.t _) (.cons rfl (.t _) (.cons rfl (.le req_le) .nil))))) ?_ | refine sops_pure (.free rfl rfl) rfl rfl (po_call (c4) rfl (.cons rfl (.t _) (.cons rfl (.t _) (.cons rfl (.t _) (.cons rfl (.le req_le) .nil))))) ?_ | refine sops_pure (.free rfl rfl) rfl rfl (po_pick_t rfl rfl (by first | assumption | with_reducible rfl | decide | (simp only [decide_eq_true_eq, decide_eq_false_iff_not]; omega)) rfl) ?_ | refine sops_pure (.free rfl rfl) rfl rfl (po_pick_f rfl rfl (by first | assumption | with_reducible rfl | decide | (simp only [decide_eq_true_eq, decide_eq_false_iff_not]; omega)) rfl) ?_) <;> (first | refine sops_pure (.free rfl rfl) rfl rfl (po_call (c3) rfl (.cons rfl (.t _) (.cons rfl (.t _) (.cons rfl (.t _) (.cons rfl (.le req_le) .nil))))) ?_ | refine sops_pure (.free rfl rfl) rfl rfl (po_call (c4) rfl (.cons rfl (.t _) (.cons rfl (.t _) (.cons rfl (.t _) (.cons rfl (.le req_le) .nil))))) ?_ | refine sops_pure (.free rfl rfl) rfl rfl (po_move rfl rfl) ?_) <;> (first | refine sops_pure gy rfl rfl (po_call (c3) rfl (.cons rfl (.t _) (.cons rfl (.t _) (.cons rfl (.t _) (.cons rfl (.le req_le) .nil))))) ?_ | refine sops_pure gy rfl rfl (po_call (c4) rfl (.cons rfl (.t _) (.cons rfl (.t _) (.cons rfl (.t _) (.cons rfl (.le req_le) .nil))))) ?_ | refine sops_pure gy rfl rfl (po_move rfl rfl) ?_ | refine sops_skip gn1 rfl rfl ?_ | ((refine sops_split rfl rfl rfl (fun hc => ?_) (fun hc => ?_)) <;> (first | refine sops_pure gy rfl rfl (po_call (c3) rfl (.cons rfl (.t _) (.cons rfl (.t _) (.cons rfl (.t _) (.cons rfl (.le req_le) .nil))))) ?_ | refine sops_pure gy rfl rfl (po_call (c4) rfl (.cons rfl (.t _) (.cons rfl (.t _) (.cons rfl (.t _) (.cons rfl (.le req_le) .nil))))) ?_ | refine sops_pure gy rfl rfl (po_move rfl rfl) ?_ | refine sops_skip gn1 rfl rfl ?_))) <;> (first | refine sops_pure gy rfl rfl (po_call (c3) rfl (.cons rfl (.t _) (.cons rfl (.t _) (.cons rfl (.t _) (.cons rfl (.le req_le) .nil))))) ?_ | refine sops_pure gy rfl rfl (po_call (c4) rfl (.cons rfl (.t _) (.cons rfl (.t _) (.cons rfl (.t _) (.cons rfl (.le req_le) .nil))))) ?_ | refine sops_pure gy rfl rfl (po_not rfl rfl) ?_ | refine sops_skip gn1 rfl rfl ?_) <;> (first | refine sops_pure (.free rfl rfl) rfl rfl (po_call (c3) rfl (.cons rfl (.t _) (.cons rfl (.t _) (.cons rfl (.t _) (.cons rfl (.le req_le) .nil))))) ?_ | refine sops_pure (.free rfl rfl) rfl rfl (po_call (c4) rfl (.cons rfl (.t _) (.cons rfl (.t _) (.cons rfl (.t _) (.cons rfl (.le req_le) .nil))))) ?_ | refine sops_pure (.free rfl rfl) rfl rfl (po_pick_t rfl rfl (by first | assumption | with_reducible rfl | decide | (simp only [decide_eq_true_eq, decide_eq_false_iff_not]; omega)) rfl) ?_ | refine sops_pure (.free rfl rfl) rfl rfl (po_pick_f rfl rfl (by first | assumption | with_reducible rfl | decide | (simp only [decide_eq_true_eq, decide_eq_false_iff_not]; omega)) rfl) ?_) <;> (first | refine sops_pure (.free rfl rfl) rfl rfl (po_call (c3) rfl (.cons rfl (.t _) (.cons rfl (.t _) (.cons rfl (.t _) (.cons rfl (.le req_le) .nil))))) ?_ | refine sops_pure (.free rfl rfl) rfl rfl (po_call (c4) rfl (.cons rfl (.t _) (.cons rfl (.t _) (.cons rfl (.t _) (.cons rfl (.le req_le) .nil))))) ?_ | refine sops_pure (.free rfl rfl) rfl rfl (po_move rfl rfl) ?_) <;> (first | refine sops_pure gy rfl rfl (po_call (c3) rfl (.cons rfl (.t _) (.cons rfl (.t _) (.cons rfl (.t _) (.cons rfl (.le req_le) .nil))))) ?_ | refine sops_pure gy rfl rfl (po_call (c4) rfl (.cons rfl (.t _) (.cons rfl (.t _) (.cons rfl (.t _) (.cons rfl (.le req_le) .nil))))) ?_ | refine sops_pure gy rfl rfl (po_move rfl rfl) ?_ | refine sops_skip gn1 rfl rfl ?_ | ((refine sops_split rfl rfl rfl (fun hc => ?_) (fun hc => ?_)) <;> (first | refine sops_pure gy rfl rfl (po_call (c3) rfl (.cons rfl (.t _) (.cons rfl (.t _) (.cons rfl (.t _) (.cons rfl (.le req_le) .nil))))) ?_ | refine sops_pure gy rfl rfl (po_call (c4) rfl (.cons rfl (.t _) (.cons rfl (.t _) (.cons rfl (.t _) (.cons rfl (.le req_le) .nil))))) ?_ | refine sops_pure gy rfl rfl (po_move rfl rfl) ?_ | refine sops_skip gn1 rfl rfl ?_))) <;> (first | refine sops_pure gy rfl rfl (po_call (c3) rfl (.cons rfl (.t _) (.cons rfl (.t _) (.cons rfl (.t _) (.cons rfl (.le req_le) .nil))))) ?_ | refine sops_pure gy rfl rfl (po_call (c4) rfl (.cons rfl (.t _) (.cons rfl (.t _) (.cons rfl (.t _) (.cons rfl (.le req_le) .nil))))) ?_ | refine sops_pure gy rfl rfl (po_cmp rfl rfl rfl rfl) ?_ | refine sops_skip gn1 rfl rfl ?_) <;> (first | refine sops_pure (.free rfl rfl) rfl rfl (po_call (c3) rfl (.cons rfl (.t _) (.cons rfl (.t _) (.cons rfl (.t _) (.cons rfl (.le req_le) .nil))))) ?_ | refine sops_pure (.free rfl rfl) rfl rfl (po_call (c4) rfl (.cons rfl (.t _) (.cons rfl (.t _) (.cons rfl (.t _) (.cons rfl (.le req_le) .nil))))) ?_ | refine sops_pure (.free rfl rfl) rfl rfl (po_pick_t rfl rfl (by first | assumption | with_reducible rfl | decide | (simp only [decide_eq_true_eq, decide_eq_false_iff_not]; omega)) rfl) ?_ | refine sops_pure (.free rfl rfl) rfl rfl (po_pick_f rfl rfl (by first | assumption | with_reducible rfl | decide | (simp only [decide_eq_true_eq, decide_eq_false_iff_not]; omega)) rfl) ?_) <;> (first | refine sops_pure (.free rfl rfl) rfl rfl (po_call (c3) rfl (.cons rfl (.t _) (.cons rfl (.t _) (.cons rfl (.t _) (.cons rfl (.le req_le) .nil))))) ?_ | refine sops_pure (.free rfl rfl) rfl rfl (po_call (c4) rfl (.cons rfl (.t _) (.cons rfl (.t _) (.cons rfl (.t _) (.cons rfl (.le req_le) .nil))))) ?_ | refine sops_pure (.free rfl rfl) rfl rfl (po_move rfl rfl) ?_) <;> (first | refine sops_pure gy rfl rfl (po_call (c3) rfl (.cons rfl (.t _) (.cons rfl (.t _) (.cons rfl (.t _) (.cons rfl (.le req_le) .nil))))) ?_ | refine sops_pure gy rfl rfl (po_call (c4) rfl (.cons rfl (.t _) (.cons rfl (.t _) (.cons rfl (.t _) (.cons rfl (.le req_le) .nil))))) ?_ | refine sops_pure gy rfl rfl (po_move rfl rfl) ?_ | refine sops_skip gn1 rfl rfl ?_ | ((refine sops_split rfl rfl rfl (fun hc => ?_) (fun hc => ?_)) <;> (first | refine sops_pure gy rfl rfl (po_call (c3) rfl (.cons rfl (.t _) (.cons rfl (.t _) (.cons rfl (.t _) (.cons rfl (.le req_le) .nil))))) ?_ | refine sops_pure gy rfl rfl (po_call (c4) rfl (.cons rfl (.t _) (.cons rfl (.t _) (.cons rfl (.t _) (.cons rfl (.le req_le) .nil))))) ?_ | refine sops_pure gy rfl rfl (po_move rfl rfl) ?_ | refine sops_skip gn1 rfl rfl ?_))) <;> (first | refine sops_pure (.free rfl rfl) rfl rfl (po_call (c3) rfl (.cons rfl (.t _) (.cons rfl (.t _) (.cons rfl (.t _) (.cons rfl (.le req_le) .nil))))) ?_ | refine sops_pure (.free rfl rfl) rfl rfl (po_call (c4) rfl (.cons rfl (.t _) (.cons rfl (.t _) (.cons rfl (.t _) (.cons rfl (.le req_le) .nil))))) ?_ | refine sops_pure (.free rfl rfl) rfl rfl (po_pick_t rfl rfl (by first | assumption | with_reducible rfl | decide | (simp only [decide_eq_true_eq, decide_eq_false_iff_not]; omega)) rfl) ?_ | refine sops_pure (.free rfl rfl) rfl rfl (po_pick_f rfl rfl (by first | assumption | with_reducible rfl | decide | (simp only [decide_eq_true_eq, decide_eq_false_iff_not]; omega)) rfl) ?_) <;> (first | refine sops_pure (.free rfl rfl) rfl rfl (po_call (c3) rfl (.cons rfl (.t _) (.cons rfl (.t _) (.cons rfl (.t _) (.cons rfl (.le req_le) .nil))))) ?_ | refine sops_pure (.free rfl rfl) rfl rfl (po_call (c4) rfl (.cons rfl (.t _) (.cons rfl (.t _) (.cons rfl (.t _) (.cons rfl (.le req_le) .nil))))) ?_ | refine sops_pure (.free rfl rfl) rfl rfl (po_move rfl rfl) ?_) <;> (first | refine sops_pure gy rfl rfl (po_call (c3) rfl (.cons rfl (.t _) (.cons rfl (.t _) (.cons rfl (.t _) (.cons rfl (.le req_le) .nil))))) ?_ | refine sops_pure gy rfl rfl (po_call (c4) rfl (.cons rfl (.t _) (.cons rfl (.t _) (.cons rfl (.t _) (.cons rfl (.le req_le) .nil))))) ?_ | refine sops_pure gy rfl rfl (po_move rfl rfl) ?_ | refine sops_skip gn1 rfl rfl ?_ | ((refine sops_split rfl rfl rfl (fun hc => ?_) (fun hc => ?_)) <;> (first | refine sops_pure gy rfl rfl (po_call (c3) rfl (.cons rfl (.t _) (.cons rfl (.t _) (.cons rfl (.t _) (.cons rfl (.le req_le) .nil))))) ?_ | refine sops_pure gy rfl rfl (po_call (c4) rfl (.cons rfl (.t _) (.cons rfl (.t _) (.cons rfl (.t _) (.cons rfl (.le req_le) .nil))))) ?_ | refine sops_pure gy rfl rfl (po_move rfl rfl) ?_ | refine sops_skip gn1 rfl rfl ?_))) <;> (first | refine sops_pure gy rfl rfl (po_call (c3) rfl (.cons rfl (.t _) (.cons rfl (.t _) (.cons rfl (.t _) (.cons rfl (.le req_le) .nil))))) ?_ | refine sops_pure gy rfl rfl (po_call (c4) rfl (.cons rfl (.t _) (.cons rfl (.t _) (.cons rfl (.t _) (.cons rfl (.le req_le) .nil))))) ?_ | refine sops_pure gy rfl rfl (po_cmp rfl rfl rfl rfl) ?_ | refine sops_skip gn1 rfl rfl ?_) <;> (first | refine sops_pure (.free rfl rfl) rfl rfl (po_call (c3) rfl (.cons rfl (.t _) (.cons rfl (.t _) (.cons rfl (.t _) (.cons rfl (.le req_le) .nil))))) ?_ | refine sops_pure (.free rfl rfl) rfl rfl (po_call (c4) rfl (.cons rfl (.t _) (.cons rfl (.t _) (.cons rfl (.t _) (.cons rfl (.le req_le) .nil))))) ?_ | refine sops_pure (.free rfl rfl) rfl rfl (po_pick_t rfl rfl (by first | assumption | with_reducible rfl | decide | (simp only [decide_eq_true_eq, decide_eq_false_iff_not]; omega)) rfl) ?_ | refine sops_pure (.free rfl rfl) rfl rfl (po_pick_f rfl rfl (by first | assumption | with_reducible rfl | decide | (simp only [decide_eq_true_eq, decide_eq_false_iff_not]; omega)) rfl) ?_) <;> (first | refine sops_pure (.free rfl rfl) rfl rfl (po_call (c3) rfl (.cons rfl (.t _) (.cons rfl (.t _) (.cons rfl (.t _) (.cons rfl (.le req_le) .nil))))) ?_ | refine sops_pure (.free rfl rfl) rfl rfl (po_call (c4) rfl (.cons rfl (.t _) (.cons rfl (.t _) (.cons rfl (.t _) (.cons rfl (.le req_le) .nil))))) ?_ | refine sops_pure (.free rfl rfl) rfl rfl (po_move rfl rfl) ?_) <;> (first | refine sops_pure gy rfl rfl (po_call (c3) rfl (.cons rfl (.t _) (.cons rfl (.t _) (.cons rfl (.t _) (.cons rfl (.le req_le) .nil))))) ?_ | refine sops_pure gy rfl rfl (po_call (c4) rfl (.cons rfl (.t _) (.cons rfl (.t _) (.cons rfl (.t _) (.cons rfl (.le req_le) .nil))))) ?_ | refine sops_pure gy rfl rfl (po_move rfl rfl) ?_ | refine sops_skip gn1 rfl rfl ?_ | ((refine sops_split rfl rfl rfl (fun hc => ?_) (fun hc => ?_)) <;> (first | refine sops_pure gy rfl rfl (po_call (c3) rfl (.cons rfl (.t _) (.cons rfl (.t _) (.cons rfl (.t _) (.cons rfl (.le req_le) .nil))))) ?_ | refine sops_pure gy rfl rfl (po_call (c4) rfl (.cons rfl (.t _) (.cons rfl (.t _) (.cons rfl (.t _) (.cons rfl (.le req_le) .nil))))) ?_ | refine sops_pure gy rfl rfl (po_move rfl rfl) ?_ | refine sops_skip gn1 rfl rfl ?_))) <;> (first | refine sops_pure gy rfl rfl (po_call (c3) rfl (.cons rfl (.t _) (.cons rfl (.t _) (.cons rfl (.t _) (.cons rfl (.le req_le) .nil))))) ?_ | refine sops_pure gy rfl rfl (po_call (c4) rfl (.cons rfl (.t _) (.cons rfl (.t _) (.cons rfl (.t _) (.cons rfl (.le req_le) .nil))))) ?_ | refine sops_pure gy rfl rfl (po_not rfl rfl) ?_ | refine sops_skip gn1 rfl rfl ?_) <;> (first | refine sops_pure (.free rfl rfl) rfl rfl (po_call (c3) rfl (.cons rfl (.t _) (.cons rfl (.t _) (.cons rfl (.t _) (.cons rfl (.le req_le) .nil))))) ?_ | refine sops_pure (.free rfl rfl) rfl rfl (po_call (c4) rfl (.cons rfl (.t _) (.cons rfl (.t _) (.cons rfl (.t _) (.cons rfl (.le req_le) .nil))))) ?_ | refine sops_pure (.free rfl rfl) rfl rfl (po_pick_t rfl rfl (by first | assumption | with_reducible rfl | decide | (simp only [decide_eq_true_eq, decide_eq_false_iff_not]; omega)) rfl) ?_ | refine sops_pure (.free rfl rfl) rfl rfl (po_pick_f rfl rfl (by first | assumption | with_reducible rfl | decide | (simp only [decide_eq_true_eq, decide_eq_false_iff_not]; omega)) rfl) ?_) <;> (first | refine sops_pure (.free rfl rfl) rfl rfl (po_call (c3) rfl (.cons rfl (.t _) (.cons rfl (.t _) (.cons rfl (.t _) (.cons rfl (.le req_le) .nil))))) ?_ | refine sops_pure (.free rfl rfl) rfl rfl (po_call (c4) rfl (.cons rfl (.t _) (.cons rfl (.t _) (.cons rfl (.t _) (.cons rfl (.le req_le) .nil))))) ?_ | refine sops_pure (.free rfl rfl) rfl rfl (po_move rfl rfl) ?_) <;> (first | refine sops_pure gy rfl rfl (po_call (c3) rfl (.cons rfl (.t _) (.cons rfl (.t _) (.cons rfl (.t _) (.cons rfl (.le req_le) .nil))))) ?_ | refine sops_pure gy rfl rfl (po_call (c4) rfl (.cons rfl (.t _) (.cons rfl (.t _) (.cons rfl (.t _) (.cons rfl (.le req_le) .nil))))) ?_ | refine sops_pure gy rfl rfl (po_move rfl rfl) ?_ | refine sops_skip gn1 rfl rfl ?_ | ((refine sops_split rfl rfl rfl (fun hc => ?_) (fun hc => ?_)) <;> (first | refine sops_pure gy rfl rfl (po_call (c3) rfl (.cons rfl (.t _) (.cons rfl (.t _) (.cons rfl (.t _) (.cons rfl (.le req_le) .nil))))) ?_ | refine sops_pure gy rfl rfl (po_call (c4) rfl (.cons rfl (.t _) (.cons rfl (.t _) (.cons rfl (.t _) (.cons rfl (.le req_le) .nil))))) ?_ | refine sops_pure gy rfl rfl (po_move rfl rfl) ?_ | refine sops_skip gn1 rfl rfl ?_))) <;> (first | refine sops_pure gy rfl rfl (po_call (c3) rfl (.cons rfl (.t _) (.cons rfl (.t _) (.cons rfl (.t _) (.cons rfl (.le req_le) .nil))))) ?_ | refine sops_pure gy rfl rfl (po_call (c4) rfl (.cons rfl (.t _) (.cons rfl (.t _) (.cons rfl (.t _) (.cons rfl (.le req_le) .nil))))) ?_ | refine sops_pure gy rfl rfl (po_cmp rfl rfl rfl rfl) ?_ | refine sops_skip gn1 rfl rfl ?_) <;> (first | refine sops_pure (.free rfl rfl) rfl rfl (po_call (c3) rfl (.cons rfl (.t _) (.cons rfl (.t _) (.cons rfl (.t _) (.cons rfl (.le req_le) .nil))))) ?_ | refine sops_pure (.free rfl rfl) rfl rfl (po_call (c4) rfl (.cons rfl (.t _) (.cons rfl (.t _) (.cons rfl (.t _) (.cons rfl (.le req_le) .nil))))) ?_ | refine sops_pure (.free rfl rfl) rfl rfl (po_pick_t rfl rfl (by first | assumption | with_reducible rfl | decide | (simp only [decide_eq_true_eq, decide_eq_false_iff_not]; omega)) rfl) ?_ | refine sops_pure (.free rfl rfl) rfl rfl (po_pick_f rfl rfl (by first | assumption | with_reducible rfl | decide | (simp only [decide_eq_true_eq, decide_eq_false_iff_not]; omega)) rfl) ?_) <;> (first | refine sops_pure (.free rfl rfl) rfl rfl (po_call (c3) rfl (.cons rfl (.t _) (.cons rfl (.t _) (.cons rfl (.t _) (.cons rfl (.le req_le) .nil))))) ?_ | refine sops_pure (.free rfl rfl) rfl rfl (po_call (c4) rfl (.cons rfl (.t _) (.cons rfl (.t _) (.cons rfl (.t _) (.cons rfl (.le req_le) .nil))))) ?_ | refine sops_pure (.free rfl rfl) rfl rfl (po_move rfl rfl) ?_) <;> (first | refine sops_pure gy rfl rfl (po_call (c3) rfl (.cons rfl (.t _) (.cons rfl (.t _) (.cons rfl (.t _) (.cons rfl (.le req_le) .nil))))) ?_ | refine sops_pure gy rfl rfl (po_call (c4) rfl (.cons rfl (.t _) (.cons rfl (.t _) (.cons rfl (.t _) (.cons rfl (.le req_le) .nil))))) ?_ | refine sops_pure gy rfl rfl (po_move rfl rfl) ?_ | refine sops_skip gn1 rfl rfl ?_ | ((refine sops_split rfl rfl rfl (fun hc => ?_) (fun hc => ?_)) <;> (first | refine sops_pure gy rfl rfl (po_call (c3) rfl (.cons rfl (.t _) (.cons rfl (.t _) (.cons rfl (.t _) (.cons rfl (.le req_le) .nil))))) ?_ | refine sops_pure gy rfl rfl (po_call (c4) rfl (.cons rfl (.t _) (.cons rfl (.t _) (.cons rfl (.t _) (.cons rfl (.le req_le) .nil))))) ?_ | refine sops_pure gy rfl rfl (po_move rfl rfl) ?_ | refine sops_skip gn1 rfl rfl ?_))) <;> (first | refine sops_pure gy rfl rfl (po_call (c3) rfl (.cons rfl (.t _) (.cons rfl (.t _) (.cons rfl (.t _) (.cons rfl (.le req_le) .nil))))) ?_ | refine sops_pure gy rfl rfl (po_call (c4) rfl (.cons rfl (.t _) (.cons rfl (.t _) (.cons rfl (.t _) (.cons rfl (.le req_le) .nil))))) ?_ | refine sops_pure gy rfl rfl (po_not rfl rfl) ?_ | refine sops_skip gn1 rfl rfl ?_) <;> (first | refine sops_pure (.free rfl rfl) rfl rfl (po_call (c3) rfl (.cons rfl (.t _) (.cons rfl (.t _) (.cons rfl (.t _) (.cons rfl (.le req_le) .nil))))) ?_ | refine sops_pure (.free rfl rfl) rfl rfl (po_call (c4) rfl (.cons rfl (.t _) (.cons rfl (.t _) (.cons rfl (.t _) (.cons rfl (.le req_le) .nil))))) ?_ | refine sops_pure (.free rfl rfl) rfl rfl (po_pick_t rfl rfl (by first | assumption | with_reducible rfl | decide | (simp only [decide_eq_true_eq, decide_eq_false_iff_not]; omega)) rfl) ?_ | refine sops_pure (.free rfl rfl) rfl rfl (po_pick_f rfl rfl (by first | assumption | with_reducible rfl | decide | (simp only [decide_eq_true_eq, decide_eq_false_iff_not]; omega)) rfl) ?_) <;> (first | refine sops_pure (.free rfl rfl) rfl rfl (po_call (c3) rfl (.cons rfl (.t _) (.cons rfl (.t _) (.cons rfl (.t _) (.cons rfl (.le req_le) .nil))))) ?_ | refine sops_pure (.free rfl rfl) rfl rfl (po_call (c4) rfl (.cons rfl (.t _) (.cons rfl (.t _) (.cons rfl (.t _) (.cons rfl (.le req_le) .nil))))) ?_ | refine sops_pure (.free rfl rfl) rfl rfl (po_move rfl rfl) ?_) <;> (first | refine sops_pure gy rfl rfl (po_call (c3) rfl (.cons rfl (.t _) (.cons rfl (.t _) (.cons rfl (.t _) (.cons rfl (.le req_le) .nil))))) ?_ | refine sops_pure gy rfl rfl (po_call (c4) rfl (.cons rfl (.t _) (.cons rfl (.t _) (.cons rfl (.t _) (.cons rfl (.le req_le) .nil))))) ?_ | refine sops_pure gy rfl rfl (po_move rfl rfl) ?_ | refine sops_skip gn1 rfl rfl ?_ | ((refine sops_split rfl rfl rfl (fun hc => ?_) (fun hc => ?_)) <;> (first | refine sops_pure gy rfl rfl (po_call (c3) rfl (.cons rfl (.t _) (.cons rfl (.t _) (.cons rfl (.t _) (.cons rfl (.le req_le) .nil))))) ?_ | refine sops_pure gy rfl rfl (po_call (c4) rfl (.cons rfl (.t _) (.cons rfl (.t _) (.cons rfl (.t _) (.cons rfl (.le req_le) .nil))))) ?_ | refine sops_pure gy rfl rfl (po_move rfl rfl) ?_ | refine sops_skip gn1 rfl rfl ?_))) <;> (first | refine sops_pure gy rfl rfl (po_call (c3) rfl (.cons rfl (.t _) (.cons rfl (.t _) (.cons rfl (.t _) (.cons rfl (.le req_le) .nil))))) ?_ | refine sops_pure gy rfl rfl (po_call (c4) rfl (.cons rfl (.t _) (.cons rfl (.t _) (.cons rfl (.t _) (.cons rfl (.le req_le) .nil))))) ?_ | refine sops_pure gy rfl rfl (po_cmp rfl rfl rfl rfl) ?_ | refine sops_skip gn1 rfl rfl ?_) <;> (first | refine sops_pure (.free rfl rfl) rfl rfl (po_call (c3) rfl (.cons rfl (.t _) (.cons rfl (.t _) (.cons rfl (.t _) (.cons rfl (.le req_le) .nil))))) ?_ | refine sops_pure (.free rfl rfl) rfl rfl (po_call (c4) rfl (.cons rfl (.t _) (.cons rfl (.t _) (.cons rfl (.t _) (.cons rfl (.le req_le) .nil))))) ?_ | refine sops_pure (.free rfl rfl) rfl rfl (po_pick_t rfl rfl (by first | assumption | with_reducible rfl | decide | (simp only [decide_eq_true_eq, decide_eq_false_iff_not]; omega)) rfl) ?_ | refine sops_pure (.free rfl rfl) rfl rfl (po_pick_f rfl rfl (by first | assumption | with_reducible rfl | decide | (simp only [decide_eq_true_eq, decide_eq_false_iff_not]; omega)) rfl) ?_) <;> (first | refine sops_pure (.free rfl rfl) rfl rfl (po_call (c3) rfl (.cons rfl (.t _) (.cons rfl (.t _) (.cons rfl (.t _) (.cons rfl (.le req_le) .nil))))) ?_ | refine sops_pure (.free rfl rfl) rfl rfl (po_call (c4) rfl (.cons rfl (.t _) (.cons rfl (.t _) (.cons rfl (.t _) (.cons rfl (.le req_le) .nil))))) ?_ | refine sops_pure (.free rfl rfl) rfl rfl (po_assign rfl rfl) ?_) <;> (refine sops_nil ?_))
    | refine swp_ret ?_
    | refine swp_skip ?_
    | refine swp_block ?_
    | refine swp_exit ?_
    | refine block_go ?_
    | refine block_exit ?_
    | refine block_far rfl ?_
    | refine block_ret ?_
    | refine then_ret ?_
    | refine then_exit ?_
    | refine for_ret ?_
    | refine for_exit ?_
    | refine ct ?_
    | refine cf ?_
    | refine swp_cond rfl (fun hc => ?_) (fun hc => ?_)
    | refine retq (by first | exact .inr rfl | exact .inl rfl) rfl (.tmp rfl (by first | exact .t _ | exact .own rfl (by first | rfl | assumption | (simp; done) | (simp; omega)) | exact .nil _ | exact .emp _ | exact .fn _) .nil) ?_)
  rfl
end Go.Proofs.YtlcecabfmemfeaaGreat.Pol

/- policy.Same, split.Same: each is the same as itself. (Printed by mk_sp8.py.) -/
namespace Go.Proofs.YtlcecabfmemfeaaGreat.Pol
set_option linter.unusedVariables false
set_option linter.unusedSimpArgs false
open Go.RowKit Mem Sim Opn
theorem ex_two' (a b : Value) : Ex (.agg [.v a, .v b]) (.agg #[a, b]) := Ex.agg (cs := [.v a, .v b]) (vs := [a, b]) rfl (fun j t v h1 h2 => by
  match j, h1, h2 with
  | 0, h1, h2 => simp at h1 h2; rw [← h1, ← h2]
  | 1, h1, h2 => simp at h1 h2; rw [← h1, ← h2])
theorem len_ne {α : Type} {l : List α} : (!decide ((l.length : Int) = (l.length : Int))) = false := by simp
theorem qTerm_run (a : Pl.Term) (w : World) (x y : Operand) : ((do eqGuard .neq 90 x y (.agg #[.int .i64 a.k, .string a.s]) (.agg #[.int .i64 a.k, .string a.s]); binOp .neq 90 (.agg #[.int .i64 a.k, .string a.s]) (.agg #[.int .i64 a.k, .string a.s])) : Sem Value).run Tryz.prog w = .ok (.bool false) w := by
  have hm : Tryz.prog.eqGuardType Tryz.prog.depth 90 = false := by kernel_rfl
  rw [Sem.run_bind, run_eqGuard_agg _ _ _ _ _ _ _ hm]
  simp only [Result.andThen_ok]
  rw [run_neq_struct]
  simp [go_sem]
def ETerm (l : List Pl.Term) (k : Nat) : St := ⟨[(0, .t (.sl 2 (l.map termT))), (1, .t (.sl 2 (l.map termT))), (12, .t (.v (.int .i64 (l.length : Int)))), (13, .t (.v (.int .i64 (k : Int))))], [], []⟩
set_option maxRecDepth 100000 in
theorem equalTerm (l : List Pl.Term) (hn : l.length ≤ 1000) : PCalls Tryz.prog 114 [.sl 2 (l.map termT), .sl 2 (l.map termT)] (.v (.bool true)) := by
  have hm1 : (l.map termT).length = l.length := List.length_map _
  have h0 := len_ne (l := l.map termT)
  refine pcalls_of Tryz.func114 rfl rfl Tryz.ntmps114 rfl ?_
  repeat' (first
    | refine then_go ?_
    | refine swp_seq ?_
    | ((refine swp_region (id := 0) ?_) <;> (refine sops_pure (.free rfl rfl) rfl rfl (po_assign rfl rfl) ?_) <;> (refine sops_nil ?_))
    | ((refine swp_region (id := 1) ?_) <;> (refine sops_pure (.free rfl rfl) rfl rfl (po_move rfl rfl) ?_) <;> (refine sops_pure (.free rfl rfl) rfl rfl (po_len rfl rfl (by first | exact .t _ | exact .own rfl (by first | rfl | assumption | (simp; done) | (simp; omega)) | exact .nil _ | exact .emp _ | exact .fn _) (tyS rfl)) ?_) <;> (refine sops_pure (.free rfl rfl) rfl rfl (po_move rfl rfl) ?_) <;> (refine sops_pure (.free rfl rfl) rfl rfl (po_len rfl rfl (by first | exact .t _ | exact .own rfl (by first | rfl | assumption | (simp; done) | (simp; omega)) | exact .nil _ | exact .emp _ | exact .fn _) (tyS rfl)) ?_) <;> (refine sops_pure (.free rfl rfl) rfl rfl (po_cmp rfl rfl rfl rfl) ?_) <;> (refine sops_nil ?_))
    | ((refine swp_region (id := 3) ?_) <;> (refine sops_pure (.free rfl rfl) rfl rfl (po_move rfl rfl) ?_) <;> (refine sops_pure (.free rfl rfl) rfl rfl (po_len rfl rfl (by first | exact .t _ | exact .own rfl (by first | rfl | assumption | (simp; done) | (simp; omega)) | exact .nil _ | exact .emp _ | exact .fn _) (tyS rfl)) ?_) <;> (refine sops_pure (.free rfl rfl) rfl rfl (po_move rfl rfl) ?_) <;> (refine sops_nil ?_))
    | refine swp_ret ?_
    | refine swp_skip ?_
    | refine swp_block ?_
    | refine swp_exit ?_
    | refine block_go ?_
    | refine block_exit ?_
    | refine block_far rfl ?_
    | refine block_ret ?_
    | refine then_ret ?_
    | refine then_exit ?_
    | refine for_ret ?_
    | refine for_exit ?_
    | refine ct ?_
    | refine cf ?_
    | refine swp_cond rfl (fun hc => ?_) (fun hc => ?_)
    | refine retq (by first | exact .inr rfl | exact .inl rfl) rfl (.tmp rfl (by first | exact .t _ | exact .own rfl (by first | rfl | assumption | (simp; done) | (simp; omega)) | exact .nil _ | exact .emp _ | exact .fn _) .nil) ?_)
  refine swp_for (ETerm l) (fun k => True) l.length ?_ trivial ?_
  · exact (weak_sub (.cons rfl (by first | rfl | (exact congrArg (fun n : Nat => A.t (.v (.int .i64 (n : Int)))) hm1)) rfl (.cons rfl (by first | rfl | (exact congrArg (fun n : Nat => A.t (.v (.int .i64 (n : Int)))) hm1)) rfl (.cons rfl (by first | rfl | (exact congrArg (fun n : Nat => A.t (.v (.int .i64 (n : Int)))) hm1)) rfl (.cons rfl (by first | rfl | (exact congrArg (fun n : Nat => A.t (.v (.int .i64 (n : Int)))) hm1)) rfl .nil)))) .nil .nil)
  intro k hk _
  unfold ETerm
  by_cases hlt : k < l.length
  · repeat' (first
    | refine then_go ?_
    | refine swp_seq ?_
    | refine for_next hlt (weak_sub (.cons rfl rfl rfl (.cons rfl rfl rfl (.cons rfl rfl rfl (.cons rfl rfl rfl .nil)))) .nil .nil) trivial
    | ((refine swp_region (id := 4) ?_) <;> (first | refine sops_pure (.free rfl rfl) rfl rfl (po_ex2 rfl rfl rfl (ex_two' _ _) (ex_two' _ _) (qTerm_run l[k])) ?_ | refine sops_pure (.free rfl rfl) rfl rfl (po_cmp rfl rfl rfl rfl) ?_) <;> (refine sops_nil ?_))
    | ((refine swp_region (id := 5) ?_) <;> (refine sops_pure (.free rfl rfl) rfl rfl (po_move rfl rfl) ?_) <;> (refine sops_pure (.free rfl rfl) rfl rfl (po_assign rfl rfl) ?_) <;> (refine sops_nil ?_))
    | ((refine swp_draw_all (id := 6) mixed (by kernel_rfl) (by kernel_rfl) ?_) <;> (refine sdraw_pure (.free rfl rfl) rfl (po_move rfl rfl) ?_) <;> (refine sdraw_pure (.free rfl rfl) rfl (po_move rfl rfl) ?_) <;> (refine sdraw_pure (.free rfl rfl) rfl (po_index rfl rfl (by first | exact .t _ | exact .own rfl (by first | rfl | assumption | (simp; done) | (simp; omega)) | exact .nil _ | exact .emp _ | exact .fn _) rfl (tyS rfl) (by first | rfl | omega) (by first | rfl | assumption | exact map_at (by first | assumption | omega))) ?_) <;> (first | refine sdraw_pure (.free rfl rfl) rfl (po_load_bx_agg rfl rfl (tyT rfl) rfl (vc (vc .nil)) rfl) ?_ | refine sdraw_pure (.free rfl rfl) rfl (po_load_agg rfl rfl (tyT rfl) rfl rfl) ?_) <;> (refine sdraw_pure (.free rfl rfl) rfl (po_move rfl rfl) ?_) <;> (refine sdraw_pure (.free rfl rfl) rfl (po_move rfl rfl) ?_) <;> (refine sdraw_pure (.free rfl rfl) rfl (po_index rfl rfl (by first | exact .t _ | exact .own rfl (by first | rfl | assumption | (simp; done) | (simp; omega)) | exact .nil _ | exact .emp _ | exact .fn _) rfl (tyS rfl) (by first | rfl | omega) (by first | rfl | assumption | exact map_at (by first | assumption | omega))) ?_) <;> (first | refine sdraw_pure (.free rfl rfl) rfl (po_load_bx_agg rfl rfl (tyT rfl) rfl (vc (vc .nil)) rfl) ?_ | refine sdraw_pure (.free rfl rfl) rfl (po_load_agg rfl rfl (tyT rfl) rfl rfl) ?_) <;> (first | refine sdraw_pure (.free rfl rfl) rfl (po_ex2 rfl rfl rfl (ex_two' _ _) (ex_two' _ _) (qTerm_run l[k])) ?_ | refine sdraw_pure (.free rfl rfl) rfl (po_boolq rfl rfl rfl (by kernel_rfl) (by first | exact .inl rfl | exact .inr rfl)) ?_) <;> (refine sdraw_nil ?_) <;> (refine sops_nil ?_))
    | ((refine swp_region (id := 8) ?_) <;> (first | refine sops_pure (.free rfl rfl) rfl rfl (po_inc rfl rfl rfl (by omega)) ?_ | refine sops_pure (.free rfl rfl) rfl rfl (po_arith rfl rfl rfl (ar_add (by first | rfl | (refine wrap_i64 ?_; omega)) rfl)) ?_) <;> (refine sops_pure (.free rfl rfl) rfl rfl (po_move rfl rfl) ?_) <;> (refine sops_nil ?_))
    | refine swp_ret ?_
    | refine swp_skip ?_
    | refine swp_block ?_
    | refine swp_exit ?_
    | refine block_go ?_
    | refine block_exit ?_
    | refine block_far rfl ?_
    | refine block_ret ?_
    | refine then_ret ?_
    | refine then_exit ?_
    | refine for_ret ?_
    | refine for_exit ?_
    | refine ct ?_
    | refine cf ?_
    | refine swp_cond rfl (fun hc => ?_) (fun hc => ?_)
    | refine retq (by first | exact .inr rfl | exact .inl rfl) rfl (.tmp rfl (by first | exact .t _ | exact .own rfl (by first | rfl | assumption | (simp; done) | (simp; omega)) | exact .nil _ | exact .emp _ | exact .fn _) .nil) ?_)
  · repeat' (first
    | refine then_go ?_
    | refine swp_seq ?_
    | ((refine swp_region (id := 4) ?_) <;> (refine sops_pure (.free rfl rfl) rfl rfl (po_cmp rfl rfl rfl rfl) ?_) <;> (refine sops_nil ?_))
    | ((refine swp_region (id := 9) ?_) <;> (refine sops_pure (.free rfl rfl) rfl rfl (po_assign rfl rfl) ?_) <;> (refine sops_nil ?_))
    | refine swp_ret ?_
    | refine swp_skip ?_
    | refine swp_block ?_
    | refine swp_exit ?_
    | refine block_go ?_
    | refine block_exit ?_
    | refine block_far rfl ?_
    | refine block_ret ?_
    | refine then_ret ?_
    | refine then_exit ?_
    | refine for_ret ?_
    | refine for_exit ?_
    | refine ct ?_
    | refine cf ?_
    | refine swp_cond rfl (fun hc => ?_) (fun hc => ?_)
    | refine retq (by first | exact .inr rfl | exact .inl rfl) rfl (.tmp rfl (by first | exact .t _ | exact .own rfl (by first | rfl | assumption | (simp; done) | (simp; omega)) | exact .nil _ | exact .emp _ | exact .fn _) .nil) ?_)
    rfl
theorem qCidr_run (a : Pl.Cidr) (w : World) (x y : Operand) : ((do eqGuard .neq 104 x y (.agg #[.int .u32 a.addr, .int .i64 a.bits]) (.agg #[.int .u32 a.addr, .int .i64 a.bits]); binOp .neq 104 (.agg #[.int .u32 a.addr, .int .i64 a.bits]) (.agg #[.int .u32 a.addr, .int .i64 a.bits])) : Sem Value).run Tryz.prog w = .ok (.bool false) w := by
  have hm : Tryz.prog.eqGuardType Tryz.prog.depth 104 = false := by kernel_rfl
  rw [Sem.run_bind, run_eqGuard_agg _ _ _ _ _ _ _ hm]
  simp only [Result.andThen_ok]
  rw [run_neq_struct]
  simp [go_sem]
def ECidr (l : List Pl.Cidr) (k : Nat) : St := ⟨[(0, .t (.sl 2 (l.map cidrT))), (1, .t (.sl 2 (l.map cidrT))), (12, .t (.v (.int .i64 (l.length : Int)))), (13, .t (.v (.int .i64 (k : Int))))], [], []⟩
set_option maxRecDepth 100000 in
theorem equalCidr (l : List Pl.Cidr) (hn : l.length ≤ 1000) : PCalls Tryz.prog 115 [.sl 2 (l.map cidrT), .sl 2 (l.map cidrT)] (.v (.bool true)) := by
  have hm1 : (l.map cidrT).length = l.length := List.length_map _
  have h0 := len_ne (l := l.map cidrT)
  refine pcalls_of Tryz.func115 rfl rfl Tryz.ntmps115 rfl ?_
  repeat' (first
    | refine then_go ?_
    | refine swp_seq ?_
    | ((refine swp_region (id := 0) ?_) <;> (refine sops_pure (.free rfl rfl) rfl rfl (po_assign rfl rfl) ?_) <;> (refine sops_nil ?_))
    | ((refine swp_region (id := 1) ?_) <;> (refine sops_pure (.free rfl rfl) rfl rfl (po_move rfl rfl) ?_) <;> (refine sops_pure (.free rfl rfl) rfl rfl (po_len rfl rfl (by first | exact .t _ | exact .own rfl (by first | rfl | assumption | (simp; done) | (simp; omega)) | exact .nil _ | exact .emp _ | exact .fn _) (tyS rfl)) ?_) <;> (refine sops_pure (.free rfl rfl) rfl rfl (po_move rfl rfl) ?_) <;> (refine sops_pure (.free rfl rfl) rfl rfl (po_len rfl rfl (by first | exact .t _ | exact .own rfl (by first | rfl | assumption | (simp; done) | (simp; omega)) | exact .nil _ | exact .emp _ | exact .fn _) (tyS rfl)) ?_) <;> (refine sops_pure (.free rfl rfl) rfl rfl (po_cmp rfl rfl rfl rfl) ?_) <;> (refine sops_nil ?_))
    | ((refine swp_region (id := 3) ?_) <;> (refine sops_pure (.free rfl rfl) rfl rfl (po_move rfl rfl) ?_) <;> (refine sops_pure (.free rfl rfl) rfl rfl (po_len rfl rfl (by first | exact .t _ | exact .own rfl (by first | rfl | assumption | (simp; done) | (simp; omega)) | exact .nil _ | exact .emp _ | exact .fn _) (tyS rfl)) ?_) <;> (refine sops_pure (.free rfl rfl) rfl rfl (po_move rfl rfl) ?_) <;> (refine sops_nil ?_))
    | refine swp_ret ?_
    | refine swp_skip ?_
    | refine swp_block ?_
    | refine swp_exit ?_
    | refine block_go ?_
    | refine block_exit ?_
    | refine block_far rfl ?_
    | refine block_ret ?_
    | refine then_ret ?_
    | refine then_exit ?_
    | refine for_ret ?_
    | refine for_exit ?_
    | refine ct ?_
    | refine cf ?_
    | refine swp_cond rfl (fun hc => ?_) (fun hc => ?_)
    | refine retq (by first | exact .inr rfl | exact .inl rfl) rfl (.tmp rfl (by first | exact .t _ | exact .own rfl (by first | rfl | assumption | (simp; done) | (simp; omega)) | exact .nil _ | exact .emp _ | exact .fn _) .nil) ?_)
  refine swp_for (ECidr l) (fun k => True) l.length ?_ trivial ?_
  · exact (weak_sub (.cons rfl (by first | rfl | (exact congrArg (fun n : Nat => A.t (.v (.int .i64 (n : Int)))) hm1)) rfl (.cons rfl (by first | rfl | (exact congrArg (fun n : Nat => A.t (.v (.int .i64 (n : Int)))) hm1)) rfl (.cons rfl (by first | rfl | (exact congrArg (fun n : Nat => A.t (.v (.int .i64 (n : Int)))) hm1)) rfl (.cons rfl (by first | rfl | (exact congrArg (fun n : Nat => A.t (.v (.int .i64 (n : Int)))) hm1)) rfl .nil)))) .nil .nil)
  intro k hk _
  unfold ECidr
  by_cases hlt : k < l.length
  · repeat' (first
    | refine then_go ?_
    | refine swp_seq ?_
    | refine for_next hlt (weak_sub (.cons rfl rfl rfl (.cons rfl rfl rfl (.cons rfl rfl rfl (.cons rfl rfl rfl .nil)))) .nil .nil) trivial
    | ((refine swp_region (id := 4) ?_) <;> (first | refine sops_pure (.free rfl rfl) rfl rfl (po_ex2 rfl rfl rfl (ex_two' _ _) (ex_two' _ _) (qCidr_run l[k])) ?_ | refine sops_pure (.free rfl rfl) rfl rfl (po_cmp rfl rfl rfl rfl) ?_) <;> (refine sops_nil ?_))
    | ((refine swp_region (id := 5) ?_) <;> (refine sops_pure (.free rfl rfl) rfl rfl (po_move rfl rfl) ?_) <;> (refine sops_pure (.free rfl rfl) rfl rfl (po_assign rfl rfl) ?_) <;> (refine sops_nil ?_))
    | ((refine swp_draw_all (id := 6) mixed (by kernel_rfl) (by kernel_rfl) ?_) <;> (refine sdraw_pure (.free rfl rfl) rfl (po_move rfl rfl) ?_) <;> (refine sdraw_pure (.free rfl rfl) rfl (po_move rfl rfl) ?_) <;> (refine sdraw_pure (.free rfl rfl) rfl (po_index rfl rfl (by first | exact .t _ | exact .own rfl (by first | rfl | assumption | (simp; done) | (simp; omega)) | exact .nil _ | exact .emp _ | exact .fn _) rfl (tyS rfl) (by first | rfl | omega) (by first | rfl | assumption | exact map_at (by first | assumption | omega))) ?_) <;> (first | refine sdraw_pure (.free rfl rfl) rfl (po_load_bx_agg rfl rfl (tyT rfl) rfl (vc (vc .nil)) rfl) ?_ | refine sdraw_pure (.free rfl rfl) rfl (po_load_agg rfl rfl (tyT rfl) rfl rfl) ?_) <;> (refine sdraw_pure (.free rfl rfl) rfl (po_move rfl rfl) ?_) <;> (refine sdraw_pure (.free rfl rfl) rfl (po_move rfl rfl) ?_) <;> (refine sdraw_pure (.free rfl rfl) rfl (po_index rfl rfl (by first | exact .t _ | exact .own rfl (by first | rfl | assumption | (simp; done) | (simp; omega)) | exact .nil _ | exact .emp _ | exact .fn _) rfl (tyS rfl) (by first | rfl | omega) (by first | rfl | assumption | exact map_at (by first | assumption | omega))) ?_) <;> (first | refine sdraw_pure (.free rfl rfl) rfl (po_load_bx_agg rfl rfl (tyT rfl) rfl (vc (vc .nil)) rfl) ?_ | refine sdraw_pure (.free rfl rfl) rfl (po_load_agg rfl rfl (tyT rfl) rfl rfl) ?_) <;> (first | refine sdraw_pure (.free rfl rfl) rfl (po_ex2 rfl rfl rfl (ex_two' _ _) (ex_two' _ _) (qCidr_run l[k])) ?_ | refine sdraw_pure (.free rfl rfl) rfl (po_boolq rfl rfl rfl (by kernel_rfl) (by first | exact .inl rfl | exact .inr rfl)) ?_) <;> (refine sdraw_nil ?_) <;> (refine sops_nil ?_))
    | ((refine swp_region (id := 8) ?_) <;> (first | refine sops_pure (.free rfl rfl) rfl rfl (po_inc rfl rfl rfl (by omega)) ?_ | refine sops_pure (.free rfl rfl) rfl rfl (po_arith rfl rfl rfl (ar_add (by first | rfl | (refine wrap_i64 ?_; omega)) rfl)) ?_) <;> (refine sops_pure (.free rfl rfl) rfl rfl (po_move rfl rfl) ?_) <;> (refine sops_nil ?_))
    | refine swp_ret ?_
    | refine swp_skip ?_
    | refine swp_block ?_
    | refine swp_exit ?_
    | refine block_go ?_
    | refine block_exit ?_
    | refine block_far rfl ?_
    | refine block_ret ?_
    | refine then_ret ?_
    | refine then_exit ?_
    | refine for_ret ?_
    | refine for_exit ?_
    | refine ct ?_
    | refine cf ?_
    | refine swp_cond rfl (fun hc => ?_) (fun hc => ?_)
    | refine retq (by first | exact .inr rfl | exact .inl rfl) rfl (.tmp rfl (by first | exact .t _ | exact .own rfl (by first | rfl | assumption | (simp; done) | (simp; omega)) | exact .nil _ | exact .emp _ | exact .fn _) .nil) ?_)
  · repeat' (first
    | refine then_go ?_
    | refine swp_seq ?_
    | ((refine swp_region (id := 4) ?_) <;> (refine sops_pure (.free rfl rfl) rfl rfl (po_cmp rfl rfl rfl rfl) ?_) <;> (refine sops_nil ?_))
    | ((refine swp_region (id := 9) ?_) <;> (refine sops_pure (.free rfl rfl) rfl rfl (po_assign rfl rfl) ?_) <;> (refine sops_nil ?_))
    | refine swp_ret ?_
    | refine swp_skip ?_
    | refine swp_block ?_
    | refine swp_exit ?_
    | refine block_go ?_
    | refine block_exit ?_
    | refine block_far rfl ?_
    | refine block_ret ?_
    | refine then_ret ?_
    | refine then_exit ?_
    | refine for_ret ?_
    | refine for_exit ?_
    | refine ct ?_
    | refine cf ?_
    | refine swp_cond rfl (fun hc => ?_) (fun hc => ?_)
    | refine retq (by first | exact .inr rfl | exact .inl rfl) rfl (.tmp rfl (by first | exact .t _ | exact .own rfl (by first | rfl | assumption | (simp; done) | (simp; omega)) | exact .nil _ | exact .emp _ | exact .fn _) .nil) ?_)
    rfl
def EInt (l : List Int) (k : Nat) : St := ⟨[(0, .t (.sl 1 (l.map intT))), (1, .t (.sl 1 (l.map intT))), (12, .t (.v (.int .i64 (l.length : Int)))), (13, .t (.v (.int .i64 (k : Int))))], [], []⟩
set_option maxRecDepth 100000 in
theorem equalInt (l : List Int) (hn : l.length ≤ 1000) : PCalls Tryz.prog 116 [.sl 1 (l.map intT), .sl 1 (l.map intT)] (.v (.bool true)) := by
  have hm1 : (l.map intT).length = l.length := List.length_map _
  have h0 := len_ne (l := l.map intT)
  refine pcalls_of Tryz.func116 rfl rfl Tryz.ntmps116 rfl ?_
  repeat' (first
    | refine then_go ?_
    | refine swp_seq ?_
    | ((refine swp_region (id := 0) ?_) <;> (refine sops_pure (.free rfl rfl) rfl rfl (po_assign rfl rfl) ?_) <;> (refine sops_nil ?_))
    | ((refine swp_region (id := 1) ?_) <;> (refine sops_pure (.free rfl rfl) rfl rfl (po_move rfl rfl) ?_) <;> (refine sops_pure (.free rfl rfl) rfl rfl (po_len rfl rfl (by first | exact .t _ | exact .own rfl (by first | rfl | assumption | (simp; done) | (simp; omega)) | exact .nil _ | exact .emp _ | exact .fn _) (tyS rfl)) ?_) <;> (refine sops_pure (.free rfl rfl) rfl rfl (po_move rfl rfl) ?_) <;> (refine sops_pure (.free rfl rfl) rfl rfl (po_len rfl rfl (by first | exact .t _ | exact .own rfl (by first | rfl | assumption | (simp; done) | (simp; omega)) | exact .nil _ | exact .emp _ | exact .fn _) (tyS rfl)) ?_) <;> (refine sops_pure (.free rfl rfl) rfl rfl (po_cmp rfl rfl rfl rfl) ?_) <;> (refine sops_nil ?_))
    | ((refine swp_region (id := 3) ?_) <;> (refine sops_pure (.free rfl rfl) rfl rfl (po_move rfl rfl) ?_) <;> (refine sops_pure (.free rfl rfl) rfl rfl (po_len rfl rfl (by first | exact .t _ | exact .own rfl (by first | rfl | assumption | (simp; done) | (simp; omega)) | exact .nil _ | exact .emp _ | exact .fn _) (tyS rfl)) ?_) <;> (refine sops_pure (.free rfl rfl) rfl rfl (po_move rfl rfl) ?_) <;> (refine sops_nil ?_))
    | refine swp_ret ?_
    | refine swp_skip ?_
    | refine swp_block ?_
    | refine swp_exit ?_
    | refine block_go ?_
    | refine block_exit ?_
    | refine block_far rfl ?_
    | refine block_ret ?_
    | refine then_ret ?_
    | refine then_exit ?_
    | refine for_ret ?_
    | refine for_exit ?_
    | refine ct ?_
    | refine cf ?_
    | refine swp_cond rfl (fun hc => ?_) (fun hc => ?_)
    | refine retq (by first | exact .inr rfl | exact .inl rfl) rfl (.tmp rfl (by first | exact .t _ | exact .own rfl (by first | rfl | assumption | (simp; done) | (simp; omega)) | exact .nil _ | exact .emp _ | exact .fn _) .nil) ?_)
  refine swp_for (EInt l) (fun k => True) l.length ?_ trivial ?_
  · exact (weak_sub (.cons rfl (by first | rfl | (exact congrArg (fun n : Nat => A.t (.v (.int .i64 (n : Int)))) hm1)) rfl (.cons rfl (by first | rfl | (exact congrArg (fun n : Nat => A.t (.v (.int .i64 (n : Int)))) hm1)) rfl (.cons rfl (by first | rfl | (exact congrArg (fun n : Nat => A.t (.v (.int .i64 (n : Int)))) hm1)) rfl (.cons rfl (by first | rfl | (exact congrArg (fun n : Nat => A.t (.v (.int .i64 (n : Int)))) hm1)) rfl .nil)))) .nil .nil)
  intro k hk _
  unfold EInt
  by_cases hlt : k < l.length
  · have hne : (!decide (l[k] = l[k])) = false := by simp
    repeat' (first
      | refine then_go ?_
      | refine swp_seq ?_
      | refine for_next hlt (weak_sub (.cons rfl rfl rfl (.cons rfl rfl rfl (.cons rfl rfl rfl (.cons rfl rfl rfl .nil)))) .nil .nil) trivial
      | ((refine swp_region (id := 4) ?_) <;> (refine sops_pure (.free rfl rfl) rfl rfl (po_cmp rfl rfl rfl rfl) ?_) <;> (refine sops_nil ?_))
      | ((refine swp_region (id := 5) ?_) <;> (refine sops_pure (.free rfl rfl) rfl rfl (po_move rfl rfl) ?_) <;> (refine sops_pure (.free rfl rfl) rfl rfl (po_assign rfl rfl) ?_) <;> (refine sops_nil ?_))
      | ((refine swp_draw_all (id := 6) mixed (by kernel_rfl) (by kernel_rfl) ?_) <;> (refine sdraw_pure (.free rfl rfl) rfl (po_move rfl rfl) ?_) <;> (refine sdraw_pure (.free rfl rfl) rfl (po_move rfl rfl) ?_) <;> (refine sdraw_pure (.free rfl rfl) rfl (po_index rfl rfl (by first | exact .t _ | exact .own rfl (by first | rfl | assumption | (simp; done) | (simp; omega)) | exact .nil _ | exact .emp _ | exact .fn _) rfl (tyS rfl) (by first | rfl | omega) (by first | rfl | assumption | exact map_at (by first | assumption | omega))) ?_) <;> (first | refine sdraw_pure (.free rfl rfl) rfl (po_load_bx rfl rfl (tyT rfl) rfl rfl) ?_ | refine sdraw_pure (.free rfl rfl) rfl (po_load rfl rfl (tyT rfl) rfl) ?_) <;> (refine sdraw_pure (.free rfl rfl) rfl (po_move rfl rfl) ?_) <;> (refine sdraw_pure (.free rfl rfl) rfl (po_move rfl rfl) ?_) <;> (refine sdraw_pure (.free rfl rfl) rfl (po_index rfl rfl (by first | exact .t _ | exact .own rfl (by first | rfl | assumption | (simp; done) | (simp; omega)) | exact .nil _ | exact .emp _ | exact .fn _) rfl (tyS rfl) (by first | rfl | omega) (by first | rfl | assumption | exact map_at (by first | assumption | omega))) ?_) <;> (first | refine sdraw_pure (.free rfl rfl) rfl (po_load_bx rfl rfl (tyT rfl) rfl rfl) ?_ | refine sdraw_pure (.free rfl rfl) rfl (po_load rfl rfl (tyT rfl) rfl) ?_) <;> (refine sdraw_pure (.free rfl rfl) rfl (po_cmp rfl rfl rfl rfl) ?_) <;> (refine sdraw_nil ?_) <;> (refine sops_nil ?_))
      | ((refine swp_region (id := 8) ?_) <;> (first | refine sops_pure (.free rfl rfl) rfl rfl (po_inc rfl rfl rfl (by omega)) ?_ | refine sops_pure (.free rfl rfl) rfl rfl (po_arith rfl rfl rfl (ar_add (by first | rfl | (refine wrap_i64 ?_; omega)) rfl)) ?_) <;> (refine sops_pure (.free rfl rfl) rfl rfl (po_move rfl rfl) ?_) <;> (refine sops_nil ?_))
      | refine swp_ret ?_
      | refine swp_skip ?_
      | refine swp_block ?_
      | refine swp_exit ?_
      | refine block_go ?_
      | refine block_exit ?_
      | refine block_far rfl ?_
      | refine block_ret ?_
      | refine then_ret ?_
      | refine then_exit ?_
      | refine for_ret ?_
      | refine for_exit ?_
      | refine ct ?_
      | refine cf ?_
      | refine swp_cond rfl (fun hc => ?_) (fun hc => ?_)
      | refine retq (by first | exact .inr rfl | exact .inl rfl) rfl (.tmp rfl (by first | exact .t _ | exact .own rfl (by first | rfl | assumption | (simp; done) | (simp; omega)) | exact .nil _ | exact .emp _ | exact .fn _) .nil) ?_)
  · repeat' (first
    | refine then_go ?_
    | refine swp_seq ?_
    | ((refine swp_region (id := 4) ?_) <;> (refine sops_pure (.free rfl rfl) rfl rfl (po_cmp rfl rfl rfl rfl) ?_) <;> (refine sops_nil ?_))
    | ((refine swp_region (id := 9) ?_) <;> (refine sops_pure (.free rfl rfl) rfl rfl (po_assign rfl rfl) ?_) <;> (refine sops_nil ?_))
    | refine swp_ret ?_
    | refine swp_skip ?_
    | refine swp_block ?_
    | refine swp_exit ?_
    | refine block_go ?_
    | refine block_exit ?_
    | refine block_far rfl ?_
    | refine block_ret ?_
    | refine then_ret ?_
    | refine then_exit ?_
    | refine for_ret ?_
    | refine for_exit ?_
    | refine ct ?_
    | refine cf ?_
    | refine swp_cond rfl (fun hc => ?_) (fun hc => ?_)
    | refine retq (by first | exact .inr rfl | exact .inl rfl) rfl (.tmp rfl (by first | exact .t _ | exact .own rfl (by first | rfl | assumption | (simp; done) | (simp; omega)) | exact .nil _ | exact .emp _ | exact .fn _) .nil) ?_)
    rfl
def EFSource (f : FuncId) (l : List Pl.Source) (k : Nat) : St := ⟨[(1, .t (.sl 3 (l.map sourceT))), (2, .t (.clo f [])), (15, .t (.sl 3 (l.map sourceT))), (16, .t (.v (.int .i64 (l.length : Int)))), (17, .t (.v (.int .i64 (k : Int))))], [], []⟩
set_option maxRecDepth 100000 in
set_option maxHeartbeats 1000000 in
theorem equalFSource (f : FuncId) (l : List Pl.Source) (hK : ∀ x ∈ l, PCalls Tryz.prog f ([.agg (sourceT x), .agg (sourceT x)] ++ []) (.v (.bool true))) (hn : l.length ≤ 1000) : PCalls Tryz.prog 83 [.sl 3 (l.map sourceT), .sl 3 (l.map sourceT), .clo f []] (.v (.bool true)) := by
  have hm1 : (l.map sourceT).length = l.length := List.length_map _
  have h0 := len_ne (l := l.map sourceT)
  refine pcalls_of Tryz.func83 rfl rfl Tryz.ntmps83 rfl ?_
  repeat' (first
    | refine then_go ?_
    | refine swp_seq ?_
    | ((refine swp_region (id := 0) ?_) <;> (refine sops_pure (.free rfl rfl) rfl rfl (po_assign rfl rfl) ?_) <;> (refine sops_nil ?_))
    | ((refine swp_region (id := 1) ?_) <;> (refine sops_pure (.free rfl rfl) rfl rfl (po_move rfl rfl) ?_) <;> (refine sops_pure (.free rfl rfl) rfl rfl (po_len rfl rfl (by first | exact .t _ | exact .own rfl (by first | rfl | assumption | (simp; done) | (simp; omega)) | exact .nil _ | exact .emp _ | exact .fn _) (tyS rfl)) ?_) <;> (refine sops_pure (.free rfl rfl) rfl rfl (po_move rfl rfl) ?_) <;> (refine sops_pure (.free rfl rfl) rfl rfl (po_len rfl rfl (by first | exact .t _ | exact .own rfl (by first | rfl | assumption | (simp; done) | (simp; omega)) | exact .nil _ | exact .emp _ | exact .fn _) (tyS rfl)) ?_) <;> (refine sops_pure (.free rfl rfl) rfl rfl (po_cmp rfl rfl rfl rfl) ?_) <;> (refine sops_nil ?_))
    | ((refine swp_region (id := 3) ?_) <;> (refine sops_pure (.free rfl rfl) rfl rfl (po_move rfl rfl) ?_) <;> (refine sops_pure (.free rfl rfl) rfl rfl (po_len rfl rfl (by first | exact .t _ | exact .own rfl (by first | rfl | assumption | (simp; done) | (simp; omega)) | exact .nil _ | exact .emp _ | exact .fn _) (tyS rfl)) ?_) <;> (refine sops_pure (.free rfl rfl) rfl rfl (po_move rfl rfl) ?_) <;> (refine sops_nil ?_))
    | refine swp_ret ?_
    | refine swp_skip ?_
    | refine swp_block ?_
    | refine swp_exit ?_
    | refine block_go ?_
    | refine block_exit ?_
    | refine block_far rfl ?_
    | refine block_ret ?_
    | refine then_ret ?_
    | refine then_exit ?_
    | refine for_ret ?_
    | refine for_exit ?_
    | refine ct ?_
    | refine cf ?_
    | refine swp_cond rfl (fun hc => ?_) (fun hc => ?_)
    | refine retq (by first | exact .inr rfl | exact .inl rfl) rfl (.tmp rfl (by first | exact .t _ | exact .own rfl (by first | rfl | assumption | (simp; done) | (simp; omega)) | exact .nil _ | exact .emp _ | exact .fn _) .nil) ?_)
  refine swp_for (EFSource f l) (fun k => True) l.length ?_ trivial ?_
  · exact (weak_sub (.cons rfl (by first | rfl | (exact congrArg (fun n : Nat => A.t (.v (.int .i64 (n : Int)))) hm1)) rfl (.cons rfl (by first | rfl | (exact congrArg (fun n : Nat => A.t (.v (.int .i64 (n : Int)))) hm1)) rfl (.cons rfl (by first | rfl | (exact congrArg (fun n : Nat => A.t (.v (.int .i64 (n : Int)))) hm1)) rfl (.cons rfl (by first | rfl | (exact congrArg (fun n : Nat => A.t (.v (.int .i64 (n : Int)))) hm1)) rfl (.cons rfl (by first | rfl | (exact congrArg (fun n : Nat => A.t (.v (.int .i64 (n : Int)))) hm1)) rfl .nil))))) .nil .nil)
  intro k hk _
  unfold EFSource
  by_cases hlt : k < l.length
  · have c1 := hK _ (List.getElem_mem hlt)
    repeat' (first
      | refine then_go ?_
      | refine swp_seq ?_
      | refine for_next hlt (weak_sub (.cons rfl rfl rfl (.cons rfl rfl rfl (.cons rfl rfl rfl (.cons rfl rfl rfl (.cons rfl rfl rfl .nil))))) .nil .nil) trivial
      | ((refine swp_region (id := 4) ?_) <;> (refine sops_pure (.free rfl rfl) rfl rfl (po_cmp rfl rfl rfl rfl) ?_) <;> (refine sops_nil ?_))
      | ((refine swp_region (id := 5) ?_) <;> (refine sops_pure (.free rfl rfl) rfl rfl (po_move rfl rfl) ?_) <;> (refine sops_pure (.free rfl rfl) rfl rfl (po_index rfl rfl (by first | exact .t _ | exact .own rfl (by first | rfl | assumption | (simp; done) | (simp; omega)) | exact .nil _ | exact .emp _ | exact .fn _) rfl (tyS rfl) (by first | rfl | omega) (by first | rfl | assumption | exact map_at (by first | assumption | omega))) ?_) <;> (first | refine sops_pure (.free rfl rfl) rfl rfl (po_load_bx_agg rfl rfl (tyT rfl) rfl (vc (vc (vc .nil))) rfl) ?_ | refine sops_pure (.free rfl rfl) rfl rfl (po_load_agg rfl rfl (tyT rfl) rfl rfl) ?_) <;> (refine sops_allocS str78 (.free rfl rfl) rfl rfl rfl rfl ?_) <;> (refine sops_pure (.free rfl rfl) rfl rfl (po_assign rfl rfl) ?_) <;> (refine sops_store (.free rfl rfl) rfl rfl rfl rfl rfl rfl (tyT rfl) rfl rfl ?_) <;> (refine sops_nil ?_))
      | ((refine swp_region (id := 6) ?_) <;> (refine sops_pure (.free rfl rfl) rfl rfl (po_move rfl rfl) ?_) <;> (refine sops_pure (.free rfl rfl) rfl rfl (po_move rfl rfl) ?_) <;> (refine sops_pure (.free rfl rfl) rfl rfl (po_index rfl rfl (by first | exact .t _ | exact .own rfl (by first | rfl | assumption | (simp; done) | (simp; omega)) | exact .nil _ | exact .emp _ | exact .fn _) rfl (tyS rfl) (by first | rfl | omega) (by first | rfl | assumption | exact map_at (by first | assumption | omega))) ?_) <;> (first | refine sops_pure (.free rfl rfl) rfl rfl (po_load_bx_agg rfl rfl (tyT rfl) rfl (vc (vc (vc .nil))) rfl) ?_ | refine sops_pure (.free rfl rfl) rfl rfl (po_load_agg rfl rfl (tyT rfl) rfl rfl) ?_) <;> (refine sops_allocS str78 (.free rfl rfl) rfl rfl rfl rfl ?_) <;> (refine sops_store (.free rfl rfl) rfl rfl rfl rfl rfl rfl (tyT rfl) rfl rfl ?_) <;> (refine sops_nil ?_))
      | ((refine swp_region (id := 7) ?_) <;> (refine sops_pure (.free rfl rfl) rfl rfl (po_move rfl rfl) ?_) <;> (first | refine sops_pure (.free rfl rfl) rfl rfl (po_load_bx_agg rfl rfl (tyT rfl) rfl (vc (vc (vc .nil))) rfl) ?_ | refine sops_pure (.free rfl rfl) rfl rfl (po_load_agg rfl rfl (tyT rfl) rfl rfl) ?_) <;> (first | refine sops_pure (.free rfl rfl) rfl rfl (po_load_bx_agg rfl rfl (tyT rfl) rfl (vc (vc (vc .nil))) rfl) ?_ | refine sops_pure (.free rfl rfl) rfl rfl (po_load_agg rfl rfl (tyT rfl) rfl rfl) ?_) <;> (refine sops_pure (.free rfl rfl) rfl rfl (po_call_clo rfl rfl (ac (ac .nil)) (c1)) ?_) <;> (refine sops_pure (.free rfl rfl) rfl rfl (po_not rfl rfl) ?_) <;> (refine sops_nil ?_))
      | ((refine swp_region (id := 9) ?_) <;> (first | refine sops_pure (.free rfl rfl) rfl rfl (po_inc rfl rfl rfl (by omega)) ?_ | refine sops_pure (.free rfl rfl) rfl rfl (po_arith rfl rfl rfl (ar_add (by first | rfl | (refine wrap_i64 ?_; omega)) rfl)) ?_) <;> (refine sops_pure (.free rfl rfl) rfl rfl (po_move rfl rfl) ?_) <;> (refine sops_nil ?_))
      | refine swp_ret ?_
      | refine swp_skip ?_
      | refine swp_block ?_
      | refine swp_exit ?_
      | refine block_go ?_
      | refine block_exit ?_
      | refine block_far rfl ?_
      | refine block_ret ?_
      | refine then_ret ?_
      | refine then_exit ?_
      | refine for_ret ?_
      | refine for_exit ?_
      | refine ct ?_
      | refine cf ?_
      | refine swp_cond rfl (fun hc => ?_) (fun hc => ?_)
      | refine retq (by first | exact .inr rfl | exact .inl rfl) rfl (.tmp rfl (by first | exact .t _ | exact .own rfl (by first | rfl | assumption | (simp; done) | (simp; omega)) | exact .nil _ | exact .emp _ | exact .fn _) .nil) ?_)
  · repeat' (first
    | refine then_go ?_
    | refine swp_seq ?_
    | ((refine swp_region (id := 4) ?_) <;> (refine sops_pure (.free rfl rfl) rfl rfl (po_cmp rfl rfl rfl rfl) ?_) <;> (refine sops_nil ?_))
    | ((refine swp_region (id := 10) ?_) <;> (refine sops_pure (.free rfl rfl) rfl rfl (po_assign rfl rfl) ?_) <;> (refine sops_nil ?_))
    | refine swp_ret ?_
    | refine swp_skip ?_
    | refine swp_block ?_
    | refine swp_exit ?_
    | refine block_go ?_
    | refine block_exit ?_
    | refine block_far rfl ?_
    | refine block_ret ?_
    | refine then_ret ?_
    | refine then_exit ?_
    | refine for_ret ?_
    | refine for_exit ?_
    | refine ct ?_
    | refine cf ?_
    | refine swp_cond rfl (fun hc => ?_) (fun hc => ?_)
    | refine retq (by first | exact .inr rfl | exact .inl rfl) rfl (.tmp rfl (by first | exact .t _ | exact .own rfl (by first | rfl | assumption | (simp; done) | (simp; omega)) | exact .nil _ | exact .emp _ | exact .fn _) .nil) ?_)
    rfl
def EFTarget (f : FuncId) (l : List Pl.Target) (k : Nat) : St := ⟨[(1, .t (.sl 4 (l.map targetT))), (2, .t (.clo f [])), (15, .t (.sl 4 (l.map targetT))), (16, .t (.v (.int .i64 (l.length : Int)))), (17, .t (.v (.int .i64 (k : Int))))], [], []⟩
set_option maxRecDepth 100000 in
set_option maxHeartbeats 1000000 in
theorem equalFTarget (f : FuncId) (l : List Pl.Target) (hK : ∀ x ∈ l, PCalls Tryz.prog f ([.agg (targetT x), .agg (targetT x)] ++ []) (.v (.bool true))) (hn : l.length ≤ 1000) : PCalls Tryz.prog 85 [.sl 4 (l.map targetT), .sl 4 (l.map targetT), .clo f []] (.v (.bool true)) := by
  have hm1 : (l.map targetT).length = l.length := List.length_map _
  have h0 := len_ne (l := l.map targetT)
  refine pcalls_of Tryz.func85 rfl rfl Tryz.ntmps85 rfl ?_
  repeat' (first
    | refine then_go ?_
    | refine swp_seq ?_
    | ((refine swp_region (id := 0) ?_) <;> (refine sops_pure (.free rfl rfl) rfl rfl (po_assign rfl rfl) ?_) <;> (refine sops_nil ?_))
    | ((refine swp_region (id := 1) ?_) <;> (refine sops_pure (.free rfl rfl) rfl rfl (po_move rfl rfl) ?_) <;> (refine sops_pure (.free rfl rfl) rfl rfl (po_len rfl rfl (by first | exact .t _ | exact .own rfl (by first | rfl | assumption | (simp; done) | (simp; omega)) | exact .nil _ | exact .emp _ | exact .fn _) (tyS rfl)) ?_) <;> (refine sops_pure (.free rfl rfl) rfl rfl (po_move rfl rfl) ?_) <;> (refine sops_pure (.free rfl rfl) rfl rfl (po_len rfl rfl (by first | exact .t _ | exact .own rfl (by first | rfl | assumption | (simp; done) | (simp; omega)) | exact .nil _ | exact .emp _ | exact .fn _) (tyS rfl)) ?_) <;> (refine sops_pure (.free rfl rfl) rfl rfl (po_cmp rfl rfl rfl rfl) ?_) <;> (refine sops_nil ?_))
    | ((refine swp_region (id := 3) ?_) <;> (refine sops_pure (.free rfl rfl) rfl rfl (po_move rfl rfl) ?_) <;> (refine sops_pure (.free rfl rfl) rfl rfl (po_len rfl rfl (by first | exact .t _ | exact .own rfl (by first | rfl | assumption | (simp; done) | (simp; omega)) | exact .nil _ | exact .emp _ | exact .fn _) (tyS rfl)) ?_) <;> (refine sops_pure (.free rfl rfl) rfl rfl (po_move rfl rfl) ?_) <;> (refine sops_nil ?_))
    | refine swp_ret ?_
    | refine swp_skip ?_
    | refine swp_block ?_
    | refine swp_exit ?_
    | refine block_go ?_
    | refine block_exit ?_
    | refine block_far rfl ?_
    | refine block_ret ?_
    | refine then_ret ?_
    | refine then_exit ?_
    | refine for_ret ?_
    | refine for_exit ?_
    | refine ct ?_
    | refine cf ?_
    | refine swp_cond rfl (fun hc => ?_) (fun hc => ?_)
    | refine retq (by first | exact .inr rfl | exact .inl rfl) rfl (.tmp rfl (by first | exact .t _ | exact .own rfl (by first | rfl | assumption | (simp; done) | (simp; omega)) | exact .nil _ | exact .emp _ | exact .fn _) .nil) ?_)
  refine swp_for (EFTarget f l) (fun k => True) l.length ?_ trivial ?_
  · exact (weak_sub (.cons rfl (by first | rfl | (exact congrArg (fun n : Nat => A.t (.v (.int .i64 (n : Int)))) hm1)) rfl (.cons rfl (by first | rfl | (exact congrArg (fun n : Nat => A.t (.v (.int .i64 (n : Int)))) hm1)) rfl (.cons rfl (by first | rfl | (exact congrArg (fun n : Nat => A.t (.v (.int .i64 (n : Int)))) hm1)) rfl (.cons rfl (by first | rfl | (exact congrArg (fun n : Nat => A.t (.v (.int .i64 (n : Int)))) hm1)) rfl (.cons rfl (by first | rfl | (exact congrArg (fun n : Nat => A.t (.v (.int .i64 (n : Int)))) hm1)) rfl .nil))))) .nil .nil)
  intro k hk _
  unfold EFTarget
  by_cases hlt : k < l.length
  · have c1 := hK _ (List.getElem_mem hlt)
    repeat' (first
      | refine then_go ?_
      | refine swp_seq ?_
      | refine for_next hlt (weak_sub (.cons rfl rfl rfl (.cons rfl rfl rfl (.cons rfl rfl rfl (.cons rfl rfl rfl (.cons rfl rfl rfl .nil))))) .nil .nil) trivial
      | ((refine swp_region (id := 4) ?_) <;> (refine sops_pure (.free rfl rfl) rfl rfl (po_cmp rfl rfl rfl rfl) ?_) <;> (refine sops_nil ?_))
      | ((refine swp_region (id := 5) ?_) <;> (refine sops_pure (.free rfl rfl) rfl rfl (po_move rfl rfl) ?_) <;> (refine sops_pure (.free rfl rfl) rfl rfl (po_index rfl rfl (by first | exact .t _ | exact .own rfl (by first | rfl | assumption | (simp; done) | (simp; omega)) | exact .nil _ | exact .emp _ | exact .fn _) rfl (tyS rfl) (by first | rfl | omega) (by first | rfl | assumption | exact map_at (by first | assumption | omega))) ?_) <;> (first | refine sops_pure (.free rfl rfl) rfl rfl (po_load_bx_agg rfl rfl (tyT rfl) rfl (vc (vc (vc (vc .nil)))) rfl) ?_ | refine sops_pure (.free rfl rfl) rfl rfl (po_load_agg rfl rfl (tyT rfl) rfl rfl) ?_) <;> (refine sops_allocS str80 (.free rfl rfl) rfl rfl rfl rfl ?_) <;> (refine sops_pure (.free rfl rfl) rfl rfl (po_assign rfl rfl) ?_) <;> (refine sops_store (.free rfl rfl) rfl rfl rfl rfl rfl rfl (tyT rfl) rfl rfl ?_) <;> (refine sops_nil ?_))
      | ((refine swp_region (id := 6) ?_) <;> (refine sops_pure (.free rfl rfl) rfl rfl (po_move rfl rfl) ?_) <;> (refine sops_pure (.free rfl rfl) rfl rfl (po_move rfl rfl) ?_) <;> (refine sops_pure (.free rfl rfl) rfl rfl (po_index rfl rfl (by first | exact .t _ | exact .own rfl (by first | rfl | assumption | (simp; done) | (simp; omega)) | exact .nil _ | exact .emp _ | exact .fn _) rfl (tyS rfl) (by first | rfl | omega) (by first | rfl | assumption | exact map_at (by first | assumption | omega))) ?_) <;> (first | refine sops_pure (.free rfl rfl) rfl rfl (po_load_bx_agg rfl rfl (tyT rfl) rfl (vc (vc (vc (vc .nil)))) rfl) ?_ | refine sops_pure (.free rfl rfl) rfl rfl (po_load_agg rfl rfl (tyT rfl) rfl rfl) ?_) <;> (refine sops_allocS str80 (.free rfl rfl) rfl rfl rfl rfl ?_) <;> (refine sops_store (.free rfl rfl) rfl rfl rfl rfl rfl rfl (tyT rfl) rfl rfl ?_) <;> (refine sops_nil ?_))
      | ((refine swp_region (id := 7) ?_) <;> (refine sops_pure (.free rfl rfl) rfl rfl (po_move rfl rfl) ?_) <;> (first | refine sops_pure (.free rfl rfl) rfl rfl (po_load_bx_agg rfl rfl (tyT rfl) rfl (vc (vc (vc (vc .nil)))) rfl) ?_ | refine sops_pure (.free rfl rfl) rfl rfl (po_load_agg rfl rfl (tyT rfl) rfl rfl) ?_) <;> (first | refine sops_pure (.free rfl rfl) rfl rfl (po_load_bx_agg rfl rfl (tyT rfl) rfl (vc (vc (vc (vc .nil)))) rfl) ?_ | refine sops_pure (.free rfl rfl) rfl rfl (po_load_agg rfl rfl (tyT rfl) rfl rfl) ?_) <;> (refine sops_pure (.free rfl rfl) rfl rfl (po_call_clo rfl rfl (ac (ac .nil)) (c1)) ?_) <;> (refine sops_pure (.free rfl rfl) rfl rfl (po_not rfl rfl) ?_) <;> (refine sops_nil ?_))
      | ((refine swp_region (id := 9) ?_) <;> (first | refine sops_pure (.free rfl rfl) rfl rfl (po_inc rfl rfl rfl (by omega)) ?_ | refine sops_pure (.free rfl rfl) rfl rfl (po_arith rfl rfl rfl (ar_add (by first | rfl | (refine wrap_i64 ?_; omega)) rfl)) ?_) <;> (refine sops_pure (.free rfl rfl) rfl rfl (po_move rfl rfl) ?_) <;> (refine sops_nil ?_))
      | refine swp_ret ?_
      | refine swp_skip ?_
      | refine swp_block ?_
      | refine swp_exit ?_
      | refine block_go ?_
      | refine block_exit ?_
      | refine block_far rfl ?_
      | refine block_ret ?_
      | refine then_ret ?_
      | refine then_exit ?_
      | refine for_ret ?_
      | refine for_exit ?_
      | refine ct ?_
      | refine cf ?_
      | refine swp_cond rfl (fun hc => ?_) (fun hc => ?_)
      | refine retq (by first | exact .inr rfl | exact .inl rfl) rfl (.tmp rfl (by first | exact .t _ | exact .own rfl (by first | rfl | assumption | (simp; done) | (simp; omega)) | exact .nil _ | exact .emp _ | exact .fn _) .nil) ?_)
  · repeat' (first
    | refine then_go ?_
    | refine swp_seq ?_
    | ((refine swp_region (id := 4) ?_) <;> (refine sops_pure (.free rfl rfl) rfl rfl (po_cmp rfl rfl rfl rfl) ?_) <;> (refine sops_nil ?_))
    | ((refine swp_region (id := 10) ?_) <;> (refine sops_pure (.free rfl rfl) rfl rfl (po_assign rfl rfl) ?_) <;> (refine sops_nil ?_))
    | refine swp_ret ?_
    | refine swp_skip ?_
    | refine swp_block ?_
    | refine swp_exit ?_
    | refine block_go ?_
    | refine block_exit ?_
    | refine block_far rfl ?_
    | refine block_ret ?_
    | refine then_ret ?_
    | refine then_exit ?_
    | refine for_ret ?_
    | refine for_exit ?_
    | refine ct ?_
    | refine cf ?_
    | refine swp_cond rfl (fun hc => ?_) (fun hc => ?_)
    | refine retq (by first | exact .inr rfl | exact .inl rfl) rfl (.tmp rfl (by first | exact .t _ | exact .own rfl (by first | rfl | assumption | (simp; done) | (simp; omega)) | exact .nil _ | exact .emp _ | exact .fn _) .nil) ?_)
    rfl
def EFWhen (f : FuncId) (l : List Pl.When) (k : Nat) : St := ⟨[(1, .t (.sl 2 (l.map whenT))), (2, .t (.clo f [])), (15, .t (.sl 2 (l.map whenT))), (16, .t (.v (.int .i64 (l.length : Int)))), (17, .t (.v (.int .i64 (k : Int))))], [], []⟩
set_option maxRecDepth 100000 in
set_option maxHeartbeats 1000000 in
theorem equalFWhen (f : FuncId) (l : List Pl.When) (hK : ∀ x ∈ l, PCalls Tryz.prog f ([.agg (whenT x), .agg (whenT x)] ++ []) (.v (.bool true))) (hn : l.length ≤ 1000) : PCalls Tryz.prog 87 [.sl 2 (l.map whenT), .sl 2 (l.map whenT), .clo f []] (.v (.bool true)) := by
  have hm1 : (l.map whenT).length = l.length := List.length_map _
  have h0 := len_ne (l := l.map whenT)
  refine pcalls_of Tryz.func87 rfl rfl Tryz.ntmps87 rfl ?_
  repeat' (first
    | refine then_go ?_
    | refine swp_seq ?_
    | ((refine swp_region (id := 0) ?_) <;> (refine sops_pure (.free rfl rfl) rfl rfl (po_assign rfl rfl) ?_) <;> (refine sops_nil ?_))
    | ((refine swp_region (id := 1) ?_) <;> (refine sops_pure (.free rfl rfl) rfl rfl (po_move rfl rfl) ?_) <;> (refine sops_pure (.free rfl rfl) rfl rfl (po_len rfl rfl (by first | exact .t _ | exact .own rfl (by first | rfl | assumption | (simp; done) | (simp; omega)) | exact .nil _ | exact .emp _ | exact .fn _) (tyS rfl)) ?_) <;> (refine sops_pure (.free rfl rfl) rfl rfl (po_move rfl rfl) ?_) <;> (refine sops_pure (.free rfl rfl) rfl rfl (po_len rfl rfl (by first | exact .t _ | exact .own rfl (by first | rfl | assumption | (simp; done) | (simp; omega)) | exact .nil _ | exact .emp _ | exact .fn _) (tyS rfl)) ?_) <;> (refine sops_pure (.free rfl rfl) rfl rfl (po_cmp rfl rfl rfl rfl) ?_) <;> (refine sops_nil ?_))
    | ((refine swp_region (id := 3) ?_) <;> (refine sops_pure (.free rfl rfl) rfl rfl (po_move rfl rfl) ?_) <;> (refine sops_pure (.free rfl rfl) rfl rfl (po_len rfl rfl (by first | exact .t _ | exact .own rfl (by first | rfl | assumption | (simp; done) | (simp; omega)) | exact .nil _ | exact .emp _ | exact .fn _) (tyS rfl)) ?_) <;> (refine sops_pure (.free rfl rfl) rfl rfl (po_move rfl rfl) ?_) <;> (refine sops_nil ?_))
    | refine swp_ret ?_
    | refine swp_skip ?_
    | refine swp_block ?_
    | refine swp_exit ?_
    | refine block_go ?_
    | refine block_exit ?_
    | refine block_far rfl ?_
    | refine block_ret ?_
    | refine then_ret ?_
    | refine then_exit ?_
    | refine for_ret ?_
    | refine for_exit ?_
    | refine ct ?_
    | refine cf ?_
    | refine swp_cond rfl (fun hc => ?_) (fun hc => ?_)
    | refine retq (by first | exact .inr rfl | exact .inl rfl) rfl (.tmp rfl (by first | exact .t _ | exact .own rfl (by first | rfl | assumption | (simp; done) | (simp; omega)) | exact .nil _ | exact .emp _ | exact .fn _) .nil) ?_)
  refine swp_for (EFWhen f l) (fun k => True) l.length ?_ trivial ?_
  · exact (weak_sub (.cons rfl (by first | rfl | (exact congrArg (fun n : Nat => A.t (.v (.int .i64 (n : Int)))) hm1)) rfl (.cons rfl (by first | rfl | (exact congrArg (fun n : Nat => A.t (.v (.int .i64 (n : Int)))) hm1)) rfl (.cons rfl (by first | rfl | (exact congrArg (fun n : Nat => A.t (.v (.int .i64 (n : Int)))) hm1)) rfl (.cons rfl (by first | rfl | (exact congrArg (fun n : Nat => A.t (.v (.int .i64 (n : Int)))) hm1)) rfl (.cons rfl (by first | rfl | (exact congrArg (fun n : Nat => A.t (.v (.int .i64 (n : Int)))) hm1)) rfl .nil))))) .nil .nil)
  intro k hk _
  unfold EFWhen
  by_cases hlt : k < l.length
  · have c1 := hK _ (List.getElem_mem hlt)
    repeat' (first
      | refine then_go ?_
      | refine swp_seq ?_
      | refine for_next hlt (weak_sub (.cons rfl rfl rfl (.cons rfl rfl rfl (.cons rfl rfl rfl (.cons rfl rfl rfl (.cons rfl rfl rfl .nil))))) .nil .nil) trivial
      | ((refine swp_region (id := 4) ?_) <;> (refine sops_pure (.free rfl rfl) rfl rfl (po_cmp rfl rfl rfl rfl) ?_) <;> (refine sops_nil ?_))
      | ((refine swp_region (id := 5) ?_) <;> (refine sops_pure (.free rfl rfl) rfl rfl (po_move rfl rfl) ?_) <;> (refine sops_pure (.free rfl rfl) rfl rfl (po_index rfl rfl (by first | exact .t _ | exact .own rfl (by first | rfl | assumption | (simp; done) | (simp; omega)) | exact .nil _ | exact .emp _ | exact .fn _) rfl (tyS rfl) (by first | rfl | omega) (by first | rfl | assumption | exact map_at (by first | assumption | omega))) ?_) <;> (first | refine sops_pure (.free rfl rfl) rfl rfl (po_load_bx_agg rfl rfl (tyT rfl) rfl (vc (vc .nil)) rfl) ?_ | refine sops_pure (.free rfl rfl) rfl rfl (po_load_agg rfl rfl (tyT rfl) rfl rfl) ?_) <;> (refine sops_allocS str82 (.free rfl rfl) rfl rfl rfl rfl ?_) <;> (refine sops_pure (.free rfl rfl) rfl rfl (po_assign rfl rfl) ?_) <;> (refine sops_store (.free rfl rfl) rfl rfl rfl rfl rfl rfl (tyT rfl) rfl rfl ?_) <;> (refine sops_nil ?_))
      | ((refine swp_region (id := 6) ?_) <;> (refine sops_pure (.free rfl rfl) rfl rfl (po_move rfl rfl) ?_) <;> (refine sops_pure (.free rfl rfl) rfl rfl (po_move rfl rfl) ?_) <;> (refine sops_pure (.free rfl rfl) rfl rfl (po_index rfl rfl (by first | exact .t _ | exact .own rfl (by first | rfl | assumption | (simp; done) | (simp; omega)) | exact .nil _ | exact .emp _ | exact .fn _) rfl (tyS rfl) (by first | rfl | omega) (by first | rfl | assumption | exact map_at (by first | assumption | omega))) ?_) <;> (first | refine sops_pure (.free rfl rfl) rfl rfl (po_load_bx_agg rfl rfl (tyT rfl) rfl (vc (vc .nil)) rfl) ?_ | refine sops_pure (.free rfl rfl) rfl rfl (po_load_agg rfl rfl (tyT rfl) rfl rfl) ?_) <;> (refine sops_allocS str82 (.free rfl rfl) rfl rfl rfl rfl ?_) <;> (refine sops_store (.free rfl rfl) rfl rfl rfl rfl rfl rfl (tyT rfl) rfl rfl ?_) <;> (refine sops_nil ?_))
      | ((refine swp_region (id := 7) ?_) <;> (refine sops_pure (.free rfl rfl) rfl rfl (po_move rfl rfl) ?_) <;> (first | refine sops_pure (.free rfl rfl) rfl rfl (po_load_bx_agg rfl rfl (tyT rfl) rfl (vc (vc .nil)) rfl) ?_ | refine sops_pure (.free rfl rfl) rfl rfl (po_load_agg rfl rfl (tyT rfl) rfl rfl) ?_) <;> (first | refine sops_pure (.free rfl rfl) rfl rfl (po_load_bx_agg rfl rfl (tyT rfl) rfl (vc (vc .nil)) rfl) ?_ | refine sops_pure (.free rfl rfl) rfl rfl (po_load_agg rfl rfl (tyT rfl) rfl rfl) ?_) <;> (refine sops_pure (.free rfl rfl) rfl rfl (po_call_clo rfl rfl (ac (ac .nil)) (c1)) ?_) <;> (refine sops_pure (.free rfl rfl) rfl rfl (po_not rfl rfl) ?_) <;> (refine sops_nil ?_))
      | ((refine swp_region (id := 9) ?_) <;> (first | refine sops_pure (.free rfl rfl) rfl rfl (po_inc rfl rfl rfl (by omega)) ?_ | refine sops_pure (.free rfl rfl) rfl rfl (po_arith rfl rfl rfl (ar_add (by first | rfl | (refine wrap_i64 ?_; omega)) rfl)) ?_) <;> (refine sops_pure (.free rfl rfl) rfl rfl (po_move rfl rfl) ?_) <;> (refine sops_nil ?_))
      | refine swp_ret ?_
      | refine swp_skip ?_
      | refine swp_block ?_
      | refine swp_exit ?_
      | refine block_go ?_
      | refine block_exit ?_
      | refine block_far rfl ?_
      | refine block_ret ?_
      | refine then_ret ?_
      | refine then_exit ?_
      | refine for_ret ?_
      | refine for_exit ?_
      | refine ct ?_
      | refine cf ?_
      | refine swp_cond rfl (fun hc => ?_) (fun hc => ?_)
      | refine retq (by first | exact .inr rfl | exact .inl rfl) rfl (.tmp rfl (by first | exact .t _ | exact .own rfl (by first | rfl | assumption | (simp; done) | (simp; omega)) | exact .nil _ | exact .emp _ | exact .fn _) .nil) ?_)
  · repeat' (first
    | refine then_go ?_
    | refine swp_seq ?_
    | ((refine swp_region (id := 4) ?_) <;> (refine sops_pure (.free rfl rfl) rfl rfl (po_cmp rfl rfl rfl rfl) ?_) <;> (refine sops_nil ?_))
    | ((refine swp_region (id := 10) ?_) <;> (refine sops_pure (.free rfl rfl) rfl rfl (po_assign rfl rfl) ?_) <;> (refine sops_nil ?_))
    | refine swp_ret ?_
    | refine swp_skip ?_
    | refine swp_block ?_
    | refine swp_exit ?_
    | refine block_go ?_
    | refine block_exit ?_
    | refine block_far rfl ?_
    | refine block_ret ?_
    | refine then_ret ?_
    | refine then_exit ?_
    | refine for_ret ?_
    | refine for_exit ?_
    | refine ct ?_
    | refine cf ?_
    | refine swp_cond rfl (fun hc => ?_) (fun hc => ?_)
    | refine retq (by first | exact .inr rfl | exact .inl rfl) rfl (.tmp rfl (by first | exact .t _ | exact .own rfl (by first | rfl | assumption | (simp; done) | (simp; omega)) | exact .nil _ | exact .emp _ | exact .fn _) .nil) ?_)
    rfl
def EFRule (f : FuncId) (l : List Pl.Rule) (k : Nat) : St := ⟨[(1, .t (.sl 3 (l.map ruleT))), (2, .t (.clo f [])), (15, .t (.sl 3 (l.map ruleT))), (16, .t (.v (.int .i64 (l.length : Int)))), (17, .t (.v (.int .i64 (k : Int))))], [], []⟩
set_option maxRecDepth 100000 in
set_option maxHeartbeats 1000000 in
theorem equalFRule (f : FuncId) (l : List Pl.Rule) (hK : ∀ x ∈ l, PCalls Tryz.prog f ([.agg (ruleT x), .agg (ruleT x)] ++ []) (.v (.bool true))) (hn : l.length ≤ 1000) : PCalls Tryz.prog 62 [.sl 3 (l.map ruleT), .sl 3 (l.map ruleT), .clo f []] (.v (.bool true)) := by
  have hm1 : (l.map ruleT).length = l.length := List.length_map _
  have h0 := len_ne (l := l.map ruleT)
  refine pcalls_of Tryz.func62 rfl rfl Tryz.ntmps62 rfl ?_
  repeat' (first
    | refine then_go ?_
    | refine swp_seq ?_
    | ((refine swp_region (id := 0) ?_) <;> (refine sops_pure (.free rfl rfl) rfl rfl (po_assign rfl rfl) ?_) <;> (refine sops_nil ?_))
    | ((refine swp_region (id := 1) ?_) <;> (refine sops_pure (.free rfl rfl) rfl rfl (po_move rfl rfl) ?_) <;> (refine sops_pure (.free rfl rfl) rfl rfl (po_len rfl rfl (by first | exact .t _ | exact .own rfl (by first | rfl | assumption | (simp; done) | (simp; omega)) | exact .nil _ | exact .emp _ | exact .fn _) (tyS rfl)) ?_) <;> (refine sops_pure (.free rfl rfl) rfl rfl (po_move rfl rfl) ?_) <;> (refine sops_pure (.free rfl rfl) rfl rfl (po_len rfl rfl (by first | exact .t _ | exact .own rfl (by first | rfl | assumption | (simp; done) | (simp; omega)) | exact .nil _ | exact .emp _ | exact .fn _) (tyS rfl)) ?_) <;> (refine sops_pure (.free rfl rfl) rfl rfl (po_cmp rfl rfl rfl rfl) ?_) <;> (refine sops_nil ?_))
    | ((refine swp_region (id := 3) ?_) <;> (refine sops_pure (.free rfl rfl) rfl rfl (po_move rfl rfl) ?_) <;> (refine sops_pure (.free rfl rfl) rfl rfl (po_len rfl rfl (by first | exact .t _ | exact .own rfl (by first | rfl | assumption | (simp; done) | (simp; omega)) | exact .nil _ | exact .emp _ | exact .fn _) (tyS rfl)) ?_) <;> (refine sops_pure (.free rfl rfl) rfl rfl (po_move rfl rfl) ?_) <;> (refine sops_nil ?_))
    | refine swp_ret ?_
    | refine swp_skip ?_
    | refine swp_block ?_
    | refine swp_exit ?_
    | refine block_go ?_
    | refine block_exit ?_
    | refine block_far rfl ?_
    | refine block_ret ?_
    | refine then_ret ?_
    | refine then_exit ?_
    | refine for_ret ?_
    | refine for_exit ?_
    | refine ct ?_
    | refine cf ?_
    | refine swp_cond rfl (fun hc => ?_) (fun hc => ?_)
    | refine retq (by first | exact .inr rfl | exact .inl rfl) rfl (.tmp rfl (by first | exact .t _ | exact .own rfl (by first | rfl | assumption | (simp; done) | (simp; omega)) | exact .nil _ | exact .emp _ | exact .fn _) .nil) ?_)
  refine swp_for (EFRule f l) (fun k => True) l.length ?_ trivial ?_
  · exact (weak_sub (.cons rfl (by first | rfl | (exact congrArg (fun n : Nat => A.t (.v (.int .i64 (n : Int)))) hm1)) rfl (.cons rfl (by first | rfl | (exact congrArg (fun n : Nat => A.t (.v (.int .i64 (n : Int)))) hm1)) rfl (.cons rfl (by first | rfl | (exact congrArg (fun n : Nat => A.t (.v (.int .i64 (n : Int)))) hm1)) rfl (.cons rfl (by first | rfl | (exact congrArg (fun n : Nat => A.t (.v (.int .i64 (n : Int)))) hm1)) rfl (.cons rfl (by first | rfl | (exact congrArg (fun n : Nat => A.t (.v (.int .i64 (n : Int)))) hm1)) rfl .nil))))) .nil .nil)
  intro k hk _
  unfold EFRule
  by_cases hlt : k < l.length
  · have c1 := hK _ (List.getElem_mem hlt)
    repeat' (first
      | refine then_go ?_
      | refine swp_seq ?_
      | refine for_next hlt (weak_sub (.cons rfl rfl rfl (.cons rfl rfl rfl (.cons rfl rfl rfl (.cons rfl rfl rfl (.cons rfl rfl rfl .nil))))) .nil .nil) trivial
      | ((refine swp_region (id := 4) ?_) <;> (refine sops_pure (.free rfl rfl) rfl rfl (po_cmp rfl rfl rfl rfl) ?_) <;> (refine sops_nil ?_))
      | ((refine swp_region (id := 5) ?_) <;> (refine sops_pure (.free rfl rfl) rfl rfl (po_move rfl rfl) ?_) <;> (refine sops_pure (.free rfl rfl) rfl rfl (po_index rfl rfl (by first | exact .t _ | exact .own rfl (by first | rfl | assumption | (simp; done) | (simp; omega)) | exact .nil _ | exact .emp _ | exact .fn _) rfl (tyS rfl) (by first | rfl | omega) (by first | rfl | assumption | exact map_at (by first | assumption | omega))) ?_) <;> (first | refine sops_pure (.free rfl rfl) rfl rfl (po_load_bx_agg rfl rfl (tyT rfl) rfl (vc (vc (vc .nil))) rfl) ?_ | refine sops_pure (.free rfl rfl) rfl rfl (po_load_agg rfl rfl (tyT rfl) rfl rfl) ?_) <;> (refine sops_allocS str46 (.free rfl rfl) rfl rfl rfl rfl ?_) <;> (refine sops_pure (.free rfl rfl) rfl rfl (po_assign rfl rfl) ?_) <;> (refine sops_store (.free rfl rfl) rfl rfl rfl rfl rfl rfl (tyT rfl) rfl rfl ?_) <;> (refine sops_nil ?_))
      | ((refine swp_region (id := 6) ?_) <;> (refine sops_pure (.free rfl rfl) rfl rfl (po_move rfl rfl) ?_) <;> (refine sops_pure (.free rfl rfl) rfl rfl (po_move rfl rfl) ?_) <;> (refine sops_pure (.free rfl rfl) rfl rfl (po_index rfl rfl (by first | exact .t _ | exact .own rfl (by first | rfl | assumption | (simp; done) | (simp; omega)) | exact .nil _ | exact .emp _ | exact .fn _) rfl (tyS rfl) (by first | rfl | omega) (by first | rfl | assumption | exact map_at (by first | assumption | omega))) ?_) <;> (first | refine sops_pure (.free rfl rfl) rfl rfl (po_load_bx_agg rfl rfl (tyT rfl) rfl (vc (vc (vc .nil))) rfl) ?_ | refine sops_pure (.free rfl rfl) rfl rfl (po_load_agg rfl rfl (tyT rfl) rfl rfl) ?_) <;> (refine sops_allocS str46 (.free rfl rfl) rfl rfl rfl rfl ?_) <;> (refine sops_store (.free rfl rfl) rfl rfl rfl rfl rfl rfl (tyT rfl) rfl rfl ?_) <;> (refine sops_nil ?_))
      | ((refine swp_region (id := 7) ?_) <;> (refine sops_pure (.free rfl rfl) rfl rfl (po_move rfl rfl) ?_) <;> (first | refine sops_pure (.free rfl rfl) rfl rfl (po_load_bx_agg rfl rfl (tyT rfl) rfl (vc (vc (vc .nil))) rfl) ?_ | refine sops_pure (.free rfl rfl) rfl rfl (po_load_agg rfl rfl (tyT rfl) rfl rfl) ?_) <;> (first | refine sops_pure (.free rfl rfl) rfl rfl (po_load_bx_agg rfl rfl (tyT rfl) rfl (vc (vc (vc .nil))) rfl) ?_ | refine sops_pure (.free rfl rfl) rfl rfl (po_load_agg rfl rfl (tyT rfl) rfl rfl) ?_) <;> (refine sops_pure (.free rfl rfl) rfl rfl (po_call_clo rfl rfl (ac (ac .nil)) (c1)) ?_) <;> (refine sops_pure (.free rfl rfl) rfl rfl (po_not rfl rfl) ?_) <;> (refine sops_nil ?_))
      | ((refine swp_region (id := 9) ?_) <;> (first | refine sops_pure (.free rfl rfl) rfl rfl (po_inc rfl rfl rfl (by omega)) ?_ | refine sops_pure (.free rfl rfl) rfl rfl (po_arith rfl rfl rfl (ar_add (by first | rfl | (refine wrap_i64 ?_; omega)) rfl)) ?_) <;> (refine sops_pure (.free rfl rfl) rfl rfl (po_move rfl rfl) ?_) <;> (refine sops_nil ?_))
      | refine swp_ret ?_
      | refine swp_skip ?_
      | refine swp_block ?_
      | refine swp_exit ?_
      | refine block_go ?_
      | refine block_exit ?_
      | refine block_far rfl ?_
      | refine block_ret ?_
      | refine then_ret ?_
      | refine then_exit ?_
      | refine for_ret ?_
      | refine for_exit ?_
      | refine ct ?_
      | refine cf ?_
      | refine swp_cond rfl (fun hc => ?_) (fun hc => ?_)
      | refine retq (by first | exact .inr rfl | exact .inl rfl) rfl (.tmp rfl (by first | exact .t _ | exact .own rfl (by first | rfl | assumption | (simp; done) | (simp; omega)) | exact .nil _ | exact .emp _ | exact .fn _) .nil) ?_)
  · repeat' (first
    | refine then_go ?_
    | refine swp_seq ?_
    | ((refine swp_region (id := 4) ?_) <;> (refine sops_pure (.free rfl rfl) rfl rfl (po_cmp rfl rfl rfl rfl) ?_) <;> (refine sops_nil ?_))
    | ((refine swp_region (id := 10) ?_) <;> (refine sops_pure (.free rfl rfl) rfl rfl (po_assign rfl rfl) ?_) <;> (refine sops_nil ?_))
    | refine swp_ret ?_
    | refine swp_skip ?_
    | refine swp_block ?_
    | refine swp_exit ?_
    | refine block_go ?_
    | refine block_exit ?_
    | refine block_far rfl ?_
    | refine block_ret ?_
    | refine then_ret ?_
    | refine then_exit ?_
    | refine for_ret ?_
    | refine for_exit ?_
    | refine ct ?_
    | refine cf ?_
    | refine swp_cond rfl (fun hc => ?_) (fun hc => ?_)
    | refine retq (by first | exact .inr rfl | exact .inl rfl) rfl (.tmp rfl (by first | exact .t _ | exact .own rfl (by first | rfl | assumption | (simp; done) | (simp; omega)) | exact .nil _ | exact .emp _ | exact .fn _) .nil) ?_)
    rfl
def EFPolicy (f : FuncId) (l : List Pl.Policy) (k : Nat) : St := ⟨[(1, .t (.sl 5 (l.map polT))), (2, .t (.clo f [])), (15, .t (.sl 5 (l.map polT))), (16, .t (.v (.int .i64 (l.length : Int)))), (17, .t (.v (.int .i64 (k : Int))))], [], []⟩
set_option maxRecDepth 100000 in
set_option maxHeartbeats 1000000 in
theorem equalFPolicy (f : FuncId) (l : List Pl.Policy) (hK : ∀ x ∈ l, PCalls Tryz.prog f ([.agg (polT x), .agg (polT x)] ++ []) (.v (.bool true))) (hn : l.length ≤ 1000) : PCalls Tryz.prog 47 [.sl 5 (l.map polT), .sl 5 (l.map polT), .clo f []] (.v (.bool true)) := by
  have hm1 : (l.map polT).length = l.length := List.length_map _
  have h0 := len_ne (l := l.map polT)
  refine pcalls_of Tryz.func47 rfl rfl Tryz.ntmps47 rfl ?_
  repeat' (first
    | refine then_go ?_
    | refine swp_seq ?_
    | ((refine swp_region (id := 0) ?_) <;> (refine sops_pure (.free rfl rfl) rfl rfl (po_assign rfl rfl) ?_) <;> (refine sops_nil ?_))
    | ((refine swp_region (id := 1) ?_) <;> (refine sops_pure (.free rfl rfl) rfl rfl (po_move rfl rfl) ?_) <;> (refine sops_pure (.free rfl rfl) rfl rfl (po_len rfl rfl (by first | exact .t _ | exact .own rfl (by first | rfl | assumption | (simp; done) | (simp; omega)) | exact .nil _ | exact .emp _ | exact .fn _) (tyS rfl)) ?_) <;> (refine sops_pure (.free rfl rfl) rfl rfl (po_move rfl rfl) ?_) <;> (refine sops_pure (.free rfl rfl) rfl rfl (po_len rfl rfl (by first | exact .t _ | exact .own rfl (by first | rfl | assumption | (simp; done) | (simp; omega)) | exact .nil _ | exact .emp _ | exact .fn _) (tyS rfl)) ?_) <;> (refine sops_pure (.free rfl rfl) rfl rfl (po_cmp rfl rfl rfl rfl) ?_) <;> (refine sops_nil ?_))
    | ((refine swp_region (id := 3) ?_) <;> (refine sops_pure (.free rfl rfl) rfl rfl (po_move rfl rfl) ?_) <;> (refine sops_pure (.free rfl rfl) rfl rfl (po_len rfl rfl (by first | exact .t _ | exact .own rfl (by first | rfl | assumption | (simp; done) | (simp; omega)) | exact .nil _ | exact .emp _ | exact .fn _) (tyS rfl)) ?_) <;> (refine sops_pure (.free rfl rfl) rfl rfl (po_move rfl rfl) ?_) <;> (refine sops_nil ?_))
    | refine swp_ret ?_
    | refine swp_skip ?_
    | refine swp_block ?_
    | refine swp_exit ?_
    | refine block_go ?_
    | refine block_exit ?_
    | refine block_far rfl ?_
    | refine block_ret ?_
    | refine then_ret ?_
    | refine then_exit ?_
    | refine for_ret ?_
    | refine for_exit ?_
    | refine ct ?_
    | refine cf ?_
    | refine swp_cond rfl (fun hc => ?_) (fun hc => ?_)
    | refine retq (by first | exact .inr rfl | exact .inl rfl) rfl (.tmp rfl (by first | exact .t _ | exact .own rfl (by first | rfl | assumption | (simp; done) | (simp; omega)) | exact .nil _ | exact .emp _ | exact .fn _) .nil) ?_)
  refine swp_for (EFPolicy f l) (fun k => True) l.length ?_ trivial ?_
  · exact (weak_sub (.cons rfl (by first | rfl | (exact congrArg (fun n : Nat => A.t (.v (.int .i64 (n : Int)))) hm1)) rfl (.cons rfl (by first | rfl | (exact congrArg (fun n : Nat => A.t (.v (.int .i64 (n : Int)))) hm1)) rfl (.cons rfl (by first | rfl | (exact congrArg (fun n : Nat => A.t (.v (.int .i64 (n : Int)))) hm1)) rfl (.cons rfl (by first | rfl | (exact congrArg (fun n : Nat => A.t (.v (.int .i64 (n : Int)))) hm1)) rfl (.cons rfl (by first | rfl | (exact congrArg (fun n : Nat => A.t (.v (.int .i64 (n : Int)))) hm1)) rfl .nil))))) .nil .nil)
  intro k hk _
  unfold EFPolicy
  by_cases hlt : k < l.length
  · have c1 := hK _ (List.getElem_mem hlt)
    repeat' (first
      | refine then_go ?_
      | refine swp_seq ?_
      | refine for_next hlt (weak_sub (.cons rfl rfl rfl (.cons rfl rfl rfl (.cons rfl rfl rfl (.cons rfl rfl rfl (.cons rfl rfl rfl .nil))))) .nil .nil) trivial
      | ((refine swp_region (id := 4) ?_) <;> (refine sops_pure (.free rfl rfl) rfl rfl (po_cmp rfl rfl rfl rfl) ?_) <;> (refine sops_nil ?_))
      | ((refine swp_region (id := 5) ?_) <;> (refine sops_pure (.free rfl rfl) rfl rfl (po_move rfl rfl) ?_) <;> (refine sops_pure (.free rfl rfl) rfl rfl (po_index rfl rfl (by first | exact .t _ | exact .own rfl (by first | rfl | assumption | (simp; done) | (simp; omega)) | exact .nil _ | exact .emp _ | exact .fn _) rfl (tyS rfl) (by first | rfl | omega) (by first | rfl | assumption | exact map_at (by first | assumption | omega))) ?_) <;> (first | refine sops_pure (.free rfl rfl) rfl rfl (po_load_bx_agg rfl rfl (tyT rfl) rfl (vc (vc (vc (vc (vc .nil))))) rfl) ?_ | refine sops_pure (.free rfl rfl) rfl rfl (po_load_agg rfl rfl (tyT rfl) rfl rfl) ?_) <;> (refine sops_allocS str50 (.free rfl rfl) rfl rfl rfl rfl ?_) <;> (refine sops_pure (.free rfl rfl) rfl rfl (po_assign rfl rfl) ?_) <;> (refine sops_store (.free rfl rfl) rfl rfl rfl rfl rfl rfl (tyT rfl) rfl rfl ?_) <;> (refine sops_nil ?_))
      | ((refine swp_region (id := 6) ?_) <;> (refine sops_pure (.free rfl rfl) rfl rfl (po_move rfl rfl) ?_) <;> (refine sops_pure (.free rfl rfl) rfl rfl (po_move rfl rfl) ?_) <;> (refine sops_pure (.free rfl rfl) rfl rfl (po_index rfl rfl (by first | exact .t _ | exact .own rfl (by first | rfl | assumption | (simp; done) | (simp; omega)) | exact .nil _ | exact .emp _ | exact .fn _) rfl (tyS rfl) (by first | rfl | omega) (by first | rfl | assumption | exact map_at (by first | assumption | omega))) ?_) <;> (first | refine sops_pure (.free rfl rfl) rfl rfl (po_load_bx_agg rfl rfl (tyT rfl) rfl (vc (vc (vc (vc (vc .nil))))) rfl) ?_ | refine sops_pure (.free rfl rfl) rfl rfl (po_load_agg rfl rfl (tyT rfl) rfl rfl) ?_) <;> (refine sops_allocS str50 (.free rfl rfl) rfl rfl rfl rfl ?_) <;> (refine sops_store (.free rfl rfl) rfl rfl rfl rfl rfl rfl (tyT rfl) rfl rfl ?_) <;> (refine sops_nil ?_))
      | ((refine swp_region (id := 7) ?_) <;> (refine sops_pure (.free rfl rfl) rfl rfl (po_move rfl rfl) ?_) <;> (first | refine sops_pure (.free rfl rfl) rfl rfl (po_load_bx_agg rfl rfl (tyT rfl) rfl (vc (vc (vc (vc (vc .nil))))) rfl) ?_ | refine sops_pure (.free rfl rfl) rfl rfl (po_load_agg rfl rfl (tyT rfl) rfl rfl) ?_) <;> (first | refine sops_pure (.free rfl rfl) rfl rfl (po_load_bx_agg rfl rfl (tyT rfl) rfl (vc (vc (vc (vc (vc .nil))))) rfl) ?_ | refine sops_pure (.free rfl rfl) rfl rfl (po_load_agg rfl rfl (tyT rfl) rfl rfl) ?_) <;> (refine sops_pure (.free rfl rfl) rfl rfl (po_call_clo rfl rfl (ac (ac .nil)) (c1)) ?_) <;> (refine sops_pure (.free rfl rfl) rfl rfl (po_not rfl rfl) ?_) <;> (refine sops_nil ?_))
      | ((refine swp_region (id := 9) ?_) <;> (first | refine sops_pure (.free rfl rfl) rfl rfl (po_inc rfl rfl rfl (by omega)) ?_ | refine sops_pure (.free rfl rfl) rfl rfl (po_arith rfl rfl rfl (ar_add (by first | rfl | (refine wrap_i64 ?_; omega)) rfl)) ?_) <;> (refine sops_pure (.free rfl rfl) rfl rfl (po_move rfl rfl) ?_) <;> (refine sops_nil ?_))
      | refine swp_ret ?_
      | refine swp_skip ?_
      | refine swp_block ?_
      | refine swp_exit ?_
      | refine block_go ?_
      | refine block_exit ?_
      | refine block_far rfl ?_
      | refine block_ret ?_
      | refine then_ret ?_
      | refine then_exit ?_
      | refine for_ret ?_
      | refine for_exit ?_
      | refine ct ?_
      | refine cf ?_
      | refine swp_cond rfl (fun hc => ?_) (fun hc => ?_)
      | refine retq (by first | exact .inr rfl | exact .inl rfl) rfl (.tmp rfl (by first | exact .t _ | exact .own rfl (by first | rfl | assumption | (simp; done) | (simp; omega)) | exact .nil _ | exact .emp _ | exact .fn _) .nil) ?_)
  · repeat' (first
    | refine then_go ?_
    | refine swp_seq ?_
    | ((refine swp_region (id := 4) ?_) <;> (refine sops_pure (.free rfl rfl) rfl rfl (po_cmp rfl rfl rfl rfl) ?_) <;> (refine sops_nil ?_))
    | ((refine swp_region (id := 10) ?_) <;> (refine sops_pure (.free rfl rfl) rfl rfl (po_assign rfl rfl) ?_) <;> (refine sops_nil ?_))
    | refine swp_ret ?_
    | refine swp_skip ?_
    | refine swp_block ?_
    | refine swp_exit ?_
    | refine block_go ?_
    | refine block_exit ?_
    | refine block_far rfl ?_
    | refine block_ret ?_
    | refine then_ret ?_
    | refine then_exit ?_
    | refine for_ret ?_
    | refine for_exit ?_
    | refine ct ?_
    | refine cf ?_
    | refine swp_cond rfl (fun hc => ?_) (fun hc => ?_)
    | refine retq (by first | exact .inr rfl | exact .inl rfl) rfl (.tmp rfl (by first | exact .t _ | exact .own rfl (by first | rfl | assumption | (simp; done) | (simp; omega)) | exact .nil _ | exact .emp _ | exact .fn _) .nil) ?_)
    rfl
set_option maxRecDepth 100000 in
set_option maxHeartbeats 1000000 in
theorem sameSource_ (x : Pl.Source) (h : x.names.length ≤ 1000 ∧ x.spaces.length ≤ 1000 ∧ x.nets.length ≤ 1000) : PCalls Tryz.prog 84 [.agg (sourceT x), .agg (sourceT x)] (.v (.bool true)) := by
  have c0 := equalTerm x.names h.1
  have c1 := equalTerm x.spaces h.2.1
  have c2 := equalCidr x.nets h.2.2
  refine pcalls_of Tryz.func84 rfl rfl Tryz.ntmps84 rfl ?_
  repeat' (first
    | refine then_go ?_
    | refine swp_seq ?_
    | ((refine swp_region (id := 0) ?_) <;> (refine sops_box (.free rfl rfl) rfl rfl rfl rfl rfl rfl ?_) <;> (refine sops_box (.free rfl rfl) rfl rfl rfl rfl rfl rfl ?_) <;> (refine sops_pure (.free rfl rfl) rfl rfl (po_assign rfl rfl) ?_) <;> (refine sops_nil ?_))
    | ((refine swp_region (id := 1) ?_) <;> (first | refine sops_pure (.free rfl rfl) rfl rfl (po_field_bx rfl rfl (tyF rfl)) ?_ | refine sops_pure (.free rfl rfl) rfl rfl (po_field rfl rfl (tyF rfl)) ?_) <;> (first | refine sops_pure (.free rfl rfl) rfl rfl (po_load_bx rfl rfl (tyT rfl) rfl rfl) ?_ | refine sops_pure (.free rfl rfl) rfl rfl (po_load rfl rfl (tyT rfl) rfl) ?_) <;> (first | refine sops_pure (.free rfl rfl) rfl rfl (po_field_bx rfl rfl (tyF rfl)) ?_ | refine sops_pure (.free rfl rfl) rfl rfl (po_field rfl rfl (tyF rfl)) ?_) <;> (first | refine sops_pure (.free rfl rfl) rfl rfl (po_load_bx rfl rfl (tyT rfl) rfl rfl) ?_ | refine sops_pure (.free rfl rfl) rfl rfl (po_load rfl rfl (tyT rfl) rfl) ?_) <;> (first | refine sops_pure (.free rfl rfl) rfl rfl (po_call (c0) rfl (ac (ac .nil))) ?_ | refine sops_pure (.free rfl rfl) rfl rfl (po_call (c1) rfl (ac (ac .nil))) ?_ | refine sops_pure (.free rfl rfl) rfl rfl (po_call (c2) rfl (ac (ac .nil))) ?_) <;> (refine sops_pure (.free rfl rfl) rfl rfl (po_move rfl rfl) ?_) <;> (first | refine sops_pure gy rfl rfl (po_field_bx rfl rfl (tyF rfl)) ?_ | refine sops_pure gy rfl rfl (po_field rfl rfl (tyF rfl)) ?_ | refine sops_skip gn1 rfl rfl ?_ | ((refine sops_split rfl rfl rfl (fun hc => ?_) (fun hc => ?_)) <;> (first | refine sops_pure gy rfl rfl (po_field_bx rfl rfl (tyF rfl)) ?_ | refine sops_pure gy rfl rfl (po_field rfl rfl (tyF rfl)) ?_ | refine sops_skip gn1 rfl rfl ?_))) <;> (first | refine sops_pure gy rfl rfl (po_load_bx rfl rfl (tyT rfl) rfl rfl) ?_ | refine sops_pure gy rfl rfl (po_load rfl rfl (tyT rfl) rfl) ?_ | refine sops_skip gn1 rfl rfl ?_) <;> (first | refine sops_pure gy rfl rfl (po_field_bx rfl rfl (tyF rfl)) ?_ | refine sops_pure gy rfl rfl (po_field rfl rfl (tyF rfl)) ?_ | refine sops_skip gn1 rfl rfl ?_) <;> (first | refine sops_pure gy rfl rfl (po_load_bx rfl rfl (tyT rfl) rfl rfl) ?_ | refine sops_pure gy rfl rfl (po_load rfl rfl (tyT rfl) rfl) ?_ | refine sops_skip gn1 rfl rfl ?_) <;> (first | refine sops_pure gy rfl rfl (po_call (c0) rfl (ac (ac .nil))) ?_ | refine sops_pure gy rfl rfl (po_call (c1) rfl (ac (ac .nil))) ?_ | refine sops_pure gy rfl rfl (po_call (c2) rfl (ac (ac .nil))) ?_ | refine sops_skip gn1 rfl rfl ?_) <;> (first | refine sops_pure (.free rfl rfl) rfl rfl (po_pick_t rfl rfl (by first | assumption | with_reducible rfl | decide | (simp only [decide_eq_true_eq, decide_eq_false_iff_not]; omega)) rfl) ?_ | refine sops_pure (.free rfl rfl) rfl rfl (po_pick_f rfl rfl (by first | assumption | with_reducible rfl | decide | (simp only [decide_eq_true_eq, decide_eq_false_iff_not]; omega)) rfl) ?_) <;> (refine sops_pure (.free rfl rfl) rfl rfl (po_move rfl rfl) ?_) <;> (first | refine sops_pure gy rfl rfl (po_field_bx rfl rfl (tyF rfl)) ?_ | refine sops_pure gy rfl rfl (po_field rfl rfl (tyF rfl)) ?_ | refine sops_skip gn1 rfl rfl ?_ | ((refine sops_split rfl rfl rfl (fun hc => ?_) (fun hc => ?_)) <;> (first | refine sops_pure gy rfl rfl (po_field_bx rfl rfl (tyF rfl)) ?_ | refine sops_pure gy rfl rfl (po_field rfl rfl (tyF rfl)) ?_ | refine sops_skip gn1 rfl rfl ?_))) <;> (first | refine sops_pure gy rfl rfl (po_load_bx rfl rfl (tyT rfl) rfl rfl) ?_ | refine sops_pure gy rfl rfl (po_load rfl rfl (tyT rfl) rfl) ?_ | refine sops_skip gn1 rfl rfl ?_) <;> (first | refine sops_pure gy rfl rfl (po_field_bx rfl rfl (tyF rfl)) ?_ | refine sops_pure gy rfl rfl (po_field rfl rfl (tyF rfl)) ?_ | refine sops_skip gn1 rfl rfl ?_) <;> (first | refine sops_pure gy rfl rfl (po_load_bx rfl rfl (tyT rfl) rfl rfl) ?_ | refine sops_pure gy rfl rfl (po_load rfl rfl (tyT rfl) rfl) ?_ | refine sops_skip gn1 rfl rfl ?_) <;> (first | refine sops_pure gy rfl rfl (po_call (c0) rfl (ac (ac .nil))) ?_ | refine sops_pure gy rfl rfl (po_call (c1) rfl (ac (ac .nil))) ?_ | refine sops_pure gy rfl rfl (po_call (c2) rfl (ac (ac .nil))) ?_ | refine sops_skip gn1 rfl rfl ?_) <;> (first | refine sops_pure (.free rfl rfl) rfl rfl (po_pick_t rfl rfl (by first | assumption | with_reducible rfl | decide | (simp only [decide_eq_true_eq, decide_eq_false_iff_not]; omega)) rfl) ?_ | refine sops_pure (.free rfl rfl) rfl rfl (po_pick_f rfl rfl (by first | assumption | with_reducible rfl | decide | (simp only [decide_eq_true_eq, decide_eq_false_iff_not]; omega)) rfl) ?_) <;> (refine sops_pure (.free rfl rfl) rfl rfl (po_assign rfl rfl) ?_) <;> (refine sops_nil ?_))
    | refine swp_ret ?_
    | refine swp_skip ?_
    | refine swp_block ?_
    | refine swp_exit ?_
    | refine block_go ?_
    | refine block_exit ?_
    | refine block_far rfl ?_
    | refine block_ret ?_
    | refine then_ret ?_
    | refine then_exit ?_
    | refine for_ret ?_
    | refine for_exit ?_
    | refine ct ?_
    | refine cf ?_
    | refine swp_cond rfl (fun hc => ?_) (fun hc => ?_)
    | refine retq (by first | exact .inr rfl | exact .inl rfl) rfl (.tmp rfl (by first | exact .t _ | exact .own rfl (by first | rfl | assumption | (simp; done) | (simp; omega)) | exact .nil _ | exact .emp _ | exact .fn _) .nil) ?_)
  rfl
set_option maxRecDepth 100000 in
set_option maxHeartbeats 1000000 in
theorem sameTarget_ (x : Pl.Target) (h : x.ports.length ≤ 1000 ∧ x.methods.length ≤ 1000 ∧ x.paths.length ≤ 1000 ∧ x.hosts.length ≤ 1000) : PCalls Tryz.prog 86 [.agg (targetT x), .agg (targetT x)] (.v (.bool true)) := by
  have c0 := equalInt x.ports h.1
  have c1 := equalTerm x.methods h.2.1
  have c2 := equalTerm x.paths h.2.2.1
  have c3 := equalTerm x.hosts h.2.2.2
  refine pcalls_of Tryz.func86 rfl rfl Tryz.ntmps86 rfl ?_
  repeat' (first
    | refine then_go ?_
    | refine swp_seq ?_
    | ((refine swp_region (id := 0) ?_) <;> (refine sops_box (.free rfl rfl) rfl rfl rfl rfl rfl rfl ?_) <;> (refine sops_box (.free rfl rfl) rfl rfl rfl rfl rfl rfl ?_) <;> (refine sops_pure (.free rfl rfl) rfl rfl (po_assign rfl rfl) ?_) <;> (refine sops_nil ?_))
    | ((refine swp_region (id := 1) ?_) <;> (first | refine sops_pure (.free rfl rfl) rfl rfl (po_field_bx rfl rfl (tyF rfl)) ?_ | refine sops_pure (.free rfl rfl) rfl rfl (po_field rfl rfl (tyF rfl)) ?_) <;> (first | refine sops_pure (.free rfl rfl) rfl rfl (po_load_bx rfl rfl (tyT rfl) rfl rfl) ?_ | refine sops_pure (.free rfl rfl) rfl rfl (po_load rfl rfl (tyT rfl) rfl) ?_) <;> (first | refine sops_pure (.free rfl rfl) rfl rfl (po_field_bx rfl rfl (tyF rfl)) ?_ | refine sops_pure (.free rfl rfl) rfl rfl (po_field rfl rfl (tyF rfl)) ?_) <;> (first | refine sops_pure (.free rfl rfl) rfl rfl (po_load_bx rfl rfl (tyT rfl) rfl rfl) ?_ | refine sops_pure (.free rfl rfl) rfl rfl (po_load rfl rfl (tyT rfl) rfl) ?_) <;> (first | refine sops_pure (.free rfl rfl) rfl rfl (po_call (c0) rfl (ac (ac .nil))) ?_ | refine sops_pure (.free rfl rfl) rfl rfl (po_call (c1) rfl (ac (ac .nil))) ?_ | refine sops_pure (.free rfl rfl) rfl rfl (po_call (c2) rfl (ac (ac .nil))) ?_ | refine sops_pure (.free rfl rfl) rfl rfl (po_call (c3) rfl (ac (ac .nil))) ?_) <;> (refine sops_pure (.free rfl rfl) rfl rfl (po_move rfl rfl) ?_) <;> (first | refine sops_pure gy rfl rfl (po_field_bx rfl rfl (tyF rfl)) ?_ | refine sops_pure gy rfl rfl (po_field rfl rfl (tyF rfl)) ?_ | refine sops_skip gn1 rfl rfl ?_ | ((refine sops_split rfl rfl rfl (fun hc => ?_) (fun hc => ?_)) <;> (first | refine sops_pure gy rfl rfl (po_field_bx rfl rfl (tyF rfl)) ?_ | refine sops_pure gy rfl rfl (po_field rfl rfl (tyF rfl)) ?_ | refine sops_skip gn1 rfl rfl ?_))) <;> (first | refine sops_pure gy rfl rfl (po_load_bx rfl rfl (tyT rfl) rfl rfl) ?_ | refine sops_pure gy rfl rfl (po_load rfl rfl (tyT rfl) rfl) ?_ | refine sops_skip gn1 rfl rfl ?_) <;> (first | refine sops_pure gy rfl rfl (po_field_bx rfl rfl (tyF rfl)) ?_ | refine sops_pure gy rfl rfl (po_field rfl rfl (tyF rfl)) ?_ | refine sops_skip gn1 rfl rfl ?_) <;> (first | refine sops_pure gy rfl rfl (po_load_bx rfl rfl (tyT rfl) rfl rfl) ?_ | refine sops_pure gy rfl rfl (po_load rfl rfl (tyT rfl) rfl) ?_ | refine sops_skip gn1 rfl rfl ?_) <;> (first | refine sops_pure gy rfl rfl (po_call (c0) rfl (ac (ac .nil))) ?_ | refine sops_pure gy rfl rfl (po_call (c1) rfl (ac (ac .nil))) ?_ | refine sops_pure gy rfl rfl (po_call (c2) rfl (ac (ac .nil))) ?_ | refine sops_pure gy rfl rfl (po_call (c3) rfl (ac (ac .nil))) ?_ | refine sops_skip gn1 rfl rfl ?_) <;> (first | refine sops_pure (.free rfl rfl) rfl rfl (po_pick_t rfl rfl (by first | assumption | with_reducible rfl | decide | (simp only [decide_eq_true_eq, decide_eq_false_iff_not]; omega)) rfl) ?_ | refine sops_pure (.free rfl rfl) rfl rfl (po_pick_f rfl rfl (by first | assumption | with_reducible rfl | decide | (simp only [decide_eq_true_eq, decide_eq_false_iff_not]; omega)) rfl) ?_) <;> (refine sops_pure (.free rfl rfl) rfl rfl (po_move rfl rfl) ?_) <;> (first | refine sops_pure gy rfl rfl (po_field_bx rfl rfl (tyF rfl)) ?_ | refine sops_pure gy rfl rfl (po_field rfl rfl (tyF rfl)) ?_ | refine sops_skip gn1 rfl rfl ?_ | ((refine sops_split rfl rfl rfl (fun hc => ?_) (fun hc => ?_)) <;> (first | refine sops_pure gy rfl rfl (po_field_bx rfl rfl (tyF rfl)) ?_ | refine sops_pure gy rfl rfl (po_field rfl rfl (tyF rfl)) ?_ | refine sops_skip gn1 rfl rfl ?_))) <;> (first | refine sops_pure gy rfl rfl (po_load_bx rfl rfl (tyT rfl) rfl rfl) ?_ | refine sops_pure gy rfl rfl (po_load rfl rfl (tyT rfl) rfl) ?_ | refine sops_skip gn1 rfl rfl ?_) <;> (first | refine sops_pure gy rfl rfl (po_field_bx rfl rfl (tyF rfl)) ?_ | refine sops_pure gy rfl rfl (po_field rfl rfl (tyF rfl)) ?_ | refine sops_skip gn1 rfl rfl ?_) <;> (first | refine sops_pure gy rfl rfl (po_load_bx rfl rfl (tyT rfl) rfl rfl) ?_ | refine sops_pure gy rfl rfl (po_load rfl rfl (tyT rfl) rfl) ?_ | refine sops_skip gn1 rfl rfl ?_) <;> (first | refine sops_pure gy rfl rfl (po_call (c0) rfl (ac (ac .nil))) ?_ | refine sops_pure gy rfl rfl (po_call (c1) rfl (ac (ac .nil))) ?_ | refine sops_pure gy rfl rfl (po_call (c2) rfl (ac (ac .nil))) ?_ | refine sops_pure gy rfl rfl (po_call (c3) rfl (ac (ac .nil))) ?_ | refine sops_skip gn1 rfl rfl ?_) <;> (first | refine sops_pure (.free rfl rfl) rfl rfl (po_pick_t rfl rfl (by first | assumption | with_reducible rfl | decide | (simp only [decide_eq_true_eq, decide_eq_false_iff_not]; omega)) rfl) ?_ | refine sops_pure (.free rfl rfl) rfl rfl (po_pick_f rfl rfl (by first | assumption | with_reducible rfl | decide | (simp only [decide_eq_true_eq, decide_eq_false_iff_not]; omega)) rfl) ?_) <;> (refine sops_pure (.free rfl rfl) rfl rfl (po_move rfl rfl) ?_) <;> (first | refine sops_pure gy rfl rfl (po_field_bx rfl rfl (tyF rfl)) ?_ | refine sops_pure gy rfl rfl (po_field rfl rfl (tyF rfl)) ?_ | refine sops_skip gn1 rfl rfl ?_ | ((refine sops_split rfl rfl rfl (fun hc => ?_) (fun hc => ?_)) <;> (first | refine sops_pure gy rfl rfl (po_field_bx rfl rfl (tyF rfl)) ?_ | refine sops_pure gy rfl rfl (po_field rfl rfl (tyF rfl)) ?_ | refine sops_skip gn1 rfl rfl ?_))) <;> (first | refine sops_pure gy rfl rfl (po_load_bx rfl rfl (tyT rfl) rfl rfl) ?_ | refine sops_pure gy rfl rfl (po_load rfl rfl (tyT rfl) rfl) ?_ | refine sops_skip gn1 rfl rfl ?_) <;> (first | refine sops_pure gy rfl rfl (po_field_bx rfl rfl (tyF rfl)) ?_ | refine sops_pure gy rfl rfl (po_field rfl rfl (tyF rfl)) ?_ | refine sops_skip gn1 rfl rfl ?_) <;> (first | refine sops_pure gy rfl rfl (po_load_bx rfl rfl (tyT rfl) rfl rfl) ?_ | refine sops_pure gy rfl rfl (po_load rfl rfl (tyT rfl) rfl) ?_ | refine sops_skip gn1 rfl rfl ?_) <;> (first | refine sops_pure gy rfl rfl (po_call (c0) rfl (ac (ac .nil))) ?_ | refine sops_pure gy rfl rfl (po_call (c1) rfl (ac (ac .nil))) ?_ | refine sops_pure gy rfl rfl (po_call (c2) rfl (ac (ac .nil))) ?_ | refine sops_pure gy rfl rfl (po_call (c3) rfl (ac (ac .nil))) ?_ | refine sops_skip gn1 rfl rfl ?_) <;> (first | refine sops_pure (.free rfl rfl) rfl rfl (po_pick_t rfl rfl (by first | assumption | with_reducible rfl | decide | (simp only [decide_eq_true_eq, decide_eq_false_iff_not]; omega)) rfl) ?_ | refine sops_pure (.free rfl rfl) rfl rfl (po_pick_f rfl rfl (by first | assumption | with_reducible rfl | decide | (simp only [decide_eq_true_eq, decide_eq_false_iff_not]; omega)) rfl) ?_) <;> (refine sops_pure (.free rfl rfl) rfl rfl (po_assign rfl rfl) ?_) <;> (refine sops_nil ?_))
    | refine swp_ret ?_
    | refine swp_skip ?_
    | refine swp_block ?_
    | refine swp_exit ?_
    | refine block_go ?_
    | refine block_exit ?_
    | refine block_far rfl ?_
    | refine block_ret ?_
    | refine then_ret ?_
    | refine then_exit ?_
    | refine for_ret ?_
    | refine for_exit ?_
    | refine ct ?_
    | refine cf ?_
    | refine swp_cond rfl (fun hc => ?_) (fun hc => ?_)
    | refine retq (by first | exact .inr rfl | exact .inl rfl) rfl (.tmp rfl (by first | exact .t _ | exact .own rfl (by first | rfl | assumption | (simp; done) | (simp; omega)) | exact .nil _ | exact .emp _ | exact .fn _) .nil) ?_)
  rfl
set_option maxRecDepth 100000 in
set_option maxHeartbeats 1000000 in
theorem sameWhen_ (x : Pl.When) (h : x.terms.length ≤ 1000) : PCalls Tryz.prog 88 [.agg (whenT x), .agg (whenT x)] (.v (.bool true)) := by
  have c0 := equalTerm x.terms h
  have e0 : decide (x.head = x.head) = true := by simp
  refine pcalls_of Tryz.func88 rfl rfl Tryz.ntmps88 rfl ?_
  repeat' (first
    | refine then_go ?_
    | refine swp_seq ?_
    | ((refine swp_region (id := 0) ?_) <;> (refine sops_box (.free rfl rfl) rfl rfl rfl rfl rfl rfl ?_) <;> (refine sops_box (.free rfl rfl) rfl rfl rfl rfl rfl rfl ?_) <;> (refine sops_pure (.free rfl rfl) rfl rfl (po_assign rfl rfl) ?_) <;> (refine sops_nil ?_))
    | ((refine swp_region (id := 1) ?_) <;> (first | refine sops_pure (.free rfl rfl) rfl rfl (po_field_bx rfl rfl (tyF rfl)) ?_ | refine sops_pure (.free rfl rfl) rfl rfl (po_field rfl rfl (tyF rfl)) ?_) <;> (first | refine sops_pure (.free rfl rfl) rfl rfl (po_load_bx rfl rfl (tyT rfl) rfl rfl) ?_ | refine sops_pure (.free rfl rfl) rfl rfl (po_load rfl rfl (tyT rfl) rfl) ?_) <;> (first | refine sops_pure (.free rfl rfl) rfl rfl (po_field_bx rfl rfl (tyF rfl)) ?_ | refine sops_pure (.free rfl rfl) rfl rfl (po_field rfl rfl (tyF rfl)) ?_) <;> (first | refine sops_pure (.free rfl rfl) rfl rfl (po_load_bx rfl rfl (tyT rfl) rfl rfl) ?_ | refine sops_pure (.free rfl rfl) rfl rfl (po_load rfl rfl (tyT rfl) rfl) ?_) <;> (refine sops_pure (.free rfl rfl) rfl rfl (po_str rfl rfl rfl rfl) ?_) <;> (refine sops_pure (.free rfl rfl) rfl rfl (po_move rfl rfl) ?_) <;> (first | refine sops_pure gy rfl rfl (po_field_bx rfl rfl (tyF rfl)) ?_ | refine sops_pure gy rfl rfl (po_field rfl rfl (tyF rfl)) ?_ | refine sops_skip gn1 rfl rfl ?_ | ((refine sops_split rfl rfl rfl (fun hc => ?_) (fun hc => ?_)) <;> (first | refine sops_pure gy rfl rfl (po_field_bx rfl rfl (tyF rfl)) ?_ | refine sops_pure gy rfl rfl (po_field rfl rfl (tyF rfl)) ?_ | refine sops_skip gn1 rfl rfl ?_))) <;> (first | refine sops_pure gy rfl rfl (po_load_bx rfl rfl (tyT rfl) rfl rfl) ?_ | refine sops_pure gy rfl rfl (po_load rfl rfl (tyT rfl) rfl) ?_ | refine sops_skip gn1 rfl rfl ?_) <;> (first | refine sops_pure gy rfl rfl (po_field_bx rfl rfl (tyF rfl)) ?_ | refine sops_pure gy rfl rfl (po_field rfl rfl (tyF rfl)) ?_ | refine sops_skip gn1 rfl rfl ?_) <;> (first | refine sops_pure gy rfl rfl (po_load_bx rfl rfl (tyT rfl) rfl rfl) ?_ | refine sops_pure gy rfl rfl (po_load rfl rfl (tyT rfl) rfl) ?_ | refine sops_skip gn1 rfl rfl ?_) <;> (first | refine sops_pure gy rfl rfl (po_call (c0) rfl (ac (ac .nil))) ?_ | refine sops_skip gn1 rfl rfl ?_) <;> (first | refine sops_pure (.free rfl rfl) rfl rfl (po_pick_t rfl rfl (by first | assumption | with_reducible rfl | decide | (simp only [decide_eq_true_eq, decide_eq_false_iff_not]; omega)) rfl) ?_ | refine sops_pure (.free rfl rfl) rfl rfl (po_pick_f rfl rfl (by first | assumption | with_reducible rfl | decide | (simp only [decide_eq_true_eq, decide_eq_false_iff_not]; omega)) rfl) ?_) <;> (refine sops_pure (.free rfl rfl) rfl rfl (po_assign rfl rfl) ?_) <;> (refine sops_nil ?_))
    | refine swp_ret ?_
    | refine swp_skip ?_
    | refine swp_block ?_
    | refine swp_exit ?_
    | refine block_go ?_
    | refine block_exit ?_
    | refine block_far rfl ?_
    | refine block_ret ?_
    | refine then_ret ?_
    | refine then_exit ?_
    | refine for_ret ?_
    | refine for_exit ?_
    | refine ct ?_
    | refine cf ?_
    | refine swp_cond rfl (fun hc => ?_) (fun hc => ?_)
    | refine retq (by first | exact .inr rfl | exact .inl rfl) rfl (.tmp rfl (by first | exact .t _ | exact .own rfl (by first | rfl | assumption | (simp; done) | (simp; omega)) | exact .nil _ | exact .emp _ | exact .fn _) .nil) ?_)
  rfl
set_option maxRecDepth 100000 in
set_option maxHeartbeats 1000000 in
theorem sameRuleP_ (x : Pl.Rule) (h : FewR x) : PCalls Tryz.prog 63 [.agg (ruleT x), .agg (ruleT x)] (.v (.bool true)) := by
  have c0 := equalFSource 84 x.from_ (fun s hs => sameSource_ s (h.fs s hs)) h.f
  have c1 := equalFTarget 86 x.to_ (fun s hs => sameTarget_ s (h.ts s hs)) h.t
  have c2 := equalFWhen 88 x.when_ (fun s hs => sameWhen_ s (h.ws s hs)) h.w
  refine pcalls_of Tryz.func63 rfl rfl Tryz.ntmps63 rfl ?_
  repeat' (first
    | refine then_go ?_
    | refine swp_seq ?_
    | ((refine swp_region (id := 0) ?_) <;> (refine sops_box (.free rfl rfl) rfl rfl rfl rfl rfl rfl ?_) <;> (refine sops_box (.free rfl rfl) rfl rfl rfl rfl rfl rfl ?_) <;> (refine sops_pure (.free rfl rfl) rfl rfl (po_assign rfl rfl) ?_) <;> (refine sops_nil ?_))
    | ((refine swp_region (id := 1) ?_) <;> (first | refine sops_pure (.free rfl rfl) rfl rfl (po_field_bx rfl rfl (tyF rfl)) ?_ | refine sops_pure (.free rfl rfl) rfl rfl (po_field rfl rfl (tyF rfl)) ?_) <;> (first | refine sops_pure (.free rfl rfl) rfl rfl (po_load_bx rfl rfl (tyT rfl) rfl rfl) ?_ | refine sops_pure (.free rfl rfl) rfl rfl (po_load rfl rfl (tyT rfl) rfl) ?_) <;> (first | refine sops_pure (.free rfl rfl) rfl rfl (po_field_bx rfl rfl (tyF rfl)) ?_ | refine sops_pure (.free rfl rfl) rfl rfl (po_field rfl rfl (tyF rfl)) ?_) <;> (first | refine sops_pure (.free rfl rfl) rfl rfl (po_load_bx rfl rfl (tyT rfl) rfl rfl) ?_ | refine sops_pure (.free rfl rfl) rfl rfl (po_load rfl rfl (tyT rfl) rfl) ?_) <;> (first | refine sops_pure (.free rfl rfl) rfl rfl (po_call (c0) rfl (ac (ac (ac .nil)))) ?_ | refine sops_pure (.free rfl rfl) rfl rfl (po_call (c1) rfl (ac (ac (ac .nil)))) ?_ | refine sops_pure (.free rfl rfl) rfl rfl (po_call (c2) rfl (ac (ac (ac .nil)))) ?_) <;> (refine sops_pure (.free rfl rfl) rfl rfl (po_move rfl rfl) ?_) <;> (first | refine sops_pure gy rfl rfl (po_field_bx rfl rfl (tyF rfl)) ?_ | refine sops_pure gy rfl rfl (po_field rfl rfl (tyF rfl)) ?_ | refine sops_skip gn1 rfl rfl ?_ | ((refine sops_split rfl rfl rfl (fun hc => ?_) (fun hc => ?_)) <;> (first | refine sops_pure gy rfl rfl (po_field_bx rfl rfl (tyF rfl)) ?_ | refine sops_pure gy rfl rfl (po_field rfl rfl (tyF rfl)) ?_ | refine sops_skip gn1 rfl rfl ?_))) <;> (first | refine sops_pure gy rfl rfl (po_load_bx rfl rfl (tyT rfl) rfl rfl) ?_ | refine sops_pure gy rfl rfl (po_load rfl rfl (tyT rfl) rfl) ?_ | refine sops_skip gn1 rfl rfl ?_) <;> (first | refine sops_pure gy rfl rfl (po_field_bx rfl rfl (tyF rfl)) ?_ | refine sops_pure gy rfl rfl (po_field rfl rfl (tyF rfl)) ?_ | refine sops_skip gn1 rfl rfl ?_) <;> (first | refine sops_pure gy rfl rfl (po_load_bx rfl rfl (tyT rfl) rfl rfl) ?_ | refine sops_pure gy rfl rfl (po_load rfl rfl (tyT rfl) rfl) ?_ | refine sops_skip gn1 rfl rfl ?_) <;> (first | refine sops_pure gy rfl rfl (po_call (c0) rfl (ac (ac (ac .nil)))) ?_ | refine sops_pure gy rfl rfl (po_call (c1) rfl (ac (ac (ac .nil)))) ?_ | refine sops_pure gy rfl rfl (po_call (c2) rfl (ac (ac (ac .nil)))) ?_ | refine sops_skip gn1 rfl rfl ?_) <;> (first | refine sops_pure (.free rfl rfl) rfl rfl (po_pick_t rfl rfl (by first | assumption | with_reducible rfl | decide | (simp only [decide_eq_true_eq, decide_eq_false_iff_not]; omega)) rfl) ?_ | refine sops_pure (.free rfl rfl) rfl rfl (po_pick_f rfl rfl (by first | assumption | with_reducible rfl | decide | (simp only [decide_eq_true_eq, decide_eq_false_iff_not]; omega)) rfl) ?_) <;> (refine sops_pure (.free rfl rfl) rfl rfl (po_move rfl rfl) ?_) <;> (first | refine sops_pure gy rfl rfl (po_field_bx rfl rfl (tyF rfl)) ?_ | refine sops_pure gy rfl rfl (po_field rfl rfl (tyF rfl)) ?_ | refine sops_skip gn1 rfl rfl ?_ | ((refine sops_split rfl rfl rfl (fun hc => ?_) (fun hc => ?_)) <;> (first | refine sops_pure gy rfl rfl (po_field_bx rfl rfl (tyF rfl)) ?_ | refine sops_pure gy rfl rfl (po_field rfl rfl (tyF rfl)) ?_ | refine sops_skip gn1 rfl rfl ?_))) <;> (first | refine sops_pure gy rfl rfl (po_load_bx rfl rfl (tyT rfl) rfl rfl) ?_ | refine sops_pure gy rfl rfl (po_load rfl rfl (tyT rfl) rfl) ?_ | refine sops_skip gn1 rfl rfl ?_) <;> (first | refine sops_pure gy rfl rfl (po_field_bx rfl rfl (tyF rfl)) ?_ | refine sops_pure gy rfl rfl (po_field rfl rfl (tyF rfl)) ?_ | refine sops_skip gn1 rfl rfl ?_) <;> (first | refine sops_pure gy rfl rfl (po_load_bx rfl rfl (tyT rfl) rfl rfl) ?_ | refine sops_pure gy rfl rfl (po_load rfl rfl (tyT rfl) rfl) ?_ | refine sops_skip gn1 rfl rfl ?_) <;> (first | refine sops_pure gy rfl rfl (po_call (c0) rfl (ac (ac (ac .nil)))) ?_ | refine sops_pure gy rfl rfl (po_call (c1) rfl (ac (ac (ac .nil)))) ?_ | refine sops_pure gy rfl rfl (po_call (c2) rfl (ac (ac (ac .nil)))) ?_ | refine sops_skip gn1 rfl rfl ?_) <;> (first | refine sops_pure (.free rfl rfl) rfl rfl (po_pick_t rfl rfl (by first | assumption | with_reducible rfl | decide | (simp only [decide_eq_true_eq, decide_eq_false_iff_not]; omega)) rfl) ?_ | refine sops_pure (.free rfl rfl) rfl rfl (po_pick_f rfl rfl (by first | assumption | with_reducible rfl | decide | (simp only [decide_eq_true_eq, decide_eq_false_iff_not]; omega)) rfl) ?_) <;> (refine sops_pure (.free rfl rfl) rfl rfl (po_assign rfl rfl) ?_) <;> (refine sops_nil ?_))
    | refine swp_ret ?_
    | refine swp_skip ?_
    | refine swp_block ?_
    | refine swp_exit ?_
    | refine block_go ?_
    | refine block_exit ?_
    | refine block_far rfl ?_
    | refine block_ret ?_
    | refine then_ret ?_
    | refine then_exit ?_
    | refine for_ret ?_
    | refine for_exit ?_
    | refine ct ?_
    | refine cf ?_
    | refine swp_cond rfl (fun hc => ?_) (fun hc => ?_)
    | refine retq (by first | exact .inr rfl | exact .inl rfl) rfl (.tmp rfl (by first | exact .t _ | exact .own rfl (by first | rfl | assumption | (simp; done) | (simp; omega)) | exact .nil _ | exact .emp _ | exact .fn _) .nil) ?_)
  rfl
set_option maxRecDepth 100000 in
set_option maxHeartbeats 1000000 in
theorem samePol_ (x : Pl.Policy) (h : FewP x) : PCalls Tryz.prog 48 [.agg (polT x), .agg (polT x)] (.v (.bool true)) := by
  have c0 := equalFRule 63 x.rules (fun s hs => sameRuleP_ s (h.r s hs)) h.n
  have e0 : decide (x.id = x.id) = true := by simp
  have e1 : decide (x.ns = x.ns) = true := by simp
  have e2 : decide (x.service = x.service) = true := by simp
  have e3 : decide (x.deny = x.deny) = true := by simp
  refine pcalls_of Tryz.func48 rfl rfl Tryz.ntmps48 rfl ?_
  repeat' (first
    | refine then_go ?_
    | refine swp_seq ?_
    | ((refine swp_region (id := 0) ?_) <;> (refine sops_box (.free rfl rfl) rfl rfl rfl rfl rfl rfl ?_) <;> (refine sops_box (.free rfl rfl) rfl rfl rfl rfl rfl rfl ?_) <;> (refine sops_pure (.free rfl rfl) rfl rfl (po_assign rfl rfl) ?_) <;> (refine sops_nil ?_))
    | ((refine swp_region (id := 1) ?_) <;> (first | refine sops_pure (.free rfl rfl) rfl rfl (po_field_bx rfl rfl (tyF rfl)) ?_ | refine sops_pure (.free rfl rfl) rfl rfl (po_field rfl rfl (tyF rfl)) ?_) <;> (first | refine sops_pure (.free rfl rfl) rfl rfl (po_load_bx rfl rfl (tyT rfl) rfl rfl) ?_ | refine sops_pure (.free rfl rfl) rfl rfl (po_load rfl rfl (tyT rfl) rfl) ?_) <;> (first | refine sops_pure (.free rfl rfl) rfl rfl (po_field_bx rfl rfl (tyF rfl)) ?_ | refine sops_pure (.free rfl rfl) rfl rfl (po_field rfl rfl (tyF rfl)) ?_) <;> (first | refine sops_pure (.free rfl rfl) rfl rfl (po_load_bx rfl rfl (tyT rfl) rfl rfl) ?_ | refine sops_pure (.free rfl rfl) rfl rfl (po_load rfl rfl (tyT rfl) rfl) ?_) <;> (refine sops_pure (.free rfl rfl) rfl rfl (po_cmp rfl rfl rfl rfl) ?_) <;> (refine sops_pure (.free rfl rfl) rfl rfl (po_move rfl rfl) ?_) <;> (first | refine sops_pure gy rfl rfl (po_field_bx rfl rfl (tyF rfl)) ?_ | refine sops_pure gy rfl rfl (po_field rfl rfl (tyF rfl)) ?_ | refine sops_skip gn1 rfl rfl ?_ | ((refine sops_split rfl rfl rfl (fun hc => ?_) (fun hc => ?_)) <;> (first | refine sops_pure gy rfl rfl (po_field_bx rfl rfl (tyF rfl)) ?_ | refine sops_pure gy rfl rfl (po_field rfl rfl (tyF rfl)) ?_ | refine sops_skip gn1 rfl rfl ?_))) <;> (first | refine sops_pure gy rfl rfl (po_load_bx rfl rfl (tyT rfl) rfl rfl) ?_ | refine sops_pure gy rfl rfl (po_load rfl rfl (tyT rfl) rfl) ?_ | refine sops_skip gn1 rfl rfl ?_) <;> (first | refine sops_pure gy rfl rfl (po_field_bx rfl rfl (tyF rfl)) ?_ | refine sops_pure gy rfl rfl (po_field rfl rfl (tyF rfl)) ?_ | refine sops_skip gn1 rfl rfl ?_) <;> (first | refine sops_pure gy rfl rfl (po_load_bx rfl rfl (tyT rfl) rfl rfl) ?_ | refine sops_pure gy rfl rfl (po_load rfl rfl (tyT rfl) rfl) ?_ | refine sops_skip gn1 rfl rfl ?_) <;> (first | refine sops_pure gy rfl rfl (po_str rfl rfl rfl rfl) ?_ | refine sops_skip gn1 rfl rfl ?_) <;> (first | refine sops_pure (.free rfl rfl) rfl rfl (po_pick_t rfl rfl (by first | assumption | with_reducible rfl | decide | (simp only [decide_eq_true_eq, decide_eq_false_iff_not]; omega)) rfl) ?_ | refine sops_pure (.free rfl rfl) rfl rfl (po_pick_f rfl rfl (by first | assumption | with_reducible rfl | decide | (simp only [decide_eq_true_eq, decide_eq_false_iff_not]; omega)) rfl) ?_) <;> (refine sops_pure (.free rfl rfl) rfl rfl (po_move rfl rfl) ?_) <;> (first | refine sops_pure gy rfl rfl (po_field_bx rfl rfl (tyF rfl)) ?_ | refine sops_pure gy rfl rfl (po_field rfl rfl (tyF rfl)) ?_ | refine sops_skip gn1 rfl rfl ?_ | ((refine sops_split rfl rfl rfl (fun hc => ?_) (fun hc => ?_)) <;> (first | refine sops_pure gy rfl rfl (po_field_bx rfl rfl (tyF rfl)) ?_ | refine sops_pure gy rfl rfl (po_field rfl rfl (tyF rfl)) ?_ | refine sops_skip gn1 rfl rfl ?_))) <;> (first | refine sops_pure gy rfl rfl (po_load_bx rfl rfl (tyT rfl) rfl rfl) ?_ | refine sops_pure gy rfl rfl (po_load rfl rfl (tyT rfl) rfl) ?_ | refine sops_skip gn1 rfl rfl ?_) <;> (first | refine sops_pure gy rfl rfl (po_field_bx rfl rfl (tyF rfl)) ?_ | refine sops_pure gy rfl rfl (po_field rfl rfl (tyF rfl)) ?_ | refine sops_skip gn1 rfl rfl ?_) <;> (first | refine sops_pure gy rfl rfl (po_load_bx rfl rfl (tyT rfl) rfl rfl) ?_ | refine sops_pure gy rfl rfl (po_load rfl rfl (tyT rfl) rfl) ?_ | refine sops_skip gn1 rfl rfl ?_) <;> (first | refine sops_pure gy rfl rfl (po_cmp rfl rfl rfl rfl) ?_ | refine sops_skip gn1 rfl rfl ?_) <;> (first | refine sops_pure (.free rfl rfl) rfl rfl (po_pick_t rfl rfl (by first | assumption | with_reducible rfl | decide | (simp only [decide_eq_true_eq, decide_eq_false_iff_not]; omega)) rfl) ?_ | refine sops_pure (.free rfl rfl) rfl rfl (po_pick_f rfl rfl (by first | assumption | with_reducible rfl | decide | (simp only [decide_eq_true_eq, decide_eq_false_iff_not]; omega)) rfl) ?_) <;> (refine sops_pure (.free rfl rfl) rfl rfl (po_move rfl rfl) ?_) <;> (first | refine sops_pure gy rfl rfl (po_field_bx rfl rfl (tyF rfl)) ?_ | refine sops_pure gy rfl rfl (po_field rfl rfl (tyF rfl)) ?_ | refine sops_skip gn1 rfl rfl ?_ | ((refine sops_split rfl rfl rfl (fun hc => ?_) (fun hc => ?_)) <;> (first | refine sops_pure gy rfl rfl (po_field_bx rfl rfl (tyF rfl)) ?_ | refine sops_pure gy rfl rfl (po_field rfl rfl (tyF rfl)) ?_ | refine sops_skip gn1 rfl rfl ?_))) <;> (first | refine sops_pure gy rfl rfl (po_load_bx rfl rfl (tyT rfl) rfl rfl) ?_ | refine sops_pure gy rfl rfl (po_load rfl rfl (tyT rfl) rfl) ?_ | refine sops_skip gn1 rfl rfl ?_) <;> (first | refine sops_pure gy rfl rfl (po_field_bx rfl rfl (tyF rfl)) ?_ | refine sops_pure gy rfl rfl (po_field rfl rfl (tyF rfl)) ?_ | refine sops_skip gn1 rfl rfl ?_) <;> (first | refine sops_pure gy rfl rfl (po_load_bx rfl rfl (tyT rfl) rfl rfl) ?_ | refine sops_pure gy rfl rfl (po_load rfl rfl (tyT rfl) rfl) ?_ | refine sops_skip gn1 rfl rfl ?_) <;> (first | refine sops_pure gy rfl rfl (po_cmp rfl rfl rfl rfl) ?_ | refine sops_skip gn1 rfl rfl ?_) <;> (first | refine sops_pure (.free rfl rfl) rfl rfl (po_pick_t rfl rfl (by first | assumption | with_reducible rfl | decide | (simp only [decide_eq_true_eq, decide_eq_false_iff_not]; omega)) rfl) ?_ | refine sops_pure (.free rfl rfl) rfl rfl (po_pick_f rfl rfl (by first | assumption | with_reducible rfl | decide | (simp only [decide_eq_true_eq, decide_eq_false_iff_not]; omega)) rfl) ?_) <;> (refine sops_pure (.free rfl rfl) rfl rfl (po_move rfl rfl) ?_) <;> (first | refine sops_pure gy rfl rfl (po_field_bx rfl rfl (tyF rfl)) ?_ | refine sops_pure gy rfl rfl (po_field rfl rfl (tyF rfl)) ?_ | refine sops_skip gn1 rfl rfl ?_ | ((refine sops_split rfl rfl rfl (fun hc => ?_) (fun hc => ?_)) <;> (first | refine sops_pure gy rfl rfl (po_field_bx rfl rfl (tyF rfl)) ?_ | refine sops_pure gy rfl rfl (po_field rfl rfl (tyF rfl)) ?_ | refine sops_skip gn1 rfl rfl ?_))) <;> (first | refine sops_pure gy rfl rfl (po_load_bx rfl rfl (tyT rfl) rfl rfl) ?_ | refine sops_pure gy rfl rfl (po_load rfl rfl (tyT rfl) rfl) ?_ | refine sops_skip gn1 rfl rfl ?_) <;> (first | refine sops_pure gy rfl rfl (po_field_bx rfl rfl (tyF rfl)) ?_ | refine sops_pure gy rfl rfl (po_field rfl rfl (tyF rfl)) ?_ | refine sops_skip gn1 rfl rfl ?_) <;> (first | refine sops_pure gy rfl rfl (po_load_bx rfl rfl (tyT rfl) rfl rfl) ?_ | refine sops_pure gy rfl rfl (po_load rfl rfl (tyT rfl) rfl) ?_ | refine sops_skip gn1 rfl rfl ?_) <;> (first | refine sops_pure gy rfl rfl (po_call (c0) rfl (ac (ac (ac .nil)))) ?_ | refine sops_skip gn1 rfl rfl ?_) <;> (first | refine sops_pure (.free rfl rfl) rfl rfl (po_pick_t rfl rfl (by first | assumption | with_reducible rfl | decide | (simp only [decide_eq_true_eq, decide_eq_false_iff_not]; omega)) rfl) ?_ | refine sops_pure (.free rfl rfl) rfl rfl (po_pick_f rfl rfl (by first | assumption | with_reducible rfl | decide | (simp only [decide_eq_true_eq, decide_eq_false_iff_not]; omega)) rfl) ?_) <;> (refine sops_pure (.free rfl rfl) rfl rfl (po_assign rfl rfl) ?_) <;> (refine sops_nil ?_))
    | refine swp_ret ?_
    | refine swp_skip ?_
    | refine swp_block ?_
    | refine swp_exit ?_
    | refine block_go ?_
    | refine block_exit ?_
    | refine block_far rfl ?_
    | refine block_ret ?_
    | refine then_ret ?_
    | refine then_exit ?_
    | refine for_ret ?_
    | refine for_exit ?_
    | refine ct ?_
    | refine cf ?_
    | refine swp_cond rfl (fun hc => ?_) (fun hc => ?_)
    | refine retq (by first | exact .inr rfl | exact .inl rfl) rfl (.tmp rfl (by first | exact .t _ | exact .own rfl (by first | rfl | assumption | (simp; done) | (simp; omega)) | exact .nil _ | exact .emp _ | exact .fn _) .nil) ?_)
  rfl
set_option maxRecDepth 100000 in
set_option maxHeartbeats 1000000 in
theorem sameTab_ (l : List Pl.Policy) (hn : l.length ≤ 1000) (h : ∀ p ∈ l, FewP p) (al : Int) : PCalls Tryz.prog 22 [.agg [.sl 5 (l.map polT), .v (.int .i64 al)], .agg [.sl 5 (l.map polT), .v (.int .i64 al)]] (.v (.bool true)) := by
  have c0 := equalFPolicy 48 l (fun s hs => samePol_ s (h s hs)) hn
  have e0 : decide (al = al) = true := by simp
  refine pcalls_of Tryz.func22 rfl rfl Tryz.ntmps22 rfl ?_
  repeat' (first
    | refine then_go ?_
    | refine swp_seq ?_
    | ((refine swp_region (id := 0) ?_) <;> (refine sops_box (.free rfl rfl) rfl rfl rfl rfl rfl rfl ?_) <;> (refine sops_box (.free rfl rfl) rfl rfl rfl rfl rfl rfl ?_) <;> (refine sops_pure (.free rfl rfl) rfl rfl (po_assign rfl rfl) ?_) <;> (refine sops_nil ?_))
    | ((refine swp_region (id := 1) ?_) <;> (first | refine sops_pure (.free rfl rfl) rfl rfl (po_field_bx rfl rfl (tyF rfl)) ?_ | refine sops_pure (.free rfl rfl) rfl rfl (po_field rfl rfl (tyF rfl)) ?_) <;> (first | refine sops_pure (.free rfl rfl) rfl rfl (po_load_bx rfl rfl (tyT rfl) rfl rfl) ?_ | refine sops_pure (.free rfl rfl) rfl rfl (po_load rfl rfl (tyT rfl) rfl) ?_) <;> (first | refine sops_pure (.free rfl rfl) rfl rfl (po_field_bx rfl rfl (tyF rfl)) ?_ | refine sops_pure (.free rfl rfl) rfl rfl (po_field rfl rfl (tyF rfl)) ?_) <;> (first | refine sops_pure (.free rfl rfl) rfl rfl (po_load_bx rfl rfl (tyT rfl) rfl rfl) ?_ | refine sops_pure (.free rfl rfl) rfl rfl (po_load rfl rfl (tyT rfl) rfl) ?_) <;> (refine sops_pure (.free rfl rfl) rfl rfl (po_cmp rfl rfl rfl rfl) ?_) <;> (refine sops_pure (.free rfl rfl) rfl rfl (po_move rfl rfl) ?_) <;> (first | refine sops_pure gy rfl rfl (po_field_bx rfl rfl (tyF rfl)) ?_ | refine sops_pure gy rfl rfl (po_field rfl rfl (tyF rfl)) ?_ | refine sops_skip gn1 rfl rfl ?_ | ((refine sops_split rfl rfl rfl (fun hc => ?_) (fun hc => ?_)) <;> (first | refine sops_pure gy rfl rfl (po_field_bx rfl rfl (tyF rfl)) ?_ | refine sops_pure gy rfl rfl (po_field rfl rfl (tyF rfl)) ?_ | refine sops_skip gn1 rfl rfl ?_))) <;> (first | refine sops_pure gy rfl rfl (po_load_bx rfl rfl (tyT rfl) rfl rfl) ?_ | refine sops_pure gy rfl rfl (po_load rfl rfl (tyT rfl) rfl) ?_ | refine sops_skip gn1 rfl rfl ?_) <;> (first | refine sops_pure gy rfl rfl (po_field_bx rfl rfl (tyF rfl)) ?_ | refine sops_pure gy rfl rfl (po_field rfl rfl (tyF rfl)) ?_ | refine sops_skip gn1 rfl rfl ?_) <;> (first | refine sops_pure gy rfl rfl (po_load_bx rfl rfl (tyT rfl) rfl rfl) ?_ | refine sops_pure gy rfl rfl (po_load rfl rfl (tyT rfl) rfl) ?_ | refine sops_skip gn1 rfl rfl ?_) <;> (first | refine sops_pure gy rfl rfl (po_call (c0) rfl (ac (ac (ac .nil)))) ?_ | refine sops_skip gn1 rfl rfl ?_) <;> (first | refine sops_pure (.free rfl rfl) rfl rfl (po_pick_t rfl rfl (by first | assumption | with_reducible rfl | decide | (simp only [decide_eq_true_eq, decide_eq_false_iff_not]; omega)) rfl) ?_ | refine sops_pure (.free rfl rfl) rfl rfl (po_pick_f rfl rfl (by first | assumption | with_reducible rfl | decide | (simp only [decide_eq_true_eq, decide_eq_false_iff_not]; omega)) rfl) ?_) <;> (refine sops_pure (.free rfl rfl) rfl rfl (po_assign rfl rfl) ?_) <;> (refine sops_nil ?_))
    | refine swp_ret ?_
    | refine swp_skip ?_
    | refine swp_block ?_
    | refine swp_exit ?_
    | refine block_go ?_
    | refine block_exit ?_
    | refine block_far rfl ?_
    | refine block_ret ?_
    | refine then_ret ?_
    | refine then_exit ?_
    | refine for_ret ?_
    | refine for_exit ?_
    | refine ct ?_
    | refine cf ?_
    | refine swp_cond rfl (fun hc => ?_) (fun hc => ?_)
    | refine retq (by first | exact .inr rfl | exact .inl rfl) rfl (.tmp rfl (by first | exact .t _ | exact .own rfl (by first | rfl | assumption | (simp; done) | (simp; omega)) | exact .nil _ | exact .emp _ | exact .fn _) .nil) ?_)
  rfl
end Go.Proofs.YtlcecabfmemfeaaGreat.Pol

/- A logic of states: a struct value's field. -/
namespace Go.Proofs.YtlcecabfmemfeaaGreat.Sim
set_option linter.unusedVariables false
set_option linter.unusedSimpArgs false
open Go.RowKit Mem
/-- a field of one cell: its place -/
def field1 (P : Program) (s : TypeId) (f : Nat) : Option Nat := match P.underlying s with
  | some (.struct fs) => match fs[f]? with
    | some fd => match tyI P fd.type with
      | some (false, _) => some fd.offset
      | _ => none
    | none => none
  | _ => none
theorem field1_spec {P : Program} {s f k : Nat} (h : field1 P s f = some k) : ∃ fs fd n, P.underlying s = some (.struct fs) ∧ fs[f]? = some fd ∧ tyI P fd.type = some (false, n) ∧ fd.offset = k := by
  unfold field1 at h
  split at h
  · rename_i fs hu
    split at h
    · rename_i fd hf
      split at h
      · rename_i n ht; injection h with h; exact ⟨fs, fd, n, hu, hf, ht, h⟩
      · cases h
    · cases h
  · cases h
section
variable {P : Program} {bx : List (Nat × List A)} {ow : List (Nat × Own)} {o : Oper} {ρ : Operand → Option A} {r : A}
theorem po_fieldv {s f k : Nat} {x : Operand} {cs : List T} {t : T} (ho : o.op = .field s x f) (hx : ρ x = some (.t (.agg cs))) (hk : field1 P s f = some k) (ht : cs[k]? = some t) : PureOp P bx ow o ρ (.t t) := pure_run fun C m g w a he h => by
  have h1 : TR m (.agg cs) (a.eval x) := h x (by simp [ho, Op.operands]) _ hx
  obtain ⟨fs, fd, n, hu, hf, hT, hoff⟩ := field1_spec hk
  obtain ⟨d, i, hu', hi, hd, hs⟩ := tyI_spec hT
  generalize hv : a.eval x = v at h1
  cases h1 with
  | agg _ vs hl h2 h3 =>
    have hlt : k < vs.size := by rw [hl]; exact (List.getElem?_eq_some_iff.1 ht).1
    have hagg : (isAgg fd.type).run P w = .ok false w := by
      unfold isAgg
      rw [Sem.run_bind, run_underlying hu' w]
      cases d <;> simp_all
    refine ⟨vs[k], ?_, h3 k t _ ht (by simp [hlt])⟩
    simp [execOp, ho, hv, Instr.field, run_underlying hu, hf, asAgg, part, hagg, hoff, hlt]
end
end Go.Proofs.YtlcecabfmemfeaaGreat.Sim
