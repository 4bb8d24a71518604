/- Merged by bundle.py: SimSp4, SimBr13a, SimSp5, SimSp6, SimSp7, SimCopyL, SimFourR, SimRefA, SimRefB. -/
import Derived.Test.YtlcecabfmemfeaaGreatSplitSaysB1
import Derived.Test.YtlcecabfmemfeaaGreatWJudge
import Derived.Test.YtlcecabfmemfeaaGreatWLong3
import Derived.Test.YtlcecabfmemfeaaGreatPlSplit
import Derived.Test.YtlcecabfmemfeaaGreatPlBits
import Derived.Test.YtlcecabfmemfeaaGreatWName
import Derived.Test.YtlcecabfmemfeaaGreatWAny
import Derived.Test.YtlcecabfmemfeaaGreatWMatches
/- split.table and the halves, by the logic of states. -/
namespace Go.Proofs.YtlcecabfmemfeaaGreat.Pol
set_option linter.unusedVariables false
set_option linter.unusedSimpArgs false
open Go.RowKit Mem Sim Opn
abbrev TB (fd fa : FuncId) (t0 : T) (al : Int) : List (Nat × List A) := [(2000, [.t (.clo fd [])]), (2001, [.t (.clo fa [])]), (2002, [.t t0, .t (.v (.int .i64 al))])]
def updA (al : Int) (p : Pl.Policy) : Int := if p.deny = 1 then al else 1
abbrev RulesL (f : FuncId) (k : Nat) : Prop := ∀ l : List Pl.Rule, l.length ≤ 1000 → (∀ r ∈ l, FewR r) → LCalls Tryz.prog f [.own 1000 (l.map ruleT).length] [] [(1000, ⟨46, 3, l.map ruleT⟩)] (.t (.sl 3 ((Pl.what k l).map ruleT))) [] []
set_option maxRecDepth 100000 in
set_option maxHeartbeats 2000000 in
theorem table1 (fd fa : FuncId) (D K : Nat) (hD : RulesL fd D) (hA : RulesL fa K) (p : Pl.Policy) (hp : FewP p) (t0 : T) (al : Int) :
    LCalls Tryz.prog 58 [.t (.agg (polT p)), .bp 2000 0, .bp 2001 0, .bp 2002 0] (TB fd fa t0 al) [] (.t (.agg (polT (Pl.halfP D K p)))) (TB fd fa t0 (updA al p)) [] := by
  have c1 := ownPol p hp
  have c2 := hD p.rules hp.n hp.r
  have c3 := hA p.rules hp.n hp.r
  unfold Pl.halfP updA
  refine lcalls_of Tryz.func58 rfl rfl Tryz.ntmps58 rfl ?_
  by_cases hd : p.deny = 1
  · rw [if_pos hd, if_pos hd]
    repeat' (first
      | refine then_go ?_
      | refine swp_seq ?_
      | ((refine swp_region (id := 0) ?_) <;> (refine sops_box (.free rfl rfl) rfl rfl rfl rfl rfl rfl ?_) <;> (refine sops_allocS str50 (.free rfl rfl) rfl rfl rfl rfl ?_) <;> (refine sops_nil ?_))
      | ((refine swp_region (id := 1) ?_) <;> (first | refine sops_pure (.free rfl rfl) rfl rfl (po_load_bx_agg rfl rfl (tyT rfl) rfl (vc (vc (vc (vc (vc .nil))))) rfl) ?_ | refine sops_pure (.free rfl rfl) rfl rfl (po_load_agg rfl rfl (tyT rfl) rfl rfl) ?_) <;> (first | refine sops_lcall (c2) (fun i => i) (fun i => i) (fun _ => false) (.free rfl rfl) rfl rfl rfl (by repeat' (first | exact .nil | refine .cons rfl rfl rfl ?_ | refine .vw rfl (by first | exact .t _ | exact .own rfl (by first | rfl | assumption | (simp; done) | (simp; omega)) | exact .nil _ | exact .emp _ | exact .fn _) ?_)) .nil (.cons rfl rfl .nil) rfl rfl (fun _ h => Bool.noConfusion h) ?_ | refine sops_lcall (c1) (fun i => i) (fun i => i) (fun _ => false) (.free rfl rfl) rfl rfl rfl (by repeat' (first | exact .nil | refine .cons rfl rfl rfl ?_ | refine .vw rfl (by first | exact .t _ | exact .own rfl (by first | rfl | assumption | (simp; done) | (simp; omega)) | exact .nil _ | exact .emp _ | exact .fn _) ?_)) .nil .nil rfl rfl (fun _ h => Bool.noConfusion h) ?_) <;> (refine sops_store (.free rfl rfl) rfl rfl rfl rfl rfl rfl (tyT rfl) rfl rfl ?_) <;> (refine sops_nil ?_))
      | ((refine swp_region (id := 2) ?_) <;> (first | refine sops_pure (.free rfl rfl) rfl rfl (po_field_bx rfl rfl (tyF rfl)) ?_ | refine sops_pure (.free rfl rfl) rfl rfl (po_field rfl rfl (tyF rfl)) ?_) <;> (first | refine sops_pure (.free rfl rfl) rfl rfl (po_load_bx rfl rfl (tyT rfl) rfl rfl) ?_ | refine sops_pure (.free rfl rfl) rfl rfl (po_load rfl rfl (tyT rfl) rfl) ?_) <;> (refine sops_pure (.free rfl rfl) rfl rfl (po_cmp rfl rfl rfl rfl) ?_) <;> (refine sops_nil ?_))
      | ((refine swp_region (id := 3) ?_) <;> (first | refine sops_pure (.free rfl rfl) rfl rfl (po_load_bx rfl rfl (tyT rfl) rfl rfl) ?_ | refine sops_pure (.free rfl rfl) rfl rfl (po_load rfl rfl (tyT rfl) rfl) ?_) <;> (first | refine sops_pure (.free rfl rfl) rfl rfl (po_field_bx rfl rfl (tyF rfl)) ?_ | refine sops_pure (.free rfl rfl) rfl rfl (po_field rfl rfl (tyF rfl)) ?_) <;> (first | refine sops_pure (.free rfl rfl) rfl rfl (po_load_bx rfl rfl (tyT rfl) rfl rfl) ?_ | refine sops_pure (.free rfl rfl) rfl rfl (po_load rfl rfl (tyT rfl) rfl) ?_) <;> (first | refine sops_lcall_tclo (args := [_]) (caps := []) (c2) (fun i => i) (fun i => i) (fun _ => false) (.free rfl rfl) rfl rfl rfl rfl (by repeat' (first | exact .nil | refine .cons rfl rfl rfl ?_ | refine .vw rfl (by first | exact .t _ | exact .own rfl (by first | rfl | assumption | (simp; done) | (simp; omega)) | exact .nil _ | exact .emp _ | exact .fn _) ?_)) .nil (.cons rfl rfl .nil) rfl rfl (fun _ h => Bool.noConfusion h) ?_ | refine sops_lcall_clo (args := [_]) (caps0 := []) (c2) (fun i => i) (fun i => i) (fun _ => false) (.free rfl rfl) rfl rfl rfl rfl rfl rfl (by repeat' (first | exact .nil | refine .cons rfl rfl rfl ?_ | refine .vw rfl (by first | exact .t _ | exact .own rfl (by first | rfl | assumption | (simp; done) | (simp; omega)) | exact .nil _ | exact .emp _ | exact .fn _) ?_)) .nil (.cons rfl rfl .nil) rfl rfl (fun _ h => Bool.noConfusion h) ?_ | refine sops_lcall_tclo (args := [_]) (caps := []) (c1) (fun i => i) (fun i => i) (fun _ => false) (.free rfl rfl) rfl rfl rfl rfl (by repeat' (first | exact .nil | refine .cons rfl rfl rfl ?_ | refine .vw rfl (by first | exact .t _ | exact .own rfl (by first | rfl | assumption | (simp; done) | (simp; omega)) | exact .nil _ | exact .emp _ | exact .fn _) ?_)) .nil .nil rfl rfl (fun _ h => Bool.noConfusion h) ?_ | refine sops_lcall_clo (args := [_]) (caps0 := []) (c1) (fun i => i) (fun i => i) (fun _ => false) (.free rfl rfl) rfl rfl rfl rfl rfl rfl (by repeat' (first | exact .nil | refine .cons rfl rfl rfl ?_ | refine .vw rfl (by first | exact .t _ | exact .own rfl (by first | rfl | assumption | (simp; done) | (simp; omega)) | exact .nil _ | exact .emp _ | exact .fn _) ?_)) .nil .nil rfl rfl (fun _ h => Bool.noConfusion h) ?_) <;> (first | refine sops_pure (.free rfl rfl) rfl rfl (po_field_bx rfl rfl (tyF rfl)) ?_ | refine sops_pure (.free rfl rfl) rfl rfl (po_field rfl rfl (tyF rfl)) ?_) <;> (refine sops_store (.free rfl rfl) rfl rfl rfl rfl rfl rfl (tyT rfl) rfl rfl ?_) <;> (refine sops_nil ?_))
      | ((refine swp_region (id := 6) ?_) <;> (first | refine sops_pure (.free rfl rfl) rfl rfl (po_load_bx_agg rfl rfl (tyT rfl) rfl (vc (vc (vc (vc (vc .nil))))) rfl) ?_ | refine sops_pure (.free rfl rfl) rfl rfl (po_load_agg rfl rfl (tyT rfl) rfl rfl) ?_) <;> (refine sops_store (.free rfl rfl) rfl rfl rfl rfl rfl rfl (tyT rfl) rfl rfl ?_) <;> (refine sops_nil ?_))
      | refine swp_ret ?_
      | refine swp_skip ?_
      | refine swp_block ?_
      | refine swp_exit ?_
      | refine block_go ?_
      | refine block_exit ?_
      | refine block_far rfl ?_
      | refine block_ret ?_
      | refine then_ret ?_
      | refine then_exit ?_
      | refine for_ret ?_
      | refine for_exit ?_
      | refine ct ?_
      | refine cf ?_
      | refine swp_cond rfl (fun hc => ?_) (fun hc => ?_)
      | exact retl1 (by first | exact .inr rfl | exact .inl rfl) rfl (.cellT rfl rfl (tyT rfl) (vc (vc (vc (vc (vc .nil))))) rfl .nil) rfl (.cons rfl (by first | rfl | assumption | (symm; assumption)) rfl (.cons rfl (by first | rfl | assumption | (symm; assumption)) rfl (.cons rfl (by first | rfl | assumption | (symm; assumption)) rfl .nil))) .nil
      | refine retl (by first | exact .inr rfl | exact .inl rfl) rfl (.cellT rfl rfl (tyT rfl) (vc (vc (vc (vc (vc .nil))))) rfl .nil) ?_ rfl (.cons rfl (by first | rfl | assumption | (symm; assumption)) rfl (.cons rfl (by first | rfl | assumption | (symm; assumption)) rfl (.cons rfl (by first | rfl | assumption | (symm; assumption)) rfl .nil))) .nil)
  · rw [if_neg hd, if_neg hd]
    repeat' (first
      | refine then_go ?_
      | refine swp_seq ?_
      | ((refine swp_region (id := 0) ?_) <;> (refine sops_box (.free rfl rfl) rfl rfl rfl rfl rfl rfl ?_) <;> (refine sops_allocS str50 (.free rfl rfl) rfl rfl rfl rfl ?_) <;> (refine sops_nil ?_))
      | ((refine swp_region (id := 1) ?_) <;> (first | refine sops_pure (.free rfl rfl) rfl rfl (po_load_bx_agg rfl rfl (tyT rfl) rfl (vc (vc (vc (vc (vc .nil))))) rfl) ?_ | refine sops_pure (.free rfl rfl) rfl rfl (po_load_agg rfl rfl (tyT rfl) rfl rfl) ?_) <;> (first | refine sops_lcall (c3) (fun i => i) (fun i => i) (fun _ => false) (.free rfl rfl) rfl rfl rfl (by repeat' (first | exact .nil | refine .cons rfl rfl rfl ?_ | refine .vw rfl (by first | exact .t _ | exact .own rfl (by first | rfl | assumption | (simp; done) | (simp; omega)) | exact .nil _ | exact .emp _ | exact .fn _) ?_)) .nil (.cons rfl rfl .nil) rfl rfl (fun _ h => Bool.noConfusion h) ?_ | refine sops_lcall (c1) (fun i => i) (fun i => i) (fun _ => false) (.free rfl rfl) rfl rfl rfl (by repeat' (first | exact .nil | refine .cons rfl rfl rfl ?_ | refine .vw rfl (by first | exact .t _ | exact .own rfl (by first | rfl | assumption | (simp; done) | (simp; omega)) | exact .nil _ | exact .emp _ | exact .fn _) ?_)) .nil .nil rfl rfl (fun _ h => Bool.noConfusion h) ?_) <;> (refine sops_store (.free rfl rfl) rfl rfl rfl rfl rfl rfl (tyT rfl) rfl rfl ?_) <;> (refine sops_nil ?_))
      | ((refine swp_region (id := 2) ?_) <;> (first | refine sops_pure (.free rfl rfl) rfl rfl (po_field_bx rfl rfl (tyF rfl)) ?_ | refine sops_pure (.free rfl rfl) rfl rfl (po_field rfl rfl (tyF rfl)) ?_) <;> (first | refine sops_pure (.free rfl rfl) rfl rfl (po_load_bx rfl rfl (tyT rfl) rfl rfl) ?_ | refine sops_pure (.free rfl rfl) rfl rfl (po_load rfl rfl (tyT rfl) rfl) ?_) <;> (refine sops_pure (.free rfl rfl) rfl rfl (po_cmp rfl rfl rfl rfl) ?_) <;> (refine sops_nil ?_))
      | ((refine swp_region (id := 4) ?_) <;> (first | refine sops_pure (.free rfl rfl) rfl rfl (po_load_bx rfl rfl (tyT rfl) rfl rfl) ?_ | refine sops_pure (.free rfl rfl) rfl rfl (po_load rfl rfl (tyT rfl) rfl) ?_) <;> (first | refine sops_pure (.free rfl rfl) rfl rfl (po_field_bx rfl rfl (tyF rfl)) ?_ | refine sops_pure (.free rfl rfl) rfl rfl (po_field rfl rfl (tyF rfl)) ?_) <;> (first | refine sops_pure (.free rfl rfl) rfl rfl (po_load_bx rfl rfl (tyT rfl) rfl rfl) ?_ | refine sops_pure (.free rfl rfl) rfl rfl (po_load rfl rfl (tyT rfl) rfl) ?_) <;> (first | refine sops_lcall_tclo (args := [_]) (caps := []) (c3) (fun i => i) (fun i => i) (fun _ => false) (.free rfl rfl) rfl rfl rfl rfl (by repeat' (first | exact .nil | refine .cons rfl rfl rfl ?_ | refine .vw rfl (by first | exact .t _ | exact .own rfl (by first | rfl | assumption | (simp; done) | (simp; omega)) | exact .nil _ | exact .emp _ | exact .fn _) ?_)) .nil (.cons rfl rfl .nil) rfl rfl (fun _ h => Bool.noConfusion h) ?_ | refine sops_lcall_clo (args := [_]) (caps0 := []) (c3) (fun i => i) (fun i => i) (fun _ => false) (.free rfl rfl) rfl rfl rfl rfl rfl rfl (by repeat' (first | exact .nil | refine .cons rfl rfl rfl ?_ | refine .vw rfl (by first | exact .t _ | exact .own rfl (by first | rfl | assumption | (simp; done) | (simp; omega)) | exact .nil _ | exact .emp _ | exact .fn _) ?_)) .nil (.cons rfl rfl .nil) rfl rfl (fun _ h => Bool.noConfusion h) ?_ | refine sops_lcall_tclo (args := [_]) (caps := []) (c1) (fun i => i) (fun i => i) (fun _ => false) (.free rfl rfl) rfl rfl rfl rfl (by repeat' (first | exact .nil | refine .cons rfl rfl rfl ?_ | refine .vw rfl (by first | exact .t _ | exact .own rfl (by first | rfl | assumption | (simp; done) | (simp; omega)) | exact .nil _ | exact .emp _ | exact .fn _) ?_)) .nil .nil rfl rfl (fun _ h => Bool.noConfusion h) ?_ | refine sops_lcall_clo (args := [_]) (caps0 := []) (c1) (fun i => i) (fun i => i) (fun _ => false) (.free rfl rfl) rfl rfl rfl rfl rfl rfl (by repeat' (first | exact .nil | refine .cons rfl rfl rfl ?_ | refine .vw rfl (by first | exact .t _ | exact .own rfl (by first | rfl | assumption | (simp; done) | (simp; omega)) | exact .nil _ | exact .emp _ | exact .fn _) ?_)) .nil .nil rfl rfl (fun _ h => Bool.noConfusion h) ?_) <;> (first | refine sops_pure (.free rfl rfl) rfl rfl (po_field_bx rfl rfl (tyF rfl)) ?_ | refine sops_pure (.free rfl rfl) rfl rfl (po_field rfl rfl (tyF rfl)) ?_) <;> (refine sops_store (.free rfl rfl) rfl rfl rfl rfl rfl rfl (tyT rfl) rfl rfl ?_) <;> (refine sops_nil ?_))
      | ((refine swp_region (id := 5) ?_) <;> (first | refine sops_pure (.free rfl rfl) rfl rfl (po_field_bx rfl rfl (tyF rfl)) ?_ | refine sops_pure (.free rfl rfl) rfl rfl (po_field rfl rfl (tyF rfl)) ?_) <;> (refine sops_store (.free rfl rfl) rfl rfl rfl rfl rfl rfl (tyT rfl) rfl rfl ?_) <;> (refine sops_nil ?_))
      | ((refine swp_region (id := 6) ?_) <;> (first | refine sops_pure (.free rfl rfl) rfl rfl (po_load_bx_agg rfl rfl (tyT rfl) rfl (vc (vc (vc (vc (vc .nil))))) rfl) ?_ | refine sops_pure (.free rfl rfl) rfl rfl (po_load_agg rfl rfl (tyT rfl) rfl rfl) ?_) <;> (refine sops_store (.free rfl rfl) rfl rfl rfl rfl rfl rfl (tyT rfl) rfl rfl ?_) <;> (refine sops_nil ?_))
      | refine swp_ret ?_
      | refine swp_skip ?_
      | refine swp_block ?_
      | refine swp_exit ?_
      | refine block_go ?_
      | refine block_exit ?_
      | refine block_far rfl ?_
      | refine block_ret ?_
      | refine then_ret ?_
      | refine then_exit ?_
      | refine for_ret ?_
      | refine for_exit ?_
      | refine ct ?_
      | refine cf ?_
      | refine swp_cond rfl (fun hc => ?_) (fun hc => ?_)
      | exact retl1 (by first | exact .inr rfl | exact .inl rfl) rfl (.cellT rfl rfl (tyT rfl) (vc (vc (vc (vc (vc .nil))))) rfl .nil) rfl (.cons rfl (by first | rfl | assumption | (symm; assumption)) rfl (.cons rfl (by first | rfl | assumption | (symm; assumption)) rfl (.cons rfl (by first | rfl | assumption | (symm; assumption)) rfl .nil))) .nil
      | refine retl (by first | exact .inr rfl | exact .inl rfl) rfl (.cellT rfl rfl (tyT rfl) (vc (vc (vc (vc (vc .nil))))) rfl .nil) ?_ rfl (.cons rfl (by first | rfl | assumption | (symm; assumption)) rfl (.cons rfl (by first | rfl | assumption | (symm; assumption)) rfl (.cons rfl (by first | rfl | assumption | (symm; assumption)) rfl .nil))) .nil)
def alK (l : List Pl.Policy) (al : Int) (k : Nat) : Int := if (l.take k).any (fun p => decide (p.deny ≠ 1)) = true then 1 else al
theorem alK_succ {l : List Pl.Policy} {al : Int} {k : Nat} (h : k < l.length) : updA (alK l al k) l[k] = alK l al (k + 1) := by
  unfold updA alK
  rw [List.take_succ_eq_append_getElem h, List.any_append]
  by_cases hd : l[k].deny = 1
  · simp [hd]
  · simp [hd]
abbrev CL3 : A := .cl 58 [.bp 2000 0, .bp 2001 0, .bp 2002 0]
def MT (fd fa : FuncId) (D K : Nat) (xs : List Pl.Policy) (t0 : T) (al : Int) (k : Nat) : St := ⟨[(1, CL3), (5, .own 105 (((xs.take k).map (Pl.halfP D K)).map polT).length), (8, .t (.sl 5 (xs.map polT))), (9, .t (.v (.int .i64 (xs.length : Int)))), (10, .t (.v (.int .i64 (k : Int))))], TB fd fa t0 (alK xs al k), [(105, ⟨50, 5, ((xs.take k).map (Pl.halfP D K)).map polT⟩)]⟩
set_option maxRecDepth 100000 in
set_option maxHeartbeats 2000000 in
theorem mapTable (fd fa : FuncId) (D K : Nat) (hD : RulesL fd D) (hA : RulesL fa K) (xs : List Pl.Policy) (hp : ∀ p ∈ xs, FewP p) (hn : xs.length ≤ 1000) (t0 : T) (al : Int) :
    LCalls Tryz.prog 29 [.t (.sl 5 (xs.map polT)), CL3] (TB fd fa t0 al) [] (.t (.sl 5 ((xs.map (Pl.halfP D K)).map polT))) (TB fd fa t0 (alK xs al xs.length)) [] := by
  have hm1 : (xs.map polT).length = xs.length := List.length_map _
  refine lcalls_of Tryz.func29 rfl rfl Tryz.ntmps29 rfl ?_
  repeat' (first
    | refine then_go ?_
    | refine swp_seq ?_
    | ((refine swp_region (id := 0) ?_) <;> (refine sops_pure (.free rfl rfl) rfl rfl (po_assign rfl rfl) ?_) <;> (refine sops_nil ?_))
    | ((refine swp_region (id := 1) ?_) <;> (refine sops_pure (.free rfl rfl) rfl rfl (po_assign rfl rfl) ?_) <;> (refine sops_nil ?_))
    | ((refine swp_region (id := 2) ?_) <;> (refine sops_pure (.free rfl rfl) rfl rfl (po_move rfl rfl) ?_) <;> (refine sops_pure (.free rfl rfl) rfl rfl (pln rfl (tyS rfl)) ?_) <;> (refine sops_pure (.free rfl rfl) rfl rfl (po_move rfl rfl) ?_) <;> (refine sops_nil ?_))
    | refine swp_ret ?_
    | refine swp_skip ?_
    | refine swp_block ?_
    | refine swp_exit ?_
    | refine block_go ?_
    | refine block_exit ?_
    | refine block_far rfl ?_
    | refine block_ret ?_
    | refine then_ret ?_
    | refine then_exit ?_
    | refine for_ret ?_
    | refine for_exit ?_
    | refine ct ?_
    | refine cf ?_
    | refine swp_cond rfl (fun hc => ?_) (fun hc => ?_)
    | refine retq (by first | exact .inr rfl | exact .inl rfl) rfl (.tmp rfl (by first | exact .t _ | exact .own rfl (by first | rfl | assumption | (simp; done) | (simp; omega)) | exact .nil _ | exact .emp _ | exact .fn _) .nil) ?_)
  refine swp_for (MT fd fa D K xs t0 al) (fun _ => True) xs.length ?_ trivial ?_
  · refine Weak.trans (weak_own0 (i := 105) 50 5 (s := 5) rfl rfl) ?_
    exact (weak_sub (.cons rfl (by first | rfl | (exact congrArg (fun n : Nat => A.t (.v (.int .i64 (n : Int)))) hm1)) rfl (.cons rfl (by first | rfl | (exact congrArg (fun n : Nat => A.t (.v (.int .i64 (n : Int)))) hm1)) rfl (.cons rfl (by first | rfl | (exact congrArg (fun n : Nat => A.t (.v (.int .i64 (n : Int)))) hm1)) rfl (.cons rfl (by first | rfl | (exact congrArg (fun n : Nat => A.t (.v (.int .i64 (n : Int)))) hm1)) rfl (.cons rfl (by first | rfl | (exact congrArg (fun n : Nat => A.t (.v (.int .i64 (n : Int)))) hm1)) rfl .nil))))) (.cons rfl (by first | rfl | (exact congrArg (fun n : Nat => A.t (.v (.int .i64 (n : Int)))) hm1)) rfl (.cons rfl (by first | rfl | (exact congrArg (fun n : Nat => A.t (.v (.int .i64 (n : Int)))) hm1)) rfl (.cons rfl (by first | rfl | (exact congrArg (fun n : Nat => A.t (.v (.int .i64 (n : Int)))) hm1)) rfl .nil))) (.cons rfl (by first | rfl | (exact congrArg (fun n : Nat => A.t (.v (.int .i64 (n : Int)))) hm1)) .nil))
  intro k hk _
  unfold MT
  by_cases hlt : k < xs.length
  · have c1 := table1 fd fa D K hD hA _ (hp _ (List.getElem_mem hlt)) t0 (alK xs al k)
    rw [alK_succ hlt] at c1
    have hsn := mapmap_take_succ polT (Pl.halfP D K) hlt
    have g1 : ((((xs.take k).map (Pl.halfP D K)).map polT).length + 1) * 64 ≤ 140737488355328 := by rw [mmt_len]; have := Nat.min_le_right k xs.length; omega
    have g2 : (((xs.take k).map (Pl.halfP D K)).map polT).length + 1 ≤ maxLen := by rw [mmt_len]; have := Nat.min_le_right k xs.length; unfold maxLen; omega
    repeat' (first
      | refine then_go ?_
      | refine swp_seq ?_
      | refine for_next hlt (weak_sub (.cons rfl (by first | rfl | (rw [hsn]; try rfl)) rfl (.cons rfl (by first | rfl | (rw [hsn]; try rfl)) rfl (.cons rfl (by first | rfl | (rw [hsn]; try rfl)) rfl (.cons rfl (by first | rfl | (rw [hsn]; try rfl)) rfl (.cons rfl (by first | rfl | (rw [hsn]; try rfl)) rfl .nil))))) (.cons rfl (by first | rfl | (rw [hsn]; try rfl)) rfl (.cons rfl (by first | rfl | (rw [hsn]; try rfl)) rfl (.cons rfl (by first | rfl | (rw [hsn]; try rfl)) rfl .nil))) (.cons rfl (by first | rfl | (rw [hsn]; try rfl)) .nil)) trivial
      | ((refine swp_region (id := 3) ?_) <;> (refine sops_pure (.free rfl rfl) rfl rfl (po_cmp rfl rfl rfl rfl) ?_) <;> (refine sops_nil ?_))
      | ((refine swp_region (id := 4) ?_) <;> (first | refine sops_pure (.free rfl rfl) rfl rfl (po_index_own rfl rfl rfl (by first | rfl | assumption | omega | (simp; done) | (simp; omega) | (simp at *; omega)) rfl (tyS rfl) (by first | rfl | omega) (by first | assumption | omega)) ?_ | refine sops_pure (.free rfl rfl) rfl rfl (pix rfl (tyS rfl)) ?_) <;> (first | refine sops_pure (.free rfl rfl) rfl rfl (po_load_bx_agg rfl rfl (tyT rfl) rfl (vc (vc (vc (vc (vc .nil))))) rfl) ?_ | refine sops_pure (.free rfl rfl) rfl rfl (po_load_agg rfl rfl (tyT rfl) rfl rfl) ?_ | refine sops_pure (.free rfl rfl) rfl rfl (po_load_own_agg rfl rfl rfl (by first | rfl | assumption | omega | (simp; done) | (simp; omega) | (simp at *; omega)) (tyT rfl) (by first | rfl | assumption | exact map_at (by first | assumption | omega)) rfl rfl) ?_ | refine sops_pure (.free rfl rfl) rfl rfl (po_load_bx_ag rfl rfl (tyT rfl) rfl rfl rfl rfl) ?_) <;> (refine sops_allocS str50 (.free rfl rfl) rfl rfl rfl rfl ?_) <;> (first | refine sops_store (.free rfl rfl) rfl rfl rfl rfl rfl rfl (tyT rfl) rfl rfl ?_ | refine sops_store_own (by rfl) (.free rfl rfl) rfl rfl rfl rfl (by first | rfl | assumption | omega | (simp; done) | (simp; omega) | (simp at *; omega)) rfl (by first | exact .t _ | exact .own rfl (by first | rfl | assumption | (simp; done) | (simp; omega)) | exact .nil _ | exact .emp _ | exact .fn _) rfl rfl (tyT rfl) rfl (by first | rfl | assumption | exact map_at (by first | assumption | omega)) rfl ?_) <;> (refine sops_nil ?_))
      | ((refine swp_region (id := 5) ?_) <;> (refine sops_pure (.free rfl rfl) rfl rfl (po_move rfl rfl) ?_) <;> (refine sops_pure (.free rfl rfl) rfl rfl (po_move rfl rfl) ?_) <;> (first | refine sops_pure (.free rfl rfl) rfl rfl (po_load_bx_agg rfl rfl (tyT rfl) rfl (vc (vc (vc (vc (vc .nil))))) rfl) ?_ | refine sops_pure (.free rfl rfl) rfl rfl (po_load_agg rfl rfl (tyT rfl) rfl rfl) ?_ | refine sops_pure (.free rfl rfl) rfl rfl (po_load_own_agg rfl rfl rfl (by first | rfl | assumption | omega | (simp; done) | (simp; omega) | (simp at *; omega)) (tyT rfl) (by first | rfl | assumption | exact map_at (by first | assumption | omega)) rfl rfl) ?_ | refine sops_pure (.free rfl rfl) rfl rfl (po_load_bx_ag rfl rfl (tyT rfl) rfl rfl rfl rfl) ?_) <;> (first | refine sops_lcall_tclo (args := [_]) (caps := [_, _, _]) (c1) (fun i => i) (fun i => i) (fun _ => false) (.free rfl rfl) rfl rfl rfl rfl (by repeat' (first | exact .nil | refine .cons rfl rfl rfl ?_ | refine .vw rfl (by first | exact .t _ | exact .own rfl (by first | rfl | assumption | (simp; done) | (simp; omega)) | exact .nil _ | exact .emp _ | exact .fn _) ?_)) (.cons rfl rfl (.cons rfl rfl (.cons rfl rfl .nil))) .nil rfl rfl (fun _ h => Bool.noConfusion h) ?_ | refine sops_lcall_clo (args := [_]) (caps0 := [_, _, _]) (c1) (fun i => i) (fun i => i) (fun _ => false) (.free rfl rfl) rfl rfl rfl rfl rfl rfl (by repeat' (first | exact .nil | refine .cons rfl rfl rfl ?_ | refine .vw rfl (by first | exact .t _ | exact .own rfl (by first | rfl | assumption | (simp; done) | (simp; omega)) | exact .nil _ | exact .emp _ | exact .fn _) ?_)) (.cons rfl rfl (.cons rfl rfl (.cons rfl rfl .nil))) .nil rfl rfl (fun _ h => Bool.noConfusion h) ?_) <;> (refine sops_pure (.free rfl rfl) rfl rfl (po_buildSlice rfl (tyE rfl) (dc (.nil _)) rfl rfl rfl) ?_) <;> (first | refine sap rfl (tyE rfl) ?_ | refine san rfl (tyE rfl) ?_) <;> (refine sops_pure (.free rfl rfl) rfl rfl (po_assign rfl rfl) ?_) <;> (refine sops_nil ?_))
      | ((refine swp_region (id := 6) ?_) <;> (first | refine sops_pure (.free rfl rfl) rfl rfl (po_inc rfl rfl rfl (by omega)) ?_ | refine sops_pure (.free rfl rfl) rfl rfl (po_arith rfl rfl rfl (ar_add (by first | rfl | (refine wrap_i64 ?_; omega)) rfl)) ?_) <;> (refine sops_pure (.free rfl rfl) rfl rfl (po_move rfl rfl) ?_) <;> (refine sops_nil ?_))
      | refine swp_ret ?_
      | refine swp_skip ?_
      | refine swp_block ?_
      | refine swp_exit ?_
      | refine block_go ?_
      | refine block_exit ?_
      | refine block_far rfl ?_
      | refine block_ret ?_
      | refine then_ret ?_
      | refine then_exit ?_
      | refine for_ret ?_
      | refine for_exit ?_
      | refine ct ?_
      | refine cf ?_
      | refine swp_cond rfl (fun hc => ?_) (fun hc => ?_)
      | refine retq (by first | exact .inr rfl | exact .inl rfl) rfl (.tmp rfl (by first | exact .t _ | exact .own rfl (by first | rfl | assumption | (simp; done) | (simp; omega)) | exact .nil _ | exact .emp _ | exact .fn _) .nil) ?_)
  · obtain rfl : k = xs.length := by omega
    rw [List.take_length]
    repeat' (first
      | refine then_go ?_
      | refine swp_seq ?_
      | ((refine swp_region (id := 3) ?_) <;> (refine sops_pure (.free rfl rfl) rfl rfl (po_cmp rfl rfl rfl rfl) ?_) <;> (refine sops_nil ?_))
      | ((refine swp_region (id := 7) ?_) <;> (refine sops_pure (.free rfl rfl) rfl rfl (po_move rfl rfl) ?_) <;> (refine sops_pure (.free rfl rfl) rfl rfl (po_assign rfl rfl) ?_) <;> (refine sops_nil ?_))
      | refine swp_ret ?_
      | refine swp_skip ?_
      | refine swp_block ?_
      | refine swp_exit ?_
      | refine block_go ?_
      | refine block_exit ?_
      | refine block_far rfl ?_
      | refine block_ret ?_
      | refine then_ret ?_
      | refine then_exit ?_
      | refine for_ret ?_
      | refine for_exit ?_
      | refine ct ?_
      | refine cf ?_
      | refine swp_cond rfl (fun hc => ?_) (fun hc => ?_)
      | exact retl1 (by first | exact .inr rfl | exact .inl rfl) rfl (.tmpT rfl (by first | exact .t _ | exact .own rfl (by first | rfl | assumption | (simp; done) | (simp; omega)) | exact .nil _ | exact .emp _ | exact .fn _) .nil) rfl (.cons rfl (by first | rfl | assumption | (symm; assumption)) rfl (.cons rfl (by first | rfl | assumption | (symm; assumption)) rfl (.cons rfl (by first | rfl | assumption | (symm; assumption)) rfl .nil))) .nil
      | refine retl (by first | exact .inr rfl | exact .inl rfl) rfl (.tmpT rfl (by first | exact .t _ | exact .own rfl (by first | rfl | assumption | (simp; done) | (simp; omega)) | exact .nil _ | exact .emp _ | exact .fn _) .nil) ?_ rfl (.cons rfl (by first | rfl | assumption | (symm; assumption)) rfl (.cons rfl (by first | rfl | assumption | (symm; assumption)) rfl (.cons rfl (by first | rfl | assumption | (symm; assumption)) rfl .nil))) .nil)
def fbOf (l : List (Nat × Nat)) (i : Nat) : Nat := (get l i).getD i
theorem alK_all (l : List Pl.Policy) : alK l 0 l.length = Pl.allowsP l := by unfold alK Pl.allowsP; rw [List.take_length]
set_option maxRecDepth 100000 in
set_option maxHeartbeats 2000000 in
theorem table_ (fd fa : FuncId) (D K : Nat) (hD : RulesL fd D) (hA : RulesL fa K) (xs : List Pl.Policy) (hp : ∀ p ∈ xs, FewP p) (hn : xs.length ≤ 1000) :
    PCalls Tryz.prog 38 [.sl 5 (xs.map polT), .clo fd [], .clo fa []] (.agg [.sl 5 ((xs.map (Pl.halfP D K)).map polT), .v (.int .i64 (Pl.allowsP xs))]) := by
  have c1 := mapTable fd fa D K hD hA xs hp hn (.v (.slice none 0 0)) 0
  rw [alK_all] at c1
  refine pcalls_of Tryz.func38 rfl rfl Tryz.ntmps38 rfl ?_
  repeat' (first
    | refine then_go ?_
    | refine swp_seq ?_
    | ((refine swp_region (id := 0) ?_) <;> (refine sops_box (.free rfl rfl) rfl rfl rfl rfl rfl rfl ?_) <;> (refine sops_box (.free rfl rfl) rfl rfl rfl rfl rfl rfl ?_) <;> (refine sops_allocS str24 (.free rfl rfl) rfl rfl rfl rfl ?_) <;> (refine sops_nil ?_))
    | ((refine swp_region (id := 1) ?_) <;> (refine sops_pure (.free rfl rfl) rfl rfl (po_move rfl rfl) ?_) <;> (first | refine sops_pure (.free rfl rfl) rfl rfl (po_func rfl (ac (ac (ac .nil)))) ?_ | refine sops_pure (.free rfl rfl) rfl rfl (po_func_cl rfl (.cons rfl rfl (.cons rfl rfl (.cons rfl rfl .nil)))) ?_) <;> (refine sops_lcall (c1) (fbOf [(2000, 4), (2001, 5), (2002, 6)]) (fun i => i) (fun _ => false) (.free rfl rfl) rfl rfl rfl (by repeat' (first | exact .nil | refine .cons rfl rfl rfl ?_ | refine .vw rfl (by first | exact .t _ | exact .own rfl (by first | rfl | assumption | (simp; done) | (simp; omega)) | exact .nil _ | exact .emp _ | exact .fn _) ?_)) (.cons rfl rfl (.cons rfl rfl (.cons rfl rfl .nil))) .nil rfl rfl (fun _ h => Bool.noConfusion h) ?_) <;> (first | refine sops_pure (.free rfl rfl) rfl rfl (po_field_bx rfl rfl (tyF rfl)) ?_ | refine sops_pure (.free rfl rfl) rfl rfl (po_field rfl rfl (tyF rfl)) ?_ | refine sops_pure (.free rfl rfl) rfl rfl (po_field_own rfl rfl rfl (by first | rfl | assumption | omega | (simp; done) | (simp; omega) | (simp at *; omega)) (tyF rfl)) ?_) <;> (first | refine sops_store (.free rfl rfl) rfl rfl rfl rfl rfl rfl (tyT rfl) rfl rfl ?_ | refine sops_store_own (by rfl) (.free rfl rfl) rfl rfl rfl rfl (by first | rfl | assumption | omega | (simp; done) | (simp; omega) | (simp at *; omega)) rfl (by first | exact .t _ | exact .own rfl (by first | rfl | assumption | (simp; done) | (simp; omega)) | exact .nil _ | exact .emp _ | exact .fn _) rfl rfl (tyT rfl) rfl (by first | rfl | assumption | exact map_at (by first | assumption | omega)) rfl ?_) <;> (refine sops_nil ?_))
    | ((refine swp_region (id := 2) ?_) <;> (first | refine sops_pure (.free rfl rfl) rfl rfl (po_load_bx_agg rfl rfl (tyT rfl) rfl (vc (vc .nil)) rfl) ?_ | refine sops_pure (.free rfl rfl) rfl rfl (po_load_agg rfl rfl (tyT rfl) rfl rfl) ?_ | refine sops_pure (.free rfl rfl) rfl rfl (po_load_own_agg rfl rfl rfl (by first | rfl | assumption | omega | (simp; done) | (simp; omega) | (simp at *; omega)) (tyT rfl) (by first | rfl | assumption | exact map_at (by first | assumption | omega)) rfl rfl) ?_ | refine sops_pure (.free rfl rfl) rfl rfl (po_load_bx_ag rfl rfl (tyT rfl) rfl rfl rfl rfl) ?_) <;> (first | refine sops_store (.free rfl rfl) rfl rfl rfl rfl rfl rfl (tyT rfl) rfl rfl ?_ | refine sops_store_own (by rfl) (.free rfl rfl) rfl rfl rfl rfl (by first | rfl | assumption | omega | (simp; done) | (simp; omega) | (simp at *; omega)) rfl (by first | exact .t _ | exact .own rfl (by first | rfl | assumption | (simp; done) | (simp; omega)) | exact .nil _ | exact .emp _ | exact .fn _) rfl rfl (tyT rfl) rfl (by first | rfl | assumption | exact map_at (by first | assumption | omega)) rfl ?_) <;> (refine sops_nil ?_))
    | refine swp_ret ?_
    | refine swp_skip ?_
    | refine swp_block ?_
    | refine swp_exit ?_
    | refine block_go ?_
    | refine block_exit ?_
    | refine block_far rfl ?_
    | refine block_ret ?_
    | refine then_ret ?_
    | refine then_exit ?_
    | refine for_ret ?_
    | refine for_exit ?_
    | refine ct ?_
    | refine cf ?_
    | refine swp_cond rfl (fun hc => ?_) (fun hc => ?_)
    | exact retq1 (by first | exact .inr rfl | exact .inl rfl) rfl (.cell rfl rfl (tyT rfl) (vc (vc .nil)) rfl .nil)
    | refine retq (by first | exact .inr rfl | exact .inl rfl) rfl (.cell rfl rfl (tyT rfl) (vc (vc .nil)) rfl .nil) ?_)
set_option maxRecDepth 100000 in
set_option maxHeartbeats 1000000 in
theorem l4_ (xs : List Pl.Policy) (hp : ∀ p ∈ xs, FewP p) (hn : xs.length ≤ 1000) : PCalls Tryz.prog 14 [.sl 5 (xs.map polT)] (.agg [.sl 5 ((xs.map (Pl.halfP 0 1)).map polT), .v (.int .i64 (Pl.allowsP xs))]) := by
  have c1 := table_ 39 31 0 1 blindL halvedL xs hp hn
  refine pcalls_of Tryz.func14 rfl rfl Tryz.ntmps14 rfl ?_
  repeat' (first
    | refine then_go ?_
    | refine swp_seq ?_
    | ((refine swp_region (id := 0) ?_) <;> (refine sops_allocS str24 (.free rfl rfl) rfl rfl rfl rfl ?_) <;> (refine sops_nil ?_))
    | ((refine swp_region (id := 1) ?_) <;> (refine sops_pure (.free rfl rfl) rfl rfl (po_move rfl rfl) ?_) <;> (refine sops_pure (.free rfl rfl) rfl rfl (po_call (c1) rfl (ac (ac (ac .nil)))) ?_) <;> (refine sops_store (.free rfl rfl) rfl rfl rfl rfl rfl rfl (tyT rfl) rfl rfl ?_) <;> (refine sops_nil ?_))
    | refine swp_ret ?_
    | refine swp_skip ?_
    | refine swp_block ?_
    | refine swp_exit ?_
    | refine block_go ?_
    | refine block_exit ?_
    | refine block_far rfl ?_
    | refine block_ret ?_
    | refine then_ret ?_
    | refine then_exit ?_
    | refine for_ret ?_
    | refine for_exit ?_
    | refine ct ?_
    | refine cf ?_
    | refine swp_cond rfl (fun hc => ?_) (fun hc => ?_)
    | exact retq1 (by first | exact .inr rfl | exact .inl rfl) rfl (.cell rfl rfl (tyT rfl) (vc (vc .nil)) rfl .nil)
    | refine retq (by first | exact .inr rfl | exact .inl rfl) rfl (.cell rfl rfl (tyT rfl) (vc (vc .nil)) rfl .nil) ?_)
set_option maxRecDepth 100000 in
set_option maxHeartbeats 1000000 in
theorem alone_ (xs : List Pl.Policy) (hp : ∀ p ∈ xs, FewP p) (hn : xs.length ≤ 1000) : PCalls Tryz.prog 16 [.sl 5 (xs.map polT)] (.agg [.sl 5 ((xs.map (Pl.halfP 1 0)).map polT), .v (.int .i64 (Pl.allowsP xs))]) := by
  have c1 := table_ 31 39 1 0 halvedL blindL xs hp hn
  refine pcalls_of Tryz.func16 rfl rfl Tryz.ntmps16 rfl ?_
  repeat' (first
    | refine then_go ?_
    | refine swp_seq ?_
    | ((refine swp_region (id := 0) ?_) <;> (refine sops_allocS str24 (.free rfl rfl) rfl rfl rfl rfl ?_) <;> (refine sops_nil ?_))
    | ((refine swp_region (id := 1) ?_) <;> (refine sops_pure (.free rfl rfl) rfl rfl (po_move rfl rfl) ?_) <;> (refine sops_pure (.free rfl rfl) rfl rfl (po_call (c1) rfl (ac (ac (ac .nil)))) ?_) <;> (refine sops_store (.free rfl rfl) rfl rfl rfl rfl rfl rfl (tyT rfl) rfl rfl ?_) <;> (refine sops_nil ?_))
    | refine swp_ret ?_
    | refine swp_skip ?_
    | refine swp_block ?_
    | refine swp_exit ?_
    | refine block_go ?_
    | refine block_exit ?_
    | refine block_far rfl ?_
    | refine block_ret ?_
    | refine then_ret ?_
    | refine then_exit ?_
    | refine for_ret ?_
    | refine for_exit ?_
    | refine ct ?_
    | refine cf ?_
    | refine swp_cond rfl (fun hc => ?_) (fun hc => ?_)
    | exact retq1 (by first | exact .inr rfl | exact .inl rfl) rfl (.cell rfl rfl (tyT rfl) (vc (vc .nil)) rfl .nil)
    | refine retq (by first | exact .inr rfl | exact .inl rfl) rfl (.cell rfl rfl (tyT rfl) (vc (vc .nil)) rfl .nil) ?_)
set_option maxRecDepth 100000 in
set_option maxHeartbeats 1000000 in
theorem l7_ (xs : List Pl.Policy) (hp : ∀ p ∈ xs, FewP p) (hn : xs.length ≤ 1000) : PCalls Tryz.prog 15 [.sl 5 (xs.map polT)] (.agg [.sl 5 ((xs.map (Pl.halfP 2 2)).map polT), .v (.int .i64 (Pl.allowsP xs))]) := by
  have c1 := table_ 40 40 2 2 (fun l _ _ => wholeL l) (fun l _ _ => wholeL l) xs hp hn
  refine pcalls_of Tryz.func15 rfl rfl Tryz.ntmps15 rfl ?_
  repeat' (first
    | refine then_go ?_
    | refine swp_seq ?_
    | ((refine swp_region (id := 0) ?_) <;> (refine sops_allocS str24 (.free rfl rfl) rfl rfl rfl rfl ?_) <;> (refine sops_nil ?_))
    | ((refine swp_region (id := 1) ?_) <;> (refine sops_pure (.free rfl rfl) rfl rfl (po_assign rfl rfl) ?_) <;> (refine sops_nil ?_))
    | ((refine swp_region (id := 2) ?_) <;> (refine sops_pure (.free rfl rfl) rfl rfl (po_move rfl rfl) ?_) <;> (refine sops_pure (.free rfl rfl) rfl rfl (po_move rfl rfl) ?_) <;> (refine sops_pure (.free rfl rfl) rfl rfl (po_move rfl rfl) ?_) <;> (refine sops_pure (.free rfl rfl) rfl rfl (po_call (c1) rfl (ac (ac (ac .nil)))) ?_) <;> (refine sops_store (.free rfl rfl) rfl rfl rfl rfl rfl rfl (tyT rfl) rfl rfl ?_) <;> (refine sops_nil ?_))
    | refine swp_ret ?_
    | refine swp_skip ?_
    | refine swp_block ?_
    | refine swp_exit ?_
    | refine block_go ?_
    | refine block_exit ?_
    | refine block_far rfl ?_
    | refine block_ret ?_
    | refine then_ret ?_
    | refine then_exit ?_
    | refine for_ret ?_
    | refine for_exit ?_
    | refine ct ?_
    | refine cf ?_
    | refine swp_cond rfl (fun hc => ?_) (fun hc => ?_)
    | exact retq1 (by first | exact .inr rfl | exact .inl rfl) rfl (.cell rfl rfl (tyT rfl) (vc (vc .nil)) rfl .nil)
    | refine retq (by first | exact .inr rfl | exact .inl rfl) rfl (.cell rfl rfl (tyT rfl) (vc (vc .nil)) rfl .nil) ?_)
set_option maxRecDepth 100000 in
set_option maxHeartbeats 1000000 in
theorem clonePols (rows : List (List T)) (hbd : rows.length * 64 ≤ 140737488355328) (hmx : rows.length ≤ maxLen) : LCalls Tryz.prog 54 [.t (.sl 5 rows)] [] [] (.own 1000 rows.length) [] [(1000, ⟨50, 5, rows⟩)] := by
  have hbd' : 0 + rows.length * 64 ≤ 140737488355328 := by omega
  refine lcalls_of Tryz.func54 rfl rfl Tryz.ntmps54 rfl ?_
  repeat' (first
    | refine then_go ?_
    | refine swp_seq ?_
    | ((refine swp_region (id := 0) ?_) <;> (refine sops_pure (.free rfl rfl) rfl rfl (po_assign rfl rfl) ?_) <;> (refine sops_nil ?_))
    | ((refine swp_region (id := 1) ?_) <;> (refine sops_pure (.free rfl rfl) rfl rfl (po_move rfl rfl) ?_) <;> (first | refine sops_isnil (.free rfl rfl) rfl rfl rfl rfl (.t _) (tyS rfl) (fun b hnil => ?_) | refine sops_pure (.free rfl rfl) rfl rfl (po_boolq rfl rfl rfl (by kernel_rfl) (by first | exact .inl rfl | exact .inr rfl)) ?_) <;> (refine sops_nil ?_))
    | refine swp_ret ?_
    | refine swp_skip ?_
    | refine swp_block ?_
    | refine swp_exit ?_
    | refine block_go ?_
    | refine block_exit ?_
    | refine block_far rfl ?_
    | refine block_ret ?_
    | refine then_ret ?_
    | refine then_exit ?_
    | refine for_ret ?_
    | refine for_exit ?_
    | refine ct ?_
    | refine cf ?_
    | refine swp_cond rfl (fun hc => ?_) (fun hc => ?_)
    | refine retq (by first | exact .inr rfl | exact .inl rfl) rfl (.tmp rfl (by first | exact .t _ | exact .own rfl (by first | rfl | assumption | (simp; done) | (simp; omega)) | exact .nil _ | exact .emp _ | exact .fn _) .nil) ?_)
  · obtain rfl := hnil hc
    repeat' (first
      | refine then_go ?_
      | refine swp_seq ?_
      | refine swp_ret_weak (weak_own0 (i := 1000) 50 5 (s := 2) rfl rfl) ?_
      | ((refine swp_region (id := 2) ?_) <;> (refine sops_pure (.free rfl rfl) rfl rfl (po_assign rfl rfl) ?_) <;> (refine sops_nil ?_))
      | refine swp_ret ?_
      | refine swp_skip ?_
      | refine swp_block ?_
      | refine swp_exit ?_
      | refine block_go ?_
      | refine block_exit ?_
      | refine block_far rfl ?_
      | refine block_ret ?_
      | refine then_ret ?_
      | refine then_exit ?_
      | refine for_ret ?_
      | refine for_exit ?_
      | refine ct ?_
      | refine cf ?_
      | refine swp_cond rfl (fun hc => ?_) (fun hc => ?_)
      | exact retl1 (by first | exact .inr rfl | exact .inl rfl) rfl (.tmp rfl rfl .nil) rfl .nil (.cons rfl (by first | rfl | assumption | (symm; assumption)) .nil)
      | refine retl (by first | exact .inr rfl | exact .inl rfl) rfl (.tmp rfl rfl .nil) ?_ rfl .nil (.cons rfl (by first | rfl | assumption | (symm; assumption)) .nil))
  · repeat' (first
    | refine then_go ?_
    | refine swp_seq ?_
    | ((refine swp_region (id := 3) ?_) <;> (first | refine sops_build0i 1000 (.free rfl rfl) rfl rfl rfl (tyE rfl) rfl ?_ | refine sops_build0 (.free rfl rfl) rfl rfl rfl (tyE rfl) rfl ?_) <;> (first | refine sops_build0i 1000 (.free rfl rfl) rfl rfl rfl (tyE rfl) rfl ?_ | refine sops_pure (.free rfl rfl) rfl rfl (po_move rfl rfl) ?_) <;> (first | refine sops_build0i 1000 (.free rfl rfl) rfl rfl rfl (tyE rfl) rfl ?_ | refine sap rfl (tyE rfl) ?_ | refine san rfl (tyE rfl) ?_) <;> (first | refine sops_build0i 1000 (.free rfl rfl) rfl rfl rfl (tyE rfl) rfl ?_ | refine sops_pure (.free rfl rfl) rfl rfl (po_assign rfl rfl) ?_) <;> (refine sops_nil ?_))
    | refine swp_ret ?_
    | refine swp_skip ?_
    | refine swp_block ?_
    | refine swp_exit ?_
    | refine block_go ?_
    | refine block_exit ?_
    | refine block_far rfl ?_
    | refine block_ret ?_
    | refine then_ret ?_
    | refine then_exit ?_
    | refine for_ret ?_
    | refine for_exit ?_
    | refine ct ?_
    | refine cf ?_
    | refine swp_cond rfl (fun hc => ?_) (fun hc => ?_)
    | refine retl (by first | exact .inr rfl | exact .inl rfl) rfl (.tmp rfl rfl .nil) ?_ rfl .nil (.cons rfl (by first | rfl | assumption | (symm; assumption)) .nil))
    rfl
end Go.Proofs.YtlcecabfmemfeaaGreat.Pol

/- auth's functions, as the logic of states has them. -/
namespace Go.Proofs.YtlcecabfmemfeaaGreat.Pol
set_option linter.unusedVariables false
set_option linter.unusedSimpArgs false
open Go.RowKit Mem Sim Opn WAddr WName WMatch WAuth
theorem tr2 {m : Mm} {a b : T} {x y : Value} (ha : TR m a x) (hb : TR m b y) : TR m (.tup [a, b]) (.tuple #[x, y]) := by
  refine .tup [a, b] #[x, y] rfl fun j t v h1 h2 => ?_
  match j, h1, h2 with
  | 0, h1, h2 => simp at h1 h2; subst h1 h2; exact ha
  | 1, h1, h2 => simp at h1 h2; subst h1 h2; exact hb
theorem args4 {m : Mm} {t0 t1 t2 t3 : T} {vals : Array Value} (hl : vals.size = [t0, t1, t2, t3].length) (hv : ∀ (i : Nat) t v, [t0, t1, t2, t3][i]? = some t → vals[i]? = some v → TR m t v) : ∃ x0 x1 x2 x3, vals = #[x0, x1, x2, x3] ∧ TR m t0 x0 ∧ TR m t1 x1 ∧ TR m t2 x2 ∧ TR m t3 x3 := by
  obtain ⟨l⟩ := vals
  match l, hl with
  | [x0, x1, x2, x3], _ => exact ⟨x0, x1, x2, x3, rfl, hv 0 _ _ rfl rfl, hv 1 _ _ rfl rfl, hv 2 _ _ rfl rfl, hv 3 _ _ rfl rfl⟩
theorem agg_inv {m : Mm} {cs : List T} {v : Value} (h : TR m (.agg cs) v) : ∃ vs : List Value, v = .agg vs.toArray ∧ CellsAre m cs vs := by
  cases h with
  | agg cs vs h h1 ht => exact ⟨vs.toList, by simp, by simpa using h, fun j t v h2 h3 => ⟨ht j t v h2 (by simpa using h3), h1 v (List.mem_of_getElem? h3)⟩⟩
theorem agg_bwd {m : Mm} {cs : List T} {vs : List Value} (h : CellsAre m cs vs) : TR m (.agg cs) (.agg vs.toArray) :=
  .agg cs vs.toArray (by simpa using h.1) (fun v hv => by
    obtain ⟨j, hj⟩ := List.getElem?_of_mem hv
    have hj' : vs[j]? = some v := by simpa using hj
    have hlt : j < cs.length := by rw [← h.1]; exact (List.getElem?_eq_some_iff.1 hj').1
    exact (h.2 j _ v (List.getElem?_eq_getElem hlt) hj').2) fun j t v h1 h2 => (h.2 j t v h1 (by simpa using h2)).1
theorem ask_inv {m : Mm} {a : Pl.Asker} {v : Value} (h : TR m (.agg (askT a)) v) : v = .agg #[.string a.ns, .string a.sa, .int .u32 a.addr] := by
  obtain ⟨vs, rfl, hc⟩ := agg_inv h
  rw [cells_ex hc [.string a.ns, .string a.sa, .int .u32 a.addr] rfl]
/-- what of a request fits, however many headers -/
structure OkReq0 (q : Pl.Req) : Prop where
  method : q.method.size ≤ maxLen
  path : q.path.size ≤ maxLen
  host : q.host.size ≤ maxLen
  heads : ∀ h ∈ q.heads, okHead h
theorem req_inv {m : Mm} {w : World} (hs : Sub m w) {q : Pl.Req} {tg qu : ByteArray} {bd v : Value} (hq : OkReq0 q) (h : TR m (.agg (reqT q tg qu bd)) v) : ∃ A cap, v = .agg #[.string q.method, .string tg, .string q.path, .string qu, .string q.host, .slice A q.heads.length cap, bd] ∧ SliceAt HeadR 2 w.heap.size w A q.heads ∧ q.heads.length ≤ maxLen ∧ bd.oneCell' = true := by
  obtain ⟨vs, rfl, hc⟩ := agg_inv h
  obtain ⟨u0, vs, rfl, h0, hc⟩ := cellsAre_inv hc
  obtain ⟨u1, vs, rfl, h1, hc⟩ := cellsAre_inv hc
  obtain ⟨u2, vs, rfl, h2, hc⟩ := cellsAre_inv hc
  obtain ⟨u3, vs, rfl, h3, hc⟩ := cellsAre_inv hc
  obtain ⟨u4, vs, rfl, h4, hc⟩ := cellsAre_inv hc
  obtain ⟨u5, vs, rfl, h5, hc⟩ := cellsAre_inv hc
  have hone : ∀ u ∈ vs, u.oneCell' = true := fun u hu => by
    obtain ⟨j, hj⟩ := List.getElem?_of_mem hu
    have hlt : j < 1 := by have := (List.getElem?_eq_some_iff.1 hj).1; have := hc.1; simp at this; omega
    have : j = 0 := by omega
    subst this
    exact (hc.2 0 _ u rfl hj).2
  obtain ⟨u6, vs, rfl, h6, hc⟩ := cellsAre_inv hc
  obtain rfl := cellsAre_inv0 hc
  obtain ⟨A, cap, e, hA, hc1, hc2⟩ := sl_fwd hs (by omega) (head_fwd hs) hq.heads h5
  injection e with e; subst e
  rw [tr_v h6] at hone
  rw [tr_v h0, tr_v h1, tr_v h2, tr_v h3, tr_v h4, tr_v h6]
  exact ⟨A, cap, rfl, hA, Nat.le_trans hc1 hc2, hone bd (by simp)⟩
theorem pols_inv {m : Mm} {w : World} (hs : Sub m w) {l : List Pl.Policy} {v : Value} (hl : ∀ p ∈ l, okPolicy p) (h : TR m (.sl 5 (l.map polT)) v) : ∃ A cap, v = .slice A l.length cap ∧ SliceAt PolicyR 5 w.heap.size w A l ∧ l.length ≤ maxLen := by
  obtain ⟨A, cap, e, hA, hc1, hc2⟩ := sl_fwd hs (by omega) (policy_fwd hs) hl h
  injection e with e; subst e
  exact ⟨A, cap, rfl, hA, Nat.le_trans hc1 hc2⟩
theorem p_judge (l : List Pl.Policy) (hl : ∀ p ∈ l, okPolicy p) (a : Pl.Asker) (ha : OkAsk a) (port : Int) (q : Pl.Req) (hq : OkReq0 q) (hf : q.heads.length ≤ 1000) (tg qu : ByteArray) (bd : Value) :
    PCalls Tryz.prog 25 [.sl 5 (l.map polT), .agg (askT a), .v (.int .i64 port), .agg (reqT q tg qu bd)] (.tup [.v (.bool (Pl.judgeP (matchP a port q) l).1), .v (.int .u64 (Pl.judgeP (matchP a port q) l).2)]) where
  ent := ent_of Tryz.func25 rfl rfl
  run := fun m w vals hm hvl hv => by
    obtain ⟨x0, x1, x2, x3, rfl, h0, h1, h2, h3⟩ := args4 hvl hv
    obtain ⟨A0, cap0, rfl, hA0, hn⟩ := pols_inv hm hl h0
    obtain rfl := ask_inv h1
    rw [tr_v h2]
    obtain ⟨A, cap, rfl, hA, _, _⟩ := req_inv hm hq h3
    refine (judge l A0 cap0 a port q A cap tg qu bd w (Nat.le_refl _) hA0 hn ⟨ha.ns, ha.sa, hq.method, hq.path, hq.host, hA, hf⟩).mono fun e w' ⟨he, hlo⟩ => ?_
    rw [he]
    exact post_ex hm hlo (tr2 (.v _) (.v _))
theorem p_long (l : List Pl.Policy) (hl : ∀ p ∈ l, okPolicy p) (a : Pl.Asker) (ha : OkAsk a) (q : Pl.Req) (hq : OkReq0 q) (tg qu : ByteArray) (bd : Value) :
    PCalls Tryz.prog 7 [.sl 5 (l.map polT), .agg (askT a), .agg (reqT q tg qu bd)] (.v (.bool (long13 l a q))) where
  ent := ent_of Tryz.func7 rfl rfl
  run := fun m w vals hm hvl hv => by
    obtain ⟨x0, x1, x3, rfl, h0, h1, h3⟩ := args3 hvl hv
    obtain ⟨A0, cap0, rfl, hA0, hn⟩ := pols_inv hm hl h0
    obtain rfl := ask_inv h1
    obtain ⟨A, cap, rfl, hA, hn2, hbd⟩ := req_inv hm hq h3
    refine (long13_ l A0 cap0 a q A cap (.string tg) (.string qu) bd w (Nat.le_refl _) hA0 hn ⟨ha.ns, ha.sa, hq.method, hq.path, hq.host, hA, hn2⟩ rfl rfl hbd).mono fun e w' ⟨he, hlo⟩ => ?_
    rw [he]
    exact post_ex hm hlo (.v _)
theorem few_rule {r : Pl.Rule} (h : longRule r = false) : FewR r := by
  unfold longRule at h
  simp only [Bool.or_eq_false_iff, decide_eq_false_iff_not, List.any_eq_false] at h
  obtain ⟨⟨⟨⟨⟨h1, h2⟩, h3⟩, h4⟩, h5⟩, h6⟩ := h
  refine ⟨by omega, by omega, by omega, fun s hs => ?_, fun s hs => ?_, fun s hs => ?_⟩
  · have := h4 s hs
    simp [srcLong, termsB, rowLong] at this
    omega
  · have := h5 s hs
    simp [tgtLong, termsB, rowLong] at this
    omega
  · have := h6 s hs
    simp [whenLong, termsB, rowLong] at this
    omega
theorem few_pol {p : Pl.Policy} (h : longPol p = false) : FewP p := by
  unfold longPol at h
  simp only [Bool.or_eq_false_iff, decide_eq_false_iff_not, List.any_eq_false] at h
  exact ⟨by omega, fun r hr => few_rule (by simpa using h.2 r hr)⟩
theorem few_long {l : List Pl.Policy} {a : Pl.Asker} {q : Pl.Req} (h : long13 l a q = false) : FewL l ∧ l.length ≤ 30 ∧ q.heads.length ≤ 100 ∧ ∀ p ∈ l, FewP p := by
  unfold long13 longHeads at h
  simp only [Bool.or_eq_false_iff, decide_eq_false_iff_not, List.any_eq_false] at h
  have hp : ∀ p ∈ l, FewP p := fun p hp => few_pol (by simpa using h.2 p hp)
  exact ⟨⟨by omega, fun p h => ⟨(hp p h).n, (hp p h).r⟩⟩, by omega, by omega, hp⟩
end Go.Proofs.YtlcecabfmemfeaaGreat.Pol

/- split.Four, split.Seven, by the logic of states. -/
namespace Go.Proofs.YtlcecabfmemfeaaGreat.Pol
set_option linter.unusedVariables false
set_option linter.unusedSimpArgs false
open Go.RowKit Mem Sim Opn WAddr WName WMatch WAuth
set_option maxRecDepth 100000 in
set_option maxHeartbeats 1000000 in
theorem four1_ (p : Pl.Policy) (h : FewP p) : PCalls Tryz.prog 30 [.agg (polT p)] (.agg (polT (Pl.four4 p))) := by
  have c1 := halved_ p.rules h.n h.r
  refine pcalls_of Tryz.func30 rfl rfl Tryz.ntmps30 rfl ?_
  repeat' (first
    | refine then_go ?_
    | refine swp_seq ?_
    | ((refine swp_region (id := 0) ?_) <;> (refine sops_box (.free rfl rfl) rfl rfl rfl rfl rfl rfl ?_) <;> (refine sops_allocS str50 (.free rfl rfl) rfl rfl rfl rfl ?_) <;> (refine sops_nil ?_))
    | ((refine swp_region (id := 1) ?_) <;> (first | refine sops_pure (.free rfl rfl) rfl rfl (po_field_bx rfl rfl (tyF rfl)) ?_ | refine sops_pure (.free rfl rfl) rfl rfl (po_field rfl rfl (tyF rfl)) ?_) <;> (first | refine sops_pure (.free rfl rfl) rfl rfl (po_load_bx rfl rfl (tyT rfl) rfl rfl) ?_ | refine sops_pure (.free rfl rfl) rfl rfl (po_load rfl rfl (tyT rfl) rfl) ?_) <;> (refine sops_pure (.free rfl rfl) rfl rfl (po_call (c1) rfl (ac .nil)) ?_) <;> (first | refine sops_pure (.free rfl rfl) rfl rfl (po_field_bx rfl rfl (tyF rfl)) ?_ | refine sops_pure (.free rfl rfl) rfl rfl (po_field rfl rfl (tyF rfl)) ?_) <;> (refine sops_store (.free rfl rfl) rfl rfl rfl rfl rfl rfl (tyT rfl) rfl rfl ?_) <;> (refine sops_nil ?_))
    | ((refine swp_region (id := 2) ?_) <;> (first | refine sops_pure (.free rfl rfl) rfl rfl (po_load_bx_agg rfl rfl (tyT rfl) rfl (vc (vc (vc (vc (vc .nil))))) rfl) ?_ | refine sops_pure (.free rfl rfl) rfl rfl (po_load_agg rfl rfl (tyT rfl) rfl rfl) ?_) <;> (refine sops_store (.free rfl rfl) rfl rfl rfl rfl rfl rfl (tyT rfl) rfl rfl ?_) <;> (refine sops_nil ?_))
    | refine swp_ret ?_
    | refine swp_skip ?_
    | refine swp_block ?_
    | refine swp_exit ?_
    | refine block_go ?_
    | refine block_exit ?_
    | refine block_far rfl ?_
    | refine block_ret ?_
    | refine then_ret ?_
    | refine then_exit ?_
    | refine for_ret ?_
    | refine for_exit ?_
    | refine ct ?_
    | refine cf ?_
    | refine swp_cond rfl (fun hc => ?_) (fun hc => ?_)
    | exact retq1 (by first | exact .inr rfl | exact .inl rfl) rfl (.cell rfl rfl (tyT rfl) (vc (vc (vc (vc (vc .nil))))) rfl .nil)
    | refine retq (by first | exact .inr rfl | exact .inl rfl) rfl (.cell rfl rfl (tyT rfl) (vc (vc (vc (vc (vc .nil))))) rfl .nil) ?_)
theorem agg_le {a b c d : T} : ∀ m v, TR m (.agg [a, b, c, d, .v (.slice none 0 0)]) v → TR m (.agg [a, b, c, d, .sl 3 []]) v := fun m v h => by
  obtain ⟨vs, rfl, hc⟩ := agg_inv h
  obtain ⟨u0, vs, rfl, h0, hc⟩ := cellsAre_inv hc
  obtain ⟨u1, vs, rfl, h1, hc⟩ := cellsAre_inv hc
  obtain ⟨u2, vs, rfl, h2, hc⟩ := cellsAre_inv hc
  obtain ⟨u3, vs, rfl, h3, hc⟩ := cellsAre_inv hc
  obtain ⟨u4, vs, rfl, h4, hc⟩ := cellsAre_inv hc
  obtain rfl := cellsAre_inv0 hc
  cases h with
  | agg _ _ _ h5 _ =>
    exact agg_bwd (cellsAre_cons h0 (h5 _ (by simp)) (cellsAre_cons h1 (h5 _ (by simp)) (cellsAre_cons h2 (h5 _ (by simp)) (cellsAre_cons h3 (h5 _ (by simp)) (cellsAre_cons (nilT 3 m _ h4) (h5 _ (by simp)) (cellsAre_nil _))))))
def req0 : Pl.Req := ⟨⟨#[]⟩, ⟨#[]⟩, ⟨#[]⟩, []⟩
theorem req_le {a b c d e : T} {f : T} : ∀ m v, TR m (.agg [a, b, c, d, e, .v (.slice none 0 0), f]) v → TR m (.agg [a, b, c, d, e, .sl 2 [], f]) v := fun m v h => by
  obtain ⟨vs, rfl, hc⟩ := agg_inv h
  obtain ⟨u0, vs, rfl, h0, hc⟩ := cellsAre_inv hc
  obtain ⟨u1, vs, rfl, h1, hc⟩ := cellsAre_inv hc
  obtain ⟨u2, vs, rfl, h2, hc⟩ := cellsAre_inv hc
  obtain ⟨u3, vs, rfl, h3, hc⟩ := cellsAre_inv hc
  obtain ⟨u4, vs, rfl, h4, hc⟩ := cellsAre_inv hc
  obtain ⟨u5, vs, rfl, h5, hc⟩ := cellsAre_inv hc
  obtain ⟨u6, vs, rfl, h6, hc⟩ := cellsAre_inv hc
  obtain rfl := cellsAre_inv0 hc
  cases h with
  | agg _ _ _ h7 _ =>
    exact agg_bwd (cellsAre_cons h0 (h7 _ (by simp)) (cellsAre_cons h1 (h7 _ (by simp)) (cellsAre_cons h2 (h7 _ (by simp)) (cellsAre_cons h3 (h7 _ (by simp)) (cellsAre_cons h4 (h7 _ (by simp)) (cellsAre_cons (nilT 2 m _ h5) (h7 _ (by simp)) (cellsAre_cons h6 (h7 _ (by simp)) (cellsAre_nil _))))))))
theorem ok_noPol : okPolicy Pl.noPol := ⟨by decide, by decide, by decide, by decide, fun y hy => by cases hy⟩
set_option maxRecDepth 100000 in
set_option maxHeartbeats 2000000 in
theorem sSays_ (l : List Pl.Policy) (hl : ∀ p ∈ l, okPolicy p) (hn : l.length ≤ 1000) (allow : Int) (a : Pl.Asker) (ha : OkAsk a) (port : Int) (q : Pl.Req) (hq : OkReq0 q) (hf : q.heads.length ≤ 1000) (tg qu : ByteArray) (bd : Value) :
    PCalls Tryz.prog 32 [.sl 5 (l.map polT), .v (.int .i64 allow), .agg (askT a), .v (.int .i64 port), .agg (reqT q tg qu bd)] (.tup [.v (.bool (Pl.judgeP (matchP a port q) (Pl.saysL l allow)).1), .v (.int .u64 (Pl.judgeP (matchP a port q) (Pl.saysL l allow)).2)]) := by
  have hm1 : (l.map polT).length = l.length := List.length_map _
  have hbd : (l.map polT).length * 64 ≤ 140737488355328 := by omega
  have hmx : (l.map polT).length ≤ maxLen := by unfold maxLen; omega
  have c1 := clonePols (l.map polT) hbd hmx
  have c2 := p_judge (Pl.saysL l allow) (fun p hp => by
    unfold Pl.saysL at hp
    split at hp
    · rcases List.mem_append.1 hp with hp | hp
      · exact hl p hp
      · simp at hp; subst hp; exact ok_noPol
    · exact hl p hp) a ha port q hq hf tg qu bd
  unfold Pl.saysL at c2 ⊢
  refine pcalls_of Tryz.func32 rfl rfl Tryz.ntmps32 rfl ?_
  by_cases h1 : allow = 1
  · rw [if_pos h1] at c2 ⊢
    rw [List.map_append] at c2
    have g1 : ((l.map polT).length + 1) * 64 ≤ 140737488355328 := by omega
    have g2 : (l.map polT).length + 1 ≤ maxLen := by unfold maxLen; omega
    repeat' (first
      | refine then_go ?_
      | refine swp_seq ?_
      | ((refine swp_region (id := 0) ?_) <;> (first | refine sops_pure (.free rfl rfl) rfl rfl (po_buildSlice rfl (tyE rfl) (.cons rfl (.le agg_le) rfl rfl (.nil _)) rfl rfl rfl) ?_ | refine sops_box (.free rfl rfl) rfl rfl rfl rfl rfl rfl ?_) <;> (first | refine sops_pure (.free rfl rfl) rfl rfl (po_buildSlice rfl (tyE rfl) (.cons rfl (.le agg_le) rfl rfl (.nil _)) rfl rfl rfl) ?_ | refine sops_box (.free rfl rfl) rfl rfl rfl rfl rfl rfl ?_) <;> (first | refine sops_pure (.free rfl rfl) rfl rfl (po_buildSlice rfl (tyE rfl) (.cons rfl (.le agg_le) rfl rfl (.nil _)) rfl rfl rfl) ?_ | refine sops_pure (.free rfl rfl) rfl rfl (po_assign rfl rfl) ?_) <;> (first | refine sops_pure (.free rfl rfl) rfl rfl (po_buildSlice rfl (tyE rfl) (.cons rfl (.le agg_le) rfl rfl (.nil _)) rfl rfl rfl) ?_ | refine sops_pure (.free rfl rfl) rfl rfl (po_assign rfl rfl) ?_) <;> (refine sops_nil ?_))
      | ((refine swp_region (id := 1) ?_) <;> (first | refine sops_pure (.free rfl rfl) rfl rfl (po_buildSlice rfl (tyE rfl) (.cons rfl (.le agg_le) rfl rfl (.nil _)) rfl rfl rfl) ?_ | refine sops_pure (.free rfl rfl) rfl rfl (po_move rfl rfl) ?_) <;> (first | refine sops_pure (.free rfl rfl) rfl rfl (po_buildSlice rfl (tyE rfl) (.cons rfl (.le agg_le) rfl rfl (.nil _)) rfl rfl rfl) ?_ | refine sops_pure (.free rfl rfl) rfl rfl (po_cmp rfl rfl rfl rfl) ?_) <;> (refine sops_nil ?_))
      | ((refine swp_region (id := 2) ?_) <;> (first | refine sops_pure (.free rfl rfl) rfl rfl (po_buildSlice rfl (tyE rfl) (.cons rfl (.le agg_le) rfl rfl (.nil _)) rfl rfl rfl) ?_ | refine sops_pure (.free rfl rfl) rfl rfl (po_move rfl rfl) ?_) <;> (first | refine sops_pure (.free rfl rfl) rfl rfl (po_buildSlice rfl (tyE rfl) (.cons rfl (.le agg_le) rfl rfl (.nil _)) rfl rfl rfl) ?_ | refine sops_lcall (c1) (fun i => i) (fun i => i) (fun _ => false) (.free rfl rfl) rfl rfl rfl (by repeat' (first | exact .nil | refine .cons rfl rfl rfl ?_ | refine .vw rfl (by first | exact .t _ | exact .own rfl (by first | rfl | assumption | (simp; done) | (simp; omega)) | exact .nil _ | exact .emp _ | exact .fn _) ?_)) .nil .nil rfl rfl (fun _ h => Bool.noConfusion h) ?_ | refine sops_pure (.free rfl rfl) rfl rfl (po_call_see (c2) rfl (.cons rfl (by first | exact .t _ | exact .own rfl (by first | rfl | assumption | omega | (simp; done) | (simp; omega) | (simp at *; omega)) | exact .nil _ | exact .emp _ | exact .fn _ | (repeat' first | exact .agn | refine .agc ?_ ?_ | exact .t _ | exact .own rfl rfl)) .nil) rfl) ?_) <;> (first | refine sops_pure (.free rfl rfl) rfl rfl (po_buildSlice rfl (tyE rfl) (.cons rfl (.le agg_le) rfl rfl (.nil _)) rfl rfl rfl) ?_ | refine sops_pure (.free rfl rfl) rfl rfl (po_buildS str50 rfl .nil rfl) ?_) <;> (first | refine sops_pure (.free rfl rfl) rfl rfl (po_buildSlice rfl (tyE rfl) (.cons rfl (.le agg_le) rfl rfl (.nil _)) rfl rfl rfl) ?_ | refine sops_pure (.free rfl rfl) rfl rfl (po_buildSlice rfl (tyE rfl) (dc (.nil _)) rfl rfl rfl) ?_) <;> (first | refine sops_pure (.free rfl rfl) rfl rfl (po_buildSlice rfl (tyE rfl) (.cons rfl (.le agg_le) rfl rfl (.nil _)) rfl rfl rfl) ?_ | refine sap rfl (tyE rfl) ?_ | refine san rfl (tyE rfl) ?_) <;> (first | refine sops_pure (.free rfl rfl) rfl rfl (po_buildSlice rfl (tyE rfl) (.cons rfl (.le agg_le) rfl rfl (.nil _)) rfl rfl rfl) ?_ | refine sops_pure (.free rfl rfl) rfl rfl (po_assign rfl rfl) ?_) <;> (refine sops_nil ?_))
      | ((refine swp_region (id := 3) ?_) <;> (first | refine sops_pure (.free rfl rfl) rfl rfl (po_buildSlice rfl (tyE rfl) (.cons rfl (.le agg_le) rfl rfl (.nil _)) rfl rfl rfl) ?_ | refine sops_pure (.free rfl rfl) rfl rfl (po_move rfl rfl) ?_) <;> (first | refine sops_pure (.free rfl rfl) rfl rfl (po_buildSlice rfl (tyE rfl) (.cons rfl (.le agg_le) rfl rfl (.nil _)) rfl rfl rfl) ?_ | refine sops_pure (.free rfl rfl) rfl rfl (po_load_bx_agg rfl rfl (tyT rfl) rfl (vc (vc (vc .nil))) rfl) ?_ | refine sops_pure (.free rfl rfl) rfl rfl (po_load_agg rfl rfl (tyT rfl) rfl rfl) ?_) <;> (first | refine sops_pure (.free rfl rfl) rfl rfl (po_buildSlice rfl (tyE rfl) (.cons rfl (.le agg_le) rfl rfl (.nil _)) rfl rfl rfl) ?_ | refine sops_pure (.free rfl rfl) rfl rfl (po_move rfl rfl) ?_) <;> (first | refine sops_pure (.free rfl rfl) rfl rfl (po_buildSlice rfl (tyE rfl) (.cons rfl (.le agg_le) rfl rfl (.nil _)) rfl rfl rfl) ?_ | refine sops_pure (.free rfl rfl) rfl rfl (po_load_bx_agg rfl rfl (tyT rfl) rfl (vc (vc (vc (vc (vc (vc (vc .nil))))))) rfl) ?_ | refine sops_pure (.free rfl rfl) rfl rfl (po_load_agg rfl rfl (tyT rfl) rfl rfl) ?_) <;> (first | refine sops_pure (.free rfl rfl) rfl rfl (po_buildSlice rfl (tyE rfl) (.cons rfl (.le agg_le) rfl rfl (.nil _)) rfl rfl rfl) ?_ | refine sops_lcall (c1) (fun i => i) (fun i => i) (fun _ => false) (.free rfl rfl) rfl rfl rfl (by repeat' (first | exact .nil | refine .cons rfl rfl rfl ?_ | refine .vw rfl (by first | exact .t _ | exact .own rfl (by first | rfl | assumption | (simp; done) | (simp; omega)) | exact .nil _ | exact .emp _ | exact .fn _) ?_)) .nil .nil rfl rfl (fun _ h => Bool.noConfusion h) ?_ | refine sops_pure (.free rfl rfl) rfl rfl (po_call_see (c2) rfl (.cons rfl (by first | exact .t _ | exact .own rfl (by first | rfl | assumption | omega | (simp; done) | (simp; omega) | (simp at *; omega)) | exact .nil _ | exact .emp _ | exact .fn _ | (repeat' first | exact .agn | refine .agc ?_ ?_ | exact .t _ | exact .own rfl rfl)) (.cons rfl (by first | exact .t _ | exact .own rfl (by first | rfl | assumption | omega | (simp; done) | (simp; omega) | (simp at *; omega)) | exact .nil _ | exact .emp _ | exact .fn _ | (repeat' first | exact .agn | refine .agc ?_ ?_ | exact .t _ | exact .own rfl rfl)) (.cons rfl (by first | exact .t _ | exact .own rfl (by first | rfl | assumption | omega | (simp; done) | (simp; omega) | (simp at *; omega)) | exact .nil _ | exact .emp _ | exact .fn _ | (repeat' first | exact .agn | refine .agc ?_ ?_ | exact .t _ | exact .own rfl rfl)) (.cons rfl (by first | exact .t _ | exact .own rfl (by first | rfl | assumption | omega | (simp; done) | (simp; omega) | (simp at *; omega)) | exact .nil _ | exact .emp _ | exact .fn _ | (repeat' first | exact .agn | refine .agc ?_ ?_ | exact .t _ | exact .own rfl rfl)) .nil)))) rfl) ?_) <;> (first | refine sops_pure (.free rfl rfl) rfl rfl (po_buildSlice rfl (tyE rfl) (.cons rfl (.le agg_le) rfl rfl (.nil _)) rfl rfl rfl) ?_ | refine sops_pure (.free rfl rfl) rfl rfl (po_extract rfl rfl rfl) ?_) <;> (first | refine sops_pure (.free rfl rfl) rfl rfl (po_buildSlice rfl (tyE rfl) (.cons rfl (.le agg_le) rfl rfl (.nil _)) rfl rfl rfl) ?_ | refine sops_pure (.free rfl rfl) rfl rfl (po_extract rfl rfl rfl) ?_) <;> (first | refine sops_pure (.free rfl rfl) rfl rfl (po_buildSlice rfl (tyE rfl) (.cons rfl (.le agg_le) rfl rfl (.nil _)) rfl rfl rfl) ?_ | refine sops_pure (.free rfl rfl) rfl rfl (po_assign rfl rfl) ?_) <;> (first | refine sops_pure (.free rfl rfl) rfl rfl (po_buildSlice rfl (tyE rfl) (.cons rfl (.le agg_le) rfl rfl (.nil _)) rfl rfl rfl) ?_ | refine sops_pure (.free rfl rfl) rfl rfl (po_assign rfl rfl) ?_) <;> (refine sops_nil ?_))
      | refine swp_ret ?_
      | refine swp_skip ?_
      | refine swp_block ?_
      | refine swp_exit ?_
      | refine block_go ?_
      | refine block_exit ?_
      | refine block_far rfl ?_
      | refine block_ret ?_
      | refine then_ret ?_
      | refine then_exit ?_
      | refine for_ret ?_
      | refine for_exit ?_
      | refine ct ?_
      | refine cf ?_
      | refine swp_cond rfl (fun hc => ?_) (fun hc => ?_)
      | refine retq (by first | exact .inr rfl | exact .inl rfl) rfl (.tmp rfl (by first | exact .t _ | exact .own rfl (by first | rfl | assumption | (simp; done) | (simp; omega)) | exact .nil _ | exact .emp _ | exact .fn _) (.tmp rfl (by first | exact .t _ | exact .own rfl (by first | rfl | assumption | (simp; done) | (simp; omega)) | exact .nil _ | exact .emp _ | exact .fn _) .nil)) ?_)
    rfl
  · rw [if_neg h1] at c2 ⊢
    repeat' (first
      | refine then_go ?_
      | refine swp_seq ?_
      | ((refine swp_region (id := 0) ?_) <;> (refine sops_box (.free rfl rfl) rfl rfl rfl rfl rfl rfl ?_) <;> (refine sops_box (.free rfl rfl) rfl rfl rfl rfl rfl rfl ?_) <;> (refine sops_pure (.free rfl rfl) rfl rfl (po_assign rfl rfl) ?_) <;> (refine sops_pure (.free rfl rfl) rfl rfl (po_assign rfl rfl) ?_) <;> (refine sops_nil ?_))
      | ((refine swp_region (id := 1) ?_) <;> (refine sops_pure (.free rfl rfl) rfl rfl (po_move rfl rfl) ?_) <;> (refine sops_pure (.free rfl rfl) rfl rfl (po_cmp rfl rfl rfl rfl) ?_) <;> (refine sops_nil ?_))
      | ((refine swp_region (id := 2) ?_) <;> (refine sops_pure (.free rfl rfl) rfl rfl (po_move rfl rfl) ?_) <;> (refine sops_pure (.free rfl rfl) rfl rfl (po_call_see (c2) rfl (.cons rfl (by first | exact .t _ | exact .own rfl (by first | rfl | assumption | omega | (simp; done) | (simp; omega) | (simp at *; omega)) | exact .nil _ | exact .emp _ | exact .fn _ | (repeat' first | exact .agn | refine .agc ?_ ?_ | exact .t _ | exact .own rfl rfl)) .nil) rfl) ?_) <;> (refine sops_pure (.free rfl rfl) rfl rfl (po_buildS str50 rfl .nil rfl) ?_) <;> (refine sops_pure (.free rfl rfl) rfl rfl (po_buildSlice rfl (tyE rfl) (dc (.nil _)) rfl rfl rfl) ?_) <;> (first | refine sap rfl (tyE rfl) ?_ | refine san rfl (tyE rfl) ?_) <;> (refine sops_pure (.free rfl rfl) rfl rfl (po_assign rfl rfl) ?_) <;> (refine sops_nil ?_))
      | ((refine swp_region (id := 3) ?_) <;> (refine sops_pure (.free rfl rfl) rfl rfl (po_move rfl rfl) ?_) <;> (first | refine sops_pure (.free rfl rfl) rfl rfl (po_load_bx_agg rfl rfl (tyT rfl) rfl (vc (vc (vc .nil))) rfl) ?_ | refine sops_pure (.free rfl rfl) rfl rfl (po_load_agg rfl rfl (tyT rfl) rfl rfl) ?_) <;> (refine sops_pure (.free rfl rfl) rfl rfl (po_move rfl rfl) ?_) <;> (first | refine sops_pure (.free rfl rfl) rfl rfl (po_load_bx_agg rfl rfl (tyT rfl) rfl (vc (vc (vc (vc (vc (vc (vc .nil))))))) rfl) ?_ | refine sops_pure (.free rfl rfl) rfl rfl (po_load_agg rfl rfl (tyT rfl) rfl rfl) ?_) <;> (refine sops_pure (.free rfl rfl) rfl rfl (po_call_see (c2) rfl (.cons rfl (by first | exact .t _ | exact .own rfl (by first | rfl | assumption | omega | (simp; done) | (simp; omega) | (simp at *; omega)) | exact .nil _ | exact .emp _ | exact .fn _ | (repeat' first | exact .agn | refine .agc ?_ ?_ | exact .t _ | exact .own rfl rfl)) (.cons rfl (by first | exact .t _ | exact .own rfl (by first | rfl | assumption | omega | (simp; done) | (simp; omega) | (simp at *; omega)) | exact .nil _ | exact .emp _ | exact .fn _ | (repeat' first | exact .agn | refine .agc ?_ ?_ | exact .t _ | exact .own rfl rfl)) (.cons rfl (by first | exact .t _ | exact .own rfl (by first | rfl | assumption | omega | (simp; done) | (simp; omega) | (simp at *; omega)) | exact .nil _ | exact .emp _ | exact .fn _ | (repeat' first | exact .agn | refine .agc ?_ ?_ | exact .t _ | exact .own rfl rfl)) (.cons rfl (by first | exact .t _ | exact .own rfl (by first | rfl | assumption | omega | (simp; done) | (simp; omega) | (simp at *; omega)) | exact .nil _ | exact .emp _ | exact .fn _ | (repeat' first | exact .agn | refine .agc ?_ ?_ | exact .t _ | exact .own rfl rfl)) .nil)))) rfl) ?_) <;> (refine sops_pure (.free rfl rfl) rfl rfl (po_extract rfl rfl rfl) ?_) <;> (refine sops_pure (.free rfl rfl) rfl rfl (po_extract rfl rfl rfl) ?_) <;> (refine sops_pure (.free rfl rfl) rfl rfl (po_assign rfl rfl) ?_) <;> (refine sops_pure (.free rfl rfl) rfl rfl (po_assign rfl rfl) ?_) <;> (refine sops_nil ?_))
      | refine swp_ret ?_
      | refine swp_skip ?_
      | refine swp_block ?_
      | refine swp_exit ?_
      | refine block_go ?_
      | refine block_exit ?_
      | refine block_far rfl ?_
      | refine block_ret ?_
      | refine then_ret ?_
      | refine then_exit ?_
      | refine for_ret ?_
      | refine for_exit ?_
      | refine ct ?_
      | refine cf ?_
      | refine swp_cond rfl (fun hc => ?_) (fun hc => ?_)
      | refine retq (by first | exact .inr rfl | exact .inl rfl) rfl (.tmp rfl (by first | exact .t _ | exact .own rfl (by first | rfl | assumption | (simp; done) | (simp; omega)) | exact .nil _ | exact .emp _ | exact .fn _) (.tmp rfl (by first | exact .t _ | exact .own rfl (by first | rfl | assumption | (simp; done) | (simp; omega)) | exact .nil _ | exact .emp _ | exact .fn _) .nil)) ?_)
    rfl
set_option maxRecDepth 100000 in
set_option maxHeartbeats 2000000 in
theorem seven_ (l : List Pl.Policy) (hl : ∀ p ∈ l, okPolicy p) (hn : l.length ≤ 1000) (allow : Int) (a : Pl.Asker) (ha : OkAsk a) (port : Int) (q : Pl.Req) (hq : OkReq0 q) (hf : q.heads.length ≤ 1000) (tg qu : ByteArray) (bd : Value) :
    PCalls Tryz.prog 11 [.agg [.sl 5 (l.map polT), .v (.int .i64 allow)], .agg (askT a), .v (.int .i64 port), .agg (reqT q tg qu bd)] (.tup [.v (.bool (Pl.judgeP (matchP a port q) (Pl.saysL l allow)).1), .v (.int .u64 (Pl.judgeP (matchP a port q) (Pl.saysL l allow)).2)]) := by
  have c1 := sSays_ l hl hn allow a ha port q hq hf tg qu bd
  refine pcalls_of Tryz.func11 rfl rfl Tryz.ntmps11 rfl ?_
  repeat' (first
    | refine then_go ?_
    | refine swp_seq ?_
    | ((refine swp_region (id := 0) ?_) <;> (refine sops_box (.free rfl rfl) rfl rfl rfl rfl rfl rfl ?_) <;> (refine sops_box (.free rfl rfl) rfl rfl rfl rfl rfl rfl ?_) <;> (refine sops_box (.free rfl rfl) rfl rfl rfl rfl rfl rfl ?_) <;> (refine sops_pure (.free rfl rfl) rfl rfl (po_assign rfl rfl) ?_) <;> (refine sops_pure (.free rfl rfl) rfl rfl (po_assign rfl rfl) ?_) <;> (refine sops_nil ?_))
    | ((refine swp_region (id := 1) ?_) <;> (first | refine sops_pure (.free rfl rfl) rfl rfl (po_field_bx rfl rfl (tyF rfl)) ?_ | refine sops_pure (.free rfl rfl) rfl rfl (po_field rfl rfl (tyF rfl)) ?_) <;> (first | refine sops_pure (.free rfl rfl) rfl rfl (po_load_bx rfl rfl (tyT rfl) rfl rfl) ?_ | refine sops_pure (.free rfl rfl) rfl rfl (po_load rfl rfl (tyT rfl) rfl) ?_) <;> (first | refine sops_pure (.free rfl rfl) rfl rfl (po_field_bx rfl rfl (tyF rfl)) ?_ | refine sops_pure (.free rfl rfl) rfl rfl (po_field rfl rfl (tyF rfl)) ?_) <;> (first | refine sops_pure (.free rfl rfl) rfl rfl (po_load_bx rfl rfl (tyT rfl) rfl rfl) ?_ | refine sops_pure (.free rfl rfl) rfl rfl (po_load rfl rfl (tyT rfl) rfl) ?_) <;> (first | refine sops_pure (.free rfl rfl) rfl rfl (po_load_bx_agg rfl rfl (tyT rfl) rfl (vc (vc (vc .nil))) rfl) ?_ | refine sops_pure (.free rfl rfl) rfl rfl (po_load_agg rfl rfl (tyT rfl) rfl rfl) ?_) <;> (refine sops_pure (.free rfl rfl) rfl rfl (po_move rfl rfl) ?_) <;> (first | refine sops_pure (.free rfl rfl) rfl rfl (po_load_bx_agg rfl rfl (tyT rfl) rfl (vc (vc (vc (vc (vc (vc (vc .nil))))))) rfl) ?_ | refine sops_pure (.free rfl rfl) rfl rfl (po_load_agg rfl rfl (tyT rfl) rfl rfl) ?_) <;> (refine sops_pure (.free rfl rfl) rfl rfl (po_call (c1) rfl (ac (ac (ac (ac (ac .nil)))))) ?_) <;> (refine sops_pure (.free rfl rfl) rfl rfl (po_extract rfl rfl rfl) ?_) <;> (refine sops_pure (.free rfl rfl) rfl rfl (po_extract rfl rfl rfl) ?_) <;> (refine sops_pure (.free rfl rfl) rfl rfl (po_assign rfl rfl) ?_) <;> (refine sops_pure (.free rfl rfl) rfl rfl (po_assign rfl rfl) ?_) <;> (refine sops_nil ?_))
    | refine swp_ret ?_
    | refine swp_skip ?_
    | refine swp_block ?_
    | refine swp_exit ?_
    | refine block_go ?_
    | refine block_exit ?_
    | refine block_far rfl ?_
    | refine block_ret ?_
    | refine then_ret ?_
    | refine then_exit ?_
    | refine for_ret ?_
    | refine for_exit ?_
    | refine ct ?_
    | refine cf ?_
    | refine swp_cond rfl (fun hc => ?_) (fun hc => ?_)
    | refine retq (by first | exact .inr rfl | exact .inl rfl) rfl (.tmp rfl (by first | exact .t _ | exact .own rfl (by first | rfl | assumption | (simp; done) | (simp; omega)) | exact .nil _ | exact .emp _ | exact .fn _) (.tmp rfl (by first | exact .t _ | exact .own rfl (by first | rfl | assumption | (simp; done) | (simp; omega)) | exact .nil _ | exact .emp _ | exact .fn _) .nil)) ?_)
  rfl
theorem ok_four4 {p : Pl.Policy} (h : okPolicy p) : okPolicy (Pl.four4 p) := ⟨h.1, h.2.1, h.2.2.1, h.2.2.2.1, fun r hr => by
  obtain ⟨r0, h0, rfl⟩ := List.mem_map.1 hr
  obtain ⟨h1, h2, h3⟩ := h.2.2.2.2 r0 h0
  refine ⟨h1, fun t ht => ?_, fun w hw => by cases hw⟩
  obtain ⟨t0, h4, rfl⟩ := List.mem_map.1 ht
  exact ⟨(h2 t0 h4).1, (fun y hy => by cases hy), (fun y hy => by cases hy), (fun y hy => by cases hy)⟩⟩
theorem okReq0_0 : OkReq0 req0 := ⟨by decide, by decide, by decide, fun h hh => by cases hh⟩
set_option maxRecDepth 100000 in
set_option maxHeartbeats 2000000 in
theorem fourS_ (l : List Pl.Policy) (hl : ∀ p ∈ l, okPolicy p) (hf : ∀ p ∈ l, FewP p) (hn : l.length ≤ 1000) (allow : Int) (a : Pl.Asker) (ha : OkAsk a) (port : Int) :
    PCalls Tryz.prog 9 [.agg [.sl 5 (l.map polT), .v (.int .i64 allow)], .agg (askT a), .v (.int .i64 port)] (.tup [.v (.bool (Pl.judgeP (matchP a port req0) (Pl.saysL (l.map Pl.four4) allow)).1), .v (.int .u64 (Pl.judgeP (matchP a port req0) (Pl.saysL (l.map Pl.four4) allow)).2)]) := by
  have c1 := mapSPolicy Pl.four4 30 [] l (fun p hp => four1_ p (hf p hp)) hn
  have c2 := sSays_ (l.map Pl.four4) (fun p hp => by obtain ⟨p0, h0, rfl⟩ := List.mem_map.1 hp; exact ok_four4 (hl p0 h0)) (by rw [List.length_map]; exact hn) allow a ha port req0 okReq0_0 (by decide) ⟨#[]⟩ ⟨#[]⟩ (.slice none 0 0)
  refine pcalls_of Tryz.func9 rfl rfl Tryz.ntmps9 rfl ?_
  repeat' (first
    | refine then_go ?_
    | refine swp_seq ?_
    | ((refine swp_region (id := 0) ?_) <;> (first | refine sops_pure (.free rfl rfl) rfl rfl (po_call (c2) rfl (.cons rfl (.t _) (.cons rfl (.t _) (.cons rfl (.t _) (.cons rfl (.t _) (.cons rfl (.le req_le) .nil)))))) ?_ | refine sops_box (.free rfl rfl) rfl rfl rfl rfl rfl rfl ?_) <;> (first | refine sops_pure (.free rfl rfl) rfl rfl (po_call (c2) rfl (.cons rfl (.t _) (.cons rfl (.t _) (.cons rfl (.t _) (.cons rfl (.t _) (.cons rfl (.le req_le) .nil)))))) ?_ | refine sops_box (.free rfl rfl) rfl rfl rfl rfl rfl rfl ?_) <;> (first | refine sops_pure (.free rfl rfl) rfl rfl (po_call (c2) rfl (.cons rfl (.t _) (.cons rfl (.t _) (.cons rfl (.t _) (.cons rfl (.t _) (.cons rfl (.le req_le) .nil)))))) ?_ | refine sops_pure (.free rfl rfl) rfl rfl (po_assign rfl rfl) ?_) <;> (first | refine sops_pure (.free rfl rfl) rfl rfl (po_call (c2) rfl (.cons rfl (.t _) (.cons rfl (.t _) (.cons rfl (.t _) (.cons rfl (.t _) (.cons rfl (.le req_le) .nil)))))) ?_ | refine sops_pure (.free rfl rfl) rfl rfl (po_assign rfl rfl) ?_) <;> (refine sops_nil ?_))
    | ((refine swp_region (id := 1) ?_) <;> (first | refine sops_pure (.free rfl rfl) rfl rfl (po_call (c2) rfl (.cons rfl (.t _) (.cons rfl (.t _) (.cons rfl (.t _) (.cons rfl (.t _) (.cons rfl (.le req_le) .nil)))))) ?_ | refine sops_pure (.free rfl rfl) rfl rfl (po_field_bx rfl rfl (tyF rfl)) ?_ | refine sops_pure (.free rfl rfl) rfl rfl (po_field rfl rfl (tyF rfl)) ?_) <;> (first | refine sops_pure (.free rfl rfl) rfl rfl (po_call (c2) rfl (.cons rfl (.t _) (.cons rfl (.t _) (.cons rfl (.t _) (.cons rfl (.t _) (.cons rfl (.le req_le) .nil)))))) ?_ | refine sops_pure (.free rfl rfl) rfl rfl (po_load_bx rfl rfl (tyT rfl) rfl rfl) ?_ | refine sops_pure (.free rfl rfl) rfl rfl (po_load rfl rfl (tyT rfl) rfl) ?_) <;> (first | refine sops_pure (.free rfl rfl) rfl rfl (po_call (c2) rfl (.cons rfl (.t _) (.cons rfl (.t _) (.cons rfl (.t _) (.cons rfl (.t _) (.cons rfl (.le req_le) .nil)))))) ?_ | refine sops_pure (.free rfl rfl) rfl rfl (po_call (c1) rfl (ac (ac .nil))) ?_) <;> (first | refine sops_pure (.free rfl rfl) rfl rfl (po_call (c2) rfl (.cons rfl (.t _) (.cons rfl (.t _) (.cons rfl (.t _) (.cons rfl (.t _) (.cons rfl (.le req_le) .nil)))))) ?_ | refine sops_pure (.free rfl rfl) rfl rfl (po_assign rfl rfl) ?_) <;> (refine sops_nil ?_))
    | ((refine swp_region (id := 2) ?_) <;> (first | refine sops_pure (.free rfl rfl) rfl rfl (po_call (c2) rfl (.cons rfl (.t _) (.cons rfl (.t _) (.cons rfl (.t _) (.cons rfl (.t _) (.cons rfl (.le req_le) .nil)))))) ?_ | refine sops_pure (.free rfl rfl) rfl rfl (po_move rfl rfl) ?_) <;> (first | refine sops_pure (.free rfl rfl) rfl rfl (po_call (c2) rfl (.cons rfl (.t _) (.cons rfl (.t _) (.cons rfl (.t _) (.cons rfl (.t _) (.cons rfl (.le req_le) .nil)))))) ?_ | refine sops_pure (.free rfl rfl) rfl rfl (po_field_bx rfl rfl (tyF rfl)) ?_ | refine sops_pure (.free rfl rfl) rfl rfl (po_field rfl rfl (tyF rfl)) ?_) <;> (first | refine sops_pure (.free rfl rfl) rfl rfl (po_call (c2) rfl (.cons rfl (.t _) (.cons rfl (.t _) (.cons rfl (.t _) (.cons rfl (.t _) (.cons rfl (.le req_le) .nil)))))) ?_ | refine sops_pure (.free rfl rfl) rfl rfl (po_load_bx rfl rfl (tyT rfl) rfl rfl) ?_ | refine sops_pure (.free rfl rfl) rfl rfl (po_load rfl rfl (tyT rfl) rfl) ?_) <;> (first | refine sops_pure (.free rfl rfl) rfl rfl (po_call (c2) rfl (.cons rfl (.t _) (.cons rfl (.t _) (.cons rfl (.t _) (.cons rfl (.t _) (.cons rfl (.le req_le) .nil)))))) ?_ | refine sops_pure (.free rfl rfl) rfl rfl (po_load_bx_agg rfl rfl (tyT rfl) rfl (vc (vc (vc .nil))) rfl) ?_ | refine sops_pure (.free rfl rfl) rfl rfl (po_load_agg rfl rfl (tyT rfl) rfl rfl) ?_) <;> (first | refine sops_pure (.free rfl rfl) rfl rfl (po_call (c2) rfl (.cons rfl (.t _) (.cons rfl (.t _) (.cons rfl (.t _) (.cons rfl (.t _) (.cons rfl (.le req_le) .nil)))))) ?_ | refine sops_pure (.free rfl rfl) rfl rfl (po_move rfl rfl) ?_) <;> (first | refine sops_pure (.free rfl rfl) rfl rfl (po_call (c2) rfl (.cons rfl (.t _) (.cons rfl (.t _) (.cons rfl (.t _) (.cons rfl (.t _) (.cons rfl (.le req_le) .nil)))))) ?_ | refine sops_pure (.free rfl rfl) rfl rfl (po_buildS str33 rfl .nil rfl) ?_) <;> (first | refine sops_pure (.free rfl rfl) rfl rfl (po_call (c2) rfl (.cons rfl (.t _) (.cons rfl (.t _) (.cons rfl (.t _) (.cons rfl (.t _) (.cons rfl (.le req_le) .nil)))))) ?_ | refine sops_pure (.free rfl rfl) rfl rfl (po_call (c1) rfl (ac (ac (ac (ac (ac .nil)))))) ?_) <;> (first | refine sops_pure (.free rfl rfl) rfl rfl (po_call (c2) rfl (.cons rfl (.t _) (.cons rfl (.t _) (.cons rfl (.t _) (.cons rfl (.t _) (.cons rfl (.le req_le) .nil)))))) ?_ | refine sops_pure (.free rfl rfl) rfl rfl (po_extract rfl rfl rfl) ?_) <;> (first | refine sops_pure (.free rfl rfl) rfl rfl (po_call (c2) rfl (.cons rfl (.t _) (.cons rfl (.t _) (.cons rfl (.t _) (.cons rfl (.t _) (.cons rfl (.le req_le) .nil)))))) ?_ | refine sops_pure (.free rfl rfl) rfl rfl (po_extract rfl rfl rfl) ?_) <;> (first | refine sops_pure (.free rfl rfl) rfl rfl (po_call (c2) rfl (.cons rfl (.t _) (.cons rfl (.t _) (.cons rfl (.t _) (.cons rfl (.t _) (.cons rfl (.le req_le) .nil)))))) ?_ | refine sops_pure (.free rfl rfl) rfl rfl (po_assign rfl rfl) ?_) <;> (first | refine sops_pure (.free rfl rfl) rfl rfl (po_call (c2) rfl (.cons rfl (.t _) (.cons rfl (.t _) (.cons rfl (.t _) (.cons rfl (.t _) (.cons rfl (.le req_le) .nil)))))) ?_ | refine sops_pure (.free rfl rfl) rfl rfl (po_assign rfl rfl) ?_) <;> (refine sops_nil ?_))
    | refine swp_ret ?_
    | refine swp_skip ?_
    | refine swp_block ?_
    | refine swp_exit ?_
    | refine block_go ?_
    | refine block_exit ?_
    | refine block_far rfl ?_
    | refine block_ret ?_
    | refine then_ret ?_
    | refine then_exit ?_
    | refine for_ret ?_
    | refine for_exit ?_
    | refine ct ?_
    | refine cf ?_
    | refine swp_cond rfl (fun hc => ?_) (fun hc => ?_)
    | refine retq (by first | exact .inr rfl | exact .inl rfl) rfl (.tmp rfl (by first | exact .t _ | exact .own rfl (by first | rfl | assumption | (simp; done) | (simp; omega)) | exact .nil _ | exact .emp _ | exact .fn _) (.tmp rfl (by first | exact .t _ | exact .own rfl (by first | rfl | assumption | (simp; done) | (simp; omega)) | exact .nil _ | exact .emp _ | exact .fn _) .nil)) ?_)
  rfl
end Go.Proofs.YtlcecabfmemfeaaGreat.Pol

/- The chapter's examples, by the logic of states. -/
namespace Go.Proofs.YtlcecabfmemfeaaGreat.Pol
set_option linter.unusedVariables false
set_option linter.unusedSimpArgs false
open Go.RowKit Mem Sim Opn WAddr WName WMatch WAuth
inductive LeL : List T → List T → Prop
  | nil : LeL [] []
  | cons {a b : T} {as_ bs : List T} (h : ∀ m v, TR m a v → TR m b v) (hl : LeL as_ bs) : LeL (a :: as_) (b :: bs)
theorem le_refl (a : T) : ∀ m v, TR m a v → TR m a v := fun _ _ h => h
theorem LeL.at {cs ds : List T} (h : LeL cs ds) : cs.length = ds.length ∧ ∀ (j : Nat) a b m v, cs[j]? = some a → ds[j]? = some b → TR m a v → TR m b v := by
  induction h with
  | nil => exact ⟨rfl, fun j a b m v h => by simp at h⟩
  | cons h hl ih =>
    refine ⟨by simp [ih.1], fun j a b m v h1 h2 h3 => ?_⟩
    cases j with
    | zero => simp at h1 h2; subst h1 h2; exact h m v h3
    | succ j => exact ih.2 j a b m v (by simpa using h1) (by simpa using h2) h3
theorem aggLe {cs ds : List T} (h : LeL cs ds) : ∀ m v, TR m (.agg cs) v → TR m (.agg ds) v := fun m v hv => by
  obtain ⟨hl, ha⟩ := h.at
  cases hv with
  | agg _ vs h1 h2 h3 =>
    refine .agg ds vs (by omega) h2 fun j t v h4 h5 => ?_
    have hlt : j < cs.length := by rw [hl]; exact (List.getElem?_eq_some_iff.1 h4).1
    exact ha j _ t m v (List.getElem?_eq_getElem hlt) h4 (h3 j _ v (List.getElem?_eq_getElem hlt) h5)
def sGET : ByteArray := ⟨#[71, 69, 84]⟩
def sA : ByteArray := ⟨#[47, 97]⟩
def sB : ByteArray := ⟨#[47, 98]⟩
def exPols : List Pl.Policy := [⟨1, ⟨#[]⟩, 0, 0, [⟨[], [⟨[80], [⟨1, sGET⟩], [], []⟩], []⟩]⟩, ⟨2, ⟨#[]⟩, 0, 1, [⟨[], [⟨[], [], [⟨2, sA⟩], []⟩], []⟩]⟩]
set_option maxRecDepth 100000 in
set_option maxHeartbeats 1000000 in
theorem term14 (k : Int) (s : ByteArray) : PCalls Tryz.prog 52 [.v (.int .i64 k), .v (.string s)] (.sl 2 [[.v (.int .i64 k), .v (.string s)]]) := by
  refine pcalls_of Tryz.func52 rfl rfl Tryz.ntmps52 rfl ?_
  repeat' (first
    | refine then_go ?_
    | refine swp_seq ?_
    | ((refine swp_region (id := 0) ?_) <;> (refine sops_pure (.free rfl rfl) rfl rfl (po_assign rfl rfl) ?_) <;> (refine sops_nil ?_))
    | ((refine swp_region (id := 1) ?_) <;> (refine sops_pure (.free rfl rfl) rfl rfl (po_move rfl rfl) ?_) <;> (refine sops_pure (.free rfl rfl) rfl rfl (po_move rfl rfl) ?_) <;> (refine sops_pure (.free rfl rfl) rfl rfl (po_buildS str90 rfl (pc (pc .nil)) rfl) ?_) <;> (refine sops_pure (.free rfl rfl) rfl rfl (po_buildSlice rfl (tyE rfl) (dc (.nil _)) rfl rfl rfl) ?_) <;> (refine sops_pure (.free rfl rfl) rfl rfl (po_assign rfl rfl) ?_) <;> (refine sops_nil ?_))
    | refine swp_ret ?_
    | refine swp_skip ?_
    | refine swp_block ?_
    | refine swp_exit ?_
    | refine block_go ?_
    | refine block_exit ?_
    | refine block_far rfl ?_
    | refine block_ret ?_
    | refine then_ret ?_
    | refine then_exit ?_
    | refine for_ret ?_
    | refine for_exit ?_
    | refine ct ?_
    | refine cf ?_
    | refine swp_cond rfl (fun hc => ?_) (fun hc => ?_)
    | exact retq1 (by first | exact .inr rfl | exact .inl rfl) rfl (.tmp rfl (by first | exact .t _ | exact .own rfl (by first | rfl | assumption | (simp; done) | (simp; omega)) | exact .nil _ | exact .emp _ | exact .fn _) .nil)
    | refine retq (by first | exact .inr rfl | exact .inl rfl) rfl (.tmp rfl (by first | exact .t _ | exact .own rfl (by first | rfl | assumption | (simp; done) | (simp; omega)) | exact .nil _ | exact .emp _ | exact .fn _) .nil) ?_)
set_option maxRecDepth 100000 in
set_option maxHeartbeats 1000000 in
theorem example14 : PCalls Tryz.prog 28 [] (.sl 5 (exPols.map polT)) := by
  have c1 := term14 1 sGET
  have c2 := term14 2 sA
  refine pcalls_of Tryz.func28 rfl rfl Tryz.ntmps28 rfl ?_
  repeat' (first
    | refine then_go ?_
    | refine swp_seq ?_
    | ((refine swp_region (id := 0) ?_) <;> (first | refine sops_pure (.free rfl rfl) rfl rfl (po_buildSlice rfl (tyE rfl) (.cons rfl (.le (aggLe (.cons (le_refl (.sl 1 _)) (.cons (le_refl (.sl 2 _)) (.cons (nilT 2) (.cons (nilT 2) .nil)))))) rfl rfl (.nil _)) rfl rfl rfl) ?_ | refine sops_pure (.free rfl rfl) rfl rfl (po_buildSlice rfl (tyE rfl) (.cons rfl (.le (aggLe (.cons (nilT 1) (.cons (nilT 2) (.cons (le_refl (.sl 2 _)) (.cons (nilT 2) .nil)))))) rfl rfl (.nil _)) rfl rfl rfl) ?_ | refine sops_pure (.free rfl rfl) rfl rfl (po_buildSlice rfl (tyE rfl) (.cons rfl (.le (aggLe (.cons (nilT 3) (.cons (le_refl (.sl 4 _)) (.cons (nilT 2) .nil))))) rfl rfl (.nil _)) rfl rfl rfl) ?_ | refine sops_pure (.free rfl rfl) rfl rfl (po_assign rfl rfl) ?_) <;> (refine sops_nil ?_))
    | ((refine swp_region (id := 1) ?_) <;> (first | refine sops_pure (.free rfl rfl) rfl rfl (po_buildSlice rfl (tyE rfl) (.cons rfl (.le (aggLe (.cons (le_refl (.sl 1 _)) (.cons (le_refl (.sl 2 _)) (.cons (nilT 2) (.cons (nilT 2) .nil)))))) rfl rfl (.nil _)) rfl rfl rfl) ?_ | refine sops_pure (.free rfl rfl) rfl rfl (po_buildSlice rfl (tyE rfl) (.cons rfl (.le (aggLe (.cons (nilT 1) (.cons (nilT 2) (.cons (le_refl (.sl 2 _)) (.cons (nilT 2) .nil)))))) rfl rfl (.nil _)) rfl rfl rfl) ?_ | refine sops_pure (.free rfl rfl) rfl rfl (po_buildSlice rfl (tyE rfl) (.cons rfl (.le (aggLe (.cons (nilT 3) (.cons (le_refl (.sl 4 _)) (.cons (nilT 2) .nil))))) rfl rfl (.nil _)) rfl rfl rfl) ?_ | refine sops_pure (.free rfl rfl) rfl rfl (po_buildSlice rfl (tyE rfl) (dc (.nil _)) rfl rfl rfl) ?_) <;> (first | refine sops_pure (.free rfl rfl) rfl rfl (po_buildSlice rfl (tyE rfl) (.cons rfl (.le (aggLe (.cons (le_refl (.sl 1 _)) (.cons (le_refl (.sl 2 _)) (.cons (nilT 2) (.cons (nilT 2) .nil)))))) rfl rfl (.nil _)) rfl rfl rfl) ?_ | refine sops_pure (.free rfl rfl) rfl rfl (po_buildSlice rfl (tyE rfl) (.cons rfl (.le (aggLe (.cons (nilT 1) (.cons (nilT 2) (.cons (le_refl (.sl 2 _)) (.cons (nilT 2) .nil)))))) rfl rfl (.nil _)) rfl rfl rfl) ?_ | refine sops_pure (.free rfl rfl) rfl rfl (po_buildSlice rfl (tyE rfl) (.cons rfl (.le (aggLe (.cons (nilT 3) (.cons (le_refl (.sl 4 _)) (.cons (nilT 2) .nil))))) rfl rfl (.nil _)) rfl rfl rfl) ?_ | refine sops_pure (.free rfl rfl) rfl rfl (po_call (c1) rfl (ac (ac .nil))) ?_ | refine sops_pure (.free rfl rfl) rfl rfl (po_call (c2) rfl (ac (ac .nil))) ?_) <;> (first | refine sops_pure (.free rfl rfl) rfl rfl (po_buildSlice rfl (tyE rfl) (.cons rfl (.le (aggLe (.cons (le_refl (.sl 1 _)) (.cons (le_refl (.sl 2 _)) (.cons (nilT 2) (.cons (nilT 2) .nil)))))) rfl rfl (.nil _)) rfl rfl rfl) ?_ | refine sops_pure (.free rfl rfl) rfl rfl (po_buildSlice rfl (tyE rfl) (.cons rfl (.le (aggLe (.cons (nilT 1) (.cons (nilT 2) (.cons (le_refl (.sl 2 _)) (.cons (nilT 2) .nil)))))) rfl rfl (.nil _)) rfl rfl rfl) ?_ | refine sops_pure (.free rfl rfl) rfl rfl (po_buildSlice rfl (tyE rfl) (.cons rfl (.le (aggLe (.cons (nilT 3) (.cons (le_refl (.sl 4 _)) (.cons (nilT 2) .nil))))) rfl rfl (.nil _)) rfl rfl rfl) ?_ | refine sops_pure (.free rfl rfl) rfl rfl (po_buildS str80 rfl (pc (pc .nil)) rfl) ?_) <;> (first | refine sops_pure (.free rfl rfl) rfl rfl (po_buildSlice rfl (tyE rfl) (.cons rfl (.le (aggLe (.cons (le_refl (.sl 1 _)) (.cons (le_refl (.sl 2 _)) (.cons (nilT 2) (.cons (nilT 2) .nil)))))) rfl rfl (.nil _)) rfl rfl rfl) ?_ | refine sops_pure (.free rfl rfl) rfl rfl (po_buildSlice rfl (tyE rfl) (.cons rfl (.le (aggLe (.cons (nilT 1) (.cons (nilT 2) (.cons (le_refl (.sl 2 _)) (.cons (nilT 2) .nil)))))) rfl rfl (.nil _)) rfl rfl rfl) ?_ | refine sops_pure (.free rfl rfl) rfl rfl (po_buildSlice rfl (tyE rfl) (.cons rfl (.le (aggLe (.cons (nilT 3) (.cons (le_refl (.sl 4 _)) (.cons (nilT 2) .nil))))) rfl rfl (.nil _)) rfl rfl rfl) ?_ | refine sops_pure (.free rfl rfl) rfl rfl (po_buildSlice rfl (tyE rfl) (dc (.nil _)) rfl rfl rfl) ?_) <;> (first | refine sops_pure (.free rfl rfl) rfl rfl (po_buildSlice rfl (tyE rfl) (.cons rfl (.le (aggLe (.cons (le_refl (.sl 1 _)) (.cons (le_refl (.sl 2 _)) (.cons (nilT 2) (.cons (nilT 2) .nil)))))) rfl rfl (.nil _)) rfl rfl rfl) ?_ | refine sops_pure (.free rfl rfl) rfl rfl (po_buildSlice rfl (tyE rfl) (.cons rfl (.le (aggLe (.cons (nilT 1) (.cons (nilT 2) (.cons (le_refl (.sl 2 _)) (.cons (nilT 2) .nil)))))) rfl rfl (.nil _)) rfl rfl rfl) ?_ | refine sops_pure (.free rfl rfl) rfl rfl (po_buildSlice rfl (tyE rfl) (.cons rfl (.le (aggLe (.cons (nilT 3) (.cons (le_refl (.sl 4 _)) (.cons (nilT 2) .nil))))) rfl rfl (.nil _)) rfl rfl rfl) ?_ | refine sops_pure (.free rfl rfl) rfl rfl (po_buildS str46 rfl (pc .nil) rfl) ?_) <;> (first | refine sops_pure (.free rfl rfl) rfl rfl (po_buildSlice rfl (tyE rfl) (.cons rfl (.le (aggLe (.cons (le_refl (.sl 1 _)) (.cons (le_refl (.sl 2 _)) (.cons (nilT 2) (.cons (nilT 2) .nil)))))) rfl rfl (.nil _)) rfl rfl rfl) ?_ | refine sops_pure (.free rfl rfl) rfl rfl (po_buildSlice rfl (tyE rfl) (.cons rfl (.le (aggLe (.cons (nilT 1) (.cons (nilT 2) (.cons (le_refl (.sl 2 _)) (.cons (nilT 2) .nil)))))) rfl rfl (.nil _)) rfl rfl rfl) ?_ | refine sops_pure (.free rfl rfl) rfl rfl (po_buildSlice rfl (tyE rfl) (.cons rfl (.le (aggLe (.cons (nilT 3) (.cons (le_refl (.sl 4 _)) (.cons (nilT 2) .nil))))) rfl rfl (.nil _)) rfl rfl rfl) ?_ | refine sops_pure (.free rfl rfl) rfl rfl (po_buildSlice rfl (tyE rfl) (dc (.nil _)) rfl rfl rfl) ?_) <;> (first | refine sops_pure (.free rfl rfl) rfl rfl (po_buildSlice rfl (tyE rfl) (.cons rfl (.le (aggLe (.cons (le_refl (.sl 1 _)) (.cons (le_refl (.sl 2 _)) (.cons (nilT 2) (.cons (nilT 2) .nil)))))) rfl rfl (.nil _)) rfl rfl rfl) ?_ | refine sops_pure (.free rfl rfl) rfl rfl (po_buildSlice rfl (tyE rfl) (.cons rfl (.le (aggLe (.cons (nilT 1) (.cons (nilT 2) (.cons (le_refl (.sl 2 _)) (.cons (nilT 2) .nil)))))) rfl rfl (.nil _)) rfl rfl rfl) ?_ | refine sops_pure (.free rfl rfl) rfl rfl (po_buildSlice rfl (tyE rfl) (.cons rfl (.le (aggLe (.cons (nilT 3) (.cons (le_refl (.sl 4 _)) (.cons (nilT 2) .nil))))) rfl rfl (.nil _)) rfl rfl rfl) ?_ | refine sops_pure (.free rfl rfl) rfl rfl (po_buildS str50 rfl (pc (pc .nil)) rfl) ?_) <;> (first | refine sops_pure (.free rfl rfl) rfl rfl (po_buildSlice rfl (tyE rfl) (.cons rfl (.le (aggLe (.cons (le_refl (.sl 1 _)) (.cons (le_refl (.sl 2 _)) (.cons (nilT 2) (.cons (nilT 2) .nil)))))) rfl rfl (.nil _)) rfl rfl rfl) ?_ | refine sops_pure (.free rfl rfl) rfl rfl (po_buildSlice rfl (tyE rfl) (.cons rfl (.le (aggLe (.cons (nilT 1) (.cons (nilT 2) (.cons (le_refl (.sl 2 _)) (.cons (nilT 2) .nil)))))) rfl rfl (.nil _)) rfl rfl rfl) ?_ | refine sops_pure (.free rfl rfl) rfl rfl (po_buildSlice rfl (tyE rfl) (.cons rfl (.le (aggLe (.cons (nilT 3) (.cons (le_refl (.sl 4 _)) (.cons (nilT 2) .nil))))) rfl rfl (.nil _)) rfl rfl rfl) ?_ | refine sops_pure (.free rfl rfl) rfl rfl (po_call (c1) rfl (ac (ac .nil))) ?_ | refine sops_pure (.free rfl rfl) rfl rfl (po_call (c2) rfl (ac (ac .nil))) ?_) <;> (first | refine sops_pure (.free rfl rfl) rfl rfl (po_buildSlice rfl (tyE rfl) (.cons rfl (.le (aggLe (.cons (le_refl (.sl 1 _)) (.cons (le_refl (.sl 2 _)) (.cons (nilT 2) (.cons (nilT 2) .nil)))))) rfl rfl (.nil _)) rfl rfl rfl) ?_ | refine sops_pure (.free rfl rfl) rfl rfl (po_buildSlice rfl (tyE rfl) (.cons rfl (.le (aggLe (.cons (nilT 1) (.cons (nilT 2) (.cons (le_refl (.sl 2 _)) (.cons (nilT 2) .nil)))))) rfl rfl (.nil _)) rfl rfl rfl) ?_ | refine sops_pure (.free rfl rfl) rfl rfl (po_buildSlice rfl (tyE rfl) (.cons rfl (.le (aggLe (.cons (nilT 3) (.cons (le_refl (.sl 4 _)) (.cons (nilT 2) .nil))))) rfl rfl (.nil _)) rfl rfl rfl) ?_ | refine sops_pure (.free rfl rfl) rfl rfl (po_buildS str80 rfl (pc .nil) rfl) ?_) <;> (first | refine sops_pure (.free rfl rfl) rfl rfl (po_buildSlice rfl (tyE rfl) (.cons rfl (.le (aggLe (.cons (le_refl (.sl 1 _)) (.cons (le_refl (.sl 2 _)) (.cons (nilT 2) (.cons (nilT 2) .nil)))))) rfl rfl (.nil _)) rfl rfl rfl) ?_ | refine sops_pure (.free rfl rfl) rfl rfl (po_buildSlice rfl (tyE rfl) (.cons rfl (.le (aggLe (.cons (nilT 1) (.cons (nilT 2) (.cons (le_refl (.sl 2 _)) (.cons (nilT 2) .nil)))))) rfl rfl (.nil _)) rfl rfl rfl) ?_ | refine sops_pure (.free rfl rfl) rfl rfl (po_buildSlice rfl (tyE rfl) (.cons rfl (.le (aggLe (.cons (nilT 3) (.cons (le_refl (.sl 4 _)) (.cons (nilT 2) .nil))))) rfl rfl (.nil _)) rfl rfl rfl) ?_ | refine sops_pure (.free rfl rfl) rfl rfl (po_buildSlice rfl (tyE rfl) (dc (.nil _)) rfl rfl rfl) ?_) <;> (first | refine sops_pure (.free rfl rfl) rfl rfl (po_buildSlice rfl (tyE rfl) (.cons rfl (.le (aggLe (.cons (le_refl (.sl 1 _)) (.cons (le_refl (.sl 2 _)) (.cons (nilT 2) (.cons (nilT 2) .nil)))))) rfl rfl (.nil _)) rfl rfl rfl) ?_ | refine sops_pure (.free rfl rfl) rfl rfl (po_buildSlice rfl (tyE rfl) (.cons rfl (.le (aggLe (.cons (nilT 1) (.cons (nilT 2) (.cons (le_refl (.sl 2 _)) (.cons (nilT 2) .nil)))))) rfl rfl (.nil _)) rfl rfl rfl) ?_ | refine sops_pure (.free rfl rfl) rfl rfl (po_buildSlice rfl (tyE rfl) (.cons rfl (.le (aggLe (.cons (nilT 3) (.cons (le_refl (.sl 4 _)) (.cons (nilT 2) .nil))))) rfl rfl (.nil _)) rfl rfl rfl) ?_ | refine sops_pure (.free rfl rfl) rfl rfl (po_buildS str46 rfl (pc .nil) rfl) ?_) <;> (first | refine sops_pure (.free rfl rfl) rfl rfl (po_buildSlice rfl (tyE rfl) (.cons rfl (.le (aggLe (.cons (le_refl (.sl 1 _)) (.cons (le_refl (.sl 2 _)) (.cons (nilT 2) (.cons (nilT 2) .nil)))))) rfl rfl (.nil _)) rfl rfl rfl) ?_ | refine sops_pure (.free rfl rfl) rfl rfl (po_buildSlice rfl (tyE rfl) (.cons rfl (.le (aggLe (.cons (nilT 1) (.cons (nilT 2) (.cons (le_refl (.sl 2 _)) (.cons (nilT 2) .nil)))))) rfl rfl (.nil _)) rfl rfl rfl) ?_ | refine sops_pure (.free rfl rfl) rfl rfl (po_buildSlice rfl (tyE rfl) (.cons rfl (.le (aggLe (.cons (nilT 3) (.cons (le_refl (.sl 4 _)) (.cons (nilT 2) .nil))))) rfl rfl (.nil _)) rfl rfl rfl) ?_ | refine sops_pure (.free rfl rfl) rfl rfl (po_buildSlice rfl (tyE rfl) (dc (.nil _)) rfl rfl rfl) ?_) <;> (first | refine sops_pure (.free rfl rfl) rfl rfl (po_buildSlice rfl (tyE rfl) (.cons rfl (.le (aggLe (.cons (le_refl (.sl 1 _)) (.cons (le_refl (.sl 2 _)) (.cons (nilT 2) (.cons (nilT 2) .nil)))))) rfl rfl (.nil _)) rfl rfl rfl) ?_ | refine sops_pure (.free rfl rfl) rfl rfl (po_buildSlice rfl (tyE rfl) (.cons rfl (.le (aggLe (.cons (nilT 1) (.cons (nilT 2) (.cons (le_refl (.sl 2 _)) (.cons (nilT 2) .nil)))))) rfl rfl (.nil _)) rfl rfl rfl) ?_ | refine sops_pure (.free rfl rfl) rfl rfl (po_buildSlice rfl (tyE rfl) (.cons rfl (.le (aggLe (.cons (nilT 3) (.cons (le_refl (.sl 4 _)) (.cons (nilT 2) .nil))))) rfl rfl (.nil _)) rfl rfl rfl) ?_ | refine sops_pure (.free rfl rfl) rfl rfl (po_buildS str50 rfl (pc (pc (pc .nil))) rfl) ?_) <;> (first | refine sops_pure (.free rfl rfl) rfl rfl (po_buildSlice rfl (tyE rfl) (.cons rfl (.le (aggLe (.cons (le_refl (.sl 1 _)) (.cons (le_refl (.sl 2 _)) (.cons (nilT 2) (.cons (nilT 2) .nil)))))) rfl rfl (.nil _)) rfl rfl rfl) ?_ | refine sops_pure (.free rfl rfl) rfl rfl (po_buildSlice rfl (tyE rfl) (.cons rfl (.le (aggLe (.cons (nilT 1) (.cons (nilT 2) (.cons (le_refl (.sl 2 _)) (.cons (nilT 2) .nil)))))) rfl rfl (.nil _)) rfl rfl rfl) ?_ | refine sops_pure (.free rfl rfl) rfl rfl (po_buildSlice rfl (tyE rfl) (.cons rfl (.le (aggLe (.cons (nilT 3) (.cons (le_refl (.sl 4 _)) (.cons (nilT 2) .nil))))) rfl rfl (.nil _)) rfl rfl rfl) ?_ | refine sops_pure (.free rfl rfl) rfl rfl (po_buildSlice rfl (tyE rfl) (dc (dc (.nil _))) rfl rfl rfl) ?_) <;> (first | refine sops_pure (.free rfl rfl) rfl rfl (po_buildSlice rfl (tyE rfl) (.cons rfl (.le (aggLe (.cons (le_refl (.sl 1 _)) (.cons (le_refl (.sl 2 _)) (.cons (nilT 2) (.cons (nilT 2) .nil)))))) rfl rfl (.nil _)) rfl rfl rfl) ?_ | refine sops_pure (.free rfl rfl) rfl rfl (po_buildSlice rfl (tyE rfl) (.cons rfl (.le (aggLe (.cons (nilT 1) (.cons (nilT 2) (.cons (le_refl (.sl 2 _)) (.cons (nilT 2) .nil)))))) rfl rfl (.nil _)) rfl rfl rfl) ?_ | refine sops_pure (.free rfl rfl) rfl rfl (po_buildSlice rfl (tyE rfl) (.cons rfl (.le (aggLe (.cons (nilT 3) (.cons (le_refl (.sl 4 _)) (.cons (nilT 2) .nil))))) rfl rfl (.nil _)) rfl rfl rfl) ?_ | refine sops_pure (.free rfl rfl) rfl rfl (po_assign rfl rfl) ?_) <;> (refine sops_nil ?_))
    | refine swp_ret ?_
    | refine swp_skip ?_
    | refine swp_block ?_
    | refine swp_exit ?_
    | refine block_go ?_
    | refine block_exit ?_
    | refine block_far rfl ?_
    | refine block_ret ?_
    | refine then_ret ?_
    | refine then_exit ?_
    | refine for_ret ?_
    | refine for_exit ?_
    | refine ct ?_
    | refine cf ?_
    | refine swp_cond rfl (fun hc => ?_) (fun hc => ?_)
    | exact retq1 (by first | exact .inr rfl | exact .inl rfl) rfl (.tmp rfl (by first | exact .t _ | exact .own rfl (by first | rfl | assumption | (simp; done) | (simp; omega)) | exact .nil _ | exact .emp _ | exact .fn _) .nil)
    | refine retq (by first | exact .inr rfl | exact .inl rfl) rfl (.tmp rfl (by first | exact .t _ | exact .own rfl (by first | rfl | assumption | (simp; done) | (simp; omega)) | exact .nil _ | exact .emp _ | exact .fn _) .nil) ?_)
def who0 : Pl.Asker := ⟨⟨#[]⟩, ⟨#[]⟩, 0⟩
def reqOf (s : ByteArray) : Pl.Req := ⟨sGET, s, ⟨#[]⟩, []⟩
theorem v1 : Pl.judgeP (matchP who0 80 req0) (Pl.saysL ((exPols.map (Pl.halfP 0 1)).map Pl.four4) (Pl.allowsP exPols)) = (true, 1) := by kernel_rfl
theorem v2 : Pl.judgeP (matchP who0 81 req0) (Pl.saysL ((exPols.map (Pl.halfP 0 1)).map Pl.four4) (Pl.allowsP exPols)) = (false, 0) := by kernel_rfl
theorem v3 : Pl.judgeP (matchP who0 80 (reqOf sB)) (Pl.saysL (exPols.map (Pl.halfP 2 2)) (Pl.allowsP exPols)) = (true, 1) := by kernel_rfl
theorem v4 : Pl.judgeP (matchP who0 80 (reqOf sA)) (Pl.saysL (exPols.map (Pl.halfP 2 2)) (Pl.allowsP exPols)) = (false, 2) := by kernel_rfl
theorem v5 : Pl.judgeP (matchP who0 80 req0) (Pl.saysL ((exPols.map (Pl.halfP 1 0)).map Pl.four4) (Pl.allowsP exPols)) = (false, 2) := by kernel_rfl
end Go.Proofs.YtlcecabfmemfeaaGreat.Pol

/- The chapter's examples stand; what halves keep. -/
namespace Go.Proofs.YtlcecabfmemfeaaGreat.Pol
set_option linter.unusedVariables false
set_option linter.unusedSimpArgs false
open Go.RowKit Mem Sim Opn WAddr WName WMatch WAuth
theorem ok_fourR {r : Pl.Rule} (h : okRule r) : okRule (Pl.four r) := by
  obtain ⟨h1, h2, h3⟩ := h
  refine ⟨h1, fun t ht => ?_, fun w hw => by cases hw⟩
  obtain ⟨t0, h4, rfl⟩ := List.mem_map.1 ht
  exact ⟨(h2 t0 h4).1, (fun y hy => by cases hy), (fun y hy => by cases hy), (fun y hy => by cases hy)⟩
theorem ok_what {l : List Pl.Rule} (h : ∀ r ∈ l, okRule r) (k : Nat) : ∀ r ∈ Pl.what k l, okRule r := by
  match k with
  | 0 => exact fun r hr => h r ((List.mem_filter.1 hr).1)
  | 1 =>
    intro r hr
    obtain ⟨r0, h0, rfl⟩ := List.mem_map.1 hr
    exact ok_fourR (h r0 h0)
  | k + 2 => exact h
theorem ok_half {p : Pl.Policy} (h : okPolicy p) (D K : Nat) : okPolicy (Pl.halfP D K p) := by
  refine ⟨h.1, h.2.1, h.2.2.1, h.2.2.2.1, ?_⟩
  unfold Pl.halfP
  dsimp only
  split
  · exact ok_what h.2.2.2.2 D
  · exact ok_what h.2.2.2.2 K
theorem few_fourR {r : Pl.Rule} (h : FewR r) : FewR (Pl.four r) := by
  refine ⟨h.f, ?_, by simp [Pl.four], h.fs, fun t ht => ?_, fun w hw => by cases hw⟩
  · show (r.to_.map Pl.fourT).length ≤ 1000
    rw [List.length_map]; exact h.t
  · obtain ⟨t0, h4, rfl⟩ := List.mem_map.1 ht
    exact ⟨(h.ts t0 h4).1, by simp [Pl.fourT], by simp [Pl.fourT], by simp [Pl.fourT]⟩
theorem few_what {l : List Pl.Rule} (hn : l.length ≤ 1000) (h : ∀ r ∈ l, FewR r) (k : Nat) : (Pl.what k l).length ≤ 1000 ∧ ∀ r ∈ Pl.what k l, FewR r := by
  match k with
  | 0 => exact ⟨Nat.le_trans (List.length_filter_le _ _) hn, fun r hr => h r ((List.mem_filter.1 hr).1)⟩
  | 1 =>
    refine ⟨by show (l.map Pl.four).length ≤ 1000; rw [List.length_map]; exact hn, fun r hr => ?_⟩
    obtain ⟨r0, h0, rfl⟩ := List.mem_map.1 hr
    exact few_fourR (h r0 h0)
  | k + 2 => exact ⟨hn, h⟩
theorem few_half {p : Pl.Policy} (h : FewP p) (D K : Nat) : FewP (Pl.halfP D K p) := by
  have h1 := few_what h.n h.r D
  have h2 := few_what h.n h.r K
  unfold Pl.halfP
  constructor <;> dsimp only <;> split
  · exact h1.1
  · exact h2.1
  · exact h1.2
  · exact h2.2
theorem ok_halves {l : List Pl.Policy} (h : ∀ p ∈ l, okPolicy p) (D K : Nat) : ∀ p ∈ l.map (Pl.halfP D K), okPolicy p := fun p hp => by
  obtain ⟨p0, h0, rfl⟩ := List.mem_map.1 hp
  exact ok_half (h p0 h0) D K
theorem few_halves {l : List Pl.Policy} (h : ∀ p ∈ l, FewP p) (D K : Nat) : ∀ p ∈ l.map (Pl.halfP D K), FewP p := fun p hp => by
  obtain ⟨p0, h0, rfl⟩ := List.mem_map.1 hp
  exact few_half (h p0 h0) D K
theorem ex_ok : ∀ p ∈ exPols, okPolicy p := by
  intro p hp
  simp only [exPols, List.mem_cons, List.not_mem_nil, or_false] at hp
  rcases hp with rfl | rfl
  all_goals
    refine ⟨by decide, by decide, by decide, by decide, ?_⟩
    simp only [List.mem_cons, List.not_mem_nil, or_false, forall_eq, okRule, okTarget, okSource, okWhen, okTerm, okInt, false_imp_iff, implies_true, and_true, true_and]
    decide
theorem ex_few : ∀ p ∈ exPols, FewP p := by
  intro p hp
  simp only [exPols, List.mem_cons, List.not_mem_nil, or_false] at hp
  rcases hp with rfl | rfl
  all_goals
    refine ⟨by decide, fun r hr => ?_⟩
    simp only [List.mem_cons, List.not_mem_nil, or_false] at hr
    subst hr
    refine ⟨by decide, by decide, by decide, (fun s hs => by cases hs), fun s hs => ?_, (fun s hs => by cases hs)⟩
    simp only [List.mem_cons, List.not_mem_nil, or_false] at hs
    subst hs
    decide
theorem who0_ok : OkAsk who0 := ⟨by decide, by decide, by decide⟩
theorem reqOf_ok (s : ByteArray) (h : s.size ≤ maxLen) : OkReq0 (reqOf s) := ⟨by show sGET.size ≤ maxLen; decide, h, by show (⟨#[]⟩ : ByteArray).size ≤ maxLen; decide, fun h hh => by cases hh⟩
set_option maxRecDepth 100000 in
set_option maxHeartbeats 2000000 in
theorem awake14 : PCalls Tryz.prog 8 [] (.v (.bool true)) := by
  have c0 := example14
  have k4 := l4_ exPols ex_few (by decide)
  have k7 := l7_ exPols ex_few (by decide)
  have ka := alone_ exPols ex_few (by decide)
  have c1 := fourS_ (exPols.map (Pl.halfP 0 1)) (ok_halves ex_ok 0 1) (few_halves ex_few 0 1) (by decide) (Pl.allowsP exPols) who0 who0_ok 80
  have c2 := fourS_ (exPols.map (Pl.halfP 0 1)) (ok_halves ex_ok 0 1) (few_halves ex_few 0 1) (by decide) (Pl.allowsP exPols) who0 who0_ok 81
  have c3 := seven_ (exPols.map (Pl.halfP 2 2)) (ok_halves ex_ok 2 2) (by decide) (Pl.allowsP exPols) who0 who0_ok 80 (reqOf sB) (reqOf_ok _ (by decide)) (by decide) ⟨#[]⟩ ⟨#[]⟩ (.slice none 0 0)
  have c4 := seven_ (exPols.map (Pl.halfP 2 2)) (ok_halves ex_ok 2 2) (by decide) (Pl.allowsP exPols) who0 who0_ok 80 (reqOf sA) (reqOf_ok _ (by decide)) (by decide) ⟨#[]⟩ ⟨#[]⟩ (.slice none 0 0)
  have c5 := fourS_ (exPols.map (Pl.halfP 1 0)) (ok_halves ex_ok 1 0) (few_halves ex_few 1 0) (by decide) (Pl.allowsP exPols) who0 who0_ok 80
  rw [v1] at c1
  rw [v2] at c2
  rw [v3] at c3
  rw [v4] at c4
  rw [v5] at c5
  dsimp only at c1 c2 c3 c4 c5
  refine pcalls_of Tryz.func8 rfl rfl Tryz.ntmps8 rfl ?_
  repeat' (first
    | refine then_go ?_
    | refine swp_seq ?_
    | ((refine swp_region (id := 0) ?_) <;> (first | refine sops_pure (.free rfl rfl) rfl rfl (po_call (c3) rfl (.cons rfl (.t _) (.cons rfl (.t _) (.cons rfl (.t _) (.cons rfl (.le req_le) .nil))))) ?_ | refine sops_pure (.free rfl rfl) rfl rfl (po_call (c4) rfl (.cons rfl (.t _) (.cons rfl (.t _) (.cons rfl (.t _) (.cons rfl (.le req_le) .nil))))) ?_ | refine sops_pure (.free rfl rfl) rfl rfl (po_assign rfl rfl) ?_) <;> (refine sops_nil ?_))
    | ((refine swp_region (id := 1) ?_) <;> (first | refine sops_pure (.free rfl rfl) rfl rfl (po_call (c3) rfl (.cons rfl (.t _) (.cons rfl (.t _) (.cons rfl (.t _) (.cons rfl (.le req_le) .nil))))) ?_ | refine sops_pure (.free rfl rfl) rfl rfl (po_call (c4) rfl (.cons rfl (.t _) (.cons rfl (.t _) (.cons rfl (.t _) (.cons rfl (.le req_le) .nil))))) ?_ | refine sops_allocS str29 (.free rfl rfl) rfl rfl rfl rfl ?_) <;> (refine sops_nil ?_))
    | ((refine swp_draw_all (id := 2) mixed (by kernel_rfl) (by kernel_rfl) ?_) <;> (first | refine sdraw_pure (.free rfl rfl) rfl (po_call (c3) rfl (.cons rfl (.t _) (.cons rfl (.t _) (.cons rfl (.t _) (.cons rfl (.le req_le) .nil))))) ?_ | refine sdraw_pure (.free rfl rfl) rfl (po_call (c4) rfl (.cons rfl (.t _) (.cons rfl (.t _) (.cons rfl (.t _) (.cons rfl (.le req_le) .nil))))) ?_ | refine sdraw_pure (.free rfl rfl) rfl (po_call (c0) rfl .nil) ?_ | refine sdraw_pure (.free rfl rfl) rfl (po_call (k4) rfl .nil) ?_ | refine sdraw_pure (.free rfl rfl) rfl (po_call (k7) rfl .nil) ?_ | refine sdraw_pure (.free rfl rfl) rfl (po_call (ka) rfl .nil) ?_ | refine sdraw_pure (.free rfl rfl) rfl (po_call (c1) rfl .nil) ?_ | refine sdraw_pure (.free rfl rfl) rfl (po_call (c2) rfl .nil) ?_ | refine sdraw_pure (.free rfl rfl) rfl (po_call (c5) rfl .nil) ?_) <;> (first | refine sdraw_pure (.free rfl rfl) rfl (po_call (c3) rfl (.cons rfl (.t _) (.cons rfl (.t _) (.cons rfl (.t _) (.cons rfl (.le req_le) .nil))))) ?_ | refine sdraw_pure (.free rfl rfl) rfl (po_call (c4) rfl (.cons rfl (.t _) (.cons rfl (.t _) (.cons rfl (.t _) (.cons rfl (.le req_le) .nil))))) ?_ | refine sdraw_pure (.free rfl rfl) rfl (po_call (c0) rfl (ac .nil)) ?_ | refine sdraw_pure (.free rfl rfl) rfl (po_call (k4) rfl (ac .nil)) ?_ | refine sdraw_pure (.free rfl rfl) rfl (po_call (k7) rfl (ac .nil)) ?_ | refine sdraw_pure (.free rfl rfl) rfl (po_call (ka) rfl (ac .nil)) ?_ | refine sdraw_pure (.free rfl rfl) rfl (po_call (c1) rfl (ac .nil)) ?_ | refine sdraw_pure (.free rfl rfl) rfl (po_call (c2) rfl (ac .nil)) ?_ | refine sdraw_pure (.free rfl rfl) rfl (po_call (c5) rfl (ac .nil)) ?_) <;> (first | refine sdraw_pure (.free rfl rfl) rfl (po_call (c3) rfl (.cons rfl (.t _) (.cons rfl (.t _) (.cons rfl (.t _) (.cons rfl (.le req_le) .nil))))) ?_ | refine sdraw_pure (.free rfl rfl) rfl (po_call (c4) rfl (.cons rfl (.t _) (.cons rfl (.t _) (.cons rfl (.t _) (.cons rfl (.le req_le) .nil))))) ?_ | refine sdraw_pure (.free rfl rfl) rfl (po_load_bx_agg rfl rfl (tyT rfl) rfl (vc (vc (vc .nil))) rfl) ?_ | refine sdraw_pure (.free rfl rfl) rfl (po_load_agg rfl rfl (tyT rfl) rfl rfl) ?_) <;> (first | refine sdraw_pure (.free rfl rfl) rfl (po_call (c3) rfl (.cons rfl (.t _) (.cons rfl (.t _) (.cons rfl (.t _) (.cons rfl (.le req_le) .nil))))) ?_ | refine sdraw_pure (.free rfl rfl) rfl (po_call (c4) rfl (.cons rfl (.t _) (.cons rfl (.t _) (.cons rfl (.t _) (.cons rfl (.le req_le) .nil))))) ?_ | refine sdraw_pure (.free rfl rfl) rfl (po_call (c0) rfl (ac (ac (ac .nil)))) ?_ | refine sdraw_pure (.free rfl rfl) rfl (po_call (k4) rfl (ac (ac (ac .nil)))) ?_ | refine sdraw_pure (.free rfl rfl) rfl (po_call (k7) rfl (ac (ac (ac .nil)))) ?_ | refine sdraw_pure (.free rfl rfl) rfl (po_call (ka) rfl (ac (ac (ac .nil)))) ?_ | refine sdraw_pure (.free rfl rfl) rfl (po_call (c1) rfl (ac (ac (ac .nil)))) ?_ | refine sdraw_pure (.free rfl rfl) rfl (po_call (c2) rfl (ac (ac (ac .nil)))) ?_ | refine sdraw_pure (.free rfl rfl) rfl (po_call (c5) rfl (ac (ac (ac .nil)))) ?_) <;> (first | refine sdraw_pure (.free rfl rfl) rfl (po_call (c3) rfl (.cons rfl (.t _) (.cons rfl (.t _) (.cons rfl (.t _) (.cons rfl (.le req_le) .nil))))) ?_ | refine sdraw_pure (.free rfl rfl) rfl (po_call (c4) rfl (.cons rfl (.t _) (.cons rfl (.t _) (.cons rfl (.t _) (.cons rfl (.le req_le) .nil))))) ?_ | refine sdraw_pure (.free rfl rfl) rfl (po_move rfl rfl) ?_) <;> (first | refine sdraw_pure (.free rfl rfl) rfl (po_call (c3) rfl (.cons rfl (.t _) (.cons rfl (.t _) (.cons rfl (.t _) (.cons rfl (.le req_le) .nil))))) ?_ | refine sdraw_pure (.free rfl rfl) rfl (po_call (c4) rfl (.cons rfl (.t _) (.cons rfl (.t _) (.cons rfl (.t _) (.cons rfl (.le req_le) .nil))))) ?_ | refine sdraw_pure (.free rfl rfl) rfl (po_extract rfl rfl rfl) ?_) <;> (first | refine sdraw_pure (.free rfl rfl) rfl (po_call (c3) rfl (.cons rfl (.t _) (.cons rfl (.t _) (.cons rfl (.t _) (.cons rfl (.le req_le) .nil))))) ?_ | refine sdraw_pure (.free rfl rfl) rfl (po_call (c4) rfl (.cons rfl (.t _) (.cons rfl (.t _) (.cons rfl (.t _) (.cons rfl (.le req_le) .nil))))) ?_ | refine sdraw_pure (.free rfl rfl) rfl (po_extract rfl rfl rfl) ?_) <;> (first | refine sdraw_pure (.free rfl rfl) rfl (po_call (c3) rfl (.cons rfl (.t _) (.cons rfl (.t _) (.cons rfl (.t _) (.cons rfl (.le req_le) .nil))))) ?_ | refine sdraw_pure (.free rfl rfl) rfl (po_call (c4) rfl (.cons rfl (.t _) (.cons rfl (.t _) (.cons rfl (.t _) (.cons rfl (.le req_le) .nil))))) ?_ | refine sdraw_pure (.free rfl rfl) rfl (po_assign rfl rfl) ?_) <;> (first | refine sdraw_pure (.free rfl rfl) rfl (po_call (c3) rfl (.cons rfl (.t _) (.cons rfl (.t _) (.cons rfl (.t _) (.cons rfl (.le req_le) .nil))))) ?_ | refine sdraw_pure (.free rfl rfl) rfl (po_call (c4) rfl (.cons rfl (.t _) (.cons rfl (.t _) (.cons rfl (.t _) (.cons rfl (.le req_le) .nil))))) ?_ | refine sdraw_pure (.free rfl rfl) rfl (po_assign rfl rfl) ?_) <;> (refine sdraw_nil ?_) <;> (refine sops_nil ?_))
    | ((refine swp_draw_all (id := 3) mixed (by kernel_rfl) (by kernel_rfl) ?_) <;> (first | refine sdraw_pure (.free rfl rfl) rfl (po_call (c3) rfl (.cons rfl (.t _) (.cons rfl (.t _) (.cons rfl (.t _) (.cons rfl (.le req_le) .nil))))) ?_ | refine sdraw_pure (.free rfl rfl) rfl (po_call (c4) rfl (.cons rfl (.t _) (.cons rfl (.t _) (.cons rfl (.t _) (.cons rfl (.le req_le) .nil))))) ?_ | refine sdraw_pure (.free rfl rfl) rfl (po_call (c0) rfl .nil) ?_ | refine sdraw_pure (.free rfl rfl) rfl (po_call (k4) rfl .nil) ?_ | refine sdraw_pure (.free rfl rfl) rfl (po_call (k7) rfl .nil) ?_ | refine sdraw_pure (.free rfl rfl) rfl (po_call (ka) rfl .nil) ?_ | refine sdraw_pure (.free rfl rfl) rfl (po_call (c1) rfl .nil) ?_ | refine sdraw_pure (.free rfl rfl) rfl (po_call (c2) rfl .nil) ?_ | refine sdraw_pure (.free rfl rfl) rfl (po_call (c5) rfl .nil) ?_) <;> (first | refine sdraw_pure (.free rfl rfl) rfl (po_call (c3) rfl (.cons rfl (.t _) (.cons rfl (.t _) (.cons rfl (.t _) (.cons rfl (.le req_le) .nil))))) ?_ | refine sdraw_pure (.free rfl rfl) rfl (po_call (c4) rfl (.cons rfl (.t _) (.cons rfl (.t _) (.cons rfl (.t _) (.cons rfl (.le req_le) .nil))))) ?_ | refine sdraw_pure (.free rfl rfl) rfl (po_call (c0) rfl (ac .nil)) ?_ | refine sdraw_pure (.free rfl rfl) rfl (po_call (k4) rfl (ac .nil)) ?_ | refine sdraw_pure (.free rfl rfl) rfl (po_call (k7) rfl (ac .nil)) ?_ | refine sdraw_pure (.free rfl rfl) rfl (po_call (ka) rfl (ac .nil)) ?_ | refine sdraw_pure (.free rfl rfl) rfl (po_call (c1) rfl (ac .nil)) ?_ | refine sdraw_pure (.free rfl rfl) rfl (po_call (c2) rfl (ac .nil)) ?_ | refine sdraw_pure (.free rfl rfl) rfl (po_call (c5) rfl (ac .nil)) ?_) <;> (first | refine sdraw_pure (.free rfl rfl) rfl (po_call (c3) rfl (.cons rfl (.t _) (.cons rfl (.t _) (.cons rfl (.t _) (.cons rfl (.le req_le) .nil))))) ?_ | refine sdraw_pure (.free rfl rfl) rfl (po_call (c4) rfl (.cons rfl (.t _) (.cons rfl (.t _) (.cons rfl (.t _) (.cons rfl (.le req_le) .nil))))) ?_ | refine sdraw_pure (.free rfl rfl) rfl (po_load_bx_agg rfl rfl (tyT rfl) rfl (vc (vc (vc .nil))) rfl) ?_ | refine sdraw_pure (.free rfl rfl) rfl (po_load_agg rfl rfl (tyT rfl) rfl rfl) ?_) <;> (first | refine sdraw_pure (.free rfl rfl) rfl (po_call (c3) rfl (.cons rfl (.t _) (.cons rfl (.t _) (.cons rfl (.t _) (.cons rfl (.le req_le) .nil))))) ?_ | refine sdraw_pure (.free rfl rfl) rfl (po_call (c4) rfl (.cons rfl (.t _) (.cons rfl (.t _) (.cons rfl (.t _) (.cons rfl (.le req_le) .nil))))) ?_ | refine sdraw_pure (.free rfl rfl) rfl (po_call (c0) rfl (ac (ac (ac .nil)))) ?_ | refine sdraw_pure (.free rfl rfl) rfl (po_call (k4) rfl (ac (ac (ac .nil)))) ?_ | refine sdraw_pure (.free rfl rfl) rfl (po_call (k7) rfl (ac (ac (ac .nil)))) ?_ | refine sdraw_pure (.free rfl rfl) rfl (po_call (ka) rfl (ac (ac (ac .nil)))) ?_ | refine sdraw_pure (.free rfl rfl) rfl (po_call (c1) rfl (ac (ac (ac .nil)))) ?_ | refine sdraw_pure (.free rfl rfl) rfl (po_call (c2) rfl (ac (ac (ac .nil)))) ?_ | refine sdraw_pure (.free rfl rfl) rfl (po_call (c5) rfl (ac (ac (ac .nil)))) ?_) <;> (first | refine sdraw_pure (.free rfl rfl) rfl (po_call (c3) rfl (.cons rfl (.t _) (.cons rfl (.t _) (.cons rfl (.t _) (.cons rfl (.le req_le) .nil))))) ?_ | refine sdraw_pure (.free rfl rfl) rfl (po_call (c4) rfl (.cons rfl (.t _) (.cons rfl (.t _) (.cons rfl (.t _) (.cons rfl (.le req_le) .nil))))) ?_ | refine sdraw_pure (.free rfl rfl) rfl (po_move rfl rfl) ?_) <;> (first | refine sdraw_pure (.free rfl rfl) rfl (po_call (c3) rfl (.cons rfl (.t _) (.cons rfl (.t _) (.cons rfl (.t _) (.cons rfl (.le req_le) .nil))))) ?_ | refine sdraw_pure (.free rfl rfl) rfl (po_call (c4) rfl (.cons rfl (.t _) (.cons rfl (.t _) (.cons rfl (.t _) (.cons rfl (.le req_le) .nil))))) ?_ | refine sdraw_pure (.free rfl rfl) rfl (po_extract rfl rfl rfl) ?_) <;> (first | refine sdraw_pure (.free rfl rfl) rfl (po_call (c3) rfl (.cons rfl (.t _) (.cons rfl (.t _) (.cons rfl (.t _) (.cons rfl (.le req_le) .nil))))) ?_ | refine sdraw_pure (.free rfl rfl) rfl (po_call (c4) rfl (.cons rfl (.t _) (.cons rfl (.t _) (.cons rfl (.t _) (.cons rfl (.le req_le) .nil))))) ?_ | refine sdraw_pure (.free rfl rfl) rfl (po_extract rfl rfl rfl) ?_) <;> (first | refine sdraw_pure (.free rfl rfl) rfl (po_call (c3) rfl (.cons rfl (.t _) (.cons rfl (.t _) (.cons rfl (.t _) (.cons rfl (.le req_le) .nil))))) ?_ | refine sdraw_pure (.free rfl rfl) rfl (po_call (c4) rfl (.cons rfl (.t _) (.cons rfl (.t _) (.cons rfl (.t _) (.cons rfl (.le req_le) .nil))))) ?_ | refine sdraw_pure (.free rfl rfl) rfl (po_assign rfl rfl) ?_) <;> (first | refine sdraw_pure (.free rfl rfl) rfl (po_call (c3) rfl (.cons rfl (.t _) (.cons rfl (.t _) (.cons rfl (.t _) (.cons rfl (.le req_le) .nil))))) ?_ | refine sdraw_pure (.free rfl rfl) rfl (po_call (c4) rfl (.cons rfl (.t _) (.cons rfl (.t _) (.cons rfl (.t _) (.cons rfl (.le req_le) .nil))))) ?_ | refine sdraw_pure (.free rfl rfl) rfl (po_assign rfl rfl) ?_) <;> (refine sdraw_nil ?_) <;> (refine sops_nil ?_))
    | ((refine swp_draw_all (id := 4) mixed (by kernel_rfl) (by kernel_rfl) ?_) <;> (first | refine sdraw_pure (.free rfl rfl) rfl (po_call (c3) rfl (.cons rfl (.t _) (.cons rfl (.t _) (.cons rfl (.t _) (.cons rfl (.le req_le) .nil))))) ?_ | refine sdraw_pure (.free rfl rfl) rfl (po_call (c4) rfl (.cons rfl (.t _) (.cons rfl (.t _) (.cons rfl (.t _) (.cons rfl (.le req_le) .nil))))) ?_ | refine sdraw_pure (.free rfl rfl) rfl (po_call (c0) rfl .nil) ?_ | refine sdraw_pure (.free rfl rfl) rfl (po_call (k4) rfl .nil) ?_ | refine sdraw_pure (.free rfl rfl) rfl (po_call (k7) rfl .nil) ?_ | refine sdraw_pure (.free rfl rfl) rfl (po_call (ka) rfl .nil) ?_ | refine sdraw_pure (.free rfl rfl) rfl (po_call (c1) rfl .nil) ?_ | refine sdraw_pure (.free rfl rfl) rfl (po_call (c2) rfl .nil) ?_ | refine sdraw_pure (.free rfl rfl) rfl (po_call (c5) rfl .nil) ?_) <;> (first | refine sdraw_pure (.free rfl rfl) rfl (po_call (c3) rfl (.cons rfl (.t _) (.cons rfl (.t _) (.cons rfl (.t _) (.cons rfl (.le req_le) .nil))))) ?_ | refine sdraw_pure (.free rfl rfl) rfl (po_call (c4) rfl (.cons rfl (.t _) (.cons rfl (.t _) (.cons rfl (.t _) (.cons rfl (.le req_le) .nil))))) ?_ | refine sdraw_pure (.free rfl rfl) rfl (po_call (c0) rfl (ac .nil)) ?_ | refine sdraw_pure (.free rfl rfl) rfl (po_call (k4) rfl (ac .nil)) ?_ | refine sdraw_pure (.free rfl rfl) rfl (po_call (k7) rfl (ac .nil)) ?_ | refine sdraw_pure (.free rfl rfl) rfl (po_call (ka) rfl (ac .nil)) ?_ | refine sdraw_pure (.free rfl rfl) rfl (po_call (c1) rfl (ac .nil)) ?_ | refine sdraw_pure (.free rfl rfl) rfl (po_call (c2) rfl (ac .nil)) ?_ | refine sdraw_pure (.free rfl rfl) rfl (po_call (c5) rfl (ac .nil)) ?_) <;> (first | refine sdraw_pure (.free rfl rfl) rfl (po_call (c3) rfl (.cons rfl (.t _) (.cons rfl (.t _) (.cons rfl (.t _) (.cons rfl (.le req_le) .nil))))) ?_ | refine sdraw_pure (.free rfl rfl) rfl (po_call (c4) rfl (.cons rfl (.t _) (.cons rfl (.t _) (.cons rfl (.t _) (.cons rfl (.le req_le) .nil))))) ?_ | refine sdraw_pure (.free rfl rfl) rfl (po_load_bx_agg rfl rfl (tyT rfl) rfl (vc (vc (vc .nil))) rfl) ?_ | refine sdraw_pure (.free rfl rfl) rfl (po_load_agg rfl rfl (tyT rfl) rfl rfl) ?_) <;> (first | refine sdraw_pure (.free rfl rfl) rfl (po_call (c3) rfl (.cons rfl (.t _) (.cons rfl (.t _) (.cons rfl (.t _) (.cons rfl (.le req_le) .nil))))) ?_ | refine sdraw_pure (.free rfl rfl) rfl (po_call (c4) rfl (.cons rfl (.t _) (.cons rfl (.t _) (.cons rfl (.t _) (.cons rfl (.le req_le) .nil))))) ?_ | refine sdraw_pure (.free rfl rfl) rfl (po_buildS str33 rfl (pc (pc .nil)) rfl) ?_) <;> (first | refine sdraw_pure (.free rfl rfl) rfl (po_call (c3) rfl (.cons rfl (.t _) (.cons rfl (.t _) (.cons rfl (.t _) (.cons rfl (.le req_le) .nil))))) ?_ | refine sdraw_pure (.free rfl rfl) rfl (po_call (c4) rfl (.cons rfl (.t _) (.cons rfl (.t _) (.cons rfl (.t _) (.cons rfl (.le req_le) .nil))))) ?_ | refine sdraw_pure (.free rfl rfl) rfl (po_call (c0) rfl (ac (ac (ac (ac .nil))))) ?_ | refine sdraw_pure (.free rfl rfl) rfl (po_call (k4) rfl (ac (ac (ac (ac .nil))))) ?_ | refine sdraw_pure (.free rfl rfl) rfl (po_call (k7) rfl (ac (ac (ac (ac .nil))))) ?_ | refine sdraw_pure (.free rfl rfl) rfl (po_call (ka) rfl (ac (ac (ac (ac .nil))))) ?_ | refine sdraw_pure (.free rfl rfl) rfl (po_call (c1) rfl (ac (ac (ac (ac .nil))))) ?_ | refine sdraw_pure (.free rfl rfl) rfl (po_call (c2) rfl (ac (ac (ac (ac .nil))))) ?_ | refine sdraw_pure (.free rfl rfl) rfl (po_call (c5) rfl (ac (ac (ac (ac .nil))))) ?_) <;> (first | refine sdraw_pure (.free rfl rfl) rfl (po_call (c3) rfl (.cons rfl (.t _) (.cons rfl (.t _) (.cons rfl (.t _) (.cons rfl (.le req_le) .nil))))) ?_ | refine sdraw_pure (.free rfl rfl) rfl (po_call (c4) rfl (.cons rfl (.t _) (.cons rfl (.t _) (.cons rfl (.t _) (.cons rfl (.le req_le) .nil))))) ?_ | refine sdraw_pure (.free rfl rfl) rfl (po_move rfl rfl) ?_) <;> (first | refine sdraw_pure (.free rfl rfl) rfl (po_call (c3) rfl (.cons rfl (.t _) (.cons rfl (.t _) (.cons rfl (.t _) (.cons rfl (.le req_le) .nil))))) ?_ | refine sdraw_pure (.free rfl rfl) rfl (po_call (c4) rfl (.cons rfl (.t _) (.cons rfl (.t _) (.cons rfl (.t _) (.cons rfl (.le req_le) .nil))))) ?_ | refine sdraw_pure (.free rfl rfl) rfl (po_extract rfl rfl rfl) ?_) <;> (first | refine sdraw_pure (.free rfl rfl) rfl (po_call (c3) rfl (.cons rfl (.t _) (.cons rfl (.t _) (.cons rfl (.t _) (.cons rfl (.le req_le) .nil))))) ?_ | refine sdraw_pure (.free rfl rfl) rfl (po_call (c4) rfl (.cons rfl (.t _) (.cons rfl (.t _) (.cons rfl (.t _) (.cons rfl (.le req_le) .nil))))) ?_ | refine sdraw_pure (.free rfl rfl) rfl (po_extract rfl rfl rfl) ?_) <;> (first | refine sdraw_pure (.free rfl rfl) rfl (po_call (c3) rfl (.cons rfl (.t _) (.cons rfl (.t _) (.cons rfl (.t _) (.cons rfl (.le req_le) .nil))))) ?_ | refine sdraw_pure (.free rfl rfl) rfl (po_call (c4) rfl (.cons rfl (.t _) (.cons rfl (.t _) (.cons rfl (.t _) (.cons rfl (.le req_le) .nil))))) ?_ | refine sdraw_pure (.free rfl rfl) rfl (po_assign rfl rfl) ?_) <;> (first | refine sdraw_pure (.free rfl rfl) rfl (po_call (c3) rfl (.cons rfl (.t _) (.cons rfl (.t _) (.cons rfl (.t _) (.cons rfl (.le req_le) .nil))))) ?_ | refine sdraw_pure (.free rfl rfl) rfl (po_call (c4) rfl (.cons rfl (.t _) (.cons rfl (.t _) (.cons rfl (.t _) (.cons rfl (.le req_le) .nil))))) ?_ | refine sdraw_pure (.free rfl rfl) rfl (po_assign rfl rfl) ?_) <;> (refine sdraw_nil ?_) <;> (refine sops_nil ?_))
    | ((refine swp_draw_all (id := 5) mixed (by kernel_rfl) (by kernel_rfl) ?_) <;> (first | refine sdraw_pure (.free rfl rfl) rfl (po_call (c3) rfl (.cons rfl (.t _) (.cons rfl (.t _) (.cons rfl (.t _) (.cons rfl (.le req_le) .nil))))) ?_ | refine sdraw_pure (.free rfl rfl) rfl (po_call (c4) rfl (.cons rfl (.t _) (.cons rfl (.t _) (.cons rfl (.t _) (.cons rfl (.le req_le) .nil))))) ?_ | refine sdraw_pure (.free rfl rfl) rfl (po_call (c0) rfl .nil) ?_ | refine sdraw_pure (.free rfl rfl) rfl (po_call (k4) rfl .nil) ?_ | refine sdraw_pure (.free rfl rfl) rfl (po_call (k7) rfl .nil) ?_ | refine sdraw_pure (.free rfl rfl) rfl (po_call (ka) rfl .nil) ?_ | refine sdraw_pure (.free rfl rfl) rfl (po_call (c1) rfl .nil) ?_ | refine sdraw_pure (.free rfl rfl) rfl (po_call (c2) rfl .nil) ?_ | refine sdraw_pure (.free rfl rfl) rfl (po_call (c5) rfl .nil) ?_) <;> (first | refine sdraw_pure (.free rfl rfl) rfl (po_call (c3) rfl (.cons rfl (.t _) (.cons rfl (.t _) (.cons rfl (.t _) (.cons rfl (.le req_le) .nil))))) ?_ | refine sdraw_pure (.free rfl rfl) rfl (po_call (c4) rfl (.cons rfl (.t _) (.cons rfl (.t _) (.cons rfl (.t _) (.cons rfl (.le req_le) .nil))))) ?_ | refine sdraw_pure (.free rfl rfl) rfl (po_call (c0) rfl (ac .nil)) ?_ | refine sdraw_pure (.free rfl rfl) rfl (po_call (k4) rfl (ac .nil)) ?_ | refine sdraw_pure (.free rfl rfl) rfl (po_call (k7) rfl (ac .nil)) ?_ | refine sdraw_pure (.free rfl rfl) rfl (po_call (ka) rfl (ac .nil)) ?_ | refine sdraw_pure (.free rfl rfl) rfl (po_call (c1) rfl (ac .nil)) ?_ | refine sdraw_pure (.free rfl rfl) rfl (po_call (c2) rfl (ac .nil)) ?_ | refine sdraw_pure (.free rfl rfl) rfl (po_call (c5) rfl (ac .nil)) ?_) <;> (first | refine sdraw_pure (.free rfl rfl) rfl (po_call (c3) rfl (.cons rfl (.t _) (.cons rfl (.t _) (.cons rfl (.t _) (.cons rfl (.le req_le) .nil))))) ?_ | refine sdraw_pure (.free rfl rfl) rfl (po_call (c4) rfl (.cons rfl (.t _) (.cons rfl (.t _) (.cons rfl (.t _) (.cons rfl (.le req_le) .nil))))) ?_ | refine sdraw_pure (.free rfl rfl) rfl (po_load_bx_agg rfl rfl (tyT rfl) rfl (vc (vc (vc .nil))) rfl) ?_ | refine sdraw_pure (.free rfl rfl) rfl (po_load_agg rfl rfl (tyT rfl) rfl rfl) ?_) <;> (first | refine sdraw_pure (.free rfl rfl) rfl (po_call (c3) rfl (.cons rfl (.t _) (.cons rfl (.t _) (.cons rfl (.t _) (.cons rfl (.le req_le) .nil))))) ?_ | refine sdraw_pure (.free rfl rfl) rfl (po_call (c4) rfl (.cons rfl (.t _) (.cons rfl (.t _) (.cons rfl (.t _) (.cons rfl (.le req_le) .nil))))) ?_ | refine sdraw_pure (.free rfl rfl) rfl (po_buildS str33 rfl (pc (pc .nil)) rfl) ?_) <;> (first | refine sdraw_pure (.free rfl rfl) rfl (po_call (c3) rfl (.cons rfl (.t _) (.cons rfl (.t _) (.cons rfl (.t _) (.cons rfl (.le req_le) .nil))))) ?_ | refine sdraw_pure (.free rfl rfl) rfl (po_call (c4) rfl (.cons rfl (.t _) (.cons rfl (.t _) (.cons rfl (.t _) (.cons rfl (.le req_le) .nil))))) ?_ | refine sdraw_pure (.free rfl rfl) rfl (po_call (c0) rfl (ac (ac (ac (ac .nil))))) ?_ | refine sdraw_pure (.free rfl rfl) rfl (po_call (k4) rfl (ac (ac (ac (ac .nil))))) ?_ | refine sdraw_pure (.free rfl rfl) rfl (po_call (k7) rfl (ac (ac (ac (ac .nil))))) ?_ | refine sdraw_pure (.free rfl rfl) rfl (po_call (ka) rfl (ac (ac (ac (ac .nil))))) ?_ | refine sdraw_pure (.free rfl rfl) rfl (po_call (c1) rfl (ac (ac (ac (ac .nil))))) ?_ | refine sdraw_pure (.free rfl rfl) rfl (po_call (c2) rfl (ac (ac (ac (ac .nil))))) ?_ | refine sdraw_pure (.free rfl rfl) rfl (po_call (c5) rfl (ac (ac (ac (ac .nil))))) ?_) <;> (first | refine sdraw_pure (.free rfl rfl) rfl (po_call (c3) rfl (.cons rfl (.t _) (.cons rfl (.t _) (.cons rfl (.t _) (.cons rfl (.le req_le) .nil))))) ?_ | refine sdraw_pure (.free rfl rfl) rfl (po_call (c4) rfl (.cons rfl (.t _) (.cons rfl (.t _) (.cons rfl (.t _) (.cons rfl (.le req_le) .nil))))) ?_ | refine sdraw_pure (.free rfl rfl) rfl (po_move rfl rfl) ?_) <;> (first | refine sdraw_pure (.free rfl rfl) rfl (po_call (c3) rfl (.cons rfl (.t _) (.cons rfl (.t _) (.cons rfl (.t _) (.cons rfl (.le req_le) .nil))))) ?_ | refine sdraw_pure (.free rfl rfl) rfl (po_call (c4) rfl (.cons rfl (.t _) (.cons rfl (.t _) (.cons rfl (.t _) (.cons rfl (.le req_le) .nil))))) ?_ | refine sdraw_pure (.free rfl rfl) rfl (po_extract rfl rfl rfl) ?_) <;> (first | refine sdraw_pure (.free rfl rfl) rfl (po_call (c3) rfl (.cons rfl (.t _) (.cons rfl (.t _) (.cons rfl (.t _) (.cons rfl (.le req_le) .nil))))) ?_ | refine sdraw_pure (.free rfl rfl) rfl (po_call (c4) rfl (.cons rfl (.t _) (.cons rfl (.t _) (.cons rfl (.t _) (.cons rfl (.le req_le) .nil))))) ?_ | refine sdraw_pure (.free rfl rfl) rfl (po_extract rfl rfl rfl) ?_) <;> (first | refine sdraw_pure (.free rfl rfl) rfl (po_call (c3) rfl (.cons rfl (.t _) (.cons rfl (.t _) (.cons rfl (.t _) (.cons rfl (.le req_le) .nil))))) ?_ | refine sdraw_pure (.free rfl rfl) rfl (po_call (c4) rfl (.cons rfl (.t _) (.cons rfl (.t _) (.cons rfl (.t _) (.cons rfl (.le req_le) .nil))))) ?_ | refine sdraw_pure (.free rfl rfl) rfl (po_assign rfl rfl) ?_) <;> (first | refine sdraw_pure (.free rfl rfl) rfl (po_call (c3) rfl (.cons rfl (.t _) (.cons rfl (.t _) (.cons rfl (.t _) (.cons rfl (.le req_le) .nil))))) ?_ | refine sdraw_pure (.free rfl rfl) rfl (po_call (c4) rfl (.cons rfl (.t _) (.cons rfl (.t _) (.cons rfl (.t _) (.cons rfl (.le req_le) .nil))))) ?_ | refine sdraw_pure (.free rfl rfl) rfl (po_assign rfl rfl) ?_) <;> (refine sdraw_nil ?_) <;> (refine sops_nil ?_))
    | ((refine swp_draw_all (id := 6) mixed (by kernel_rfl) (by kernel_rfl) ?_) <;> (first | refine sdraw_pure (.free rfl rfl) rfl (po_call (c3) rfl (.cons rfl (.t _) (.cons rfl (.t _) (.cons rfl (.t _) (.cons rfl (.le req_le) .nil))))) ?_ | refine sdraw_pure (.free rfl rfl) rfl (po_call (c4) rfl (.cons rfl (.t _) (.cons rfl (.t _) (.cons rfl (.t _) (.cons rfl (.le req_le) .nil))))) ?_ | refine sdraw_pure (.free rfl rfl) rfl (po_call (c0) rfl .nil) ?_ | refine sdraw_pure (.free rfl rfl) rfl (po_call (k4) rfl .nil) ?_ | refine sdraw_pure (.free rfl rfl) rfl (po_call (k7) rfl .nil) ?_ | refine sdraw_pure (.free rfl rfl) rfl (po_call (ka) rfl .nil) ?_ | refine sdraw_pure (.free rfl rfl) rfl (po_call (c1) rfl .nil) ?_ | refine sdraw_pure (.free rfl rfl) rfl (po_call (c2) rfl .nil) ?_ | refine sdraw_pure (.free rfl rfl) rfl (po_call (c5) rfl .nil) ?_) <;> (first | refine sdraw_pure (.free rfl rfl) rfl (po_call (c3) rfl (.cons rfl (.t _) (.cons rfl (.t _) (.cons rfl (.t _) (.cons rfl (.le req_le) .nil))))) ?_ | refine sdraw_pure (.free rfl rfl) rfl (po_call (c4) rfl (.cons rfl (.t _) (.cons rfl (.t _) (.cons rfl (.t _) (.cons rfl (.le req_le) .nil))))) ?_ | refine sdraw_pure (.free rfl rfl) rfl (po_call (c0) rfl (ac .nil)) ?_ | refine sdraw_pure (.free rfl rfl) rfl (po_call (k4) rfl (ac .nil)) ?_ | refine sdraw_pure (.free rfl rfl) rfl (po_call (k7) rfl (ac .nil)) ?_ | refine sdraw_pure (.free rfl rfl) rfl (po_call (ka) rfl (ac .nil)) ?_ | refine sdraw_pure (.free rfl rfl) rfl (po_call (c1) rfl (ac .nil)) ?_ | refine sdraw_pure (.free rfl rfl) rfl (po_call (c2) rfl (ac .nil)) ?_ | refine sdraw_pure (.free rfl rfl) rfl (po_call (c5) rfl (ac .nil)) ?_) <;> (first | refine sdraw_pure (.free rfl rfl) rfl (po_call (c3) rfl (.cons rfl (.t _) (.cons rfl (.t _) (.cons rfl (.t _) (.cons rfl (.le req_le) .nil))))) ?_ | refine sdraw_pure (.free rfl rfl) rfl (po_call (c4) rfl (.cons rfl (.t _) (.cons rfl (.t _) (.cons rfl (.t _) (.cons rfl (.le req_le) .nil))))) ?_ | refine sdraw_pure (.free rfl rfl) rfl (po_load_bx_agg rfl rfl (tyT rfl) rfl (vc (vc (vc .nil))) rfl) ?_ | refine sdraw_pure (.free rfl rfl) rfl (po_load_agg rfl rfl (tyT rfl) rfl rfl) ?_) <;> (first | refine sdraw_pure (.free rfl rfl) rfl (po_call (c3) rfl (.cons rfl (.t _) (.cons rfl (.t _) (.cons rfl (.t _) (.cons rfl (.le req_le) .nil))))) ?_ | refine sdraw_pure (.free rfl rfl) rfl (po_call (c4) rfl (.cons rfl (.t _) (.cons rfl (.t _) (.cons rfl (.t _) (.cons rfl (.le req_le) .nil))))) ?_ | refine sdraw_pure (.free rfl rfl) rfl (po_call (c0) rfl (ac (ac (ac .nil)))) ?_ | refine sdraw_pure (.free rfl rfl) rfl (po_call (k4) rfl (ac (ac (ac .nil)))) ?_ | refine sdraw_pure (.free rfl rfl) rfl (po_call (k7) rfl (ac (ac (ac .nil)))) ?_ | refine sdraw_pure (.free rfl rfl) rfl (po_call (ka) rfl (ac (ac (ac .nil)))) ?_ | refine sdraw_pure (.free rfl rfl) rfl (po_call (c1) rfl (ac (ac (ac .nil)))) ?_ | refine sdraw_pure (.free rfl rfl) rfl (po_call (c2) rfl (ac (ac (ac .nil)))) ?_ | refine sdraw_pure (.free rfl rfl) rfl (po_call (c5) rfl (ac (ac (ac .nil)))) ?_) <;> (first | refine sdraw_pure (.free rfl rfl) rfl (po_call (c3) rfl (.cons rfl (.t _) (.cons rfl (.t _) (.cons rfl (.t _) (.cons rfl (.le req_le) .nil))))) ?_ | refine sdraw_pure (.free rfl rfl) rfl (po_call (c4) rfl (.cons rfl (.t _) (.cons rfl (.t _) (.cons rfl (.t _) (.cons rfl (.le req_le) .nil))))) ?_ | refine sdraw_pure (.free rfl rfl) rfl (po_move rfl rfl) ?_) <;> (first | refine sdraw_pure (.free rfl rfl) rfl (po_call (c3) rfl (.cons rfl (.t _) (.cons rfl (.t _) (.cons rfl (.t _) (.cons rfl (.le req_le) .nil))))) ?_ | refine sdraw_pure (.free rfl rfl) rfl (po_call (c4) rfl (.cons rfl (.t _) (.cons rfl (.t _) (.cons rfl (.t _) (.cons rfl (.le req_le) .nil))))) ?_ | refine sdraw_pure (.free rfl rfl) rfl (po_extract rfl rfl rfl) ?_) <;> (first | refine sdraw_pure (.free rfl rfl) rfl (po_call (c3) rfl (.cons rfl (.t _) (.cons rfl (.t _) (.cons rfl (.t _) (.cons rfl (.le req_le) .nil))))) ?_ | refine sdraw_pure (.free rfl rfl) rfl (po_call (c4) rfl (.cons rfl (.t _) (.cons rfl (.t _) (.cons rfl (.t _) (.cons rfl (.le req_le) .nil))))) ?_ | refine sdraw_pure (.free rfl rfl) rfl (po_extract rfl rfl rfl) ?_) <;> (first | refine sdraw_pure (.free rfl rfl) rfl (po_call (c3) rfl (.cons rfl (.t _) (.cons rfl (.t _) (.cons rfl (.t _) (.cons rfl (.le req_le) .nil))))) ?_ | refine sdraw_pure (.free rfl rfl) rfl (po_call (c4) rfl (.cons rfl (.t _) (.cons rfl (.t _) (.cons rfl (.t _) (.cons rfl (.le req_le) .nil))))) ?_ | refine sdraw_pure (.free rfl rfl) rfl (po_assign rfl rfl) ?_) <;> (first | refine sdraw_pure (.free rfl rfl) rfl (po_call (c3) rfl (.cons rfl (.t _) (.cons rfl (.t _) (.cons rfl (.t _) (.cons rfl (.le req_le) .nil))))) ?_ | refine sdraw_pure (.free rfl rfl) rfl (po_call (c4) rfl (.cons rfl (.t _) (.cons rfl (.t _) (.cons rfl (.t _) (.cons rfl (.le req_le) .nil))))) ?_ | refine sdraw_pure (.free rfl rfl) rfl (po_assign rfl rfl) ?_) <;> (refine sdraw_nil ?_) <;> (refine sops_nil ?_))
    | ((refine swp_region (id := 7) ?_) <;> (first | refine sops_pure (.free rfl rfl) rfl rfl (po_call (c3) rfl (.cons rfl (.t _) (.cons rfl (.t _) (.cons rfl (.t _) (.cons rfl (.le req_le) .nil))))) ?_ | refine sops_pure (.free rfl rfl) rfl rfl (po_call (c4) rfl (.cons rfl (.t _) (.cons rfl (.t _) (.cons rfl (.t _) (.cons rfl (.le req_le) .nil))))) ?_ | refine sops_pure (.free rfl rfl) rfl rfl (po_move rfl rfl) ?_) <;> (first | refine sops_pure (.free rfl rfl) rfl rfl (po_call (c3) rfl (.cons rfl (.t _) (.cons rfl (.t _) (.cons rfl (.t _) (.cons rfl (.le req_le) .nil))))) ?_ | refine sops_pure (.free rfl rfl) rfl rfl (po_call (c4) rfl (.cons rfl (.t _) (.cons rfl (.t _) (.cons rfl (.t _) (.cons rfl (.le req_le) .nil))))) ?_ | refine sops_pure (.free rfl rfl) rfl rfl (po_move rfl rfl) ?_) <;> (first | refine sops_pure gy rfl rfl (po_call (c3) rfl (.cons rfl (.t _) (.cons rfl (.t _) (.cons rfl (.t _) (.cons rfl (.le req_le) .nil))))) ?_ | refine sops_pure gy rfl rfl (po_call (c4) rfl (.cons rfl (.t _) (.cons rfl (.t _) (.cons rfl (.t _) (.cons rfl (.le req_le) .nil))))) ?_ | refine sops_pure gy rfl rfl (po_move rfl rfl) ?_ | refine sops_skip gn1 rfl rfl ?_ | ((refine sops_split rfl rfl rfl (fun hc => ?_) (fun hc => ?_)) <;> (first | refine sops_pure gy rfl rfl (po_call (c3) rfl (.cons rfl (.t _) (.cons rfl (.t _) (.cons rfl (.t _) (.cons rfl (.le req_le) .nil))))) ?_ | refine sops_pure gy rfl rfl (po_call (c4) rfl (.cons rfl (.t _) (.cons rfl (.t _) (.cons rfl (.t _) (.cons rfl (.le req_le) .nil))))) ?_ | refine sops_pure gy rfl rfl (po_move rfl rfl) ?_ | refine sops_skip gn1 rfl rfl ?_))) <;> (first | refine sops_pure gy rfl rfl (po_call (c3) rfl (.cons rfl (.t _) (.cons rfl (.t _) (.cons rfl (.t _) (.cons rfl (.le req_le) .nil))))) ?_ | refine sops_pure gy rfl rfl (po_call (c4) rfl (.cons rfl (.t _) (.cons rfl (.t _) (.cons rfl (.t _) (.cons rfl (.le req_le) .nil))))) ?_ | refine sops_pure gy rfl rfl (po_cmp rfl rfl rfl rfl) ?_ | refine sops_skip gn1 rfl rfl ?_) <;> (first | refine sops_pure (.free rfl rfl) rfl rfl (po_call (c3) rfl (.cons rfl (.t _) (.cons rfl (.t _) (.cons rfl (.t _) (.cons rfl (.le req_le) .nil))))) ?_ | refine sops_pure (.free rfl rfl) rfl rfl (po_call (c4) rfl (.cons rfl (.t _) (.cons rfl (.t _) (.cons rfl (.t _) (.cons rfl (.le req_le) .nil))))) ?_ | refine sops_pure (.free rfl rfl) rfl rfl (pkt rfl) ?_ | refine sops_pure (.free rfl rfl) rfl rfl (pkf rfl) ?_) <;> (first | refine sops_pure (.free rfl rfl) rfl rfl (po_call (c3) rfl (.cons rfl (.t _) (.cons rfl (.t _) (.cons rfl (.t _) (.cons rfl (.le req_le) .nil))))) ?_ | refine sops_pure (.free rfl rfl) rfl rfl (po_call (c4) rfl (.cons rfl (.t _) (.cons rfl (.t _) (.cons rfl (.t _) (.cons rfl (.le req_le) .nil))))) ?_ | refine sops_pure (.free rfl rfl) rfl rfl (po_move rfl rfl) ?_) <;> (first | refine sops_pure gy rfl rfl (po_call (c3) rfl (.cons rfl (.t _) (.cons rfl (.t _) (.cons rfl (.t _) (.cons rfl (.le req_le) .nil))))) ?_ | refine sops_pure gy rfl rfl (po_call (c4) rfl (.cons rfl (.t _) (.cons rfl (.t _) (.cons rfl (.t _) (.cons rfl (.le req_le) .nil))))) ?_ | refine sops_pure gy rfl rfl (po_move rfl rfl) ?_ | refine sops_skip gn1 rfl rfl ?_ | ((refine sops_split rfl rfl rfl (fun hc => ?_) (fun hc => ?_)) <;> (first | refine sops_pure gy rfl rfl (po_call (c3) rfl (.cons rfl (.t _) (.cons rfl (.t _) (.cons rfl (.t _) (.cons rfl (.le req_le) .nil))))) ?_ | refine sops_pure gy rfl rfl (po_call (c4) rfl (.cons rfl (.t _) (.cons rfl (.t _) (.cons rfl (.t _) (.cons rfl (.le req_le) .nil))))) ?_ | refine sops_pure gy rfl rfl (po_move rfl rfl) ?_ | refine sops_skip gn1 rfl rfl ?_))) <;> (first | refine sops_pure gy rfl rfl (po_call (c3) rfl (.cons rfl (.t _) (.cons rfl (.t _) (.cons rfl (.t _) (.cons rfl (.le req_le) .nil))))) ?_ | refine sops_pure gy rfl rfl (po_call (c4) rfl (.cons rfl (.t _) (.cons rfl (.t _) (.cons rfl (.t _) (.cons rfl (.le req_le) .nil))))) ?_ | refine sops_pure gy rfl rfl (po_not rfl rfl) ?_ | refine sops_skip gn1 rfl rfl ?_) <;> (first | refine sops_pure (.free rfl rfl) rfl rfl (po_call (c3) rfl (.cons rfl (.t _) (.cons rfl (.t _) (.cons rfl (.t _) (.cons rfl (.le req_le) .nil))))) ?_ | refine sops_pure (.free rfl rfl) rfl rfl (po_call (c4) rfl (.cons rfl (.t _) (.cons rfl (.t _) (.cons rfl (.t _) (.cons rfl (.le req_le) .nil))))) ?_ | refine sops_pure (.free rfl rfl) rfl rfl (pkt rfl) ?_ | refine sops_pure (.free rfl rfl) rfl rfl (pkf rfl) ?_) <;> (first | refine sops_pure (.free rfl rfl) rfl rfl (po_call (c3) rfl (.cons rfl (.t _) (.cons rfl (.t _) (.cons rfl (.t _) (.cons rfl (.le req_le) .nil))))) ?_ | refine sops_pure (.free rfl rfl) rfl rfl (po_call (c4) rfl (.cons rfl (.t _) (.cons rfl (.t _) (.cons rfl (.t _) (.cons rfl (.le req_le) .nil))))) ?_ | refine sops_pure (.free rfl rfl) rfl rfl (po_move rfl rfl) ?_) <;> (first | refine sops_pure gy rfl rfl (po_call (c3) rfl (.cons rfl (.t _) (.cons rfl (.t _) (.cons rfl (.t _) (.cons rfl (.le req_le) .nil))))) ?_ | refine sops_pure gy rfl rfl (po_call (c4) rfl (.cons rfl (.t _) (.cons rfl (.t _) (.cons rfl (.t _) (.cons rfl (.le req_le) .nil))))) ?_ | refine sops_pure gy rfl rfl (po_move rfl rfl) ?_ | refine sops_skip gn1 rfl rfl ?_ | ((refine sops_split rfl rfl rfl (fun hc => ?_) (fun hc => ?_)) <;> (first | refine sops_pure gy rfl rfl (po_call (c3) rfl (.cons rfl (.t _) (.cons rfl (.t _) (.cons rfl (.t _) (.cons rfl (.le req_le) .nil))))) ?_ | refine sops_pure gy rfl rfl (po_call (c4) rfl (.cons rfl (.t _) (.cons rfl (.t _) (.cons rfl (.t _) (.cons rfl (.le req_le) .nil))))) ?_ | refine sops_pure gy rfl rfl (po_move rfl rfl) ?_ | refine sops_skip gn1 rfl rfl ?_))) <;> (first | refine sops_pure gy rfl rfl (po_call (c3) rfl (.cons rfl (.t _) (.cons rfl (.t _) (.cons rfl (.t _) (.cons rfl (.le req_le) .nil))))) ?_ | refine sops_pure gy rfl rfl (po_call (c4) rfl (.cons rfl (.t _) (.cons rfl (.t _) (.cons rfl (.t _) (.cons rfl (.le req_le) .nil))))) ?_ | refine sops_pure gy rfl rfl (po_cmp rfl rfl rfl rfl) ?_ | refine sops_skip gn1 rfl rfl ?_) <;> (first | refine sops_pure (.free rfl rfl) rfl rfl (po_call (c3) rfl (.cons rfl (.t _) (.cons rfl (.t _) (.cons rfl (.t _) (.cons rfl (.le req_le) .nil))))) ?_ | refine sops_pure (.free rfl rfl) rfl rfl (po_call (c4) rfl (.cons rfl (.t _) (.cons rfl (.t _) (.cons rfl (.t _) (.cons rfl (.le req_le) .nil))))) ?_ | refine sops_pure (.free rfl rfl) rfl rfl (pkt rfl) ?_ | refine sops_pure (.free rfl rfl) rfl rfl (pkf rfl) ?_) <;> (first | refine sops_pure (.free rfl rfl) rfl rfl (po_call (c3) rfl (.cons rfl (.t _) (.cons rfl (.t _) (.cons rfl (.t _) (.cons rfl (.le req_le) .nil))))) ?_ | refine sops_pure (.free rfl rfl) rfl rfl (po_call (c4) rfl (.cons rfl (.t _) (.cons rfl (.t _) (.cons rfl (.t _) (.cons rfl (.le req_le) .nil))))) ?_ | refine sops_pure (.free rfl rfl) rfl rfl (po_move rfl rfl) ?_) <;> (first | refine sops_pure gy rfl rfl (po_call (c3) rfl (.cons rfl (.t _) (.cons rfl (.t _) (.cons rfl (.t _) (.cons rfl (.le req_le) .nil))))) ?_ | refine sops_pure gy rfl rfl (po_call (c4) rfl (.cons rfl (.t _) (.cons rfl (.t _) (.cons rfl (.t _) (.cons rfl (.le req_le) .nil))))) ?_ | refine sops_pure gy rfl rfl (po_move rfl rfl) ?_ | refine sops_skip gn1 rfl rfl ?_ | ((refine sops_split rfl rfl rfl (fun hc => ?_) (fun hc => ?_)) <;> (first | refine sops_pure gy rfl rfl (po_call (c3) rfl (.cons rfl (.t _) (.cons rfl (.t _) (.cons rfl (.t _) (.cons rfl (.le req_le) .nil))))) ?_ | refine sops_pure gy rfl rfl (po_call (c4) rfl (.cons rfl (.t _) (.cons rfl (.t _) (.cons rfl (.t _) (.cons rfl (.le req_le) .nil))))) ?_ | refine sops_pure gy rfl rfl (po_move rfl rfl) ?_ | refine sops_skip gn1 rfl rfl ?_))) <;> (first | refine sops_pure (.free rfl rfl) rfl rfl (po_call (c3) rfl (.cons rfl (.t _) (.cons rfl (.t _) (.cons rfl (.t _) (.cons rfl (.le req_le) .nil))))) ?_ | refine sops_pure (.free rfl rfl) rfl rfl (po_call (c4) rfl (.cons rfl (.t _) (.cons rfl (.t _) (.cons rfl (.t _) (.cons rfl (.le req_le) .nil))))) ?_ | refine sops_pure (.free rfl rfl) rfl rfl (pkt rfl) ?_ | refine sops_pure (.free rfl rfl) rfl rfl (pkf rfl) ?_) <;> (first | refine sops_pure (.free rfl rfl) rfl rfl (po_call (c3) rfl (.cons rfl (.t _) (.cons rfl (.t _) (.cons rfl (.t _) (.cons rfl (.le req_le) .nil))))) ?_ | refine sops_pure (.free rfl rfl) rfl rfl (po_call (c4) rfl (.cons rfl (.t _) (.cons rfl (.t _) (.cons rfl (.t _) (.cons rfl (.le req_le) .nil))))) ?_ | refine sops_pure (.free rfl rfl) rfl rfl (po_move rfl rfl) ?_) <;> (first | refine sops_pure gy rfl rfl (po_call (c3) rfl (.cons rfl (.t _) (.cons rfl (.t _) (.cons rfl (.t _) (.cons rfl (.le req_le) .nil))))) ?_ | refine sops_pure gy rfl rfl (po_call (c4) rfl (.cons rfl (.t _) (.cons rfl (.t _) (.cons rfl (.t _) (.cons rfl (.le req_le) .nil))))) ?_ | refine sops_pure gy rfl rfl (po_move rfl rfl) ?_ | refine sops_skip gn1 rfl rfl ?_ | ((refine sops_split rfl rfl rfl (fun hc => ?_) (fun hc => ?_)) <;> (first | refine sops_pure gy rfl rfl (po_call (c3) rfl (.cons rfl (.t _) (.cons rfl (.t _) (.cons rfl (.t _) (.cons rfl (.le req_le) .nil))))) ?_ | refine sops_pure gy rfl rfl (po_call (c4) rfl (.cons rfl (.t _) (.cons rfl (.t _) (.cons rfl (.t _) (.cons rfl (.le req_le) .nil))))) ?_ | refine sops_pure gy rfl rfl (po_move rfl rfl) ?_ | refine sops_skip gn1 rfl rfl ?_))) <;> (first | refine sops_pure gy rfl rfl (po_call (c3) rfl (.cons rfl (.t _) (.cons rfl (.t _) (.cons rfl (.t _) (.cons rfl (.le req_le) .nil))))) ?_ | refine sops_pure gy rfl rfl (po_call (c4) rfl (.cons rfl (.t _) (.cons rfl (.t _) (.cons rfl (.t _) (.cons rfl (.le req_le) .nil))))) ?_ | refine sops_pure gy rfl rfl (po_cmp rfl rfl rfl rfl) ?_ | refine sops_skip gn1 rfl rfl ?_) <;> (first | refine sops_pure (.free rfl rfl) rfl rfl (po_call (c3) rfl (.cons rfl (.t _) (.cons rfl (.t _) (.cons rfl (.t _) (.cons rfl (.le req_le) .nil))))) ?_ | refine sops_pure (.free rfl rfl) rfl rfl (po_call (c4) rfl (.cons rfl (.t _) (.cons rfl (.t _) (.cons rfl (.t _) (.cons rfl (.le req_le) .nil))))) ?_ | refine sops_pure (.free rfl rfl) rfl rfl (pkt rfl) ?_ | refine sops_pure (.free rfl rfl) rfl rfl (pkf rfl) ?_) <;> (first | refine sops_pure (.free rfl rfl) rfl rfl (po_call (c3) rfl (.cons rfl (.t _) (.cons rfl (.t _) (.cons rfl (.t _) (.cons rfl (.le req_le) .nil))))) ?_ | refine sops_pure (.free rfl rfl) rfl rfl (po_call (c4) rfl (.cons rfl (.t _) (.cons rfl (.t _) (.cons rfl (.t _) (.cons rfl (.le req_le) .nil))))) ?_ | refine sops_pure (.free rfl rfl) rfl rfl (po_move rfl rfl) ?_) <;> (first | refine sops_pure gy rfl rfl (po_call (c3) rfl (.cons rfl (.t _) (.cons rfl (.t _) (.cons rfl (.t _) (.cons rfl (.le req_le) .nil))))) ?_ | refine sops_pure gy rfl rfl (po_call (c4) rfl (.cons rfl (.t _) (.cons rfl (.t _) (.cons rfl (.t _) (.cons rfl (.le req_le) .nil))))) ?_ | refine sops_pure gy rfl rfl (po_move rfl rfl) ?_ | refine sops_skip gn1 rfl rfl ?_ | ((refine sops_split rfl rfl rfl (fun hc => ?_) (fun hc => ?_)) <;> (first | refine sops_pure gy rfl rfl (po_call (c3) rfl (.cons rfl (.t _) (.cons rfl (.t _) (.cons rfl (.t _) (.cons rfl (.le req_le) .nil))))) ?_ | refine sops_pure gy rfl rfl (po_call (c4) rfl (.cons rfl (.t _) (.cons rfl (.t _) (.cons rfl (.t _) (.cons rfl (.le req_le) .nil))))) ?_ | refine sops_pure gy rfl rfl (po_move rfl rfl) ?_ | refine sops_skip gn1 rfl rfl ?_))) <;> (first | refine sops_pure gy rfl rfl (po_call (c3) rfl (.cons rfl (.t _) (.cons rfl (.t _) (.cons rfl (.t _) (.cons rfl (.le req_le) .nil))))) ?_ | refine sops_pure gy rfl rfl (po_call (c4) rfl (.cons rfl (.t _) (.cons rfl (.t _) (.cons rfl (.t _) (.cons rfl (.le req_le) .nil))))) ?_ | refine sops_pure gy rfl rfl (po_not rfl rfl) ?_ | refine sops_skip gn1 rfl rfl ?_) <;> (first | refine sops_pure (.free rfl rfl) rfl rfl (po_call (c3) rfl (.cons rfl (.t _) (.cons rfl (.t _) (.cons rfl (.t _) (.cons rfl (.le req_le) .nil))))) ?_ | refine sops_pure (.free rfl rfl) rfl rfl (po_call (c4) rfl (.cons rfl (.t _) (.cons rfl (.t _) (.cons rfl (.t _) (.cons rfl (.le req_le) .nil))))) ?_ | refine sops_pure (.free rfl rfl) rfl rfl (pkt rfl) ?_ | refine sops_pure (.free rfl rfl) rfl rfl (pkf rfl) ?_) <;> (first | refine sops_pure (.free rfl rfl) rfl rfl (po_call (c3) rfl (.cons rfl (.t _) (.cons rfl (.t _) (.cons rfl (.t _) (.cons rfl (.le req_le) .nil))))) ?_ | refine sops_pure (.free rfl rfl) rfl rfl (po_call (c4) rfl (.cons rfl (.t _) (.cons rfl (.t _) (.cons rfl (.t _) (.cons rfl (.le req_le) .nil))))) ?_ | refine sops_pure (.free rfl rfl) rfl rfl (po_move rfl rfl) ?_) <;> (first | refine sops_pure gy rfl rfl (po_call (c3) rfl (.cons rfl (.t _) (.cons rfl (.t _) (.cons rfl (.t _) (.cons rfl (.le req_le) .nil))))) ?_ | refine sops_pure gy rfl rfl (po_call (c4) rfl (.cons rfl (.t _) (.cons rfl (.t _) (.cons rfl (.t _) (.cons rfl (.le req_le) .nil))))) ?_ | refine sops_pure gy rfl rfl (po_move rfl rfl) ?_ | refine sops_skip gn1 rfl rfl ?_ | ((refine sops_split rfl rfl rfl (fun hc => ?_) (fun hc => ?_)) <;> (first | refine sops_pure gy rfl rfl (po_call (c3) rfl (.cons rfl (.t _) (.cons rfl (.t _) (.cons rfl (.t _) (.cons rfl (.le req_le) .nil))))) ?_ | refine sops_pure gy rfl rfl (po_call (c4) rfl (.cons rfl (.t _) (.cons rfl (.t _) (.cons rfl (.t _) (.cons rfl (.le req_le) .nil))))) ?_ | refine sops_pure gy rfl rfl (po_move rfl rfl) ?_ | refine sops_skip gn1 rfl rfl ?_))) <;> (first | refine sops_pure gy rfl rfl (po_call (c3) rfl (.cons rfl (.t _) (.cons rfl (.t _) (.cons rfl (.t _) (.cons rfl (.le req_le) .nil))))) ?_ | refine sops_pure gy rfl rfl (po_call (c4) rfl (.cons rfl (.t _) (.cons rfl (.t _) (.cons rfl (.t _) (.cons rfl (.le req_le) .nil))))) ?_ | refine sops_pure gy rfl rfl (po_cmp rfl rfl rfl rfl) ?_ | refine sops_skip gn1 rfl rfl ?_) <;> (first | refine sops_pure (.free rfl rfl) rfl rfl (po_call (c3) rfl (.cons rfl (.t _) (.cons rfl (.t _) (.cons rfl (.t _) (.cons rfl (.le req_le) .nil))))) ?_ | refine sops_pure (.free rfl rfl) rfl rfl (po_call (c4) rfl (.cons rfl (.t _) (.cons rfl (.t _) (.cons rfl (.t _) (.cons rfl (.le req_le) .nil))))) ?_ | refine sops_pure (.free rfl rfl) rfl rfl (pkt rfl) ?_ | refine sops_pure (.free rfl rfl) rfl rfl (pkf rfl) ?_) <;> (first | refine sops_pure (.free rfl rfl) rfl rfl (po_call (c3) rfl (.cons rfl (.t _) (.cons rfl (.t _) (.cons rfl (.t _) (.cons rfl (.le req_le) .nil))))) ?_ | refine sops_pure (.free rfl rfl) rfl rfl (po_call (c4) rfl (.cons rfl (.t _) (.cons rfl (.t _) (.cons rfl (.t _) (.cons rfl (.le req_le) .nil))))) ?_ | refine sops_pure (.free rfl rfl) rfl rfl (po_move rfl rfl) ?_) <;> (first | refine sops_pure gy rfl rfl (po_call (c3) rfl (.cons rfl (.t _) (.cons rfl (.t _) (.cons rfl (.t _) (.cons rfl (.le req_le) .nil))))) ?_ | refine sops_pure gy rfl rfl (po_call (c4) rfl (.cons rfl (.t _) (.cons rfl (.t _) (.cons rfl (.t _) (.cons rfl (.le req_le) .nil))))) ?_ | refine sops_pure gy rfl rfl (po_move rfl rfl) ?_ | refine sops_skip gn1 rfl rfl ?_ | ((refine sops_split rfl rfl rfl (fun hc => ?_) (fun hc => ?_)) <;> (first | refine sops_pure gy rfl rfl (po_call (c3) rfl (.cons rfl (.t _) (.cons rfl (.t _) (.cons rfl (.t _) (.cons rfl (.le req_le) .nil))))) ?_ | refine sops_pure gy rfl rfl (po_call (c4) rfl (.cons rfl (.t _) (.cons rfl (.t _) (.cons rfl (.t _) (.cons rfl (.le req_le) .nil))))) ?_ | refine sops_pure gy rfl rfl (po_move rfl rfl) ?_ | refine sops_skip gn1 rfl rfl ?_))) <;> (first | refine sops_pure gy rfl rfl (po_call (c3) rfl (.cons rfl (.t _) (.cons rfl (.t _) (.cons rfl (.t _) (.cons rfl (.le req_le) .nil))))) ?_ | refine sops_pure gy rfl rfl (po_call (c4) rfl (.cons rfl (.t _) (.cons rfl (.t _) (.cons rfl (.t _) (.cons rfl (.le req_le) .nil))))) ?_ | refine sops_pure gy rfl rfl (po_not rfl rfl) ?_ | refine sops_skip gn1 rfl rfl ?_) <;> (first | refine sops_pure (.free rfl rfl) rfl rfl (po_call (c3) rfl (.cons rfl (.t _) (.cons rfl (.t _) (.cons rfl (.t _) (.cons rfl (.le req_le) .nil))))) ?_ | refine sops_pure (.free rfl rfl) rfl rfl (po_call (c4) rfl (.cons rfl (.t _) (.cons rfl (.t _) (.cons rfl (.t _) (.cons rfl (.le req_le) .nil))))) ?_ | refine sops_pure (.free rfl rfl) rfl rfl (pkt rfl) ?_ | refine sops_pure (.free rfl rfl) rfl rfl (pkf rfl) ?_) <;> (first | refine sops_pure (.free rfl rfl) rfl rfl (po_call (c3) rfl (.cons rfl (.t _) (.cons rfl (.t _) (.cons rfl (.t _) (.cons rfl (.le req_le) .nil))))) ?_ | refine sops_pure (.free rfl rfl) rfl rfl (po_call (c4) rfl (.cons rfl (.t _) (.cons rfl (.t _) (.cons rfl (.t _) (.cons rfl (.le req_le) .nil))))) ?_ | refine sops_pure (.free rfl rfl) rfl rfl (po_move rfl rfl) ?_) <;> (first | refine sops_pure gy rfl rfl (po_call (c3) rfl (.cons rfl (.t _) (.cons rfl (.t _) (.cons rfl (.t _) (.cons rfl (.le req_le) .nil))))) ?_ | refine sops_pure gy rfl rfl (po_call (c4) rfl (.cons rfl (.t _) (.cons rfl (.t _) (.cons rfl (.t _) (.cons rfl (.le req_le) .nil))))) ?_ | refine sops_pure gy rfl rfl (po_move rfl rfl) ?_ | refine sops_skip gn1 rfl rfl ?_ | ((refine sops_split rfl rfl rfl (fun hc => ?_) (fun hc => ?_)) <;> (first | refine sops_pure gy rfl rfl (po_call (c3) rfl (.cons rfl (.t _) (.cons rfl (.t _) (.cons rfl (.t _) (.cons rfl (.le req_le) .nil))))) ?_ | refine sops_pure gy rfl rfl (po_call (c4) rfl (.cons rfl (.t _) (.cons rfl (.t _) (.cons rfl (.t _) (.cons rfl (.le req_le) .nil))))) ?_ | refine sops_pure gy rfl rfl (po_move rfl rfl) ?_ | refine sops_skip gn1 rfl rfl ?_))) <;> (first | refine sops_pure gy rfl rfl (po_call (c3) rfl (.cons rfl (.t _) (.cons rfl (.t _) (.cons rfl (.t _) (.cons rfl (.le req_le) .nil))))) ?_ | refine sops_pure gy rfl rfl (po_call (c4) rfl (.cons rfl (.t _) (.cons rfl (.t _) (.cons rfl (.t _) (.cons rfl (.le req_le) .nil))))) ?_ | refine sops_pure gy rfl rfl (po_cmp rfl rfl rfl rfl) ?_ | refine sops_skip gn1 rfl rfl ?_) <;> (first | refine sops_pure (.free rfl rfl) rfl rfl (po_call (c3) rfl (.cons rfl (.t _) (.cons rfl (.t _) (.cons rfl (.t _) (.cons rfl (.le req_le) .nil))))) ?_ | refine sops_pure (.free rfl rfl) rfl rfl (po_call (c4) rfl (.cons rfl (.t _) (.cons rfl (.t _) (.cons rfl (.t _) (.cons rfl (.le req_le) .nil))))) ?_ | refine sops_pure (.free rfl rfl) rfl rfl (pkt rfl) ?_ | refine sops_pure (.free rfl rfl) rfl rfl (pkf rfl) ?_) <;> (first | refine sops_pure (.free rfl rfl) rfl rfl (po_call (c3) rfl (.cons rfl (.t _) (.cons rfl (.t _) (.cons rfl (.t _) (.cons rfl (.le req_le) .nil))))) ?_ | refine sops_pure (.free rfl rfl) rfl rfl (po_call (c4) rfl (.cons rfl (.t _) (.cons rfl (.t _) (.cons rfl (.t _) (.cons rfl (.le req_le) .nil))))) ?_ | refine sops_pure (.free rfl rfl) rfl rfl (po_assign rfl rfl) ?_) <;> (refine sops_nil ?_))
    | refine swp_ret ?_
    | refine swp_skip ?_
    | refine swp_block ?_
    | refine swp_exit ?_
    | refine block_go ?_
    | refine block_exit ?_
    | refine block_far rfl ?_
    | refine block_ret ?_
    | refine then_ret ?_
    | refine then_exit ?_
    | refine for_ret ?_
    | refine for_exit ?_
    | refine ct ?_
    | refine cf ?_
    | refine swp_cond rfl (fun hc => ?_) (fun hc => ?_)
    | refine retq (by first | exact .inr rfl | exact .inl rfl) rfl (.tmp rfl (by first | exact .t _ | exact .own rfl (by first | rfl | assumption | (simp; done) | (simp; omega)) | exact .nil _ | exact .emp _ | exact .fn _) .nil) ?_)
  rfl
end Go.Proofs.YtlcecabfmemfeaaGreat.Pol

/- The document's copy of a rule: its rows are the caller's own. -/
namespace Go.Proofs.YtlcecabfmemfeaaGreat.Pol
set_option linter.unusedVariables false
set_option linter.unusedSimpArgs false
open Go.RowKit Mem Sim Opn
def D1 (r : Pl.Rule) (k : Nat) : St := ⟨[(1, .bp 1 0), (2, .bp 2 0), (3, .bp 3 0), (4, .t (.v (.int .i64 (k : Int))))], [(1, rcells r), (2, [nil0, nil0, nil0]), (3, [.own 1003 ((r.from_.take k).map sourceT).length, nil0, nil0])], [(1003, ⟨78, 3, (r.from_.take k).map sourceT⟩)]⟩
def D2 (r : Pl.Rule) (k : Nat) : St := ⟨[(1, .bp 1 0), (2, .bp 2 0), (3, .bp 3 0), (6, .t (.v (.int .i64 (k : Int))))], [(1, rcells r), (2, [nil0, nil0, nil0]), (3, [.own 1003 (r.from_.map sourceT).length, .own 1004 ((r.to_.take k).map targetT).length, nil0])], [(1003, ⟨78, 3, r.from_.map sourceT⟩), (1004, ⟨80, 4, (r.to_.take k).map targetT⟩)]⟩
def D3 (r : Pl.Rule) (k : Nat) : St := ⟨[(1, .bp 1 0), (2, .bp 2 0), (3, .bp 3 0), (8, .t (.v (.int .i64 (k : Int))))], [(1, rcells r), (2, [nil0, nil0, nil0]), (3, [.own 1003 (r.from_.map sourceT).length, .own 1004 (r.to_.map targetT).length, .own 1005 ((r.when_.take k).map whenT).length])], [(1003, ⟨78, 3, r.from_.map sourceT⟩), (1004, ⟨80, 4, r.to_.map targetT⟩), (1005, ⟨82, 2, (r.when_.take k).map whenT⟩)]⟩
set_option maxRecDepth 100000 in
set_option maxHeartbeats 4000000 in
theorem copyRuleL (r : Pl.Rule) (hf : FewR r) : LCalls Tryz.prog 37 [.t (.agg (ruleT r))] [] [] (.ag [.own 1003 (r.from_.map sourceT).length, .own 1004 (r.to_.map targetT).length, .own 1005 (r.when_.map whenT).length]) [] [(1003, ⟨78, 3, r.from_.map sourceT⟩), (1004, ⟨80, 4, r.to_.map targetT⟩), (1005, ⟨82, 2, r.when_.map whenT⟩)] := by
  have h1 := hf.f
  have h2 := hf.t
  have h3 := hf.w
  have hm1 : (r.from_.map sourceT).length = r.from_.length := List.length_map _
  have hm2 : (r.to_.map targetT).length = r.to_.length := List.length_map _
  have hm3 : (r.when_.map whenT).length = r.when_.length := List.length_map _
  refine lcalls_of Tryz.func37 rfl rfl Tryz.ntmps37 rfl ?_
  repeat' (first
    | refine then_go ?_
    | refine swp_seq ?_
    | ((refine swp_region (id := 0) ?_) <;> (refine sops_box (.free rfl rfl) rfl rfl rfl rfl rfl rfl ?_) <;> (refine sops_allocS str46 (.free rfl rfl) rfl rfl rfl rfl ?_) <;> (refine sops_nil ?_))
    | ((refine swp_region (id := 1) ?_) <;> (refine sops_allocS str46 (.free rfl rfl) rfl rfl rfl rfl ?_) <;> (refine sops_nil ?_))
    | ((refine swp_region (id := 2) ?_) <;> (refine sops_pure (.free rfl rfl) rfl rfl (po_assign rfl rfl) ?_) <;> (refine sops_nil ?_))
    | refine swp_ret ?_
    | refine swp_skip ?_
    | refine swp_block ?_
    | refine swp_exit ?_
    | refine block_go ?_
    | refine block_exit ?_
    | refine block_far rfl ?_
    | refine block_ret ?_
    | refine then_ret ?_
    | refine then_exit ?_
    | refine for_ret ?_
    | refine for_exit ?_
    | refine ct ?_
    | refine cf ?_
    | refine swp_cond rfl (fun hc => ?_) (fun hc => ?_)
    | refine retq (by first | exact .inr rfl | exact .inl rfl) rfl (.cell rfl rfl (tyT rfl) (vc (vc (vc .nil))) rfl .nil) ?_)
  refine swp_for (D1 r) (fun _ => True) r.from_.length ?_ trivial ?_
  · refine Weak.trans (weak_own0_bx (q := 1003) 78 3 (i := 3) (j := 0) rfl rfl rfl) ?_
    exact (weak_sub (.cons rfl rfl rfl (.cons rfl rfl rfl (.cons rfl rfl rfl (.cons rfl rfl rfl .nil)))) (.cons rfl rfl rfl (.cons rfl rfl rfl (.cons rfl rfl rfl .nil))) (.cons rfl rfl .nil))
  intro k hk _
  unfold D1
  by_cases hlt : k < r.from_.length
  · have hsn := map_take_succ sourceT hlt
    obtain ⟨b0, b1, b2⟩ := hf.fs _ (List.getElem_mem hlt)
    have e0 := few_b (f := termT) 24 b0 (by omega)
    have e1 := few_b (f := termT) 24 b1 (by omega)
    have e2 := few_b (f := cidrT) 16 b2 (by omega)
    have m0 := few_m (f := termT) b0
    have m1 := few_m (f := termT) b1
    have m2 := few_m (f := cidrT) b2
    repeat' (first
      | refine then_go ?_
      | refine swp_seq ?_
      | refine for_next hlt (weak_sub (.cons rfl (by first | rfl | (rw [hsn]; rfl)) rfl (.cons rfl (by first | rfl | (rw [hsn]; rfl)) rfl (.cons rfl (by first | rfl | (rw [hsn]; rfl)) rfl (.cons rfl (by first | rfl | (rw [hsn]; rfl)) rfl .nil)))) (.cons rfl (by first | rfl | (rw [hsn]; rfl)) rfl (.cons rfl (by first | rfl | (rw [hsn]; rfl)) rfl (.cons rfl (by first | rfl | (rw [hsn]; rfl)) rfl .nil))) (.cons rfl (by first | rfl | (rw [hsn]; rfl)) .nil)) trivial
      | ((refine swp_region (id := 3) ?_) <;> (refine sops_pure (.free rfl rfl) rfl rfl (po_move rfl rfl) ?_) <;> (first | refine sops_pure (.free rfl rfl) rfl rfl (po_field_bx rfl rfl (tyF rfl)) ?_ | refine sops_pure (.free rfl rfl) rfl rfl (po_field rfl rfl (tyF rfl)) ?_) <;> (first | refine sops_pure (.free rfl rfl) rfl rfl (po_load_bx rfl rfl (tyT rfl) rfl rfl) ?_ | refine sops_pure (.free rfl rfl) rfl rfl (po_load rfl rfl (tyT rfl) rfl) ?_) <;> (refine sops_pure (.free rfl rfl) rfl rfl (pln rfl (tyS rfl)) ?_) <;> (refine sops_pure (.free rfl rfl) rfl rfl (po_cmp rfl rfl rfl rfl) ?_) <;> (refine sops_nil ?_))
      | ((refine swp_region (id := 5) ?_) <;> (first | refine sops_pure (.free rfl rfl) rfl rfl (po_field_bx rfl rfl (tyF rfl)) ?_ | refine sops_pure (.free rfl rfl) rfl rfl (po_field rfl rfl (tyF rfl)) ?_) <;> (first | refine sops_pure (.free rfl rfl) rfl rfl (po_load_bx rfl rfl (tyT rfl) rfl rfl) ?_ | refine sops_pure (.free rfl rfl) rfl rfl (po_load rfl rfl (tyT rfl) rfl) ?_) <;> (refine sops_pure (.free rfl rfl) rfl rfl (po_move rfl rfl) ?_) <;> (refine sops_pure (.free rfl rfl) rfl rfl (pix rfl (tyS rfl)) ?_) <;> (first | refine sops_pure (.free rfl rfl) rfl rfl (po_load_bx_agg rfl rfl (tyT rfl) rfl (vc (vc (vc .nil))) rfl) ?_ | refine sops_pure (.free rfl rfl) rfl rfl (po_load_agg rfl rfl (tyT rfl) rfl rfl) ?_) <;> (refine sops_allocS str78 (.free rfl rfl) rfl rfl rfl rfl ?_) <;> (refine sops_store (.free rfl rfl) rfl rfl rfl rfl rfl rfl (tyT rfl) rfl rfl ?_) <;> (refine sops_nil ?_))
      | ((refine swp_draw (id := 6) 16 mixed (by kernel_rfl) (by kernel_rfl) ?_) <;> (first | refine sdraw_pure (.free rfl rfl) rfl (po_field_bx rfl rfl (tyF rfl)) ?_ | refine sdraw_pure (.free rfl rfl) rfl (po_field rfl rfl (tyF rfl)) ?_) <;> (first | refine sdraw_pure (.free rfl rfl) rfl (po_load_bx rfl rfl (tyT rfl) rfl rfl) ?_ | refine sdraw_pure (.free rfl rfl) rfl (po_load rfl rfl (tyT rfl) rfl) ?_) <;> (refine sdraw_pure (.free rfl rfl) rfl (po_buildSlice0 rfl (tyE rfl)) ?_) <;> (first | refine sdraw_pure (.free rfl rfl) rfl (po_field_bx rfl rfl (tyF rfl)) ?_ | refine sdraw_pure (.free rfl rfl) rfl (po_field rfl rfl (tyF rfl)) ?_) <;> (first | refine sdraw_pure (.free rfl rfl) rfl (po_load_bx rfl rfl (tyT rfl) rfl rfl) ?_ | refine sdraw_pure (.free rfl rfl) rfl (po_load rfl rfl (tyT rfl) rfl) ?_) <;> (refine sdraw_pure (.free rfl rfl) rfl (pan rfl (tyE rfl)) ?_) <;> (refine sdraw_pure (.free rfl rfl) rfl (po_buildSlice0 rfl (tyE rfl)) ?_) <;> (first | refine sdraw_pure (.free rfl rfl) rfl (po_field_bx rfl rfl (tyF rfl)) ?_ | refine sdraw_pure (.free rfl rfl) rfl (po_field rfl rfl (tyF rfl)) ?_) <;> (first | refine sdraw_pure (.free rfl rfl) rfl (po_load_bx rfl rfl (tyT rfl) rfl rfl) ?_ | refine sdraw_pure (.free rfl rfl) rfl (po_load rfl rfl (tyT rfl) rfl) ?_) <;> (refine sdraw_pure (.free rfl rfl) rfl (pan rfl (tyE rfl)) ?_) <;> (refine sdraw_pure (.free rfl rfl) rfl (po_buildSlice0 rfl (tyE rfl)) ?_) <;> (first | refine sdraw_pure (.free rfl rfl) rfl (po_field_bx rfl rfl (tyF rfl)) ?_ | refine sdraw_pure (.free rfl rfl) rfl (po_field rfl rfl (tyF rfl)) ?_) <;> (first | refine sdraw_pure (.free rfl rfl) rfl (po_load_bx rfl rfl (tyT rfl) rfl rfl) ?_ | refine sdraw_pure (.free rfl rfl) rfl (po_load rfl rfl (tyT rfl) rfl) ?_) <;> (refine sdraw_pure (.free rfl rfl) rfl (pan rfl (tyE rfl)) ?_) <;> (refine sdraw_pure (.free rfl rfl) rfl (po_buildS str78 rfl (pc (pc (pc .nil))) rfl) ?_) <;> (refine sdraw_pure (.free rfl rfl) rfl (po_buildSlice rfl (tyE rfl) (dc (.nil _)) rfl rfl rfl) ?_) <;> (refine sdraw_nil ?_) <;> (first | refine sap rfl (tyE rfl) ?_ | refine san rfl (tyE rfl) ?_) <;> (first | refine sops_pure (.free rfl rfl) rfl rfl (po_field_bx rfl rfl (tyF rfl)) ?_ | refine sops_pure (.free rfl rfl) rfl rfl (po_field rfl rfl (tyF rfl)) ?_) <;> (refine sops_store (.free rfl rfl) rfl rfl rfl rfl rfl rfl (tyT rfl) rfl rfl ?_) <;> (refine sops_nil ?_))
      | ((refine swp_region (id := 4) ?_) <;> (refine sops_pure (.free rfl rfl) rfl rfl (po_move rfl rfl) ?_) <;> (first | refine sops_pure (.free rfl rfl) rfl rfl (po_inc rfl rfl rfl (by omega)) ?_ | refine sops_pure (.free rfl rfl) rfl rfl (po_arith rfl rfl rfl (ar_add (by first | rfl | (refine wrap_i64 ?_; omega)) rfl)) ?_) <;> (refine sops_pure (.free rfl rfl) rfl rfl (po_assign rfl rfl) ?_) <;> (refine sops_nil ?_))
      | refine swp_ret ?_
      | refine swp_skip ?_
      | refine swp_block ?_
      | refine swp_exit ?_
      | refine block_go ?_
      | refine block_exit ?_
      | refine block_far rfl ?_
      | refine block_ret ?_
      | refine then_ret ?_
      | refine then_exit ?_
      | refine for_ret ?_
      | refine for_exit ?_
      | refine ct ?_
      | refine cf ?_
      | refine swp_cond rfl (fun hc => ?_) (fun hc => ?_)
      | refine retq (by first | exact .inr rfl | exact .inl rfl) rfl (.cell rfl rfl (tyT rfl) (vc (vc (vc .nil))) rfl .nil) ?_)
  · obtain rfl : k = r.from_.length := by omega
    repeat' (first
      | refine then_go ?_
      | refine swp_seq ?_
      | ((refine swp_region (id := 3) ?_) <;> (refine sops_pure (.free rfl rfl) rfl rfl (po_move rfl rfl) ?_) <;> (first | refine sops_pure (.free rfl rfl) rfl rfl (po_field_bx rfl rfl (tyF rfl)) ?_ | refine sops_pure (.free rfl rfl) rfl rfl (po_field rfl rfl (tyF rfl)) ?_) <;> (first | refine sops_pure (.free rfl rfl) rfl rfl (po_load_bx rfl rfl (tyT rfl) rfl rfl) ?_ | refine sops_pure (.free rfl rfl) rfl rfl (po_load rfl rfl (tyT rfl) rfl) ?_) <;> (refine sops_pure (.free rfl rfl) rfl rfl (pln rfl (tyS rfl)) ?_) <;> (refine sops_pure (.free rfl rfl) rfl rfl (po_cmp rfl rfl rfl rfl) ?_) <;> (refine sops_nil ?_))
      | ((refine swp_region (id := 7) ?_) <;> (refine sops_pure (.free rfl rfl) rfl rfl (po_assign rfl rfl) ?_) <;> (refine sops_nil ?_))
      | refine swp_ret ?_
      | refine swp_skip ?_
      | refine swp_block ?_
      | refine swp_exit ?_
      | refine block_go ?_
      | refine block_exit ?_
      | refine block_far rfl ?_
      | refine block_ret ?_
      | refine then_ret ?_
      | refine then_exit ?_
      | refine for_ret ?_
      | refine for_exit ?_
      | refine ct ?_
      | refine cf ?_
      | refine swp_cond rfl (fun hc => ?_) (fun hc => ?_)
      | refine retq (by first | exact .inr rfl | exact .inl rfl) rfl (.cell rfl rfl (tyT rfl) (vc (vc (vc .nil))) rfl .nil) ?_)
    refine swp_for (D2 r) (fun _ => True) r.to_.length ?_ trivial ?_
    · refine Weak.trans (weak_own0_bx (q := 1004) 80 4 (i := 3) (j := 1) rfl rfl rfl) ?_
      rw [List.take_length]
      exact (weak_sub (.cons rfl rfl rfl (.cons rfl rfl rfl (.cons rfl rfl rfl (.cons rfl rfl rfl .nil)))) (.cons rfl rfl rfl (.cons rfl rfl rfl (.cons rfl rfl rfl .nil))) (.cons rfl rfl (.cons rfl rfl .nil)))
    intro k hk _
    unfold D2
    by_cases hlt : k < r.to_.length
    · have hsn := map_take_succ targetT hlt
      obtain ⟨b0, b1, b2, b3⟩ := hf.ts _ (List.getElem_mem hlt)
      have e0 := few_b (f := intT) 8 b0 (by omega)
      have e1 := few_b (f := termT) 24 b1 (by omega)
      have e2 := few_b (f := termT) 24 b2 (by omega)
      have e3 := few_b (f := termT) 24 b3 (by omega)
      have m0 := few_m (f := intT) b0
      have m1 := few_m (f := termT) b1
      have m2 := few_m (f := termT) b2
      have m3 := few_m (f := termT) b3
      repeat' (first
        | refine then_go ?_
        | refine swp_seq ?_
        | refine for_next hlt (weak_sub (.cons rfl (by first | rfl | (rw [hsn]; rfl)) rfl (.cons rfl (by first | rfl | (rw [hsn]; rfl)) rfl (.cons rfl (by first | rfl | (rw [hsn]; rfl)) rfl (.cons rfl (by first | rfl | (rw [hsn]; rfl)) rfl .nil)))) (.cons rfl (by first | rfl | (rw [hsn]; rfl)) rfl (.cons rfl (by first | rfl | (rw [hsn]; rfl)) rfl (.cons rfl (by first | rfl | (rw [hsn]; rfl)) rfl .nil))) (.cons rfl (by first | rfl | (rw [hsn]; rfl)) (.cons rfl (by first | rfl | (rw [hsn]; rfl)) .nil))) trivial
        | ((refine swp_region (id := 8) ?_) <;> (refine sops_pure (.free rfl rfl) rfl rfl (po_move rfl rfl) ?_) <;> (first | refine sops_pure (.free rfl rfl) rfl rfl (po_field_bx rfl rfl (tyF rfl)) ?_ | refine sops_pure (.free rfl rfl) rfl rfl (po_field rfl rfl (tyF rfl)) ?_) <;> (first | refine sops_pure (.free rfl rfl) rfl rfl (po_load_bx rfl rfl (tyT rfl) rfl rfl) ?_ | refine sops_pure (.free rfl rfl) rfl rfl (po_load rfl rfl (tyT rfl) rfl) ?_) <;> (refine sops_pure (.free rfl rfl) rfl rfl (pln rfl (tyS rfl)) ?_) <;> (refine sops_pure (.free rfl rfl) rfl rfl (po_cmp rfl rfl rfl rfl) ?_) <;> (refine sops_nil ?_))
        | ((refine swp_region (id := 10) ?_) <;> (first | refine sops_pure (.free rfl rfl) rfl rfl (po_field_bx rfl rfl (tyF rfl)) ?_ | refine sops_pure (.free rfl rfl) rfl rfl (po_field rfl rfl (tyF rfl)) ?_) <;> (first | refine sops_pure (.free rfl rfl) rfl rfl (po_load_bx rfl rfl (tyT rfl) rfl rfl) ?_ | refine sops_pure (.free rfl rfl) rfl rfl (po_load rfl rfl (tyT rfl) rfl) ?_) <;> (refine sops_pure (.free rfl rfl) rfl rfl (po_move rfl rfl) ?_) <;> (refine sops_pure (.free rfl rfl) rfl rfl (pix rfl (tyS rfl)) ?_) <;> (first | refine sops_pure (.free rfl rfl) rfl rfl (po_load_bx_agg rfl rfl (tyT rfl) rfl (vc (vc (vc (vc .nil)))) rfl) ?_ | refine sops_pure (.free rfl rfl) rfl rfl (po_load_agg rfl rfl (tyT rfl) rfl rfl) ?_) <;> (refine sops_allocS str80 (.free rfl rfl) rfl rfl rfl rfl ?_) <;> (refine sops_store (.free rfl rfl) rfl rfl rfl rfl rfl rfl (tyT rfl) rfl rfl ?_) <;> (refine sops_nil ?_))
        | ((refine swp_draw (id := 11) 20 mixed (by kernel_rfl) (by kernel_rfl) ?_) <;> (first | refine sdraw_pure (.free rfl rfl) rfl (po_field_bx rfl rfl (tyF rfl)) ?_ | refine sdraw_pure (.free rfl rfl) rfl (po_field rfl rfl (tyF rfl)) ?_) <;> (first | refine sdraw_pure (.free rfl rfl) rfl (po_load_bx rfl rfl (tyT rfl) rfl rfl) ?_ | refine sdraw_pure (.free rfl rfl) rfl (po_load rfl rfl (tyT rfl) rfl) ?_) <;> (refine sdraw_pure (.free rfl rfl) rfl (po_buildSlice0 rfl (tyE rfl)) ?_) <;> (first | refine sdraw_pure (.free rfl rfl) rfl (po_field_bx rfl rfl (tyF rfl)) ?_ | refine sdraw_pure (.free rfl rfl) rfl (po_field rfl rfl (tyF rfl)) ?_) <;> (first | refine sdraw_pure (.free rfl rfl) rfl (po_load_bx rfl rfl (tyT rfl) rfl rfl) ?_ | refine sdraw_pure (.free rfl rfl) rfl (po_load rfl rfl (tyT rfl) rfl) ?_) <;> (refine sdraw_pure (.free rfl rfl) rfl (pan rfl (tyE rfl)) ?_) <;> (refine sdraw_pure (.free rfl rfl) rfl (po_buildSlice0 rfl (tyE rfl)) ?_) <;> (first | refine sdraw_pure (.free rfl rfl) rfl (po_field_bx rfl rfl (tyF rfl)) ?_ | refine sdraw_pure (.free rfl rfl) rfl (po_field rfl rfl (tyF rfl)) ?_) <;> (first | refine sdraw_pure (.free rfl rfl) rfl (po_load_bx rfl rfl (tyT rfl) rfl rfl) ?_ | refine sdraw_pure (.free rfl rfl) rfl (po_load rfl rfl (tyT rfl) rfl) ?_) <;> (refine sdraw_pure (.free rfl rfl) rfl (pan rfl (tyE rfl)) ?_) <;> (refine sdraw_pure (.free rfl rfl) rfl (po_buildSlice0 rfl (tyE rfl)) ?_) <;> (first | refine sdraw_pure (.free rfl rfl) rfl (po_field_bx rfl rfl (tyF rfl)) ?_ | refine sdraw_pure (.free rfl rfl) rfl (po_field rfl rfl (tyF rfl)) ?_) <;> (first | refine sdraw_pure (.free rfl rfl) rfl (po_load_bx rfl rfl (tyT rfl) rfl rfl) ?_ | refine sdraw_pure (.free rfl rfl) rfl (po_load rfl rfl (tyT rfl) rfl) ?_) <;> (refine sdraw_pure (.free rfl rfl) rfl (pan rfl (tyE rfl)) ?_) <;> (refine sdraw_pure (.free rfl rfl) rfl (po_buildSlice0 rfl (tyE rfl)) ?_) <;> (first | refine sdraw_pure (.free rfl rfl) rfl (po_field_bx rfl rfl (tyF rfl)) ?_ | refine sdraw_pure (.free rfl rfl) rfl (po_field rfl rfl (tyF rfl)) ?_) <;> (first | refine sdraw_pure (.free rfl rfl) rfl (po_load_bx rfl rfl (tyT rfl) rfl rfl) ?_ | refine sdraw_pure (.free rfl rfl) rfl (po_load rfl rfl (tyT rfl) rfl) ?_) <;> (refine sdraw_pure (.free rfl rfl) rfl (pan rfl (tyE rfl)) ?_) <;> (refine sdraw_pure (.free rfl rfl) rfl (po_buildS str80 rfl (pc (pc (pc (pc .nil)))) rfl) ?_) <;> (refine sdraw_pure (.free rfl rfl) rfl (po_buildSlice rfl (tyE rfl) (dc (.nil _)) rfl rfl rfl) ?_) <;> (refine sdraw_nil ?_) <;> (first | refine sap rfl (tyE rfl) ?_ | refine san rfl (tyE rfl) ?_) <;> (first | refine sops_pure (.free rfl rfl) rfl rfl (po_field_bx rfl rfl (tyF rfl)) ?_ | refine sops_pure (.free rfl rfl) rfl rfl (po_field rfl rfl (tyF rfl)) ?_) <;> (refine sops_store (.free rfl rfl) rfl rfl rfl rfl rfl rfl (tyT rfl) rfl rfl ?_) <;> (refine sops_nil ?_))
        | ((refine swp_region (id := 9) ?_) <;> (refine sops_pure (.free rfl rfl) rfl rfl (po_move rfl rfl) ?_) <;> (first | refine sops_pure (.free rfl rfl) rfl rfl (po_inc rfl rfl rfl (by omega)) ?_ | refine sops_pure (.free rfl rfl) rfl rfl (po_arith rfl rfl rfl (ar_add (by first | rfl | (refine wrap_i64 ?_; omega)) rfl)) ?_) <;> (refine sops_pure (.free rfl rfl) rfl rfl (po_assign rfl rfl) ?_) <;> (refine sops_nil ?_))
        | refine swp_ret ?_
        | refine swp_skip ?_
        | refine swp_block ?_
        | refine swp_exit ?_
        | refine block_go ?_
        | refine block_exit ?_
        | refine block_far rfl ?_
        | refine block_ret ?_
        | refine then_ret ?_
        | refine then_exit ?_
        | refine for_ret ?_
        | refine for_exit ?_
        | refine ct ?_
        | refine cf ?_
        | refine swp_cond rfl (fun hc => ?_) (fun hc => ?_)
        | refine retq (by first | exact .inr rfl | exact .inl rfl) rfl (.cell rfl rfl (tyT rfl) (vc (vc (vc .nil))) rfl .nil) ?_)
    · obtain rfl : k = r.to_.length := by omega
      repeat' (first
        | refine then_go ?_
        | refine swp_seq ?_
        | ((refine swp_region (id := 8) ?_) <;> (refine sops_pure (.free rfl rfl) rfl rfl (po_move rfl rfl) ?_) <;> (first | refine sops_pure (.free rfl rfl) rfl rfl (po_field_bx rfl rfl (tyF rfl)) ?_ | refine sops_pure (.free rfl rfl) rfl rfl (po_field rfl rfl (tyF rfl)) ?_) <;> (first | refine sops_pure (.free rfl rfl) rfl rfl (po_load_bx rfl rfl (tyT rfl) rfl rfl) ?_ | refine sops_pure (.free rfl rfl) rfl rfl (po_load rfl rfl (tyT rfl) rfl) ?_) <;> (refine sops_pure (.free rfl rfl) rfl rfl (pln rfl (tyS rfl)) ?_) <;> (refine sops_pure (.free rfl rfl) rfl rfl (po_cmp rfl rfl rfl rfl) ?_) <;> (refine sops_nil ?_))
        | ((refine swp_region (id := 12) ?_) <;> (refine sops_pure (.free rfl rfl) rfl rfl (po_assign rfl rfl) ?_) <;> (refine sops_nil ?_))
        | refine swp_ret ?_
        | refine swp_skip ?_
        | refine swp_block ?_
        | refine swp_exit ?_
        | refine block_go ?_
        | refine block_exit ?_
        | refine block_far rfl ?_
        | refine block_ret ?_
        | refine then_ret ?_
        | refine then_exit ?_
        | refine for_ret ?_
        | refine for_exit ?_
        | refine ct ?_
        | refine cf ?_
        | refine swp_cond rfl (fun hc => ?_) (fun hc => ?_)
        | refine retq (by first | exact .inr rfl | exact .inl rfl) rfl (.cell rfl rfl (tyT rfl) (vc (vc (vc .nil))) rfl .nil) ?_)
      refine swp_for (D3 r) (fun _ => True) r.when_.length ?_ trivial ?_
      · refine Weak.trans (weak_own0_bx (q := 1005) 82 2 (i := 3) (j := 2) rfl rfl rfl) ?_
        rw [List.take_length]
        exact (weak_sub (.cons rfl rfl rfl (.cons rfl rfl rfl (.cons rfl rfl rfl (.cons rfl rfl rfl .nil)))) (.cons rfl rfl rfl (.cons rfl rfl rfl (.cons rfl rfl rfl .nil))) (.cons rfl rfl (.cons rfl rfl (.cons rfl rfl .nil))))
      intro k hk _
      unfold D3
      by_cases hlt : k < r.when_.length
      · have hsn := map_take_succ whenT hlt
        have b0 := hf.ws _ (List.getElem_mem hlt)
        have e0 := few_b (f := termT) 24 b0 (by omega)
        have m0 := few_m (f := termT) b0
        repeat' (first
          | refine then_go ?_
          | refine swp_seq ?_
          | refine for_next hlt (weak_sub (.cons rfl (by first | rfl | (rw [hsn]; rfl)) rfl (.cons rfl (by first | rfl | (rw [hsn]; rfl)) rfl (.cons rfl (by first | rfl | (rw [hsn]; rfl)) rfl (.cons rfl (by first | rfl | (rw [hsn]; rfl)) rfl .nil)))) (.cons rfl (by first | rfl | (rw [hsn]; rfl)) rfl (.cons rfl (by first | rfl | (rw [hsn]; rfl)) rfl (.cons rfl (by first | rfl | (rw [hsn]; rfl)) rfl .nil))) (.cons rfl (by first | rfl | (rw [hsn]; rfl)) (.cons rfl (by first | rfl | (rw [hsn]; rfl)) (.cons rfl (by first | rfl | (rw [hsn]; rfl)) .nil)))) trivial
          | ((refine swp_region (id := 13) ?_) <;> (refine sops_pure (.free rfl rfl) rfl rfl (po_move rfl rfl) ?_) <;> (first | refine sops_pure (.free rfl rfl) rfl rfl (po_field_bx rfl rfl (tyF rfl)) ?_ | refine sops_pure (.free rfl rfl) rfl rfl (po_field rfl rfl (tyF rfl)) ?_) <;> (first | refine sops_pure (.free rfl rfl) rfl rfl (po_load_bx rfl rfl (tyT rfl) rfl rfl) ?_ | refine sops_pure (.free rfl rfl) rfl rfl (po_load rfl rfl (tyT rfl) rfl) ?_) <;> (refine sops_pure (.free rfl rfl) rfl rfl (pln rfl (tyS rfl)) ?_) <;> (refine sops_pure (.free rfl rfl) rfl rfl (po_cmp rfl rfl rfl rfl) ?_) <;> (refine sops_nil ?_))
          | ((refine swp_draw (id := 15) 18 mixed (by kernel_rfl) (by kernel_rfl) ?_) <;> (first | refine sdraw_pure (.free rfl rfl) rfl (po_field_bx rfl rfl (tyF rfl)) ?_ | refine sdraw_pure (.free rfl rfl) rfl (po_field rfl rfl (tyF rfl)) ?_) <;> (first | refine sdraw_pure (.free rfl rfl) rfl (po_load_bx rfl rfl (tyT rfl) rfl rfl) ?_ | refine sdraw_pure (.free rfl rfl) rfl (po_load rfl rfl (tyT rfl) rfl) ?_) <;> (first | refine sdraw_pure (.free rfl rfl) rfl (po_field_bx rfl rfl (tyF rfl)) ?_ | refine sdraw_pure (.free rfl rfl) rfl (po_field rfl rfl (tyF rfl)) ?_) <;> (first | refine sdraw_pure (.free rfl rfl) rfl (po_load_bx rfl rfl (tyT rfl) rfl rfl) ?_ | refine sdraw_pure (.free rfl rfl) rfl (po_load rfl rfl (tyT rfl) rfl) ?_) <;> (refine sdraw_pure (.free rfl rfl) rfl (po_move rfl rfl) ?_) <;> (refine sdraw_pure (.free rfl rfl) rfl (pix rfl (tyS rfl)) ?_) <;> (first | refine sdraw_pure (.free rfl rfl) rfl (po_field_bx rfl rfl (tyF rfl)) ?_ | refine sdraw_pure (.free rfl rfl) rfl (po_field rfl rfl (tyF rfl)) ?_) <;> (first | refine sdraw_pure (.free rfl rfl) rfl (po_load_bx rfl rfl (tyT rfl) rfl rfl) ?_ | refine sdraw_pure (.free rfl rfl) rfl (po_load rfl rfl (tyT rfl) rfl) ?_) <;> (refine sdraw_pure (.free rfl rfl) rfl (po_buildSlice0 rfl (tyE rfl)) ?_) <;> (first | refine sdraw_pure (.free rfl rfl) rfl (po_field_bx rfl rfl (tyF rfl)) ?_ | refine sdraw_pure (.free rfl rfl) rfl (po_field rfl rfl (tyF rfl)) ?_) <;> (first | refine sdraw_pure (.free rfl rfl) rfl (po_load_bx rfl rfl (tyT rfl) rfl rfl) ?_ | refine sdraw_pure (.free rfl rfl) rfl (po_load rfl rfl (tyT rfl) rfl) ?_) <;> (refine sdraw_pure (.free rfl rfl) rfl (po_move rfl rfl) ?_) <;> (refine sdraw_pure (.free rfl rfl) rfl (pix rfl (tyS rfl)) ?_) <;> (first | refine sdraw_pure (.free rfl rfl) rfl (po_field_bx rfl rfl (tyF rfl)) ?_ | refine sdraw_pure (.free rfl rfl) rfl (po_field rfl rfl (tyF rfl)) ?_) <;> (first | refine sdraw_pure (.free rfl rfl) rfl (po_load_bx rfl rfl (tyT rfl) rfl rfl) ?_ | refine sdraw_pure (.free rfl rfl) rfl (po_load rfl rfl (tyT rfl) rfl) ?_) <;> (refine sdraw_pure (.free rfl rfl) rfl (pan rfl (tyE rfl)) ?_) <;> (refine sdraw_pure (.free rfl rfl) rfl (po_buildS str82 rfl (pc (pc .nil)) rfl) ?_) <;> (refine sdraw_pure (.free rfl rfl) rfl (po_buildSlice rfl (tyE rfl) (dc (.nil _)) rfl rfl rfl) ?_) <;> (refine sdraw_nil ?_) <;> (first | refine sap rfl (tyE rfl) ?_ | refine san rfl (tyE rfl) ?_) <;> (first | refine sops_pure (.free rfl rfl) rfl rfl (po_field_bx rfl rfl (tyF rfl)) ?_ | refine sops_pure (.free rfl rfl) rfl rfl (po_field rfl rfl (tyF rfl)) ?_) <;> (refine sops_store (.free rfl rfl) rfl rfl rfl rfl rfl rfl (tyT rfl) rfl rfl ?_) <;> (refine sops_nil ?_))
          | ((refine swp_region (id := 14) ?_) <;> (refine sops_pure (.free rfl rfl) rfl rfl (po_move rfl rfl) ?_) <;> (first | refine sops_pure (.free rfl rfl) rfl rfl (po_inc rfl rfl rfl (by omega)) ?_ | refine sops_pure (.free rfl rfl) rfl rfl (po_arith rfl rfl rfl (ar_add (by first | rfl | (refine wrap_i64 ?_; omega)) rfl)) ?_) <;> (refine sops_pure (.free rfl rfl) rfl rfl (po_assign rfl rfl) ?_) <;> (refine sops_nil ?_))
          | refine swp_ret ?_
          | refine swp_skip ?_
          | refine swp_block ?_
          | refine swp_exit ?_
          | refine block_go ?_
          | refine block_exit ?_
          | refine block_far rfl ?_
          | refine block_ret ?_
          | refine then_ret ?_
          | refine then_exit ?_
          | refine for_ret ?_
          | refine for_exit ?_
          | refine ct ?_
          | refine cf ?_
          | refine swp_cond rfl (fun hc => ?_) (fun hc => ?_)
          | refine retq (by first | exact .inr rfl | exact .inl rfl) rfl (.cell rfl rfl (tyT rfl) (vc (vc (vc .nil))) rfl .nil) ?_)
      · obtain rfl : k = r.when_.length := by omega
        rw [List.take_length]
        repeat' (first
          | refine then_go ?_
          | refine swp_seq ?_
          | ((refine swp_region (id := 13) ?_) <;> (refine sops_pure (.free rfl rfl) rfl rfl (po_move rfl rfl) ?_) <;> (first | refine sops_pure (.free rfl rfl) rfl rfl (po_field_bx rfl rfl (tyF rfl)) ?_ | refine sops_pure (.free rfl rfl) rfl rfl (po_field rfl rfl (tyF rfl)) ?_ | refine sops_pure (.free rfl rfl) rfl rfl (po_field_own rfl rfl rfl (by first | rfl | assumption | omega | (simp; done) | (simp; omega) | (simp at *; omega)) (tyF rfl)) ?_) <;> (first | refine sops_pure (.free rfl rfl) rfl rfl (po_load_bx rfl rfl (tyT rfl) rfl rfl) ?_ | refine sops_pure (.free rfl rfl) rfl rfl (po_load rfl rfl (tyT rfl) rfl) ?_ | refine sops_pure (.free rfl rfl) rfl rfl (po_load_own rfl rfl rfl (by first | rfl | assumption | omega | (simp; done) | (simp; omega) | (simp at *; omega)) (tyT rfl) (by first | rfl | assumption | exact map_at (by first | assumption | omega)) rfl) ?_) <;> (first | refine sops_pure (.free rfl rfl) rfl rfl (po_len_own rfl rfl (tyS rfl)) ?_ | refine sops_pure (.free rfl rfl) rfl rfl (pln rfl (tyS rfl)) ?_) <;> (refine sops_pure (.free rfl rfl) rfl rfl (po_cmp rfl rfl rfl rfl) ?_) <;> (refine sops_nil ?_))
          | ((refine swp_region (id := 16) ?_) <;> (first | refine sops_pure (.free rfl rfl) rfl rfl (po_load_bx_agg rfl rfl (tyT rfl) rfl (vc (vc (vc .nil))) rfl) ?_ | refine sops_pure (.free rfl rfl) rfl rfl (po_load_agg rfl rfl (tyT rfl) rfl rfl) ?_ | refine sops_pure (.free rfl rfl) rfl rfl (po_load_own_agg rfl rfl rfl (by first | rfl | assumption | omega | (simp; done) | (simp; omega) | (simp at *; omega)) (tyT rfl) (by first | rfl | assumption | exact map_at (by first | assumption | omega)) rfl rfl) ?_ | refine sops_pure (.free rfl rfl) rfl rfl (po_load_bx_ag rfl rfl (tyT rfl) rfl rfl rfl rfl) ?_) <;> (first | refine sops_store (.free rfl rfl) rfl rfl rfl rfl rfl rfl (tyT rfl) rfl rfl ?_ | refine sops_store_own (by rfl) (.free rfl rfl) rfl rfl rfl rfl (by first | rfl | assumption | omega | (simp; done) | (simp; omega) | (simp at *; omega)) rfl (by first | exact .t _ | exact .own rfl (by first | rfl | assumption | (simp; done) | (simp; omega)) | exact .nil _ | exact .emp _ | exact .fn _) rfl rfl (tyT rfl) rfl (by first | rfl | assumption | exact map_at (by first | assumption | omega)) rfl ?_) <;> (refine sops_nil ?_))
          | refine swp_ret ?_
          | refine swp_skip ?_
          | refine swp_block ?_
          | refine swp_exit ?_
          | refine block_go ?_
          | refine block_exit ?_
          | refine block_far rfl ?_
          | refine block_ret ?_
          | refine then_ret ?_
          | refine then_exit ?_
          | refine for_ret ?_
          | refine for_exit ?_
          | refine ct ?_
          | refine cf ?_
          | refine swp_cond rfl (fun hc => ?_) (fun hc => ?_)
          | exact retl1 (by first | exact .inr rfl | exact .inl rfl) rfl (.cell rfl rfl (tyT rfl) rfl rfl .nil) rfl .nil (.cons rfl (by first | rfl | assumption | (symm; assumption)) (.cons rfl (by first | rfl | assumption | (symm; assumption)) (.cons rfl (by first | rfl | assumption | (symm; assumption)) .nil)))
          | refine retl (by first | exact .inr rfl | exact .inl rfl) rfl (.cell rfl rfl (tyT rfl) rfl rfl .nil) ?_ rfl .nil (.cons rfl (by first | rfl | assumption | (symm; assumption)) (.cons rfl (by first | rfl | assumption | (symm; assumption)) (.cons rfl (by first | rfl | assumption | (symm; assumption)) .nil))))
end Go.Proofs.YtlcecabfmemfeaaGreat.Pol

/- The document's fourth half of a rule. -/
namespace Go.Proofs.YtlcecabfmemfeaaGreat.Pol
set_option linter.unusedVariables false
set_option linter.unusedSimpArgs false
open Go.RowKit Mem Sim Opn
/-- targets, the first k of them halved -/
def halfT (l : List Pl.Target) (k : Nat) : List Pl.Target := (l.take k).map Pl.fourT ++ l.drop k
theorem halfT_len (l : List Pl.Target) (k : Nat) : (halfT l k).length = l.length := by unfold halfT; simp; omega
theorem halfT_at {l : List Pl.Target} {k : Nat} (h : k < l.length) : (halfT l k)[k]? = some l[k] := by
  unfold halfT
  rw [List.getElem?_append_right (by simp; omega), List.getElem?_drop]
  simp [Nat.min_eq_left (Nat.le_of_lt h), h]
theorem halfT_set {l : List Pl.Target} {k : Nat} (h : k < l.length) : (halfT l k).set k (Pl.fourT l[k]) = halfT l (k + 1) := by
  unfold halfT
  have hl : ((l.take k).map Pl.fourT).length = k := by simp; omega
  rw [List.set_append_right _ _ (by omega), hl, Nat.sub_self, List.take_succ_eq_append_getElem h, List.map_append, List.append_assoc]
  congr 1
  rw [List.drop_eq_getElem_cons h]
  rfl
theorem halfT_full (l : List Pl.Target) : halfT l l.length = l.map Pl.fourT := by unfold halfT; simp
theorem set_at {α : Type} {l : List α} {k : Nat} {x : α} (h : k < l.length) : (l.set k x)[k]? = some x := by simp [h]
def F1 (r : Pl.Rule) (k : Nat) : St := ⟨[(2, .bp 2 0), (3, .bp 3 0), (4, .t (.v (.int .i64 (k : Int))))], [(2, [nil0, nil0, nil0]), (3, [.own 1003 (r.from_.map sourceT).length, .own 1004 (r.to_.map targetT).length, nil0])], [(1003, ⟨78, 3, r.from_.map sourceT⟩), (1004, ⟨80, 4, (halfT r.to_ k).map targetT⟩)]⟩
set_option maxRecDepth 100000 in
set_option maxHeartbeats 2000000 in
theorem fourR_ (r : Pl.Rule) (hf : FewR r) : PCalls Tryz.prog 21 [.agg (ruleT r)] (.agg (ruleT (Pl.four r))) := by
  have c1 := copyRuleL r hf
  have hm2 : (r.to_.map targetT).length = r.to_.length := List.length_map _
  have h2 := hf.t
  refine pcalls_of Tryz.func21 rfl rfl Tryz.ntmps21 rfl ?_
  repeat' (first
    | refine then_go ?_
    | refine swp_seq ?_
    | ((refine swp_region (id := 0) ?_) <;> (refine sops_box (.free rfl rfl) rfl rfl rfl rfl rfl rfl ?_) <;> (refine sops_allocS str46 (.free rfl rfl) rfl rfl rfl rfl ?_) <;> (refine sops_nil ?_))
    | ((refine swp_region (id := 1) ?_) <;> (first | refine sops_pure (.free rfl rfl) rfl rfl (po_load_bx_agg rfl rfl (tyT rfl) rfl (vc (vc (vc .nil))) rfl) ?_ | refine sops_pure (.free rfl rfl) rfl rfl (po_load_agg rfl rfl (tyT rfl) rfl rfl) ?_) <;> (refine sops_lcall (c1) (fun i => i) (fun i => i) (fun _ => false) (.free rfl rfl) rfl rfl rfl (by repeat' (first | exact .nil | refine .cons rfl rfl rfl ?_ | refine .vw rfl (by first | exact .t _ | exact .own rfl (by first | rfl | assumption | (simp; done) | (simp; omega)) | exact .nil _ | exact .emp _ | exact .fn _) ?_)) .nil .nil rfl rfl (fun _ h => Bool.noConfusion h) ?_) <;> (refine sops_allocS str46 (.free rfl rfl) rfl rfl rfl rfl ?_) <;> (refine sops_store (.free rfl rfl) rfl rfl rfl rfl rfl rfl (tyT rfl) rfl rfl ?_) <;> (refine sops_nil ?_))
    | ((refine swp_region (id := 2) ?_) <;> (first | refine sops_pure (.free rfl rfl) rfl rfl (po_field_bx rfl rfl (tyF rfl)) ?_ | refine sops_pure (.free rfl rfl) rfl rfl (po_field rfl rfl (tyF rfl)) ?_) <;> (refine sops_store (.free rfl rfl) rfl rfl rfl rfl rfl rfl (tyT rfl) rfl rfl ?_) <;> (refine sops_nil ?_))
    | ((refine swp_region (id := 3) ?_) <;> (refine sops_pure (.free rfl rfl) rfl rfl (po_assign rfl rfl) ?_) <;> (refine sops_nil ?_))
    | refine swp_ret ?_
    | refine swp_skip ?_
    | refine swp_block ?_
    | refine swp_exit ?_
    | refine block_go ?_
    | refine block_exit ?_
    | refine block_far rfl ?_
    | refine block_ret ?_
    | refine then_ret ?_
    | refine then_exit ?_
    | refine for_ret ?_
    | refine for_exit ?_
    | refine ct ?_
    | refine cf ?_
    | refine swp_cond rfl (fun hc => ?_) (fun hc => ?_)
    | refine retq (by first | exact .inr rfl | exact .inl rfl) rfl (.cell rfl rfl (tyT rfl) (vc (vc (vc .nil))) rfl .nil) ?_)
  refine swp_for (F1 r) (fun _ => True) r.to_.length ?_ trivial ?_
  · exact (weak_sub (.cons rfl rfl rfl (.cons rfl rfl rfl (.cons rfl rfl rfl .nil))) (.cons rfl rfl rfl (.cons rfl rfl rfl .nil)) (.cons rfl rfl (.cons rfl rfl .nil)))
  intro k hk _
  unfold F1
  by_cases hlt : k < r.to_.length
  · have hlen := halfT_len r.to_ k
    have hlen2 : (r.to_.map targetT).length = ((halfT r.to_ k).map targetT).length := by simp [hlen]
    have hk1 : k < ((halfT r.to_ k).map targetT).length := by omega
    have hrow : ((halfT r.to_ k).map targetT)[k]? = some (targetT r.to_[k]) := by rw [List.getElem?_map, halfT_at hlt]; rfl
    repeat' (first
      | refine then_go ?_
      | refine swp_seq ?_
      | refine for_next hlt (weak_sub (.cons rfl (by first | rfl | ((simp only [List.set_set]; rw [← halfT_set hlt, List.map_set]; rfl))) rfl (.cons rfl (by first | rfl | ((simp only [List.set_set]; rw [← halfT_set hlt, List.map_set]; rfl))) rfl (.cons rfl (by first | rfl | ((simp only [List.set_set]; rw [← halfT_set hlt, List.map_set]; rfl))) rfl .nil))) (.cons rfl (by first | rfl | ((simp only [List.set_set]; rw [← halfT_set hlt, List.map_set]; rfl))) rfl (.cons rfl (by first | rfl | ((simp only [List.set_set]; rw [← halfT_set hlt, List.map_set]; rfl))) rfl .nil)) (.cons rfl (by first | rfl | ((simp only [List.set_set]; rw [← halfT_set hlt, List.map_set]; rfl))) (.cons rfl (by first | rfl | ((simp only [List.set_set]; rw [← halfT_set hlt, List.map_set]; rfl))) .nil))) trivial
      | ((refine swp_region (id := 4) ?_) <;> (first | refine sops_store_own (by rfl) (.free rfl rfl) rfl rfl rfl rfl (by first | assumption | (simp; omega)) rfl (.nil 2) rfl rfl (tyT rfl) rfl (by first | exact hrow | exact set_at hk1 | exact set_at (by simpa using hk1)) rfl ?_ | refine sops_pure (.free rfl rfl) rfl rfl (po_move rfl rfl) ?_) <;> (first | refine sops_store_own (by rfl) (.free rfl rfl) rfl rfl rfl rfl (by first | assumption | (simp; omega)) rfl (.nil 2) rfl rfl (tyT rfl) rfl (by first | exact hrow | exact set_at hk1 | exact set_at (by simpa using hk1)) rfl ?_ | refine sops_pure (.free rfl rfl) rfl rfl (po_field_bx rfl rfl (tyF rfl)) ?_ | refine sops_pure (.free rfl rfl) rfl rfl (po_field rfl rfl (tyF rfl)) ?_ | refine sops_pure (.free rfl rfl) rfl rfl (po_field_own rfl rfl rfl (by first | rfl | assumption | omega | (simp; done) | (simp; omega) | (simp at *; omega)) (tyF rfl)) ?_) <;> (first | refine sops_store_own (by rfl) (.free rfl rfl) rfl rfl rfl rfl (by first | assumption | (simp; omega)) rfl (.nil 2) rfl rfl (tyT rfl) rfl (by first | exact hrow | exact set_at hk1 | exact set_at (by simpa using hk1)) rfl ?_ | refine sops_pure (.free rfl rfl) rfl rfl (po_load_bx rfl rfl (tyT rfl) rfl rfl) ?_ | refine sops_pure (.free rfl rfl) rfl rfl (po_load rfl rfl (tyT rfl) rfl) ?_ | refine sops_pure (.free rfl rfl) rfl rfl (po_load_own rfl rfl rfl (by first | rfl | assumption | omega | (simp; done) | (simp; omega) | (simp at *; omega)) (tyT rfl) (by first | rfl | assumption | exact map_at (by first | assumption | omega)) rfl) ?_) <;> (first | refine sops_store_own (by rfl) (.free rfl rfl) rfl rfl rfl rfl (by first | assumption | (simp; omega)) rfl (.nil 2) rfl rfl (tyT rfl) rfl (by first | exact hrow | exact set_at hk1 | exact set_at (by simpa using hk1)) rfl ?_ | refine sops_pure (.free rfl rfl) rfl rfl (po_len_own rfl rfl (tyS rfl)) ?_ | refine sops_pure (.free rfl rfl) rfl rfl (pln rfl (tyS rfl)) ?_) <;> (first | refine sops_store_own (by rfl) (.free rfl rfl) rfl rfl rfl rfl (by first | assumption | (simp; omega)) rfl (.nil 2) rfl rfl (tyT rfl) rfl (by first | exact hrow | exact set_at hk1 | exact set_at (by simpa using hk1)) rfl ?_ | refine sops_pure (.free rfl rfl) rfl rfl (po_cmp rfl rfl rfl rfl) ?_) <;> (refine sops_nil ?_))
      | ((refine swp_region (id := 6) ?_) <;> (first | refine sops_store_own (by rfl) (.free rfl rfl) rfl rfl rfl rfl (by first | assumption | (simp; omega)) rfl (.nil 2) rfl rfl (tyT rfl) rfl (by first | exact hrow | exact set_at hk1 | exact set_at (by simpa using hk1)) rfl ?_ | refine sops_pure (.free rfl rfl) rfl rfl (po_field_bx rfl rfl (tyF rfl)) ?_ | refine sops_pure (.free rfl rfl) rfl rfl (po_field rfl rfl (tyF rfl)) ?_ | refine sops_pure (.free rfl rfl) rfl rfl (po_field_own rfl rfl rfl (by first | rfl | assumption | omega | (simp; done) | (simp; omega) | (simp at *; omega)) (tyF rfl)) ?_) <;> (first | refine sops_store_own (by rfl) (.free rfl rfl) rfl rfl rfl rfl (by first | assumption | (simp; omega)) rfl (.nil 2) rfl rfl (tyT rfl) rfl (by first | exact hrow | exact set_at hk1 | exact set_at (by simpa using hk1)) rfl ?_ | refine sops_pure (.free rfl rfl) rfl rfl (po_load_bx rfl rfl (tyT rfl) rfl rfl) ?_ | refine sops_pure (.free rfl rfl) rfl rfl (po_load rfl rfl (tyT rfl) rfl) ?_ | refine sops_pure (.free rfl rfl) rfl rfl (po_load_own rfl rfl rfl (by first | rfl | assumption | omega | (simp; done) | (simp; omega) | (simp at *; omega)) (tyT rfl) (by first | rfl | assumption | exact map_at (by first | assumption | omega)) rfl) ?_) <;> (first | refine sops_store_own (by rfl) (.free rfl rfl) rfl rfl rfl rfl (by first | assumption | (simp; omega)) rfl (.nil 2) rfl rfl (tyT rfl) rfl (by first | exact hrow | exact set_at hk1 | exact set_at (by simpa using hk1)) rfl ?_ | refine sops_pure (.free rfl rfl) rfl rfl (po_move rfl rfl) ?_) <;> (first | refine sops_store_own (by rfl) (.free rfl rfl) rfl rfl rfl rfl (by first | assumption | (simp; omega)) rfl (.nil 2) rfl rfl (tyT rfl) rfl (by first | exact hrow | exact set_at hk1 | exact set_at (by simpa using hk1)) rfl ?_ | refine sops_pure (.free rfl rfl) rfl rfl (po_index_own rfl rfl rfl (by first | rfl | assumption | omega | (simp; done) | (simp; omega) | (simp at *; omega)) rfl (tyS rfl) (by first | rfl | omega) (by first | assumption | omega)) ?_ | refine sops_pure (.free rfl rfl) rfl rfl (pix rfl (tyS rfl)) ?_) <;> (first | refine sops_store_own (by rfl) (.free rfl rfl) rfl rfl rfl rfl (by first | assumption | (simp; omega)) rfl (.nil 2) rfl rfl (tyT rfl) rfl (by first | exact hrow | exact set_at hk1 | exact set_at (by simpa using hk1)) rfl ?_ | refine sops_pure (.free rfl rfl) rfl rfl (po_field_bx rfl rfl (tyF rfl)) ?_ | refine sops_pure (.free rfl rfl) rfl rfl (po_field rfl rfl (tyF rfl)) ?_ | refine sops_pure (.free rfl rfl) rfl rfl (po_field_own rfl rfl rfl (by first | rfl | assumption | omega | (simp; done) | (simp; omega) | (simp at *; omega)) (tyF rfl)) ?_) <;> (first | refine sops_store_own (by rfl) (.free rfl rfl) rfl rfl rfl rfl (by first | assumption | (simp; omega)) rfl (.nil 2) rfl rfl (tyT rfl) rfl (by first | exact hrow | exact set_at hk1 | exact set_at (by simpa using hk1)) rfl ?_ | refine sops_store (.free rfl rfl) rfl rfl rfl rfl rfl rfl (tyT rfl) rfl rfl ?_ | refine sops_store_own (by rfl) (.free rfl rfl) rfl rfl rfl rfl (by first | rfl | assumption | omega | (simp; done) | (simp; omega) | (simp at *; omega)) rfl (by first | exact .t _ | exact .own rfl (by first | rfl | assumption | (simp; done) | (simp; omega)) | exact .nil _ | exact .emp _ | exact .fn _) rfl rfl (tyT rfl) rfl (by first | rfl | assumption | exact map_at (by first | assumption | omega)) rfl ?_) <;> (refine sops_nil ?_))
      | ((refine swp_region (id := 7) ?_) <;> (first | refine sops_store_own (by rfl) (.free rfl rfl) rfl rfl rfl rfl (by first | assumption | (simp; omega)) rfl (.nil 2) rfl rfl (tyT rfl) rfl (by first | exact hrow | exact set_at hk1 | exact set_at (by simpa using hk1)) rfl ?_ | refine sops_pure (.free rfl rfl) rfl rfl (po_field_bx rfl rfl (tyF rfl)) ?_ | refine sops_pure (.free rfl rfl) rfl rfl (po_field rfl rfl (tyF rfl)) ?_ | refine sops_pure (.free rfl rfl) rfl rfl (po_field_own rfl rfl rfl (by first | rfl | assumption | omega | (simp; done) | (simp; omega) | (simp at *; omega)) (tyF rfl)) ?_) <;> (first | refine sops_store_own (by rfl) (.free rfl rfl) rfl rfl rfl rfl (by first | assumption | (simp; omega)) rfl (.nil 2) rfl rfl (tyT rfl) rfl (by first | exact hrow | exact set_at hk1 | exact set_at (by simpa using hk1)) rfl ?_ | refine sops_pure (.free rfl rfl) rfl rfl (po_load_bx rfl rfl (tyT rfl) rfl rfl) ?_ | refine sops_pure (.free rfl rfl) rfl rfl (po_load rfl rfl (tyT rfl) rfl) ?_ | refine sops_pure (.free rfl rfl) rfl rfl (po_load_own rfl rfl rfl (by first | rfl | assumption | omega | (simp; done) | (simp; omega) | (simp at *; omega)) (tyT rfl) (by first | rfl | assumption | exact map_at (by first | assumption | omega)) rfl) ?_) <;> (first | refine sops_store_own (by rfl) (.free rfl rfl) rfl rfl rfl rfl (by first | assumption | (simp; omega)) rfl (.nil 2) rfl rfl (tyT rfl) rfl (by first | exact hrow | exact set_at hk1 | exact set_at (by simpa using hk1)) rfl ?_ | refine sops_pure (.free rfl rfl) rfl rfl (po_move rfl rfl) ?_) <;> (first | refine sops_store_own (by rfl) (.free rfl rfl) rfl rfl rfl rfl (by first | assumption | (simp; omega)) rfl (.nil 2) rfl rfl (tyT rfl) rfl (by first | exact hrow | exact set_at hk1 | exact set_at (by simpa using hk1)) rfl ?_ | refine sops_pure (.free rfl rfl) rfl rfl (po_index_own rfl rfl rfl (by first | rfl | assumption | omega | (simp; done) | (simp; omega) | (simp at *; omega)) rfl (tyS rfl) (by first | rfl | omega) (by first | assumption | omega)) ?_ | refine sops_pure (.free rfl rfl) rfl rfl (pix rfl (tyS rfl)) ?_) <;> (first | refine sops_store_own (by rfl) (.free rfl rfl) rfl rfl rfl rfl (by first | assumption | (simp; omega)) rfl (.nil 2) rfl rfl (tyT rfl) rfl (by first | exact hrow | exact set_at hk1 | exact set_at (by simpa using hk1)) rfl ?_ | refine sops_pure (.free rfl rfl) rfl rfl (po_field_bx rfl rfl (tyF rfl)) ?_ | refine sops_pure (.free rfl rfl) rfl rfl (po_field rfl rfl (tyF rfl)) ?_ | refine sops_pure (.free rfl rfl) rfl rfl (po_field_own rfl rfl rfl (by first | rfl | assumption | omega | (simp; done) | (simp; omega) | (simp at *; omega)) (tyF rfl)) ?_) <;> (first | refine sops_store_own (by rfl) (.free rfl rfl) rfl rfl rfl rfl (by first | assumption | (simp; omega)) rfl (.nil 2) rfl rfl (tyT rfl) rfl (by first | exact hrow | exact set_at hk1 | exact set_at (by simpa using hk1)) rfl ?_ | refine sops_store (.free rfl rfl) rfl rfl rfl rfl rfl rfl (tyT rfl) rfl rfl ?_ | refine sops_store_own (by rfl) (.free rfl rfl) rfl rfl rfl rfl (by first | rfl | assumption | omega | (simp; done) | (simp; omega) | (simp at *; omega)) rfl (by first | exact .t _ | exact .own rfl (by first | rfl | assumption | (simp; done) | (simp; omega)) | exact .nil _ | exact .emp _ | exact .fn _) rfl rfl (tyT rfl) rfl (by first | rfl | assumption | exact map_at (by first | assumption | omega)) rfl ?_) <;> (refine sops_nil ?_))
      | ((refine swp_region (id := 8) ?_) <;> (first | refine sops_store_own (by rfl) (.free rfl rfl) rfl rfl rfl rfl (by first | assumption | (simp; omega)) rfl (.nil 2) rfl rfl (tyT rfl) rfl (by first | exact hrow | exact set_at hk1 | exact set_at (by simpa using hk1)) rfl ?_ | refine sops_pure (.free rfl rfl) rfl rfl (po_field_bx rfl rfl (tyF rfl)) ?_ | refine sops_pure (.free rfl rfl) rfl rfl (po_field rfl rfl (tyF rfl)) ?_ | refine sops_pure (.free rfl rfl) rfl rfl (po_field_own rfl rfl rfl (by first | rfl | assumption | omega | (simp; done) | (simp; omega) | (simp at *; omega)) (tyF rfl)) ?_) <;> (first | refine sops_store_own (by rfl) (.free rfl rfl) rfl rfl rfl rfl (by first | assumption | (simp; omega)) rfl (.nil 2) rfl rfl (tyT rfl) rfl (by first | exact hrow | exact set_at hk1 | exact set_at (by simpa using hk1)) rfl ?_ | refine sops_pure (.free rfl rfl) rfl rfl (po_load_bx rfl rfl (tyT rfl) rfl rfl) ?_ | refine sops_pure (.free rfl rfl) rfl rfl (po_load rfl rfl (tyT rfl) rfl) ?_ | refine sops_pure (.free rfl rfl) rfl rfl (po_load_own rfl rfl rfl (by first | rfl | assumption | omega | (simp; done) | (simp; omega) | (simp at *; omega)) (tyT rfl) (by first | rfl | assumption | exact map_at (by first | assumption | omega)) rfl) ?_) <;> (first | refine sops_store_own (by rfl) (.free rfl rfl) rfl rfl rfl rfl (by first | assumption | (simp; omega)) rfl (.nil 2) rfl rfl (tyT rfl) rfl (by first | exact hrow | exact set_at hk1 | exact set_at (by simpa using hk1)) rfl ?_ | refine sops_pure (.free rfl rfl) rfl rfl (po_move rfl rfl) ?_) <;> (first | refine sops_store_own (by rfl) (.free rfl rfl) rfl rfl rfl rfl (by first | assumption | (simp; omega)) rfl (.nil 2) rfl rfl (tyT rfl) rfl (by first | exact hrow | exact set_at hk1 | exact set_at (by simpa using hk1)) rfl ?_ | refine sops_pure (.free rfl rfl) rfl rfl (po_index_own rfl rfl rfl (by first | rfl | assumption | omega | (simp; done) | (simp; omega) | (simp at *; omega)) rfl (tyS rfl) (by first | rfl | omega) (by first | assumption | omega)) ?_ | refine sops_pure (.free rfl rfl) rfl rfl (pix rfl (tyS rfl)) ?_) <;> (first | refine sops_store_own (by rfl) (.free rfl rfl) rfl rfl rfl rfl (by first | assumption | (simp; omega)) rfl (.nil 2) rfl rfl (tyT rfl) rfl (by first | exact hrow | exact set_at hk1 | exact set_at (by simpa using hk1)) rfl ?_ | refine sops_pure (.free rfl rfl) rfl rfl (po_field_bx rfl rfl (tyF rfl)) ?_ | refine sops_pure (.free rfl rfl) rfl rfl (po_field rfl rfl (tyF rfl)) ?_ | refine sops_pure (.free rfl rfl) rfl rfl (po_field_own rfl rfl rfl (by first | rfl | assumption | omega | (simp; done) | (simp; omega) | (simp at *; omega)) (tyF rfl)) ?_) <;> (first | refine sops_store_own (by rfl) (.free rfl rfl) rfl rfl rfl rfl (by first | assumption | (simp; omega)) rfl (.nil 2) rfl rfl (tyT rfl) rfl (by first | exact hrow | exact set_at hk1 | exact set_at (by simpa using hk1)) rfl ?_ | refine sops_store (.free rfl rfl) rfl rfl rfl rfl rfl rfl (tyT rfl) rfl rfl ?_ | refine sops_store_own (by rfl) (.free rfl rfl) rfl rfl rfl rfl (by first | rfl | assumption | omega | (simp; done) | (simp; omega) | (simp at *; omega)) rfl (by first | exact .t _ | exact .own rfl (by first | rfl | assumption | (simp; done) | (simp; omega)) | exact .nil _ | exact .emp _ | exact .fn _) rfl rfl (tyT rfl) rfl (by first | rfl | assumption | exact map_at (by first | assumption | omega)) rfl ?_) <;> (refine sops_nil ?_))
      | ((refine swp_region (id := 5) ?_) <;> (first | refine sops_store_own (by rfl) (.free rfl rfl) rfl rfl rfl rfl (by first | assumption | (simp; omega)) rfl (.nil 2) rfl rfl (tyT rfl) rfl (by first | exact hrow | exact set_at hk1 | exact set_at (by simpa using hk1)) rfl ?_ | refine sops_pure (.free rfl rfl) rfl rfl (po_move rfl rfl) ?_) <;> (first | refine sops_store_own (by rfl) (.free rfl rfl) rfl rfl rfl rfl (by first | assumption | (simp; omega)) rfl (.nil 2) rfl rfl (tyT rfl) rfl (by first | exact hrow | exact set_at hk1 | exact set_at (by simpa using hk1)) rfl ?_ | refine sops_pure (.free rfl rfl) rfl rfl (po_inc rfl rfl rfl (by omega)) ?_ | refine sops_pure (.free rfl rfl) rfl rfl (po_arith rfl rfl rfl (ar_add (by first | rfl | (refine wrap_i64 ?_; omega)) rfl)) ?_) <;> (first | refine sops_store_own (by rfl) (.free rfl rfl) rfl rfl rfl rfl (by first | assumption | (simp; omega)) rfl (.nil 2) rfl rfl (tyT rfl) rfl (by first | exact hrow | exact set_at hk1 | exact set_at (by simpa using hk1)) rfl ?_ | refine sops_pure (.free rfl rfl) rfl rfl (po_assign rfl rfl) ?_) <;> (refine sops_nil ?_))
      | refine swp_ret ?_
      | refine swp_skip ?_
      | refine swp_block ?_
      | refine swp_exit ?_
      | refine block_go ?_
      | refine block_exit ?_
      | refine block_far rfl ?_
      | refine block_ret ?_
      | refine then_ret ?_
      | refine then_exit ?_
      | refine for_ret ?_
      | refine for_exit ?_
      | refine ct ?_
      | refine cf ?_
      | refine swp_cond rfl (fun hc => ?_) (fun hc => ?_)
      | refine retq (by first | exact .inr rfl | exact .inl rfl) rfl (.cell rfl rfl (tyT rfl) (vc (vc (vc .nil))) rfl .nil) ?_)
  · obtain rfl : k = r.to_.length := by omega
    rw [halfT_full]
    have h5 : (r.to_.map targetT).length = ((Pl.four r).to_.map targetT).length := by show _ = ((r.to_.map Pl.fourT).map targetT).length; simp
    have h6 : (r.to_.map targetT).length = ((r.to_.map Pl.fourT).map targetT).length := by simp
    repeat' (first
      | refine then_go ?_
      | refine swp_seq ?_
      | refine swp_ret_weak (Weak.trans (weak_show 1003 103 rfl rfl rfl rfl) (weak_show 1004 104 rfl rfl rfl rfl)) ?_
      | ((refine swp_region (id := 4) ?_) <;> (refine sops_pure (.free rfl rfl) rfl rfl (po_move rfl rfl) ?_) <;> (first | refine sops_pure (.free rfl rfl) rfl rfl (po_field_bx rfl rfl (tyF rfl)) ?_ | refine sops_pure (.free rfl rfl) rfl rfl (po_field rfl rfl (tyF rfl)) ?_ | refine sops_pure (.free rfl rfl) rfl rfl (po_field_own rfl rfl rfl (by first | rfl | assumption | omega | (simp; done) | (simp; omega) | (simp at *; omega)) (tyF rfl)) ?_) <;> (first | refine sops_pure (.free rfl rfl) rfl rfl (po_load_bx rfl rfl (tyT rfl) rfl rfl) ?_ | refine sops_pure (.free rfl rfl) rfl rfl (po_load rfl rfl (tyT rfl) rfl) ?_ | refine sops_pure (.free rfl rfl) rfl rfl (po_load_own rfl rfl rfl (by first | rfl | assumption | omega | (simp; done) | (simp; omega) | (simp at *; omega)) (tyT rfl) (by first | rfl | assumption | exact map_at (by first | assumption | omega)) rfl) ?_) <;> (first | refine sops_pure (.free rfl rfl) rfl rfl (po_len_own rfl rfl (tyS rfl)) ?_ | refine sops_pure (.free rfl rfl) rfl rfl (pln rfl (tyS rfl)) ?_) <;> (refine sops_pure (.free rfl rfl) rfl rfl (po_cmp rfl rfl rfl rfl) ?_) <;> (refine sops_nil ?_))
      | ((refine swp_region (id := 9) ?_) <;> (first | refine sops_pure (.free rfl rfl) rfl rfl (po_load_bx_agg rfl rfl (tyT rfl) rfl (vc (vc (vc .nil))) rfl) ?_ | refine sops_pure (.free rfl rfl) rfl rfl (po_load_agg rfl rfl (tyT rfl) rfl rfl) ?_ | refine sops_pure (.free rfl rfl) rfl rfl (po_load_own_agg rfl rfl rfl (by first | rfl | assumption | omega | (simp; done) | (simp; omega) | (simp at *; omega)) (tyT rfl) (by first | rfl | assumption | exact map_at (by first | assumption | omega)) rfl rfl) ?_ | refine sops_pure (.free rfl rfl) rfl rfl (po_load_bx_ag rfl rfl (tyT rfl) rfl rfl rfl rfl) ?_) <;> (first | refine sops_store (.free rfl rfl) rfl rfl rfl rfl rfl rfl (tyT rfl) rfl rfl ?_ | refine sops_store_own (by rfl) (.free rfl rfl) rfl rfl rfl rfl (by first | rfl | assumption | omega | (simp; done) | (simp; omega) | (simp at *; omega)) rfl (by first | exact .t _ | exact .own rfl (by first | rfl | assumption | (simp; done) | (simp; omega)) | exact .nil _ | exact .emp _ | exact .fn _) rfl rfl (tyT rfl) rfl (by first | rfl | assumption | exact map_at (by first | assumption | omega)) rfl ?_) <;> (refine sops_nil ?_))
      | refine swp_ret ?_
      | refine swp_skip ?_
      | refine swp_block ?_
      | refine swp_exit ?_
      | refine block_go ?_
      | refine block_exit ?_
      | refine block_far rfl ?_
      | refine block_ret ?_
      | refine then_ret ?_
      | refine then_exit ?_
      | refine for_ret ?_
      | refine for_exit ?_
      | refine ct ?_
      | refine cf ?_
      | refine swp_cond rfl (fun hc => ?_) (fun hc => ?_)
      | exact retq1 (by first | exact .inr rfl | exact .inl rfl) rfl (.cell rfl rfl (tyT rfl) (vc (vc (vc .nil))) rfl .nil)
      | refine retq (by first | exact .inr rfl | exact .inl rfl) rfl (.cell rfl rfl (tyT rfl) (vc (vc (vc .nil))) rfl .nil) ?_)
end Go.Proofs.YtlcecabfmemfeaaGreat.Pol

/- The document's answer for addresses and names: walks. -/
namespace Go.Proofs.YtlcecabfmemfeaaGreat.Pol
set_option linter.unusedVariables false
set_option linter.unusedSimpArgs false
open Go.RowKit Mem Sim Opn WAddr WName
theorem po_quoz {P : Program} {bx : List (Nat × List A)} {ow : List (Nat × Own)} {o : Oper} {ρ : Operand → Option A} {t t2 : TypeId} {x y : Operand} {k : IntKind} {i j z : Int} (ho : o.op = .binOp .quo t x y t2) (hx : ρ x = some (.t (.v (.int k i)))) (hy : ρ y = some (.t (.v (.int k j)))) (hj : j ≠ 0) (hz : k.wrap (i.tdiv j) = z) : PureOp P bx ow o ρ (.t (.v (.int k z))) := by
  subst hz; exact po_quo ho hx hy hj
theorem po_bneq {P : Program} {bx : List (Nat × List A)} {ow : List (Nat × Own)} {o : Oper} {ρ : Operand → Option A} {t t2 : TypeId} {x y : Operand} {i j : Bool} (c : Bool) (ho : o.op = .binOp .neq t x y t2) (hx : ρ x = some (.t (.v (.bool i)))) (hy : ρ y = some (.t (.v (.bool j)))) (hu : P.underlying t = some .bool) (hc : (!(i == j)) = c) : PureOp P bx ow o ρ (.t (.v (.bool c))) := by
  have := po_boolq (bx := bx) (ow := ow) ho hx hy hu (.inr rfl)
  rw [if_neg (by decide), hc] at this
  exact this
theorem halve {a k : Nat} (ha : a < 4294967296) : IntKind.u32.wrap (Int.tdiv ((a / 2 ^ k : Nat) : Int) 2) = ((a / 2 ^ (k + 1) : Nat) : Int) := by
  have h1 : a / 2 ^ k ≤ a := Nat.div_le_self _ _
  rw [Nat.pow_succ, ← Nat.div_div_eq_div_mul]
  generalize a / 2 ^ k = y at *
  have e : Int.tdiv ((y : Nat) : Int) 2 = ((y / 2 : Nat) : Int) := by
    rw [Int.tdiv_eq_ediv_of_nonneg (by omega)]; omega
  rw [e]
  exact Pl.wrap_u32 (by omega)
set_option maxRecDepth 100000 in
theorem bit_ (a i : Nat) (ha : a < 4294967296) (hi : i < 32) : PCalls Tryz.prog 104 [.v (.int .u32 (a : Int)), .v (.int .i64 (i : Int))] (.v (.bool (Pl.bit a i))) := by
  refine pcalls_of Tryz.func104 rfl rfl Tryz.ntmps104 rfl ?_
  repeat' (first
    | refine then_go ?_
    | refine swp_seq ?_
    | ((refine swp_region (id := 0) ?_) <;> (refine sops_pure (.free rfl rfl) rfl rfl (po_assign rfl rfl) ?_) <;> (refine sops_nil ?_))
    | ((refine swp_region (id := 1) ?_) <;> (refine sops_pure (.free rfl rfl) rfl rfl (po_move rfl rfl) ?_) <;> (refine sops_pure (.free rfl rfl) rfl rfl (po_assign rfl rfl) ?_) <;> (refine sops_nil ?_))
    | ((refine swp_region (id := 2) ?_) <;> (refine sops_pure (.free rfl rfl) rfl rfl (po_move rfl rfl) ?_) <;> (refine sops_pure (.free rfl rfl) rfl rfl (po_cmp rfl rfl rfl rfl) ?_) <;> (refine sops_nil ?_))
    | ((refine swp_region (id := 4) ?_) <;> (refine sops_pure (.free rfl rfl) rfl rfl (po_move rfl rfl) ?_) <;> (refine sops_pure (.free rfl rfl) rfl rfl (po_quo rfl rfl rfl (by omega)) ?_) <;> (refine sops_pure (.free rfl rfl) rfl rfl (po_assign rfl rfl) ?_) <;> (refine sops_nil ?_))
    | ((refine swp_region (id := 3) ?_) <;> (refine sops_pure (.free rfl rfl) rfl rfl (po_move rfl rfl) ?_) <;> (first | refine sops_pure (.free rfl rfl) rfl rfl (po_inc rfl rfl rfl (by omega)) ?_ | refine sops_pure (.free rfl rfl) rfl rfl (po_arith rfl rfl rfl (ar_add (by first | rfl | (refine wrap_i64 ?_; omega)) rfl)) ?_) <;> (refine sops_pure (.free rfl rfl) rfl rfl (po_assign rfl rfl) ?_) <;> (refine sops_nil ?_))
    | ((refine swp_region (id := 5) ?_) <;> (refine sops_pure (.free rfl rfl) rfl rfl (po_move rfl rfl) ?_) <;> (refine sops_pure (.free rfl rfl) rfl rfl (po_rem rfl rfl rfl (by omega)) ?_) <;> (refine sops_pure (.free rfl rfl) rfl rfl (po_cmp rfl rfl rfl rfl) ?_) <;> (refine sops_pure (.free rfl rfl) rfl rfl (po_assign rfl rfl) ?_) <;> (refine sops_nil ?_))
    | refine swp_ret ?_
    | refine swp_skip ?_
    | refine swp_block ?_
    | refine swp_exit ?_
    | refine block_go ?_
    | refine block_exit ?_
    | refine block_far rfl ?_
    | refine block_ret ?_
    | refine then_ret ?_
    | refine then_exit ?_
    | refine for_ret ?_
    | refine for_exit ?_
    | refine ct ?_
    | refine cf ?_
    | refine swp_cond rfl (fun hc => ?_) (fun hc => ?_)
    | refine retq (by first | exact .inr rfl | exact .inl rfl) rfl (.tmp rfl (by first | exact .t _ | exact .own rfl (by first | rfl | assumption | (simp; done) | (simp; omega)) | exact .nil _ | exact .emp _ | exact .fn _) .nil) ?_)
  refine swp_for (fun k => ⟨[(0, .t (.v (.int .u32 ((a / 2 ^ k : Nat) : Int)))), (5, .t (.v (.int .i64 ((i + k : Nat) : Int))))], [], []⟩) (fun _ => True) (31 - i) (weak_sub (.cons rfl (by first | rfl | (simp)) rfl (.cons rfl (by first | rfl | (simp)) rfl .nil)) .nil .nil) trivial ?_
  intro k hk _
  by_cases hlt : k < 31 - i
  · have hh := halve (k := k) ha
    repeat' (first
      | refine then_go ?_
      | refine swp_seq ?_
      | refine for_next hlt (weak_sub (.cons rfl rfl rfl (.cons rfl rfl rfl .nil)) .nil .nil) trivial
      | ((refine swp_region (id := 0) ?_) <;> (first | refine sops_pure (.free rfl rfl) rfl rfl (po_quoz rfl rfl rfl (by omega) hh) ?_ | refine sops_pure (.free rfl rfl) rfl rfl (po_assign rfl rfl) ?_) <;> (refine sops_nil ?_))
      | ((refine swp_region (id := 1) ?_) <;> (first | refine sops_pure (.free rfl rfl) rfl rfl (po_quoz rfl rfl rfl (by omega) hh) ?_ | refine sops_pure (.free rfl rfl) rfl rfl (po_move rfl rfl) ?_) <;> (first | refine sops_pure (.free rfl rfl) rfl rfl (po_quoz rfl rfl rfl (by omega) hh) ?_ | refine sops_pure (.free rfl rfl) rfl rfl (po_assign rfl rfl) ?_) <;> (refine sops_nil ?_))
      | ((refine swp_region (id := 2) ?_) <;> (first | refine sops_pure (.free rfl rfl) rfl rfl (po_quoz rfl rfl rfl (by omega) hh) ?_ | refine sops_pure (.free rfl rfl) rfl rfl (po_move rfl rfl) ?_) <;> (first | refine sops_pure (.free rfl rfl) rfl rfl (po_quoz rfl rfl rfl (by omega) hh) ?_ | refine sops_pure (.free rfl rfl) rfl rfl (po_cmp rfl rfl rfl rfl) ?_) <;> (refine sops_nil ?_))
      | ((refine swp_region (id := 4) ?_) <;> (first | refine sops_pure (.free rfl rfl) rfl rfl (po_quoz rfl rfl rfl (by omega) hh) ?_ | refine sops_pure (.free rfl rfl) rfl rfl (po_move rfl rfl) ?_) <;> (first | refine sops_pure (.free rfl rfl) rfl rfl (po_quoz rfl rfl rfl (by omega) hh) ?_ | refine sops_pure (.free rfl rfl) rfl rfl (po_quo rfl rfl rfl (by omega)) ?_) <;> (first | refine sops_pure (.free rfl rfl) rfl rfl (po_quoz rfl rfl rfl (by omega) hh) ?_ | refine sops_pure (.free rfl rfl) rfl rfl (po_assign rfl rfl) ?_) <;> (refine sops_nil ?_))
      | ((refine swp_region (id := 3) ?_) <;> (first | refine sops_pure (.free rfl rfl) rfl rfl (po_quoz rfl rfl rfl (by omega) hh) ?_ | refine sops_pure (.free rfl rfl) rfl rfl (po_move rfl rfl) ?_) <;> (first | refine sops_pure (.free rfl rfl) rfl rfl (po_quoz rfl rfl rfl (by omega) hh) ?_ | refine sops_pure (.free rfl rfl) rfl rfl (po_inc rfl rfl rfl (by omega)) ?_ | refine sops_pure (.free rfl rfl) rfl rfl (po_arith rfl rfl rfl (ar_add (by first | rfl | (refine wrap_i64 ?_; omega)) rfl)) ?_) <;> (first | refine sops_pure (.free rfl rfl) rfl rfl (po_quoz rfl rfl rfl (by omega) hh) ?_ | refine sops_pure (.free rfl rfl) rfl rfl (po_assign rfl rfl) ?_) <;> (refine sops_nil ?_))
      | ((refine swp_region (id := 5) ?_) <;> (first | refine sops_pure (.free rfl rfl) rfl rfl (po_quoz rfl rfl rfl (by omega) hh) ?_ | refine sops_pure (.free rfl rfl) rfl rfl (po_move rfl rfl) ?_) <;> (first | refine sops_pure (.free rfl rfl) rfl rfl (po_quoz rfl rfl rfl (by omega) hh) ?_ | refine sops_pure (.free rfl rfl) rfl rfl (po_rem rfl rfl rfl (by omega)) ?_) <;> (first | refine sops_pure (.free rfl rfl) rfl rfl (po_quoz rfl rfl rfl (by omega) hh) ?_ | refine sops_pure (.free rfl rfl) rfl rfl (po_cmp rfl rfl rfl rfl) ?_) <;> (first | refine sops_pure (.free rfl rfl) rfl rfl (po_quoz rfl rfl rfl (by omega) hh) ?_ | refine sops_pure (.free rfl rfl) rfl rfl (po_assign rfl rfl) ?_) <;> (refine sops_nil ?_))
      | refine swp_ret ?_
      | refine swp_skip ?_
      | refine swp_block ?_
      | refine swp_exit ?_
      | refine block_go ?_
      | refine block_exit ?_
      | refine block_far rfl ?_
      | refine block_ret ?_
      | refine then_ret ?_
      | refine then_exit ?_
      | refine for_ret ?_
      | refine for_exit ?_
      | refine ct ?_
      | refine cf ?_
      | refine swp_cond rfl (fun hc => ?_) (fun hc => ?_)
      | refine retq (by first | exact .inr rfl | exact .inl rfl) rfl (.tmp rfl (by first | exact .t _ | exact .own rfl (by first | rfl | assumption | (simp; done) | (simp; omega)) | exact .nil _ | exact .emp _ | exact .fn _) .nil) ?_)
  · obtain rfl : k = 31 - i := by omega
    repeat' (first
      | refine then_go ?_
      | refine swp_seq ?_
      | ((refine swp_region (id := 0) ?_) <;> (refine sops_pure (.free rfl rfl) rfl rfl (po_assign rfl rfl) ?_) <;> (refine sops_nil ?_))
      | ((refine swp_region (id := 1) ?_) <;> (refine sops_pure (.free rfl rfl) rfl rfl (po_move rfl rfl) ?_) <;> (refine sops_pure (.free rfl rfl) rfl rfl (po_assign rfl rfl) ?_) <;> (refine sops_nil ?_))
      | ((refine swp_region (id := 2) ?_) <;> (refine sops_pure (.free rfl rfl) rfl rfl (po_move rfl rfl) ?_) <;> (refine sops_pure (.free rfl rfl) rfl rfl (po_cmp rfl rfl rfl rfl) ?_) <;> (refine sops_nil ?_))
      | ((refine swp_region (id := 4) ?_) <;> (refine sops_pure (.free rfl rfl) rfl rfl (po_move rfl rfl) ?_) <;> (refine sops_pure (.free rfl rfl) rfl rfl (po_quo rfl rfl rfl (by omega)) ?_) <;> (refine sops_pure (.free rfl rfl) rfl rfl (po_assign rfl rfl) ?_) <;> (refine sops_nil ?_))
      | ((refine swp_region (id := 3) ?_) <;> (refine sops_pure (.free rfl rfl) rfl rfl (po_move rfl rfl) ?_) <;> (first | refine sops_pure (.free rfl rfl) rfl rfl (po_inc rfl rfl rfl (by omega)) ?_ | refine sops_pure (.free rfl rfl) rfl rfl (po_arith rfl rfl rfl (ar_add (by first | rfl | (refine wrap_i64 ?_; omega)) rfl)) ?_) <;> (refine sops_pure (.free rfl rfl) rfl rfl (po_assign rfl rfl) ?_) <;> (refine sops_nil ?_))
      | ((refine swp_region (id := 5) ?_) <;> (refine sops_pure (.free rfl rfl) rfl rfl (po_move rfl rfl) ?_) <;> (refine sops_pure (.free rfl rfl) rfl rfl (po_rem rfl rfl rfl (by omega)) ?_) <;> (refine sops_pure (.free rfl rfl) rfl rfl (po_cmp rfl rfl rfl rfl) ?_) <;> (refine sops_pure (.free rfl rfl) rfl rfl (po_assign rfl rfl) ?_) <;> (refine sops_nil ?_))
      | refine swp_ret ?_
      | refine swp_skip ?_
      | refine swp_block ?_
      | refine swp_exit ?_
      | refine block_go ?_
      | refine block_exit ?_
      | refine block_far rfl ?_
      | refine block_ret ?_
      | refine then_ret ?_
      | refine then_exit ?_
      | refine for_ret ?_
      | refine for_exit ?_
      | refine ct ?_
      | refine cf ?_
      | refine swp_cond rfl (fun hc => ?_) (fun hc => ?_)
      | refine retq (by first | exact .inr rfl | exact .inl rfl) rfl (.tmp rfl (by first | exact .t _ | exact .own rfl (by first | rfl | assumption | (simp; done) | (simp; omega)) | exact .nil _ | exact .emp _ | exact .fn _) .nil) ?_)
    refine eq_b ?_
    unfold Pl.bit
    rw [Int.toNat_natCast, Nat.testBit_eq_decide_div_mod_eq, Bool.eq_iff_iff, decide_eq_true_eq, decide_eq_true_eq]
    generalize a / 2 ^ (31 - i) = y
    rw [Int.tmod_eq_emod_of_nonneg (by omega)]; omega
theorem all_more {f : Nat → Bool} {i : Nat} (h : (List.range i).all f = true) (hi : f i = true) : (List.range (i + 1)).all f = true := by
  rw [List.range_succ, List.all_append, h]; simp [hi]
theorem all_no {f : Nat → Bool} {i n : Nat} (h : f i = false) (hn : i < n) : (List.range n).all f = false := by
  rw [List.all_eq_false]; exact ⟨i, by simpa using hn, by simp [h]⟩
set_option maxRecDepth 100000 in
theorem mayC_ (c : Pl.Cidr) (hc : okCidr c) : PCalls Tryz.prog 105 [.agg (cidrT c)] (.v (.bool (mayC c))) := by
  obtain ⟨h1, h2⟩ := hc
  rw [← Pl.refMayC_eq c h1]
  obtain ⟨h3, h4⟩ := Pl.wf_u32 h1
  obtain ⟨a, e⟩ : ∃ a : Nat, c.addr = a := ⟨c.addr.toNat, by omega⟩
  unfold Pl.refMayC cidrT
  obtain ⟨ca, cb⟩ := c
  simp only at *
  subst e
  refine pcalls_of Tryz.func105 rfl rfl Tryz.ntmps105 rfl ?_
  repeat' (first
    | refine then_go ?_
    | refine swp_seq ?_
    | ((refine swp_region (id := 0) ?_) <;> (refine sops_box (.free rfl rfl) rfl rfl rfl rfl rfl rfl ?_) <;> (refine sops_pure (.free rfl rfl) rfl rfl (po_assign rfl rfl) ?_) <;> (refine sops_nil ?_))
    | ((refine swp_region (id := 1) ?_) <;> (first | refine sops_pure (.free rfl rfl) rfl rfl (po_field_bx rfl rfl (tyF rfl)) ?_ | refine sops_pure (.free rfl rfl) rfl rfl (po_field rfl rfl (tyF rfl)) ?_) <;> (first | refine sops_pure (.free rfl rfl) rfl rfl (po_load_bx rfl rfl (tyT rfl) rfl rfl) ?_ | refine sops_pure (.free rfl rfl) rfl rfl (po_load rfl rfl (tyT rfl) rfl) ?_) <;> (refine sops_pure (.free rfl rfl) rfl rfl (po_cmp rfl rfl rfl rfl) ?_) <;> (refine sops_pure (.free rfl rfl) rfl rfl (po_move rfl rfl) ?_) <;> (first | refine sops_pure gy rfl rfl (po_field_bx rfl rfl (tyF rfl)) ?_ | refine sops_pure gy rfl rfl (po_field rfl rfl (tyF rfl)) ?_ | refine sops_skip gn0 rfl rfl ?_ | ((refine sops_split rfl rfl rfl (fun hc => ?_) (fun hc => ?_)) <;> (first | refine sops_pure gy rfl rfl (po_field_bx rfl rfl (tyF rfl)) ?_ | refine sops_pure gy rfl rfl (po_field rfl rfl (tyF rfl)) ?_ | refine sops_skip gn0 rfl rfl ?_))) <;> (first | refine sops_pure gy rfl rfl (po_load_bx rfl rfl (tyT rfl) rfl rfl) ?_ | refine sops_pure gy rfl rfl (po_load rfl rfl (tyT rfl) rfl) ?_ | refine sops_skip gn0 rfl rfl ?_) <;> (first | refine sops_pure gy rfl rfl (po_cmp rfl rfl rfl rfl) ?_ | refine sops_skip gn0 rfl rfl ?_) <;> (first | refine sops_pure (.free rfl rfl) rfl rfl (pkt rfl) ?_ | refine sops_pure (.free rfl rfl) rfl rfl (pkf rfl) ?_) <;> (refine sops_nil ?_))
    | ((refine swp_region (id := 2) ?_) <;> (refine sops_pure (.free rfl rfl) rfl rfl (po_assign rfl rfl) ?_) <;> (refine sops_nil ?_))
    | ((refine swp_region (id := 3) ?_) <;> (first | refine sops_pure (.free rfl rfl) rfl rfl (po_field_bx rfl rfl (tyF rfl)) ?_ | refine sops_pure (.free rfl rfl) rfl rfl (po_field rfl rfl (tyF rfl)) ?_) <;> (first | refine sops_pure (.free rfl rfl) rfl rfl (po_load_bx rfl rfl (tyT rfl) rfl rfl) ?_ | refine sops_pure (.free rfl rfl) rfl rfl (po_load rfl rfl (tyT rfl) rfl) ?_) <;> (refine sops_pure (.free rfl rfl) rfl rfl (po_assign rfl rfl) ?_) <;> (refine sops_nil ?_))
    | refine swp_ret ?_
    | refine swp_skip ?_
    | refine swp_block ?_
    | refine swp_exit ?_
    | refine block_go ?_
    | refine block_exit ?_
    | refine block_far rfl ?_
    | refine block_ret ?_
    | refine then_ret ?_
    | refine then_exit ?_
    | refine for_ret ?_
    | refine for_exit ?_
    | refine ct ?_
    | refine cf ?_
    | refine swp_cond rfl (fun hc => ?_) (fun hc => ?_)
    | refine retq (by first | exact .inr rfl | exact .inl rfl) rfl (.tmp rfl (by first | exact .t _ | exact .own rfl (by first | rfl | assumption | (simp; done) | (simp; omega)) | exact .nil _ | exact .emp _ | exact .fn _) .nil) ?_)
  · refine eq_b ?_
    simp at *; omega
  · refine eq_b ?_
    simp at *; omega
  · obtain ⟨b, e⟩ : ∃ b : Nat, cb = b := ⟨cb.toNat, by simp at *; omega⟩
    subst e
    have hb : b ≤ 32 := by simp at *; omega
    refine swp_for (fun k => ⟨[(1, .bp 1 0), (3, .t (.v (.int .i64 ((b + k : Nat) : Int))))], [(1, [.t (.v (.int .u32 (a : Int))), .t (.v (.int .i64 (b : Int)))])], []⟩) (fun k => (List.range (b + k)).all (fun i => decide ((i : Int) < b) || !Pl.bit a i) = true) (32 - b) (weak_sub (.cons rfl (by first | rfl | (simp)) rfl (.cons rfl (by first | rfl | (simp)) rfl .nil)) (.cons rfl (by first | rfl | (simp)) rfl .nil) .nil) (by simp; exact fun x h => .inl h) ?_
    intro k hk hI
    by_cases hlt : k < 32 - b
    · have hbit := bit_ a (b + k) (by omega) (by omega)
      repeat' (first
        | refine then_go ?_
        | refine swp_seq ?_
        | refine for_next hlt (weak_sub (.cons rfl rfl rfl (.cons rfl rfl rfl .nil)) (.cons rfl rfl rfl .nil) .nil) ?_
        | ((refine swp_region (id := 4) ?_) <;> (refine sops_pure (.free rfl rfl) rfl rfl (po_move rfl rfl) ?_) <;> (refine sops_pure (.free rfl rfl) rfl rfl (po_cmp rfl rfl rfl rfl) ?_) <;> (refine sops_nil ?_))
        | ((refine swp_region (id := 6) ?_) <;> (first | refine sops_pure (.free rfl rfl) rfl rfl (po_field_bx rfl rfl (tyF rfl)) ?_ | refine sops_pure (.free rfl rfl) rfl rfl (po_field rfl rfl (tyF rfl)) ?_) <;> (first | refine sops_pure (.free rfl rfl) rfl rfl (po_load_bx rfl rfl (tyT rfl) rfl rfl) ?_ | refine sops_pure (.free rfl rfl) rfl rfl (po_load rfl rfl (tyT rfl) rfl) ?_) <;> (refine sops_pure (.free rfl rfl) rfl rfl (po_move rfl rfl) ?_) <;> (refine sops_pure (.free rfl rfl) rfl rfl (po_call (hbit) rfl (ac (ac .nil))) ?_) <;> (refine sops_nil ?_))
        | ((refine swp_region (id := 7) ?_) <;> (refine sops_pure (.free rfl rfl) rfl rfl (po_assign rfl rfl) ?_) <;> (refine sops_nil ?_))
        | ((refine swp_region (id := 5) ?_) <;> (refine sops_pure (.free rfl rfl) rfl rfl (po_move rfl rfl) ?_) <;> (first | refine sops_pure (.free rfl rfl) rfl rfl (po_inc rfl rfl rfl (by omega)) ?_ | refine sops_pure (.free rfl rfl) rfl rfl (po_arith rfl rfl rfl (ar_add (by first | rfl | (refine wrap_i64 ?_; omega)) rfl)) ?_) <;> (refine sops_pure (.free rfl rfl) rfl rfl (po_assign rfl rfl) ?_) <;> (refine sops_nil ?_))
        | refine swp_ret ?_
        | refine swp_skip ?_
        | refine swp_block ?_
        | refine swp_exit ?_
        | refine block_go ?_
        | refine block_exit ?_
        | refine block_far rfl ?_
        | refine block_ret ?_
        | refine then_ret ?_
        | refine then_exit ?_
        | refine for_ret ?_
        | refine for_exit ?_
        | refine ct ?_
        | refine cf ?_
        | refine swp_cond rfl (fun hc => ?_) (fun hc => ?_)
        | refine retq (by first | exact .inr rfl | exact .inl rfl) rfl (.tmp rfl (by first | exact .t _ | exact .own rfl (by first | rfl | assumption | (simp; done) | (simp; omega)) | exact .nil _ | exact .emp _ | exact .fn _) .nil) ?_)
      · refine eq_b ?_
        have hf : (decide (((b + k : Nat) : Int) < b) || !Pl.bit a (b + k)) = false := by rw [decide_eq_false (by omega)]; simp [*]
        rw [all_no (f := fun i => decide ((i : Int) < b) || !Pl.bit a i) hf (by omega)]; simp
      · exact all_more hI (by simp [*])
    · have e : b + k = 32 := by omega
      rw [e] at hI
      repeat' (first
        | refine then_go ?_
        | refine swp_seq ?_
        | ((refine swp_region (id := 4) ?_) <;> (refine sops_pure (.free rfl rfl) rfl rfl (po_move rfl rfl) ?_) <;> (refine sops_pure (.free rfl rfl) rfl rfl (po_cmp rfl rfl rfl rfl) ?_) <;> (refine sops_nil ?_))
        | ((refine swp_region (id := 8) ?_) <;> (refine sops_pure (.free rfl rfl) rfl rfl (po_assign rfl rfl) ?_) <;> (refine sops_nil ?_))
        | refine swp_ret ?_
        | refine swp_skip ?_
        | refine swp_block ?_
        | refine swp_exit ?_
        | refine block_go ?_
        | refine block_exit ?_
        | refine block_far rfl ?_
        | refine block_ret ?_
        | refine then_ret ?_
        | refine then_exit ?_
        | refine for_ret ?_
        | refine for_exit ?_
        | refine ct ?_
        | refine cf ?_
        | refine swp_cond rfl (fun hc => ?_) (fun hc => ?_)
        | refine retq (by first | exact .inr rfl | exact .inl rfl) rfl (.tmp rfl (by first | exact .t _ | exact .own rfl (by first | rfl | assumption | (simp; done) | (simp; omega)) | exact .nil _ | exact .emp _ | exact .fn _) .nil) ?_)
      refine eq_b ?_
      rw [hI]; simp; omega
set_option maxRecDepth 100000 in
theorem inC_ (c : Pl.Cidr) (hc : okCidr c) (x : Int) (hx : (Lit.int .u32 x).wf = true) : PCalls Tryz.prog 75 [.agg (cidrT c), .v (.int .u32 x)] (.v (.bool (inC c x))) := by
  have hmay := mayC_ c hc
  obtain ⟨h1, h2⟩ := hc
  rw [← Pl.refInC_eq c x h1 hx]
  rw [← Pl.refMayC_eq c h1] at hmay
  obtain ⟨h3, h4⟩ := Pl.wf_u32 h1
  obtain ⟨h5, h6⟩ := Pl.wf_u32 hx
  obtain ⟨a, e⟩ : ∃ a : Nat, c.addr = a := ⟨c.addr.toNat, by omega⟩
  obtain ⟨y, e2⟩ : ∃ y : Nat, x = y := ⟨x.toNat, by omega⟩
  unfold Pl.refInC
  obtain ⟨ca, cb⟩ := c
  simp only [cidrT] at *
  subst e e2
  refine pcalls_of Tryz.func75 rfl rfl Tryz.ntmps75 rfl ?_
  repeat' (first
    | refine then_go ?_
    | refine swp_seq ?_
    | ((refine swp_region (id := 0) ?_) <;> (refine sops_box (.free rfl rfl) rfl rfl rfl rfl rfl rfl ?_) <;> (refine sops_pure (.free rfl rfl) rfl rfl (po_assign rfl rfl) ?_) <;> (refine sops_nil ?_))
    | ((refine swp_region (id := 1) ?_) <;> (refine sops_pure (.free rfl rfl) rfl rfl (po_assign rfl rfl) ?_) <;> (refine sops_nil ?_))
    | refine swp_ret ?_
    | refine swp_skip ?_
    | refine swp_block ?_
    | refine swp_exit ?_
    | refine block_go ?_
    | refine block_exit ?_
    | refine block_far rfl ?_
    | refine block_ret ?_
    | refine then_ret ?_
    | refine then_exit ?_
    | refine for_ret ?_
    | refine for_exit ?_
    | refine ct ?_
    | refine cf ?_
    | refine swp_cond rfl (fun hc => ?_) (fun hc => ?_)
    | refine retq (by first | exact .inr rfl | exact .inl rfl) rfl (.tmp rfl (by first | exact .t _ | exact .own rfl (by first | rfl | assumption | (simp; done) | (simp; omega)) | exact .nil _ | exact .emp _ | exact .fn _) .nil) ?_)
  refine swp_for (fun k => ⟨[(1, .t (.v (.int .u32 (y : Int)))), (2, .bp 2 0), (5, .t (.v (.int .i64 (k : Int))))], [(2, [.t (.v (.int .u32 (a : Int))), .t (.v (.int .i64 cb))])], []⟩) (fun k => (List.range k).all (fun i => decide (cb ≤ (i : Int)) || Pl.bit (y : Int) i == Pl.bit (a : Int) i) = true ∧ (k = 0 ∨ (k : Int) ≤ cb)) 32 (weak_sub (.cons rfl rfl rfl (.cons rfl rfl rfl (.cons rfl rfl rfl .nil))) (.cons rfl rfl rfl .nil) .nil) ⟨rfl, .inl rfl⟩ ?_
  intro k hk hI
  obtain ⟨hI, hkb⟩ := hI
  have hmore : cb ≤ (k : Int) ∨ k = 32 → (List.range 32).all (fun i => decide (cb ≤ (i : Int)) || Pl.bit (y : Int) i == Pl.bit (a : Int) i) = true := by
    intro h
    rw [List.all_eq_true] at hI ⊢
    intro i hi
    rcases h with h | h
    · by_cases hik : i < k
      · exact hI i (by simpa using hik)
      · rw [decide_eq_true (by omega)]; rfl
    · exact hI i (by rw [h]; exact hi)
  by_cases hlt : k < 32
  · by_cases hlt2 : (k : Int) < cb
    · have b1 := bit_ y k (by omega) hlt
      have b2 := bit_ a k (by omega) hlt
      cases hbb : (Pl.bit (y : Int) k == Pl.bit (a : Int) k) with
      | true =>
        have hb : (!(Pl.bit (y : Int) k == Pl.bit (a : Int) k)) = false := by rw [hbb]; rfl
        repeat' (first
          | refine then_go ?_
          | refine swp_seq ?_
          | refine for_next hlt (weak_sub (.cons rfl rfl rfl (.cons rfl rfl rfl (.cons rfl rfl rfl .nil))) (.cons rfl rfl rfl .nil) .nil) ?_
          | ((refine swp_region (id := 2) ?_) <;> (refine sops_pure (.free rfl rfl) rfl rfl (po_move rfl rfl) ?_) <;> (first | refine sops_pure (.free rfl rfl) rfl rfl (po_field_bx rfl rfl (tyF rfl)) ?_ | refine sops_pure (.free rfl rfl) rfl rfl (po_field rfl rfl (tyF rfl)) ?_) <;> (first | refine sops_pure (.free rfl rfl) rfl rfl (po_load_bx rfl rfl (tyT rfl) rfl rfl) ?_ | refine sops_pure (.free rfl rfl) rfl rfl (po_load rfl rfl (tyT rfl) rfl) ?_) <;> (first | refine sops_pure (.free rfl rfl) rfl rfl (po_bneq false rfl rfl rfl (by kernel_rfl) hb) ?_ | refine sops_pure (.free rfl rfl) rfl rfl (po_cmp rfl rfl rfl rfl) ?_) <;> (refine sops_pure (.free rfl rfl) rfl rfl (po_move rfl rfl) ?_) <;> (first | refine sops_pure gy rfl rfl (po_move rfl rfl) ?_ | refine sops_skip gn1 rfl rfl ?_ | ((refine sops_split rfl rfl rfl (fun hc => ?_) (fun hc => ?_)) <;> (first | refine sops_pure gy rfl rfl (po_move rfl rfl) ?_ | refine sops_skip gn1 rfl rfl ?_))) <;> (first | refine sops_pure gy rfl rfl (po_bneq false rfl rfl rfl (by kernel_rfl) hb) ?_ | refine sops_pure gy rfl rfl (po_cmp rfl rfl rfl rfl) ?_ | refine sops_skip gn1 rfl rfl ?_) <;> (first | refine sops_pure (.free rfl rfl) rfl rfl (pkt rfl) ?_ | refine sops_pure (.free rfl rfl) rfl rfl (pkf rfl) ?_) <;> (refine sops_nil ?_))
          | ((refine swp_draw_all (id := 4) mixed (by kernel_rfl) (by kernel_rfl) ?_) <;> (refine sdraw_pure (.free rfl rfl) rfl (po_move rfl rfl) ?_) <;> (refine sdraw_pure (.free rfl rfl) rfl (po_move rfl rfl) ?_) <;> (first | refine sdraw_pure (.free rfl rfl) rfl (po_call (b1) rfl (ac (ac .nil))) ?_ | refine sdraw_pure (.free rfl rfl) rfl (po_call (b2) rfl (ac (ac .nil))) ?_) <;> (first | refine sdraw_pure (.free rfl rfl) rfl (po_field_bx rfl rfl (tyF rfl)) ?_ | refine sdraw_pure (.free rfl rfl) rfl (po_field rfl rfl (tyF rfl)) ?_) <;> (first | refine sdraw_pure (.free rfl rfl) rfl (po_load_bx rfl rfl (tyT rfl) rfl rfl) ?_ | refine sdraw_pure (.free rfl rfl) rfl (po_load rfl rfl (tyT rfl) rfl) ?_) <;> (refine sdraw_pure (.free rfl rfl) rfl (po_move rfl rfl) ?_) <;> (first | refine sdraw_pure (.free rfl rfl) rfl (po_call (b1) rfl (ac (ac .nil))) ?_ | refine sdraw_pure (.free rfl rfl) rfl (po_call (b2) rfl (ac (ac .nil))) ?_) <;> (first | refine sdraw_pure (.free rfl rfl) rfl (po_bneq false rfl rfl rfl (by kernel_rfl) hb) ?_ | refine sdraw_pure (.free rfl rfl) rfl (po_boolq rfl rfl rfl (by kernel_rfl) (by first | exact .inl rfl | exact .inr rfl)) ?_) <;> (refine sdraw_nil ?_) <;> (refine sops_nil ?_))
          | ((refine swp_region (id := 3) ?_) <;> (refine sops_pure (.free rfl rfl) rfl rfl (po_move rfl rfl) ?_) <;> (first | refine sops_pure (.free rfl rfl) rfl rfl (po_inc rfl rfl rfl (by omega)) ?_ | refine sops_pure (.free rfl rfl) rfl rfl (po_arith rfl rfl rfl (ar_add (by first | rfl | (refine wrap_i64 ?_; omega)) rfl)) ?_) <;> (refine sops_pure (.free rfl rfl) rfl rfl (po_assign rfl rfl) ?_) <;> (refine sops_nil ?_))
          | refine swp_ret ?_
          | refine swp_skip ?_
          | refine swp_block ?_
          | refine swp_exit ?_
          | refine block_go ?_
          | refine block_exit ?_
          | refine block_far rfl ?_
          | refine block_ret ?_
          | refine then_ret ?_
          | refine then_exit ?_
          | refine for_ret ?_
          | refine for_exit ?_
          | refine ct ?_
          | refine cf ?_
          | refine swp_cond rfl (fun hc => ?_) (fun hc => ?_)
          | refine retq (by first | exact .inr rfl | exact .inl rfl) rfl (.tmp rfl (by first | exact .t _ | exact .own rfl (by first | rfl | assumption | (simp; done) | (simp; omega)) | exact .nil _ | exact .emp _ | exact .fn _) .nil) ?_)
        exact ⟨all_more hI (by simp [hbb]), .inr (by omega)⟩
      | false =>
        have hb : (!(Pl.bit (y : Int) k == Pl.bit (a : Int) k)) = true := by rw [hbb]; rfl
        repeat' (first
          | refine then_go ?_
          | refine swp_seq ?_
          | ((refine swp_region (id := 2) ?_) <;> (refine sops_pure (.free rfl rfl) rfl rfl (po_move rfl rfl) ?_) <;> (first | refine sops_pure (.free rfl rfl) rfl rfl (po_field_bx rfl rfl (tyF rfl)) ?_ | refine sops_pure (.free rfl rfl) rfl rfl (po_field rfl rfl (tyF rfl)) ?_) <;> (first | refine sops_pure (.free rfl rfl) rfl rfl (po_load_bx rfl rfl (tyT rfl) rfl rfl) ?_ | refine sops_pure (.free rfl rfl) rfl rfl (po_load rfl rfl (tyT rfl) rfl) ?_) <;> (first | refine sops_pure (.free rfl rfl) rfl rfl (po_bneq true rfl rfl rfl (by kernel_rfl) hb) ?_ | refine sops_pure (.free rfl rfl) rfl rfl (po_cmp rfl rfl rfl rfl) ?_) <;> (refine sops_pure (.free rfl rfl) rfl rfl (po_move rfl rfl) ?_) <;> (first | refine sops_pure gy rfl rfl (po_move rfl rfl) ?_ | refine sops_skip gn1 rfl rfl ?_ | ((refine sops_split rfl rfl rfl (fun hc => ?_) (fun hc => ?_)) <;> (first | refine sops_pure gy rfl rfl (po_move rfl rfl) ?_ | refine sops_skip gn1 rfl rfl ?_))) <;> (first | refine sops_pure gy rfl rfl (po_bneq true rfl rfl rfl (by kernel_rfl) hb) ?_ | refine sops_pure gy rfl rfl (po_cmp rfl rfl rfl rfl) ?_ | refine sops_skip gn1 rfl rfl ?_) <;> (first | refine sops_pure (.free rfl rfl) rfl rfl (pkt rfl) ?_ | refine sops_pure (.free rfl rfl) rfl rfl (pkf rfl) ?_) <;> (refine sops_nil ?_))
          | ((refine swp_draw_all (id := 4) mixed (by kernel_rfl) (by kernel_rfl) ?_) <;> (refine sdraw_pure (.free rfl rfl) rfl (po_move rfl rfl) ?_) <;> (refine sdraw_pure (.free rfl rfl) rfl (po_move rfl rfl) ?_) <;> (first | refine sdraw_pure (.free rfl rfl) rfl (po_call (b1) rfl (ac (ac .nil))) ?_ | refine sdraw_pure (.free rfl rfl) rfl (po_call (b2) rfl (ac (ac .nil))) ?_) <;> (first | refine sdraw_pure (.free rfl rfl) rfl (po_field_bx rfl rfl (tyF rfl)) ?_ | refine sdraw_pure (.free rfl rfl) rfl (po_field rfl rfl (tyF rfl)) ?_) <;> (first | refine sdraw_pure (.free rfl rfl) rfl (po_load_bx rfl rfl (tyT rfl) rfl rfl) ?_ | refine sdraw_pure (.free rfl rfl) rfl (po_load rfl rfl (tyT rfl) rfl) ?_) <;> (refine sdraw_pure (.free rfl rfl) rfl (po_move rfl rfl) ?_) <;> (first | refine sdraw_pure (.free rfl rfl) rfl (po_call (b1) rfl (ac (ac .nil))) ?_ | refine sdraw_pure (.free rfl rfl) rfl (po_call (b2) rfl (ac (ac .nil))) ?_) <;> (first | refine sdraw_pure (.free rfl rfl) rfl (po_bneq true rfl rfl rfl (by kernel_rfl) hb) ?_ | refine sdraw_pure (.free rfl rfl) rfl (po_boolq rfl rfl rfl (by kernel_rfl) (by first | exact .inl rfl | exact .inr rfl)) ?_) <;> (refine sdraw_nil ?_) <;> (refine sops_nil ?_))
          | ((refine swp_region (id := 5) ?_) <;> (refine sops_pure (.free rfl rfl) rfl rfl (po_assign rfl rfl) ?_) <;> (refine sops_nil ?_))
          | refine swp_ret ?_
          | refine swp_skip ?_
          | refine swp_block ?_
          | refine swp_exit ?_
          | refine block_go ?_
          | refine block_exit ?_
          | refine block_far rfl ?_
          | refine block_ret ?_
          | refine then_ret ?_
          | refine then_exit ?_
          | refine for_ret ?_
          | refine for_exit ?_
          | refine ct ?_
          | refine cf ?_
          | refine swp_cond rfl (fun hc => ?_) (fun hc => ?_)
          | refine retq (by first | exact .inr rfl | exact .inl rfl) rfl (.tmp rfl (by first | exact .t _ | exact .own rfl (by first | rfl | assumption | (simp; done) | (simp; omega)) | exact .nil _ | exact .emp _ | exact .fn _) .nil) ?_)
        refine eq_b ?_
        have hf : (decide (cb ≤ (k : Int)) || Pl.bit (y : Int) k == Pl.bit (a : Int) k) = false := by rw [decide_eq_false (by omega), hbb]; rfl
        rw [all_no (f := fun i => decide (cb ≤ (i : Int)) || Pl.bit (y : Int) i == Pl.bit (a : Int) i) hf hlt]; rfl
    · have hA := hmore (.inl (by omega))
      repeat' (first
        | refine then_go ?_
        | refine swp_seq ?_
        | ((refine swp_region (id := 2) ?_) <;> (refine sops_pure (.free rfl rfl) rfl rfl (po_move rfl rfl) ?_) <;> (first | refine sops_pure (.free rfl rfl) rfl rfl (po_field_bx rfl rfl (tyF rfl)) ?_ | refine sops_pure (.free rfl rfl) rfl rfl (po_field rfl rfl (tyF rfl)) ?_) <;> (first | refine sops_pure (.free rfl rfl) rfl rfl (po_load_bx rfl rfl (tyT rfl) rfl rfl) ?_ | refine sops_pure (.free rfl rfl) rfl rfl (po_load rfl rfl (tyT rfl) rfl) ?_) <;> (refine sops_pure (.free rfl rfl) rfl rfl (po_cmp rfl rfl rfl rfl) ?_) <;> (refine sops_pure (.free rfl rfl) rfl rfl (po_move rfl rfl) ?_) <;> (first | refine sops_pure gy rfl rfl (po_move rfl rfl) ?_ | refine sops_skip gn1 rfl rfl ?_ | ((refine sops_split rfl rfl rfl (fun hc => ?_) (fun hc => ?_)) <;> (first | refine sops_pure gy rfl rfl (po_move rfl rfl) ?_ | refine sops_skip gn1 rfl rfl ?_))) <;> (first | refine sops_pure gy rfl rfl (po_cmp rfl rfl rfl rfl) ?_ | refine sops_skip gn1 rfl rfl ?_) <;> (first | refine sops_pure (.free rfl rfl) rfl rfl (pkt rfl) ?_ | refine sops_pure (.free rfl rfl) rfl rfl (pkf rfl) ?_) <;> (refine sops_nil ?_))
        | ((refine swp_region (id := 6) ?_) <;> (first | refine sops_pure (.free rfl rfl) rfl rfl (po_load_bx_agg rfl rfl (tyT rfl) rfl (vc (vc .nil)) rfl) ?_ | refine sops_pure (.free rfl rfl) rfl rfl (po_load_agg rfl rfl (tyT rfl) rfl rfl) ?_) <;> (refine sops_pure (.free rfl rfl) rfl rfl (po_call (hmay) rfl (ac .nil)) ?_) <;> (refine sops_pure (.free rfl rfl) rfl rfl (po_assign rfl rfl) ?_) <;> (refine sops_nil ?_))
        | refine swp_ret ?_
        | refine swp_skip ?_
        | refine swp_block ?_
        | refine swp_exit ?_
        | refine block_go ?_
        | refine block_exit ?_
        | refine block_far rfl ?_
        | refine block_ret ?_
        | refine then_ret ?_
        | refine then_exit ?_
        | refine for_ret ?_
        | refine for_exit ?_
        | refine ct ?_
        | refine cf ?_
        | refine swp_cond rfl (fun hc => ?_) (fun hc => ?_)
        | refine retq (by first | exact .inr rfl | exact .inl rfl) rfl (.tmp rfl (by first | exact .t _ | exact .own rfl (by first | rfl | assumption | (simp; done) | (simp; omega)) | exact .nil _ | exact .emp _ | exact .fn _) .nil) ?_)
      refine eq_b ?_
      rw [hA, Bool.true_and]
  · have hA := hmore (.inr (by omega))
    repeat' (first
      | refine then_go ?_
      | refine swp_seq ?_
      | ((refine swp_region (id := 2) ?_) <;> (refine sops_pure (.free rfl rfl) rfl rfl (po_move rfl rfl) ?_) <;> (first | refine sops_pure (.free rfl rfl) rfl rfl (po_field_bx rfl rfl (tyF rfl)) ?_ | refine sops_pure (.free rfl rfl) rfl rfl (po_field rfl rfl (tyF rfl)) ?_) <;> (first | refine sops_pure (.free rfl rfl) rfl rfl (po_load_bx rfl rfl (tyT rfl) rfl rfl) ?_ | refine sops_pure (.free rfl rfl) rfl rfl (po_load rfl rfl (tyT rfl) rfl) ?_) <;> (refine sops_pure (.free rfl rfl) rfl rfl (po_cmp rfl rfl rfl rfl) ?_) <;> (refine sops_pure (.free rfl rfl) rfl rfl (po_move rfl rfl) ?_) <;> (first | refine sops_pure gy rfl rfl (po_move rfl rfl) ?_ | refine sops_skip gn1 rfl rfl ?_ | ((refine sops_split rfl rfl rfl (fun hc => ?_) (fun hc => ?_)) <;> (first | refine sops_pure gy rfl rfl (po_move rfl rfl) ?_ | refine sops_skip gn1 rfl rfl ?_))) <;> (first | refine sops_pure gy rfl rfl (po_cmp rfl rfl rfl rfl) ?_ | refine sops_skip gn1 rfl rfl ?_) <;> (first | refine sops_pure (.free rfl rfl) rfl rfl (pkt rfl) ?_ | refine sops_pure (.free rfl rfl) rfl rfl (pkf rfl) ?_) <;> (refine sops_nil ?_))
      | ((refine swp_region (id := 6) ?_) <;> (first | refine sops_pure (.free rfl rfl) rfl rfl (po_load_bx_agg rfl rfl (tyT rfl) rfl (vc (vc .nil)) rfl) ?_ | refine sops_pure (.free rfl rfl) rfl rfl (po_load_agg rfl rfl (tyT rfl) rfl rfl) ?_) <;> (refine sops_pure (.free rfl rfl) rfl rfl (po_call (hmay) rfl (ac .nil)) ?_) <;> (refine sops_pure (.free rfl rfl) rfl rfl (po_assign rfl rfl) ?_) <;> (refine sops_nil ?_))
      | refine swp_ret ?_
      | refine swp_skip ?_
      | refine swp_block ?_
      | refine swp_exit ?_
      | refine block_go ?_
      | refine block_exit ?_
      | refine block_far rfl ?_
      | refine block_ret ?_
      | refine then_ret ?_
      | refine then_exit ?_
      | refine for_ret ?_
      | refine for_exit ?_
      | refine ct ?_
      | refine cf ?_
      | refine swp_cond rfl (fun hc => ?_) (fun hc => ?_)
      | refine retq (by first | exact .inr rfl | exact .inl rfl) rfl (.tmp rfl (by first | exact .t _ | exact .own rfl (by first | rfl | assumption | (simp; done) | (simp; omega)) | exact .nil _ | exact .emp _ | exact .fn _) .nil) ?_)
    all_goals
      refine eq_b ?_
      rw [hA, Bool.true_and]
end Go.Proofs.YtlcecabfmemfeaaGreat.Pol

/- The document's answer for names: walks. -/
namespace Go.Proofs.YtlcecabfmemfeaaGreat.Pol
set_option linter.unusedVariables false
set_option linter.unusedSimpArgs false
open Go.RowKit Mem Sim Opn WAddr WName WMatch WAuth
theorem lcs_no {s : ByteArray} {i : Nat} (hi : i < s.size) (h : lcs s i = false) : label s = false := label_bad hi h
theorem label_of {s : ByteArray} (h0 : 1 ≤ s.size) (h1 : s.size ≤ 20) (h : (List.range s.size).all (lcs s) = true) : label s = true := by simp [label, h, h0, h1]
set_option maxRecDepth 100000 in
set_option maxHeartbeats 1000000 in
theorem label_ (s : ByteArray) (hs : s.size ≤ maxLen) : PCalls Tryz.prog 103 [.v (.string s)] (.v (.bool (label s))) := by
  unfold maxLen at hs
  refine pcalls_of Tryz.func103 rfl rfl Tryz.ntmps103 rfl ?_
  by_cases h1 : 1 ≤ s.size
  · by_cases h2 : s.size ≤ 20
    · repeat' (first
      | refine then_go ?_
      | refine swp_seq ?_
      | ((refine swp_region (id := 0) ?_) <;> (refine sops_pure (.free rfl rfl) rfl rfl (po_assign rfl rfl) ?_) <;> (refine sops_nil ?_))
      | ((refine swp_region (id := 1) ?_) <;> (refine sops_pure (.free rfl rfl) rfl rfl (po_move rfl rfl) ?_) <;> (refine sops_pure (.free rfl rfl) rfl rfl (po_len_str rfl rfl (tyR rfl)) ?_) <;> (refine sops_pure (.free rfl rfl) rfl rfl (po_cmp rfl rfl rfl rfl) ?_) <;> (refine sops_pure (.free rfl rfl) rfl rfl (po_move rfl rfl) ?_) <;> (first | refine sops_pure gy rfl rfl (po_move rfl rfl) ?_ | refine sops_skip gn0 rfl rfl ?_ | ((refine sops_split rfl rfl rfl (fun hc => ?_) (fun hc => ?_)) <;> (first | refine sops_pure gy rfl rfl (po_move rfl rfl) ?_ | refine sops_skip gn0 rfl rfl ?_))) <;> (first | refine sops_pure gy rfl rfl (po_len_str rfl rfl (tyR rfl)) ?_ | refine sops_skip gn0 rfl rfl ?_) <;> (first | refine sops_pure gy rfl rfl (po_cmp rfl rfl rfl rfl) ?_ | refine sops_skip gn0 rfl rfl ?_) <;> (first | refine sops_pure (.free rfl rfl) rfl rfl (pkt rfl) ?_ | refine sops_pure (.free rfl rfl) rfl rfl (pkf rfl) ?_) <;> (refine sops_pure (.free rfl rfl) rfl rfl (po_move rfl rfl) ?_) <;> (first | refine sops_pure gy rfl rfl (po_move rfl rfl) ?_ | refine sops_skip gn0 rfl rfl ?_ | ((refine sops_split rfl rfl rfl (fun hc => ?_) (fun hc => ?_)) <;> (first | refine sops_pure gy rfl rfl (po_move rfl rfl) ?_ | refine sops_skip gn0 rfl rfl ?_))) <;> (first | refine sops_pure gy rfl rfl (po_index_str rfl rfl rfl (tyR rfl) (by first | rfl | omega) (by first | assumption | omega)) ?_ | refine sops_skip gn0 rfl rfl ?_) <;> (first | refine sops_pure gy rfl rfl (po_cmp rfl rfl rfl rfl) ?_ | refine sops_skip gn0 rfl rfl ?_) <;> (first | refine sops_pure (.free rfl rfl) rfl rfl (pkt rfl) ?_ | refine sops_pure (.free rfl rfl) rfl rfl (pkf rfl) ?_) <;> (refine sops_pure (.free rfl rfl) rfl rfl (po_move rfl rfl) ?_) <;> (first | refine sops_pure gy rfl rfl (po_move rfl rfl) ?_ | refine sops_skip gn0 rfl rfl ?_ | ((refine sops_split rfl rfl rfl (fun hc => ?_) (fun hc => ?_)) <;> (first | refine sops_pure gy rfl rfl (po_move rfl rfl) ?_ | refine sops_skip gn0 rfl rfl ?_))) <;> (first | refine sops_pure gy rfl rfl (po_move rfl rfl) ?_ | refine sops_skip gn0 rfl rfl ?_) <;> (first | refine sops_pure gy rfl rfl (po_len_str rfl rfl (tyR rfl)) ?_ | refine sops_skip gn0 rfl rfl ?_) <;> (first | refine sops_pure gy rfl rfl (po_dec rfl rfl rfl (by omega)) ?_ | refine sops_pure gy rfl rfl (po_arith rfl rfl rfl (ar_sub (by first | rfl | (refine wrap_i64 ?_; omega)) rfl)) ?_ | refine sops_skip gn0 rfl rfl ?_) <;> (first | refine sops_pure gy rfl rfl (po_index_str rfl rfl rfl (tyR rfl) (by first | rfl | omega) (by first | assumption | omega)) ?_ | refine sops_skip gn0 rfl rfl ?_) <;> (first | refine sops_pure gy rfl rfl (po_cmp rfl rfl rfl rfl) ?_ | refine sops_skip gn0 rfl rfl ?_) <;> (first | refine sops_pure (.free rfl rfl) rfl rfl (pkt rfl) ?_ | refine sops_pure (.free rfl rfl) rfl rfl (pkf rfl) ?_) <;> (refine sops_nil ?_))
      | ((refine swp_region (id := 2) ?_) <;> (refine sops_pure (.free rfl rfl) rfl rfl (po_assign rfl rfl) ?_) <;> (refine sops_nil ?_))
      | ((refine swp_region (id := 3) ?_) <;> (refine sops_pure (.free rfl rfl) rfl rfl (po_assign rfl rfl) ?_) <;> (refine sops_nil ?_))
      | refine swp_ret ?_
      | refine swp_skip ?_
      | refine swp_block ?_
      | refine swp_exit ?_
      | refine block_go ?_
      | refine block_exit ?_
      | refine block_far rfl ?_
      | refine block_ret ?_
      | refine then_ret ?_
      | refine then_exit ?_
      | refine for_ret ?_
      | refine for_exit ?_
      | refine ct ?_
      | refine cf ?_
      | refine swp_cond rfl (fun hc => ?_) (fun hc => ?_)
      | refine retq (by first | exact .inr rfl | exact .inl rfl) rfl (.tmp rfl (by first | exact .t _ | exact .own rfl (by first | rfl | assumption | (simp; done) | (simp; omega)) | exact .nil _ | exact .emp _ | exact .fn _) .nil) ?_)
      · refine eq_b ?_
        have : s[0].toNat = 45 := by simp at *; omega
        rw [lcs_no (i := 0) (by omega)]
        rw [lcs_at (by omega)]; simp [lcN, this]
      · refine eq_b ?_
        have : s[s.size - 1].toNat = 45 := by simp at *; omega
        rw [lcs_no (i := s.size - 1) (by omega)]
        rw [lcs_at (by omega)]; simp [lcN, this]; omega
      · have e0 : s[0].toNat ≠ 45 := by simp at *; omega
        have e1 : s[s.size - 1].toNat ≠ 45 := by simp at *; omega
        refine swp_for (fun k => ⟨[(0, .t (.v (.string s))), (3, .t (.v (.int .i64 (k : Int))))], [], []⟩) (fun k => (List.range k).all (lcs s) = true) s.size (weak_sub (.cons rfl rfl rfl (.cons rfl rfl rfl .nil)) .nil .nil) rfl ?_
        intro k hk hI
        by_cases hlt : k < s.size
        · have hl := lcs_at hlt
          have e2 : k = 0 → s[k].toNat ≠ 45 := by rintro rfl; exact e0
          have e3 : k + 1 = s.size → s[k].toNat ≠ 45 := by intro h; obtain rfl : k = s.size - 1 := by omega
                                                           exact e1
          repeat' (first
            | refine then_go ?_
            | refine swp_seq ?_
            | refine for_next hlt (weak_sub (.cons rfl rfl rfl (.cons rfl rfl rfl .nil)) .nil .nil) ?_
            | ((refine swp_region (id := 4) ?_) <;> (refine sops_pure (.free rfl rfl) rfl rfl (po_move rfl rfl) ?_) <;> (refine sops_pure (.free rfl rfl) rfl rfl (po_move rfl rfl) ?_) <;> (refine sops_pure (.free rfl rfl) rfl rfl (po_len_str rfl rfl (tyR rfl)) ?_) <;> (refine sops_pure (.free rfl rfl) rfl rfl (po_cmp rfl rfl rfl rfl) ?_) <;> (refine sops_nil ?_))
            | ((refine swp_region (id := 6) ?_) <;> (refine sops_pure (.free rfl rfl) rfl rfl (po_move rfl rfl) ?_) <;> (refine sops_pure (.free rfl rfl) rfl rfl (po_move rfl rfl) ?_) <;> (refine sops_pure (.free rfl rfl) rfl rfl (po_index_str rfl rfl rfl (tyR rfl) (by first | rfl | omega) (by first | assumption | omega)) ?_) <;> (refine sops_pure (.free rfl rfl) rfl rfl (po_assign rfl rfl) ?_) <;> (refine sops_nil ?_))
            | ((refine swp_region (id := 7) ?_) <;> (refine sops_pure (.free rfl rfl) rfl rfl (po_move rfl rfl) ?_) <;> (refine sops_pure (.free rfl rfl) rfl rfl (po_cmp rfl rfl rfl rfl) ?_) <;> (refine sops_pure (.free rfl rfl) rfl rfl (po_move rfl rfl) ?_) <;> (first | refine sops_pure gy rfl rfl (po_move rfl rfl) ?_ | refine sops_skip gn1 rfl rfl ?_ | ((refine sops_split rfl rfl rfl (fun hc => ?_) (fun hc => ?_)) <;> (first | refine sops_pure gy rfl rfl (po_move rfl rfl) ?_ | refine sops_skip gn1 rfl rfl ?_))) <;> (first | refine sops_pure gy rfl rfl (po_cmp rfl rfl rfl rfl) ?_ | refine sops_skip gn1 rfl rfl ?_) <;> (first | refine sops_pure gy rfl rfl (po_move rfl rfl) ?_ | refine sops_skip gn1 rfl rfl ?_) <;> (first | refine sops_pure gy rfl rfl (po_move rfl rfl) ?_ | refine sops_skip gn0 rfl rfl ?_ | refine sops_skip (.nou rfl rfl rfl) rfl rfl ?_ | ((refine sops_split rfl rfl rfl (fun hc => ?_) (fun hc => ?_)) <;> (first | refine sops_pure gy rfl rfl (po_move rfl rfl) ?_ | refine sops_skip gn0 rfl rfl ?_ | refine sops_skip (.nou rfl rfl rfl) rfl rfl ?_))) <;> (first | refine sops_pure gy rfl rfl (po_cmp rfl rfl rfl rfl) ?_ | refine sops_skip gn0 rfl rfl ?_ | refine sops_skip (.nou rfl rfl rfl) rfl rfl ?_) <;> (first | refine sops_pure gy rfl rfl (pkt rfl) ?_ | refine sops_pure gy rfl rfl (pkf rfl) ?_ | refine sops_skip gn1 rfl rfl ?_) <;> (first | refine sops_pure (.free rfl rfl) rfl rfl (pkt rfl) ?_ | refine sops_pure (.free rfl rfl) rfl rfl (pkf rfl) ?_) <;> (refine sops_pure (.free rfl rfl) rfl rfl (po_move rfl rfl) ?_) <;> (first | refine sops_pure gy rfl rfl (po_move rfl rfl) ?_ | refine sops_skip gn1 rfl rfl ?_ | ((refine sops_split rfl rfl rfl (fun hc => ?_) (fun hc => ?_)) <;> (first | refine sops_pure gy rfl rfl (po_move rfl rfl) ?_ | refine sops_skip gn1 rfl rfl ?_))) <;> (first | refine sops_pure gy rfl rfl (po_cmp rfl rfl rfl rfl) ?_ | refine sops_skip gn1 rfl rfl ?_) <;> (first | refine sops_pure gy rfl rfl (po_move rfl rfl) ?_ | refine sops_skip gn1 rfl rfl ?_) <;> (first | refine sops_pure gy rfl rfl (po_move rfl rfl) ?_ | refine sops_skip gn0 rfl rfl ?_ | refine sops_skip (.nou rfl rfl rfl) rfl rfl ?_ | ((refine sops_split rfl rfl rfl (fun hc => ?_) (fun hc => ?_)) <;> (first | refine sops_pure gy rfl rfl (po_move rfl rfl) ?_ | refine sops_skip gn0 rfl rfl ?_ | refine sops_skip (.nou rfl rfl rfl) rfl rfl ?_))) <;> (first | refine sops_pure gy rfl rfl (po_cmp rfl rfl rfl rfl) ?_ | refine sops_skip gn0 rfl rfl ?_ | refine sops_skip (.nou rfl rfl rfl) rfl rfl ?_) <;> (first | refine sops_pure gy rfl rfl (pkt rfl) ?_ | refine sops_pure gy rfl rfl (pkf rfl) ?_ | refine sops_skip gn1 rfl rfl ?_) <;> (first | refine sops_pure (.free rfl rfl) rfl rfl (pkt rfl) ?_ | refine sops_pure (.free rfl rfl) rfl rfl (pkf rfl) ?_) <;> (refine sops_nil ?_))
            | ((refine swp_region (id := 8) ?_) <;> (refine sops_pure (.free rfl rfl) rfl rfl (po_assign rfl rfl) ?_) <;> (refine sops_nil ?_))
            | ((refine swp_region (id := 5) ?_) <;> (refine sops_pure (.free rfl rfl) rfl rfl (po_move rfl rfl) ?_) <;> (first | refine sops_pure (.free rfl rfl) rfl rfl (po_inc rfl rfl rfl (by omega)) ?_ | refine sops_pure (.free rfl rfl) rfl rfl (po_arith rfl rfl rfl (ar_add (by first | rfl | (refine wrap_i64 ?_; omega)) rfl)) ?_) <;> (refine sops_pure (.free rfl rfl) rfl rfl (po_assign rfl rfl) ?_) <;> (refine sops_nil ?_))
            | refine swp_ret ?_
            | refine swp_skip ?_
            | refine swp_block ?_
            | refine swp_exit ?_
            | refine block_go ?_
            | refine block_exit ?_
            | refine block_far rfl ?_
            | refine block_ret ?_
            | refine then_ret ?_
            | refine then_exit ?_
            | refine for_ret ?_
            | refine for_exit ?_
            | refine ct ?_
            | refine cf ?_
            | refine swp_cond rfl (fun hc => ?_) (fun hc => ?_)
            | refine retq (by first | exact .inr rfl | exact .inl rfl) rfl (.tmp rfl (by first | exact .t _ | exact .own rfl (by first | rfl | assumption | (simp; done) | (simp; omega)) | exact .nil _ | exact .emp _ | exact .fn _) .nil) ?_)
          all_goals first
            | (refine eq_b ?_
               rw [lcs_no hlt]
               rw [hl, lcN]
               simp at *
               omega)
            | (refine all_more hI ?_
               rw [hl, lcN]
               simp at *
               omega)
        · repeat' (first
          | refine then_go ?_
          | refine swp_seq ?_
          | ((refine swp_region (id := 4) ?_) <;> (refine sops_pure (.free rfl rfl) rfl rfl (po_move rfl rfl) ?_) <;> (refine sops_pure (.free rfl rfl) rfl rfl (po_move rfl rfl) ?_) <;> (refine sops_pure (.free rfl rfl) rfl rfl (po_len_str rfl rfl (tyR rfl)) ?_) <;> (refine sops_pure (.free rfl rfl) rfl rfl (po_cmp rfl rfl rfl rfl) ?_) <;> (refine sops_nil ?_))
          | ((refine swp_region (id := 9) ?_) <;> (refine sops_pure (.free rfl rfl) rfl rfl (po_assign rfl rfl) ?_) <;> (refine sops_nil ?_))
          | refine swp_ret ?_
          | refine swp_skip ?_
          | refine swp_block ?_
          | refine swp_exit ?_
          | refine block_go ?_
          | refine block_exit ?_
          | refine block_far rfl ?_
          | refine block_ret ?_
          | refine then_ret ?_
          | refine then_exit ?_
          | refine for_ret ?_
          | refine for_exit ?_
          | refine ct ?_
          | refine cf ?_
          | refine swp_cond rfl (fun hc => ?_) (fun hc => ?_)
          | refine retq (by first | exact .inr rfl | exact .inl rfl) rfl (.tmp rfl (by first | exact .t _ | exact .own rfl (by first | rfl | assumption | (simp; done) | (simp; omega)) | exact .nil _ | exact .emp _ | exact .fn _) .nil) ?_)
          refine eq_b ?_
          obtain rfl : k = s.size := by omega
          rw [label_of h1 h2 hI]
    · repeat' (first
      | refine then_go ?_
      | refine swp_seq ?_
      | ((refine swp_region (id := 0) ?_) <;> (refine sops_pure (.free rfl rfl) rfl rfl (po_assign rfl rfl) ?_) <;> (refine sops_nil ?_))
      | ((refine swp_region (id := 1) ?_) <;> (refine sops_pure (.free rfl rfl) rfl rfl (po_move rfl rfl) ?_) <;> (refine sops_pure (.free rfl rfl) rfl rfl (po_len_str rfl rfl (tyR rfl)) ?_) <;> (refine sops_pure (.free rfl rfl) rfl rfl (po_cmp rfl rfl rfl rfl) ?_) <;> (refine sops_pure (.free rfl rfl) rfl rfl (po_move rfl rfl) ?_) <;> (first | refine sops_pure gy rfl rfl (po_move rfl rfl) ?_ | refine sops_skip gn0 rfl rfl ?_ | ((refine sops_split rfl rfl rfl (fun hc => ?_) (fun hc => ?_)) <;> (first | refine sops_pure gy rfl rfl (po_move rfl rfl) ?_ | refine sops_skip gn0 rfl rfl ?_))) <;> (first | refine sops_pure gy rfl rfl (po_len_str rfl rfl (tyR rfl)) ?_ | refine sops_skip gn0 rfl rfl ?_) <;> (first | refine sops_pure gy rfl rfl (po_cmp rfl rfl rfl rfl) ?_ | refine sops_skip gn0 rfl rfl ?_) <;> (first | refine sops_pure (.free rfl rfl) rfl rfl (pkt rfl) ?_ | refine sops_pure (.free rfl rfl) rfl rfl (pkf rfl) ?_) <;> (refine sops_pure (.free rfl rfl) rfl rfl (po_move rfl rfl) ?_) <;> (first | refine sops_pure gy rfl rfl (po_move rfl rfl) ?_ | refine sops_skip gn0 rfl rfl ?_ | ((refine sops_split rfl rfl rfl (fun hc => ?_) (fun hc => ?_)) <;> (first | refine sops_pure gy rfl rfl (po_move rfl rfl) ?_ | refine sops_skip gn0 rfl rfl ?_))) <;> (first | refine sops_pure gy rfl rfl (po_index_str rfl rfl rfl (tyR rfl) (by first | rfl | omega) (by first | assumption | omega)) ?_ | refine sops_skip gn0 rfl rfl ?_) <;> (first | refine sops_pure gy rfl rfl (po_cmp rfl rfl rfl rfl) ?_ | refine sops_skip gn0 rfl rfl ?_) <;> (first | refine sops_pure (.free rfl rfl) rfl rfl (pkt rfl) ?_ | refine sops_pure (.free rfl rfl) rfl rfl (pkf rfl) ?_) <;> (refine sops_pure (.free rfl rfl) rfl rfl (po_move rfl rfl) ?_) <;> (first | refine sops_pure gy rfl rfl (po_move rfl rfl) ?_ | refine sops_skip gn0 rfl rfl ?_ | ((refine sops_split rfl rfl rfl (fun hc => ?_) (fun hc => ?_)) <;> (first | refine sops_pure gy rfl rfl (po_move rfl rfl) ?_ | refine sops_skip gn0 rfl rfl ?_))) <;> (first | refine sops_pure gy rfl rfl (po_move rfl rfl) ?_ | refine sops_skip gn0 rfl rfl ?_) <;> (first | refine sops_pure gy rfl rfl (po_len_str rfl rfl (tyR rfl)) ?_ | refine sops_skip gn0 rfl rfl ?_) <;> (first | refine sops_pure gy rfl rfl (po_dec rfl rfl rfl (by omega)) ?_ | refine sops_pure gy rfl rfl (po_arith rfl rfl rfl (ar_sub (by first | rfl | (refine wrap_i64 ?_; omega)) rfl)) ?_ | refine sops_skip gn0 rfl rfl ?_) <;> (first | refine sops_pure gy rfl rfl (po_index_str rfl rfl rfl (tyR rfl) (by first | rfl | omega) (by first | assumption | omega)) ?_ | refine sops_skip gn0 rfl rfl ?_) <;> (first | refine sops_pure gy rfl rfl (po_cmp rfl rfl rfl rfl) ?_ | refine sops_skip gn0 rfl rfl ?_) <;> (first | refine sops_pure (.free rfl rfl) rfl rfl (pkt rfl) ?_ | refine sops_pure (.free rfl rfl) rfl rfl (pkf rfl) ?_) <;> (refine sops_nil ?_))
      | ((refine swp_region (id := 2) ?_) <;> (refine sops_pure (.free rfl rfl) rfl rfl (po_assign rfl rfl) ?_) <;> (refine sops_nil ?_))
      | refine swp_ret ?_
      | refine swp_skip ?_
      | refine swp_block ?_
      | refine swp_exit ?_
      | refine block_go ?_
      | refine block_exit ?_
      | refine block_far rfl ?_
      | refine block_ret ?_
      | refine then_ret ?_
      | refine then_exit ?_
      | refine for_ret ?_
      | refine for_exit ?_
      | refine ct ?_
      | refine cf ?_
      | refine swp_cond rfl (fun hc => ?_) (fun hc => ?_)
      | refine retq (by first | exact .inr rfl | exact .inl rfl) rfl (.tmp rfl (by first | exact .t _ | exact .own rfl (by first | rfl | assumption | (simp; done) | (simp; omega)) | exact .nil _ | exact .emp _ | exact .fn _) .nil) ?_)
      refine eq_b ?_
      simp [label, h2]
  · repeat' (first
    | refine then_go ?_
    | refine swp_seq ?_
    | ((refine swp_region (id := 0) ?_) <;> (refine sops_pure (.free rfl rfl) rfl rfl (po_assign rfl rfl) ?_) <;> (refine sops_nil ?_))
    | ((refine swp_region (id := 1) ?_) <;> (refine sops_pure (.free rfl rfl) rfl rfl (po_move rfl rfl) ?_) <;> (refine sops_pure (.free rfl rfl) rfl rfl (po_len_str rfl rfl (tyR rfl)) ?_) <;> (refine sops_pure (.free rfl rfl) rfl rfl (po_cmp rfl rfl rfl rfl) ?_) <;> (refine sops_pure (.free rfl rfl) rfl rfl (po_move rfl rfl) ?_) <;> (first | refine sops_pure gy rfl rfl (po_move rfl rfl) ?_ | refine sops_skip gn0 rfl rfl ?_ | ((refine sops_split rfl rfl rfl (fun hc => ?_) (fun hc => ?_)) <;> (first | refine sops_pure gy rfl rfl (po_move rfl rfl) ?_ | refine sops_skip gn0 rfl rfl ?_))) <;> (first | refine sops_pure gy rfl rfl (po_len_str rfl rfl (tyR rfl)) ?_ | refine sops_skip gn0 rfl rfl ?_) <;> (first | refine sops_pure gy rfl rfl (po_cmp rfl rfl rfl rfl) ?_ | refine sops_skip gn0 rfl rfl ?_) <;> (first | refine sops_pure (.free rfl rfl) rfl rfl (pkt rfl) ?_ | refine sops_pure (.free rfl rfl) rfl rfl (pkf rfl) ?_) <;> (refine sops_pure (.free rfl rfl) rfl rfl (po_move rfl rfl) ?_) <;> (first | refine sops_pure gy rfl rfl (po_move rfl rfl) ?_ | refine sops_skip gn0 rfl rfl ?_ | ((refine sops_split rfl rfl rfl (fun hc => ?_) (fun hc => ?_)) <;> (first | refine sops_pure gy rfl rfl (po_move rfl rfl) ?_ | refine sops_skip gn0 rfl rfl ?_))) <;> (first | refine sops_pure gy rfl rfl (po_index_str rfl rfl rfl (tyR rfl) (by first | rfl | omega) (by first | assumption | omega)) ?_ | refine sops_skip gn0 rfl rfl ?_) <;> (first | refine sops_pure gy rfl rfl (po_cmp rfl rfl rfl rfl) ?_ | refine sops_skip gn0 rfl rfl ?_) <;> (first | refine sops_pure (.free rfl rfl) rfl rfl (pkt rfl) ?_ | refine sops_pure (.free rfl rfl) rfl rfl (pkf rfl) ?_) <;> (refine sops_pure (.free rfl rfl) rfl rfl (po_move rfl rfl) ?_) <;> (first | refine sops_pure gy rfl rfl (po_move rfl rfl) ?_ | refine sops_skip gn0 rfl rfl ?_ | ((refine sops_split rfl rfl rfl (fun hc => ?_) (fun hc => ?_)) <;> (first | refine sops_pure gy rfl rfl (po_move rfl rfl) ?_ | refine sops_skip gn0 rfl rfl ?_))) <;> (first | refine sops_pure gy rfl rfl (po_move rfl rfl) ?_ | refine sops_skip gn0 rfl rfl ?_) <;> (first | refine sops_pure gy rfl rfl (po_len_str rfl rfl (tyR rfl)) ?_ | refine sops_skip gn0 rfl rfl ?_) <;> (first | refine sops_pure gy rfl rfl (po_dec rfl rfl rfl (by omega)) ?_ | refine sops_pure gy rfl rfl (po_arith rfl rfl rfl (ar_sub (by first | rfl | (refine wrap_i64 ?_; omega)) rfl)) ?_ | refine sops_skip gn0 rfl rfl ?_) <;> (first | refine sops_pure gy rfl rfl (po_index_str rfl rfl rfl (tyR rfl) (by first | rfl | omega) (by first | assumption | omega)) ?_ | refine sops_skip gn0 rfl rfl ?_) <;> (first | refine sops_pure gy rfl rfl (po_cmp rfl rfl rfl rfl) ?_ | refine sops_skip gn0 rfl rfl ?_) <;> (first | refine sops_pure (.free rfl rfl) rfl rfl (pkt rfl) ?_ | refine sops_pure (.free rfl rfl) rfl rfl (pkf rfl) ?_) <;> (refine sops_nil ?_))
    | ((refine swp_region (id := 2) ?_) <;> (refine sops_pure (.free rfl rfl) rfl rfl (po_assign rfl rfl) ?_) <;> (refine sops_nil ?_))
    | refine swp_ret ?_
    | refine swp_skip ?_
    | refine swp_block ?_
    | refine swp_exit ?_
    | refine block_go ?_
    | refine block_exit ?_
    | refine block_far rfl ?_
    | refine block_ret ?_
    | refine then_ret ?_
    | refine then_exit ?_
    | refine for_ret ?_
    | refine for_exit ?_
    | refine ct ?_
    | refine cf ?_
    | refine swp_cond rfl (fun hc => ?_) (fun hc => ?_)
    | refine retq (by first | exact .inr rfl | exact .inl rfl) rfl (.tmp rfl (by first | exact .t _ | exact .own rfl (by first | rfl | assumption | (simp; done) | (simp; omega)) | exact .nil _ | exact .emp _ | exact .fn _) .nil) ?_)
    refine eq_b ?_
    simp [label, h1]
set_option maxRecDepth 100000 in
theorem mayN_ (a : Pl.Asker) (h : OkAsk a) : PCalls Tryz.prog 73 [.agg (nameT a)] (.v (.bool (mayN a.ns a.sa))) := by
  have h1 := label_ a.ns h.ns
  have h2 := label_ a.sa h.sa
  unfold mayN nameT
  refine pcalls_of Tryz.func73 rfl rfl Tryz.ntmps73 rfl ?_
  repeat' (first
    | refine then_go ?_
    | refine swp_seq ?_
    | ((refine swp_region (id := 0) ?_) <;> (refine sops_box (.free rfl rfl) rfl rfl rfl rfl rfl rfl ?_) <;> (refine sops_pure (.free rfl rfl) rfl rfl (po_assign rfl rfl) ?_) <;> (refine sops_nil ?_))
    | ((refine swp_region (id := 1) ?_) <;> (first | refine sops_pure (.free rfl rfl) rfl rfl (po_field_bx rfl rfl (tyF rfl)) ?_ | refine sops_pure (.free rfl rfl) rfl rfl (po_field rfl rfl (tyF rfl)) ?_) <;> (first | refine sops_pure (.free rfl rfl) rfl rfl (po_load_bx rfl rfl (tyT rfl) rfl rfl) ?_ | refine sops_pure (.free rfl rfl) rfl rfl (po_load rfl rfl (tyT rfl) rfl) ?_) <;> (first | refine sops_pure (.free rfl rfl) rfl rfl (po_call (h1) rfl (ac .nil)) ?_ | refine sops_pure (.free rfl rfl) rfl rfl (po_call (h2) rfl (ac .nil)) ?_) <;> (refine sops_pure (.free rfl rfl) rfl rfl (po_move rfl rfl) ?_) <;> (first | refine sops_pure gy rfl rfl (po_field_bx rfl rfl (tyF rfl)) ?_ | refine sops_pure gy rfl rfl (po_field rfl rfl (tyF rfl)) ?_ | refine sops_skip gn1 rfl rfl ?_ | ((refine sops_split rfl rfl rfl (fun hc => ?_) (fun hc => ?_)) <;> (first | refine sops_pure gy rfl rfl (po_field_bx rfl rfl (tyF rfl)) ?_ | refine sops_pure gy rfl rfl (po_field rfl rfl (tyF rfl)) ?_ | refine sops_skip gn1 rfl rfl ?_))) <;> (first | refine sops_pure gy rfl rfl (po_load_bx rfl rfl (tyT rfl) rfl rfl) ?_ | refine sops_pure gy rfl rfl (po_load rfl rfl (tyT rfl) rfl) ?_ | refine sops_skip gn1 rfl rfl ?_) <;> (first | refine sops_pure gy rfl rfl (po_call (h1) rfl (ac .nil)) ?_ | refine sops_pure gy rfl rfl (po_call (h2) rfl (ac .nil)) ?_ | refine sops_skip gn1 rfl rfl ?_) <;> (first | refine sops_pure (.free rfl rfl) rfl rfl (pkt rfl) ?_ | refine sops_pure (.free rfl rfl) rfl rfl (pkf rfl) ?_) <;> (refine sops_pure (.free rfl rfl) rfl rfl (po_assign rfl rfl) ?_) <;> (refine sops_nil ?_))
    | refine swp_ret ?_
    | refine swp_skip ?_
    | refine swp_block ?_
    | refine swp_exit ?_
    | refine block_go ?_
    | refine block_exit ?_
    | refine block_far rfl ?_
    | refine block_ret ?_
    | refine then_ret ?_
    | refine then_exit ?_
    | refine for_ret ?_
    | refine for_exit ?_
    | refine ct ?_
    | refine cf ?_
    | refine swp_cond rfl (fun hc => ?_) (fun hc => ?_)
    | refine retq (by first | exact .inr rfl | exact .inl rfl) rfl (.tmp rfl (by first | exact .t _ | exact .own rfl (by first | rfl | assumption | (simp; done) | (simp; omega)) | exact .nil _ | exact .emp _ | exact .fn _) .nil) ?_)
  all_goals
    refine eq_b ?_
    simp at *; simp [*]
set_option maxRecDepth 100000 in
theorem printN_ (a : Pl.Asker) (h : mayN a.ns a.sa = true) : PCalls Tryz.prog 74 [.agg (nameT a)] (.v (.string (nameText a.ns a.sa))) := by
  obtain ⟨h1, h2⟩ := mayN_len h
  have e : nameText a.ns a.sa = pre1 ++ a.ns ++ pre2 ++ a.sa := by unfold nameText; rw [if_pos h]
  have p1 : pre1.size = 17 := rfl
  have p2 : pre2.size = 4 := rfl
  have q1 : (pre1 ++ a.ns).size = 17 + a.ns.size := by simp [p1]
  have q2 : (pre1 ++ a.ns ++ pre2).size = 21 + a.ns.size := by simp [p1, p2]; omega
  rw [e]
  unfold nameT
  refine pcalls_of Tryz.func74 rfl rfl Tryz.ntmps74 rfl ?_
  repeat' (first
    | refine then_go ?_
    | refine swp_seq ?_
    | ((refine swp_region (id := 0) ?_) <;> (refine sops_box (.free rfl rfl) rfl rfl rfl rfl rfl rfl ?_) <;> (refine sops_pure (.free rfl rfl) rfl rfl (po_assign rfl rfl) ?_) <;> (refine sops_nil ?_))
    | ((refine swp_region (id := 1) ?_) <;> (first | refine sops_pure (.free rfl rfl) rfl rfl (po_field_bx rfl rfl (tyF rfl)) ?_ | refine sops_pure (.free rfl rfl) rfl rfl (po_field rfl rfl (tyF rfl)) ?_) <;> (first | refine sops_pure (.free rfl rfl) rfl rfl (po_load_bx rfl rfl (tyT rfl) rfl rfl) ?_ | refine sops_pure (.free rfl rfl) rfl rfl (po_load rfl rfl (tyT rfl) rfl) ?_) <;> (first | refine sops_pure (.free rfl rfl) rfl rfl (po_cat (i := pre1) rfl rfl rfl (by omega)) ?_ | refine sops_pure (.free rfl rfl) rfl rfl (po_cat (i := pre1 ++ a.ns) (j := pre2) rfl rfl rfl (by omega)) ?_ | refine sops_pure (.free rfl rfl) rfl rfl (po_cat (i := pre1 ++ a.ns ++ pre2) rfl rfl rfl (by omega)) ?_ | refine sops_pure (.free rfl rfl) rfl rfl (po_cat rfl rfl rfl (by omega)) ?_) <;> (first | refine sops_pure (.free rfl rfl) rfl rfl (po_cat (i := pre1) rfl rfl rfl (by omega)) ?_ | refine sops_pure (.free rfl rfl) rfl rfl (po_cat (i := pre1 ++ a.ns) (j := pre2) rfl rfl rfl (by omega)) ?_ | refine sops_pure (.free rfl rfl) rfl rfl (po_cat (i := pre1 ++ a.ns ++ pre2) rfl rfl rfl (by omega)) ?_ | refine sops_pure (.free rfl rfl) rfl rfl (po_cat rfl rfl rfl (by omega)) ?_) <;> (first | refine sops_pure (.free rfl rfl) rfl rfl (po_field_bx rfl rfl (tyF rfl)) ?_ | refine sops_pure (.free rfl rfl) rfl rfl (po_field rfl rfl (tyF rfl)) ?_) <;> (first | refine sops_pure (.free rfl rfl) rfl rfl (po_load_bx rfl rfl (tyT rfl) rfl rfl) ?_ | refine sops_pure (.free rfl rfl) rfl rfl (po_load rfl rfl (tyT rfl) rfl) ?_) <;> (first | refine sops_pure (.free rfl rfl) rfl rfl (po_cat (i := pre1) rfl rfl rfl (by omega)) ?_ | refine sops_pure (.free rfl rfl) rfl rfl (po_cat (i := pre1 ++ a.ns) (j := pre2) rfl rfl rfl (by omega)) ?_ | refine sops_pure (.free rfl rfl) rfl rfl (po_cat (i := pre1 ++ a.ns ++ pre2) rfl rfl rfl (by omega)) ?_ | refine sops_pure (.free rfl rfl) rfl rfl (po_cat rfl rfl rfl (by omega)) ?_) <;> (refine sops_pure (.free rfl rfl) rfl rfl (po_assign rfl rfl) ?_) <;> (refine sops_nil ?_))
    | refine swp_ret ?_
    | refine swp_skip ?_
    | refine swp_block ?_
    | refine swp_exit ?_
    | refine block_go ?_
    | refine block_exit ?_
    | refine block_far rfl ?_
    | refine block_ret ?_
    | refine then_ret ?_
    | refine then_exit ?_
    | refine for_ret ?_
    | refine for_exit ?_
    | refine ct ?_
    | refine cf ?_
    | refine swp_cond rfl (fun hc => ?_) (fun hc => ?_)
    | refine retq (by first | exact .inr rfl | exact .inl rfl) rfl (.tmp rfl (by first | exact .t _ | exact .own rfl (by first | rfl | assumption | (simp; done) | (simp; omega)) | exact .nil _ | exact .emp _ | exact .fn _) .nil) ?_)
  rfl
theorem any_ (s : ByteArray) (ts : List Pl.Term) (hs : s.size ≤ maxLen) (ht : ∀ t ∈ ts, okTerm t) (hn : ts.length ≤ 1000) : PCalls Tryz.prog 77 [.v (.string s), .sl 2 (ts.map termT)] (.v (.bool (anyT s ts))) where
  ent := ent_of Tryz.func77 rfl rfl
  run := fun m w vals hm hvl hv => by
    obtain ⟨x0, x1, rfl, h0, h1⟩ := args2 hvl hv
    obtain ⟨A, cap, e, hA, hc1, hc2⟩ := sl_fwd hm (by omega) (term_fwd hm) ht h1
    injection e with e; subst e
    rw [tr_v h0]
    refine (WMatch.refAny s A cap ts w (Nat.le_refl _) hA hs (Nat.le_trans hc1 hc2)).mono fun e w' ⟨he, hlo⟩ => ?_
    rw [he]
    exact post_ex hm hlo (.v _)
set_option maxRecDepth 100000 in
theorem lets_ (s : ByteArray) (ts : List Pl.Term) (hs : s.size ≤ maxLen) (ht : ∀ t ∈ ts, okTerm t) (hn : ts.length ≤ 1000) : PCalls Tryz.prog 76 [.v (.string s), .sl 2 (ts.map termT)] (.v (.bool (letsT s ts))) := by
  have ha := any_ s ts hs ht hn
  have hm : (ts.map termT).length = ts.length := List.length_map _
  refine pcalls_of Tryz.func76 rfl rfl Tryz.ntmps76 rfl ?_
  unfold letsT
  repeat' (first
    | refine then_go ?_
    | refine swp_seq ?_
    | ((refine swp_region (id := 0) ?_) <;> (refine sops_pure (.free rfl rfl) rfl rfl (po_assign rfl rfl) ?_) <;> (refine sops_nil ?_))
    | ((refine swp_region (id := 1) ?_) <;> (refine sops_pure (.free rfl rfl) rfl rfl (po_move rfl rfl) ?_) <;> (refine sops_pure (.free rfl rfl) rfl rfl (pln rfl (tyS rfl)) ?_) <;> (refine sops_pure (.free rfl rfl) rfl rfl (po_cmp rfl rfl rfl rfl) ?_) <;> (refine sops_pure (.free rfl rfl) rfl rfl (po_move rfl rfl) ?_) <;> (first | refine sops_pure gy rfl rfl (po_move rfl rfl) ?_ | refine sops_skip gn0 rfl rfl ?_ | ((refine sops_split rfl rfl rfl (fun hc => ?_) (fun hc => ?_)) <;> (first | refine sops_pure gy rfl rfl (po_move rfl rfl) ?_ | refine sops_skip gn0 rfl rfl ?_))) <;> (first | refine sops_pure gy rfl rfl (po_move rfl rfl) ?_ | refine sops_skip gn0 rfl rfl ?_) <;> (first | refine sops_pure gy rfl rfl (po_call (ha) rfl (ac (ac .nil))) ?_ | refine sops_skip gn0 rfl rfl ?_) <;> (first | refine sops_pure (.free rfl rfl) rfl rfl (pkt rfl) ?_ | refine sops_pure (.free rfl rfl) rfl rfl (pkf rfl) ?_) <;> (refine sops_pure (.free rfl rfl) rfl rfl (po_assign rfl rfl) ?_) <;> (refine sops_nil ?_))
    | refine swp_ret ?_
    | refine swp_skip ?_
    | refine swp_block ?_
    | refine swp_exit ?_
    | refine block_go ?_
    | refine block_exit ?_
    | refine block_far rfl ?_
    | refine block_ret ?_
    | refine then_ret ?_
    | refine then_exit ?_
    | refine for_ret ?_
    | refine for_exit ?_
    | refine ct ?_
    | refine cf ?_
    | refine swp_cond rfl (fun hc => ?_) (fun hc => ?_)
    | refine retq (by first | exact .inr rfl | exact .inl rfl) rfl (.tmp rfl (by first | exact .t _ | exact .own rfl (by first | rfl | assumption | (simp; done) | (simp; omega)) | exact .nil _ | exact .emp _ | exact .fn _) .nil) ?_)
  all_goals
    refine eq_b ?_
    clear ha hs ht
    cases ts <;> simp_all
    try omega
end Go.Proofs.YtlcecabfmemfeaaGreat.Pol
