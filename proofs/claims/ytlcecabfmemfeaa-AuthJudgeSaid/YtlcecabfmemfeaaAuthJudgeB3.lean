/- Merged by bundle.py: SimSame, SimBr13, AuthJudge. -/
import Derived.Test.YtlcecabfmemfeaaAuthJudgeB1
import Derived.Test.YtlcecabfmemfeaaAuthJudgeB2
import Derived.Test.YtlcecabfmemfeaaWAwake13
/- The document's answer for policies: each is the same as itself; copies. -/
namespace Go.Proofs.Ytlcecabfmemfeaa.Pol
set_option linter.unusedVariables false
set_option linter.unusedSimpArgs false
open Go.RowKit Mem Sim Opn
abbrev termV (x : Pl.Term) : Value := .agg #[.int .i64 x.k, .string x.s]
abbrev cidrV (x : Pl.Cidr) : Value := .agg #[.int .u32 x.addr, .int .i64 x.bits]
theorem ex_two (a b : Value) : Ex (.agg [.v a, .v b]) (.agg #[a, b]) := Ex.agg (cs := [.v a, .v b]) (vs := [a, b]) rfl (fun j t v h1 h2 => by
  match j, h1, h2 with
  | 0, h1, h2 => simp at h1 h2; rw [← h1, ← h2]
  | 1, h1, h2 => simp at h1 h2; rw [← h1, ← h2])
theorem term_Ex (x : Pl.Term) : Ex (.agg (termT x)) (termV x) := ex_two _ _
theorem cidr_Ex (x : Pl.Cidr) : Ex (.agg (cidrT x)) (cidrV x) := ex_two _ _
theorem termq_run (a : Pl.Term) (w : World) (x y : Operand) : ((do eqGuard .neq 23 x y (termV a) (termV a); binOp .neq 23 (termV a) (termV a)) : Sem Value).run Try.prog w = .ok (.bool false) w := by
  have hm : Try.prog.eqGuardType Try.prog.depth 23 = false := by kernel_rfl
  rw [Sem.run_bind, run_eqGuard_agg _ _ _ _ _ _ _ hm]
  simp only [Result.andThen_ok]
  rw [run_neq_struct]
  simp [go_sem]
theorem cidrq_run (a : Pl.Cidr) (w : World) (x y : Operand) : ((do eqGuard .neq 126 x y (cidrV a) (cidrV a); binOp .neq 126 (cidrV a) (cidrV a)) : Sem Value).run Try.prog w = .ok (.bool false) w := by
  have hm : Try.prog.eqGuardType Try.prog.depth 126 = false := by kernel_rfl
  rw [Sem.run_bind, run_eqGuard_agg _ _ _ _ _ _ _ hm]
  simp only [Result.andThen_ok]
  rw [run_neq_struct]
  simp [go_sem]
theorem ne_self {n : Int} : (!decide (n = n)) = false := by simp
theorem sne_self {n : ByteArray} : (!decide (n = n)) = false := by simp
set_option maxRecDepth 100000 in
theorem terms_ (l : List Pl.Term) (hn : l.length ≤ 1000) : PCalls Try.prog 113 [.sl 2 (l.map termT), .sl 2 (l.map termT)] (.v (.bool true)) := by
  have hm1 : (l.map termT).length = l.length := List.length_map _
  have h0 : (!decide (((l.map termT).length : Int) = ((l.map termT).length : Int))) = false := by simp
  refine pcalls_of Try.func113 rfl rfl Try.ntmps113 rfl ?_
  repeat' (first
    | refine then_go ?_
    | refine swp_seq ?_
    | ((refine swp_region (id := 0) ?_) <;> (refine sops_pure (.free rfl rfl) rfl rfl (po_assign rfl rfl) ?_) <;> (refine sops_nil ?_))
    | ((refine swp_region (id := 1) ?_) <;> (refine sops_pure (.free rfl rfl) rfl rfl (po_move rfl rfl) ?_) <;> (refine sops_pure (.free rfl rfl) rfl rfl (po_len rfl rfl (by first | exact .t _ | exact .own rfl rfl | exact .nil _ | exact .emp _) (tyS rfl)) ?_) <;> (refine sops_pure (.free rfl rfl) rfl rfl (po_move rfl rfl) ?_) <;> (refine sops_pure (.free rfl rfl) rfl rfl (po_len rfl rfl (by first | exact .t _ | exact .own rfl rfl | exact .nil _ | exact .emp _) (tyS rfl)) ?_) <;> (refine sops_pure (.free rfl rfl) rfl rfl (po_cmp rfl rfl rfl rfl) ?_) <;> (refine sops_nil ?_))
    | ((refine swp_region (id := 3) ?_) <;> (refine sops_pure (.free rfl rfl) rfl rfl (po_assign rfl rfl) ?_) <;> (refine sops_nil ?_))
    | refine swp_ret ?_
    | refine swp_skip ?_
    | refine swp_block ?_
    | refine swp_exit ?_
    | refine block_go ?_
    | refine block_exit ?_
    | refine block_far rfl ?_
    | refine block_ret ?_
    | refine then_ret ?_
    | refine then_exit ?_
    | refine for_ret ?_
    | refine for_exit ?_
    | refine swp_cond_t rfl (by first | assumption | with_reducible rfl | decide | (simp only [decide_eq_true_eq, Bool.not_eq_true', decide_eq_false_iff_not]; omega)) ?_
    | refine swp_cond_f rfl (by first | assumption | with_reducible rfl | decide | (simp only [decide_eq_false_iff_not, Bool.not_eq_false', decide_eq_true_eq]; omega)) ?_
    | refine swp_cond rfl (fun hc => ?_) (fun hc => ?_)
    | refine retq (by first | exact .inr rfl | exact .inl rfl) rfl (.tmp rfl (by first | exact .t _ | exact .own rfl rfl | exact .nil _ | exact .emp _) .nil) ?_)
  refine swp_for (fun k => ⟨[(0, .t (.sl 2 (l.map termT))), (1, .t (.sl 2 (l.map termT))), (5, .t (.v (.int .i64 (k : Int))))], [], []⟩) (fun k => True) l.length (weak_sub (.cons rfl rfl rfl (.cons rfl rfl rfl (.cons rfl rfl rfl .nil))) .nil .nil) trivial ?_
  intro k hk _
  by_cases hlt : k < l.length
  · repeat' (first
    | refine then_go ?_
    | refine swp_seq ?_
    | refine for_next hlt (weak_sub (.cons rfl rfl rfl (.cons rfl rfl rfl (.cons rfl rfl rfl .nil))) .nil .nil) trivial
    | ((refine swp_region (id := 4) ?_) <;> (refine sops_pure (.free rfl rfl) rfl rfl (po_move rfl rfl) ?_) <;> (refine sops_pure (.free rfl rfl) rfl rfl (po_move rfl rfl) ?_) <;> (refine sops_pure (.free rfl rfl) rfl rfl (po_len rfl rfl (by first | exact .t _ | exact .own rfl rfl | exact .nil _ | exact .emp _) (tyS rfl)) ?_) <;> (first | refine sops_pure (.free rfl rfl) rfl rfl (po_ex2 rfl rfl rfl (term_Ex l[k]) (term_Ex l[k]) (termq_run _)) ?_ | refine sops_pure (.free rfl rfl) rfl rfl (po_cmp rfl rfl rfl rfl) ?_) <;> (refine sops_nil ?_))
    | ((refine swp_draw_all (id := 6) mixed (by kernel_rfl) (by kernel_rfl) ?_) <;> (refine sdraw_pure (.free rfl rfl) rfl (po_move rfl rfl) ?_) <;> (refine sdraw_pure (.free rfl rfl) rfl (po_move rfl rfl) ?_) <;> (refine sdraw_pure (.free rfl rfl) rfl (po_index rfl rfl (by first | exact .t _ | exact .own rfl rfl | exact .nil _ | exact .emp _) rfl (tyS rfl) (by first | rfl | omega) (by first | rfl | assumption | exact map_at (by first | assumption | omega))) ?_) <;> (first | refine sdraw_pure (.free rfl rfl) rfl (po_load_bx_agg rfl rfl (tyT rfl) rfl (.cons (by first | exact .t _ | exact .own rfl rfl | exact .nil _ | exact .emp _) (.cons (by first | exact .t _ | exact .own rfl rfl | exact .nil _ | exact .emp _) .nil)) rfl) ?_ | refine sdraw_pure (.free rfl rfl) rfl (po_load_agg rfl rfl (tyT rfl) rfl rfl) ?_) <;> (refine sdraw_pure (.free rfl rfl) rfl (po_move rfl rfl) ?_) <;> (refine sdraw_pure (.free rfl rfl) rfl (po_move rfl rfl) ?_) <;> (refine sdraw_pure (.free rfl rfl) rfl (po_index rfl rfl (by first | exact .t _ | exact .own rfl rfl | exact .nil _ | exact .emp _) rfl (tyS rfl) (by first | rfl | omega) (by first | rfl | assumption | exact map_at (by first | assumption | omega))) ?_) <;> (first | refine sdraw_pure (.free rfl rfl) rfl (po_load_bx_agg rfl rfl (tyT rfl) rfl (.cons (by first | exact .t _ | exact .own rfl rfl | exact .nil _ | exact .emp _) (.cons (by first | exact .t _ | exact .own rfl rfl | exact .nil _ | exact .emp _) .nil)) rfl) ?_ | refine sdraw_pure (.free rfl rfl) rfl (po_load_agg rfl rfl (tyT rfl) rfl rfl) ?_) <;> (first | refine sdraw_pure (.free rfl rfl) rfl (po_ex2 rfl rfl rfl (term_Ex l[k]) (term_Ex l[k]) (termq_run _)) ?_ | refine sdraw_pure (.free rfl rfl) rfl (po_boolq rfl rfl rfl (by kernel_rfl) (by first | exact .inl rfl | exact .inr rfl)) ?_) <;> (refine sdraw_nil ?_) <;> (refine sops_nil ?_))
    | ((refine swp_region (id := 5) ?_) <;> (refine sops_pure (.free rfl rfl) rfl rfl (po_move rfl rfl) ?_) <;> (first | refine sops_pure (.free rfl rfl) rfl rfl (po_inc rfl rfl rfl (by omega)) ?_ | refine sops_pure (.free rfl rfl) rfl rfl (po_arith rfl rfl rfl (ar_add (by first | rfl | (refine wrap_i64 ?_; omega)) rfl)) ?_) <;> (refine sops_pure (.free rfl rfl) rfl rfl (po_assign rfl rfl) ?_) <;> (refine sops_nil ?_))
    | refine swp_ret ?_
    | refine swp_skip ?_
    | refine swp_block ?_
    | refine swp_exit ?_
    | refine block_go ?_
    | refine block_exit ?_
    | refine block_far rfl ?_
    | refine block_ret ?_
    | refine then_ret ?_
    | refine then_exit ?_
    | refine for_ret ?_
    | refine for_exit ?_
    | refine swp_cond_t rfl (by first | assumption | with_reducible rfl | decide | (simp only [decide_eq_true_eq, Bool.not_eq_true', decide_eq_false_iff_not]; omega)) ?_
    | refine swp_cond_f rfl (by first | assumption | with_reducible rfl | decide | (simp only [decide_eq_false_iff_not, Bool.not_eq_false', decide_eq_true_eq]; omega)) ?_
    | refine swp_cond rfl (fun hc => ?_) (fun hc => ?_)
    | refine retq (by first | exact .inr rfl | exact .inl rfl) rfl (.tmp rfl (by first | exact .t _ | exact .own rfl rfl | exact .nil _ | exact .emp _) .nil) ?_)
  · repeat' (first
    | refine then_go ?_
    | refine swp_seq ?_
    | ((refine swp_region (id := 4) ?_) <;> (refine sops_pure (.free rfl rfl) rfl rfl (po_move rfl rfl) ?_) <;> (refine sops_pure (.free rfl rfl) rfl rfl (po_move rfl rfl) ?_) <;> (refine sops_pure (.free rfl rfl) rfl rfl (po_len rfl rfl (by first | exact .t _ | exact .own rfl rfl | exact .nil _ | exact .emp _) (tyS rfl)) ?_) <;> (refine sops_pure (.free rfl rfl) rfl rfl (po_cmp rfl rfl rfl rfl) ?_) <;> (refine sops_nil ?_))
    | ((refine swp_region (id := 8) ?_) <;> (refine sops_pure (.free rfl rfl) rfl rfl (po_assign rfl rfl) ?_) <;> (refine sops_nil ?_))
    | refine swp_ret ?_
    | refine swp_skip ?_
    | refine swp_block ?_
    | refine swp_exit ?_
    | refine block_go ?_
    | refine block_exit ?_
    | refine block_far rfl ?_
    | refine block_ret ?_
    | refine then_ret ?_
    | refine then_exit ?_
    | refine for_ret ?_
    | refine for_exit ?_
    | refine swp_cond_t rfl (by first | assumption | with_reducible rfl | decide | (simp only [decide_eq_true_eq, Bool.not_eq_true', decide_eq_false_iff_not]; omega)) ?_
    | refine swp_cond_f rfl (by first | assumption | with_reducible rfl | decide | (simp only [decide_eq_false_iff_not, Bool.not_eq_false', decide_eq_true_eq]; omega)) ?_
    | refine swp_cond rfl (fun hc => ?_) (fun hc => ?_)
    | refine retq (by first | exact .inr rfl | exact .inl rfl) rfl (.tmp rfl (by first | exact .t _ | exact .own rfl rfl | exact .nil _ | exact .emp _) .nil) ?_)
    rfl
set_option maxRecDepth 100000 in
theorem nets_ (l : List Pl.Cidr) (hn : l.length ≤ 1000) : PCalls Try.prog 114 [.sl 2 (l.map cidrT), .sl 2 (l.map cidrT)] (.v (.bool true)) := by
  have hm1 : (l.map cidrT).length = l.length := List.length_map _
  have h0 : (!decide (((l.map cidrT).length : Int) = ((l.map cidrT).length : Int))) = false := by simp
  refine pcalls_of Try.func114 rfl rfl Try.ntmps114 rfl ?_
  repeat' (first
    | refine then_go ?_
    | refine swp_seq ?_
    | ((refine swp_region (id := 0) ?_) <;> (refine sops_pure (.free rfl rfl) rfl rfl (po_assign rfl rfl) ?_) <;> (refine sops_nil ?_))
    | ((refine swp_region (id := 1) ?_) <;> (refine sops_pure (.free rfl rfl) rfl rfl (po_move rfl rfl) ?_) <;> (refine sops_pure (.free rfl rfl) rfl rfl (po_len rfl rfl (by first | exact .t _ | exact .own rfl rfl | exact .nil _ | exact .emp _) (tyS rfl)) ?_) <;> (refine sops_pure (.free rfl rfl) rfl rfl (po_move rfl rfl) ?_) <;> (refine sops_pure (.free rfl rfl) rfl rfl (po_len rfl rfl (by first | exact .t _ | exact .own rfl rfl | exact .nil _ | exact .emp _) (tyS rfl)) ?_) <;> (refine sops_pure (.free rfl rfl) rfl rfl (po_cmp rfl rfl rfl rfl) ?_) <;> (refine sops_nil ?_))
    | ((refine swp_region (id := 3) ?_) <;> (refine sops_pure (.free rfl rfl) rfl rfl (po_assign rfl rfl) ?_) <;> (refine sops_nil ?_))
    | refine swp_ret ?_
    | refine swp_skip ?_
    | refine swp_block ?_
    | refine swp_exit ?_
    | refine block_go ?_
    | refine block_exit ?_
    | refine block_far rfl ?_
    | refine block_ret ?_
    | refine then_ret ?_
    | refine then_exit ?_
    | refine for_ret ?_
    | refine for_exit ?_
    | refine swp_cond_t rfl (by first | assumption | with_reducible rfl | decide | (simp only [decide_eq_true_eq, Bool.not_eq_true', decide_eq_false_iff_not]; omega)) ?_
    | refine swp_cond_f rfl (by first | assumption | with_reducible rfl | decide | (simp only [decide_eq_false_iff_not, Bool.not_eq_false', decide_eq_true_eq]; omega)) ?_
    | refine swp_cond rfl (fun hc => ?_) (fun hc => ?_)
    | refine retq (by first | exact .inr rfl | exact .inl rfl) rfl (.tmp rfl (by first | exact .t _ | exact .own rfl rfl | exact .nil _ | exact .emp _) .nil) ?_)
  refine swp_for (fun k => ⟨[(0, .t (.sl 2 (l.map cidrT))), (1, .t (.sl 2 (l.map cidrT))), (5, .t (.v (.int .i64 (k : Int))))], [], []⟩) (fun k => True) l.length (weak_sub (.cons rfl rfl rfl (.cons rfl rfl rfl (.cons rfl rfl rfl .nil))) .nil .nil) trivial ?_
  intro k hk _
  by_cases hlt : k < l.length
  · repeat' (first
    | refine then_go ?_
    | refine swp_seq ?_
    | refine for_next hlt (weak_sub (.cons rfl rfl rfl (.cons rfl rfl rfl (.cons rfl rfl rfl .nil))) .nil .nil) trivial
    | ((refine swp_region (id := 4) ?_) <;> (refine sops_pure (.free rfl rfl) rfl rfl (po_move rfl rfl) ?_) <;> (refine sops_pure (.free rfl rfl) rfl rfl (po_move rfl rfl) ?_) <;> (refine sops_pure (.free rfl rfl) rfl rfl (po_len rfl rfl (by first | exact .t _ | exact .own rfl rfl | exact .nil _ | exact .emp _) (tyS rfl)) ?_) <;> (first | refine sops_pure (.free rfl rfl) rfl rfl (po_ex2 rfl rfl rfl (cidr_Ex l[k]) (cidr_Ex l[k]) (cidrq_run _)) ?_ | refine sops_pure (.free rfl rfl) rfl rfl (po_cmp rfl rfl rfl rfl) ?_) <;> (refine sops_nil ?_))
    | ((refine swp_draw_all (id := 6) mixed (by kernel_rfl) (by kernel_rfl) ?_) <;> (refine sdraw_pure (.free rfl rfl) rfl (po_move rfl rfl) ?_) <;> (refine sdraw_pure (.free rfl rfl) rfl (po_move rfl rfl) ?_) <;> (refine sdraw_pure (.free rfl rfl) rfl (po_index rfl rfl (by first | exact .t _ | exact .own rfl rfl | exact .nil _ | exact .emp _) rfl (tyS rfl) (by first | rfl | omega) (by first | rfl | assumption | exact map_at (by first | assumption | omega))) ?_) <;> (first | refine sdraw_pure (.free rfl rfl) rfl (po_load_bx_agg rfl rfl (tyT rfl) rfl (.cons (by first | exact .t _ | exact .own rfl rfl | exact .nil _ | exact .emp _) (.cons (by first | exact .t _ | exact .own rfl rfl | exact .nil _ | exact .emp _) .nil)) rfl) ?_ | refine sdraw_pure (.free rfl rfl) rfl (po_load_agg rfl rfl (tyT rfl) rfl rfl) ?_) <;> (refine sdraw_pure (.free rfl rfl) rfl (po_move rfl rfl) ?_) <;> (refine sdraw_pure (.free rfl rfl) rfl (po_move rfl rfl) ?_) <;> (refine sdraw_pure (.free rfl rfl) rfl (po_index rfl rfl (by first | exact .t _ | exact .own rfl rfl | exact .nil _ | exact .emp _) rfl (tyS rfl) (by first | rfl | omega) (by first | rfl | assumption | exact map_at (by first | assumption | omega))) ?_) <;> (first | refine sdraw_pure (.free rfl rfl) rfl (po_load_bx_agg rfl rfl (tyT rfl) rfl (.cons (by first | exact .t _ | exact .own rfl rfl | exact .nil _ | exact .emp _) (.cons (by first | exact .t _ | exact .own rfl rfl | exact .nil _ | exact .emp _) .nil)) rfl) ?_ | refine sdraw_pure (.free rfl rfl) rfl (po_load_agg rfl rfl (tyT rfl) rfl rfl) ?_) <;> (first | refine sdraw_pure (.free rfl rfl) rfl (po_ex2 rfl rfl rfl (cidr_Ex l[k]) (cidr_Ex l[k]) (cidrq_run _)) ?_ | refine sdraw_pure (.free rfl rfl) rfl (po_boolq rfl rfl rfl (by kernel_rfl) (by first | exact .inl rfl | exact .inr rfl)) ?_) <;> (refine sdraw_nil ?_) <;> (refine sops_nil ?_))
    | ((refine swp_region (id := 5) ?_) <;> (refine sops_pure (.free rfl rfl) rfl rfl (po_move rfl rfl) ?_) <;> (first | refine sops_pure (.free rfl rfl) rfl rfl (po_inc rfl rfl rfl (by omega)) ?_ | refine sops_pure (.free rfl rfl) rfl rfl (po_arith rfl rfl rfl (ar_add (by first | rfl | (refine wrap_i64 ?_; omega)) rfl)) ?_) <;> (refine sops_pure (.free rfl rfl) rfl rfl (po_assign rfl rfl) ?_) <;> (refine sops_nil ?_))
    | refine swp_ret ?_
    | refine swp_skip ?_
    | refine swp_block ?_
    | refine swp_exit ?_
    | refine block_go ?_
    | refine block_exit ?_
    | refine block_far rfl ?_
    | refine block_ret ?_
    | refine then_ret ?_
    | refine then_exit ?_
    | refine for_ret ?_
    | refine for_exit ?_
    | refine swp_cond_t rfl (by first | assumption | with_reducible rfl | decide | (simp only [decide_eq_true_eq, Bool.not_eq_true', decide_eq_false_iff_not]; omega)) ?_
    | refine swp_cond_f rfl (by first | assumption | with_reducible rfl | decide | (simp only [decide_eq_false_iff_not, Bool.not_eq_false', decide_eq_true_eq]; omega)) ?_
    | refine swp_cond rfl (fun hc => ?_) (fun hc => ?_)
    | refine retq (by first | exact .inr rfl | exact .inl rfl) rfl (.tmp rfl (by first | exact .t _ | exact .own rfl rfl | exact .nil _ | exact .emp _) .nil) ?_)
  · repeat' (first
    | refine then_go ?_
    | refine swp_seq ?_
    | ((refine swp_region (id := 4) ?_) <;> (refine sops_pure (.free rfl rfl) rfl rfl (po_move rfl rfl) ?_) <;> (refine sops_pure (.free rfl rfl) rfl rfl (po_move rfl rfl) ?_) <;> (refine sops_pure (.free rfl rfl) rfl rfl (po_len rfl rfl (by first | exact .t _ | exact .own rfl rfl | exact .nil _ | exact .emp _) (tyS rfl)) ?_) <;> (refine sops_pure (.free rfl rfl) rfl rfl (po_cmp rfl rfl rfl rfl) ?_) <;> (refine sops_nil ?_))
    | ((refine swp_region (id := 8) ?_) <;> (refine sops_pure (.free rfl rfl) rfl rfl (po_assign rfl rfl) ?_) <;> (refine sops_nil ?_))
    | refine swp_ret ?_
    | refine swp_skip ?_
    | refine swp_block ?_
    | refine swp_exit ?_
    | refine block_go ?_
    | refine block_exit ?_
    | refine block_far rfl ?_
    | refine block_ret ?_
    | refine then_ret ?_
    | refine then_exit ?_
    | refine for_ret ?_
    | refine for_exit ?_
    | refine swp_cond_t rfl (by first | assumption | with_reducible rfl | decide | (simp only [decide_eq_true_eq, Bool.not_eq_true', decide_eq_false_iff_not]; omega)) ?_
    | refine swp_cond_f rfl (by first | assumption | with_reducible rfl | decide | (simp only [decide_eq_false_iff_not, Bool.not_eq_false', decide_eq_true_eq]; omega)) ?_
    | refine swp_cond rfl (fun hc => ?_) (fun hc => ?_)
    | refine retq (by first | exact .inr rfl | exact .inl rfl) rfl (.tmp rfl (by first | exact .t _ | exact .own rfl rfl | exact .nil _ | exact .emp _) .nil) ?_)
    rfl
abbrev tcells (t : Pl.Target) : List A := [.t (.sl 1 (t.ports.map intT)), .t (.sl 2 (t.methods.map termT)), .t (.sl 2 (t.paths.map termT)), .t (.sl 2 (t.hosts.map termT))]
def R1 (r : Pl.Rule) (k : Nat) : St := ⟨[(2, .bp 2 0), (3, .bp 3 0), (5, .t (.v (.int .i64 (k : Int))))], [(2, rcells r), (3, rcells r)], []⟩
def R2 (r : Pl.Rule) (k : Nat) : St := ⟨[(2, .bp 2 0), (3, .bp 3 0), (8, .t (.v (.int .i64 (k : Int))))], [(2, rcells r), (3, rcells r)], []⟩
def R2b (r : Pl.Rule) (k : Nat) (t : Pl.Target) (j : Nat) : St := ⟨[(2, .bp 2 0), (3, .bp 3 0), (8, .t (.v (.int .i64 (k : Int)))), (9, .bp 9 0), (10, .bp 10 0), (11, .t (.v (.int .i64 (j : Int))))], [(2, rcells r), (3, rcells r), (9, tcells t), (10, tcells t)], []⟩
def R3 (r : Pl.Rule) (k : Nat) : St := ⟨[(2, .bp 2 0), (3, .bp 3 0), (12, .t (.v (.int .i64 (k : Int))))], [(2, rcells r), (3, rcells r)], []⟩
theorem ne_len {α : Type} {l : List α} : (!decide ((l.length : Int) = (l.length : Int))) = false := by simp
set_option maxRecDepth 100000 in
set_option maxHeartbeats 1000000 in
theorem sameRule_ (r : Pl.Rule) (hf : FewR r) : PCalls Try.prog 73 [.agg (ruleT r), .agg (ruleT r)] (.v (.bool true)) := by
  have hm1 : (r.from_.map sourceT).length = r.from_.length := List.length_map _
  have hm2 : (r.to_.map targetT).length = r.to_.length := List.length_map _
  have hm3 : (r.when_.map whenT).length = r.when_.length := List.length_map _
  have n1 := hf.f
  have n2 := hf.t
  have n3 := hf.w
  have e1 := ne_len (l := r.from_.map sourceT)
  have e2 := ne_len (l := r.to_.map targetT)
  have e3 := ne_len (l := r.when_.map whenT)
  refine pcalls_of Try.func73 rfl rfl Try.ntmps73 rfl ?_
  repeat' (first
    | refine then_go ?_
    | refine swp_seq ?_
    | ((refine swp_region (id := 0) ?_) <;> (refine sops_box (.free rfl rfl) rfl rfl rfl rfl rfl rfl ?_) <;> (refine sops_box (.free rfl rfl) rfl rfl rfl rfl rfl rfl ?_) <;> (refine sops_pure (.free rfl rfl) rfl rfl (po_assign rfl rfl) ?_) <;> (refine sops_nil ?_))
    | ((refine swp_region (id := 1) ?_) <;> (first | refine sops_pure (.free rfl rfl) rfl rfl (po_field_bx rfl rfl (tyF rfl)) ?_ | refine sops_pure (.free rfl rfl) rfl rfl (po_field rfl rfl (tyF rfl)) ?_) <;> (first | refine sops_pure (.free rfl rfl) rfl rfl (po_load_bx rfl rfl (tyT rfl) rfl rfl) ?_ | refine sops_pure (.free rfl rfl) rfl rfl (po_load rfl rfl (tyT rfl) rfl) ?_) <;> (refine sops_pure (.free rfl rfl) rfl rfl (po_len rfl rfl (by first | exact .t _ | exact .own rfl rfl | exact .nil _ | exact .emp _) (tyS rfl)) ?_) <;> (first | refine sops_pure (.free rfl rfl) rfl rfl (po_field_bx rfl rfl (tyF rfl)) ?_ | refine sops_pure (.free rfl rfl) rfl rfl (po_field rfl rfl (tyF rfl)) ?_) <;> (first | refine sops_pure (.free rfl rfl) rfl rfl (po_load_bx rfl rfl (tyT rfl) rfl rfl) ?_ | refine sops_pure (.free rfl rfl) rfl rfl (po_load rfl rfl (tyT rfl) rfl) ?_) <;> (refine sops_pure (.free rfl rfl) rfl rfl (po_len rfl rfl (by first | exact .t _ | exact .own rfl rfl | exact .nil _ | exact .emp _) (tyS rfl)) ?_) <;> (refine sops_pure (.free rfl rfl) rfl rfl (po_cmp rfl rfl rfl rfl) ?_) <;> (refine sops_pure (.free rfl rfl) rfl rfl (po_move rfl rfl) ?_) <;> (first | refine sops_pure (.yes rfl rfl rfl (by first | assumption | with_reducible rfl | decide | (simp only [decide_eq_true_eq, decide_eq_false_iff_not]; omega))) rfl rfl (po_field_bx rfl rfl (tyF rfl)) ?_ | refine sops_pure (.yes rfl rfl rfl (by first | assumption | with_reducible rfl | decide | (simp only [decide_eq_true_eq, decide_eq_false_iff_not]; omega))) rfl rfl (po_field rfl rfl (tyF rfl)) ?_ | refine sops_skip (.no0 rfl rfl rfl (by first | assumption | with_reducible rfl | decide | (simp only [decide_eq_true_eq, decide_eq_false_iff_not]; omega))) rfl rfl ?_ | ((refine sops_split rfl rfl rfl (fun hc => ?_) (fun hc => ?_)) <;> (first | refine sops_pure (.yes rfl rfl rfl (by first | assumption | with_reducible rfl | decide | (simp only [decide_eq_true_eq, decide_eq_false_iff_not]; omega))) rfl rfl (po_field_bx rfl rfl (tyF rfl)) ?_ | refine sops_pure (.yes rfl rfl rfl (by first | assumption | with_reducible rfl | decide | (simp only [decide_eq_true_eq, decide_eq_false_iff_not]; omega))) rfl rfl (po_field rfl rfl (tyF rfl)) ?_ | refine sops_skip (.no0 rfl rfl rfl (by first | assumption | with_reducible rfl | decide | (simp only [decide_eq_true_eq, decide_eq_false_iff_not]; omega))) rfl rfl ?_))) <;> (first | refine sops_pure (.yes rfl rfl rfl (by first | assumption | with_reducible rfl | decide | (simp only [decide_eq_true_eq, decide_eq_false_iff_not]; omega))) rfl rfl (po_load_bx rfl rfl (tyT rfl) rfl rfl) ?_ | refine sops_pure (.yes rfl rfl rfl (by first | assumption | with_reducible rfl | decide | (simp only [decide_eq_true_eq, decide_eq_false_iff_not]; omega))) rfl rfl (po_load rfl rfl (tyT rfl) rfl) ?_ | refine sops_skip (.no0 rfl rfl rfl (by first | assumption | with_reducible rfl | decide | (simp only [decide_eq_true_eq, decide_eq_false_iff_not]; omega))) rfl rfl ?_) <;> (first | refine sops_pure (.yes rfl rfl rfl (by first | assumption | with_reducible rfl | decide | (simp only [decide_eq_true_eq, decide_eq_false_iff_not]; omega))) rfl rfl (po_len rfl rfl (by first | exact .t _ | exact .own rfl rfl | exact .nil _ | exact .emp _) (tyS rfl)) ?_ | refine sops_skip (.no0 rfl rfl rfl (by first | assumption | with_reducible rfl | decide | (simp only [decide_eq_true_eq, decide_eq_false_iff_not]; omega))) rfl rfl ?_) <;> (first | refine sops_pure (.yes rfl rfl rfl (by first | assumption | with_reducible rfl | decide | (simp only [decide_eq_true_eq, decide_eq_false_iff_not]; omega))) rfl rfl (po_field_bx rfl rfl (tyF rfl)) ?_ | refine sops_pure (.yes rfl rfl rfl (by first | assumption | with_reducible rfl | decide | (simp only [decide_eq_true_eq, decide_eq_false_iff_not]; omega))) rfl rfl (po_field rfl rfl (tyF rfl)) ?_ | refine sops_skip (.no0 rfl rfl rfl (by first | assumption | with_reducible rfl | decide | (simp only [decide_eq_true_eq, decide_eq_false_iff_not]; omega))) rfl rfl ?_) <;> (first | refine sops_pure (.yes rfl rfl rfl (by first | assumption | with_reducible rfl | decide | (simp only [decide_eq_true_eq, decide_eq_false_iff_not]; omega))) rfl rfl (po_load_bx rfl rfl (tyT rfl) rfl rfl) ?_ | refine sops_pure (.yes rfl rfl rfl (by first | assumption | with_reducible rfl | decide | (simp only [decide_eq_true_eq, decide_eq_false_iff_not]; omega))) rfl rfl (po_load rfl rfl (tyT rfl) rfl) ?_ | refine sops_skip (.no0 rfl rfl rfl (by first | assumption | with_reducible rfl | decide | (simp only [decide_eq_true_eq, decide_eq_false_iff_not]; omega))) rfl rfl ?_) <;> (first | refine sops_pure (.yes rfl rfl rfl (by first | assumption | with_reducible rfl | decide | (simp only [decide_eq_true_eq, decide_eq_false_iff_not]; omega))) rfl rfl (po_len rfl rfl (by first | exact .t _ | exact .own rfl rfl | exact .nil _ | exact .emp _) (tyS rfl)) ?_ | refine sops_skip (.no0 rfl rfl rfl (by first | assumption | with_reducible rfl | decide | (simp only [decide_eq_true_eq, decide_eq_false_iff_not]; omega))) rfl rfl ?_) <;> (first | refine sops_pure (.yes rfl rfl rfl (by first | assumption | with_reducible rfl | decide | (simp only [decide_eq_true_eq, decide_eq_false_iff_not]; omega))) rfl rfl (po_cmp rfl rfl rfl rfl) ?_ | refine sops_skip (.no0 rfl rfl rfl (by first | assumption | with_reducible rfl | decide | (simp only [decide_eq_true_eq, decide_eq_false_iff_not]; omega))) rfl rfl ?_) <;> (first | refine sops_pure (.free rfl rfl) rfl rfl (po_pick_t rfl rfl (by first | assumption | with_reducible rfl | decide | (simp only [decide_eq_true_eq, decide_eq_false_iff_not]; omega)) rfl) ?_ | refine sops_pure (.free rfl rfl) rfl rfl (po_pick_f rfl rfl (by first | assumption | with_reducible rfl | decide | (simp only [decide_eq_true_eq, decide_eq_false_iff_not]; omega)) rfl) ?_) <;> (refine sops_pure (.free rfl rfl) rfl rfl (po_move rfl rfl) ?_) <;> (first | refine sops_pure (.yes rfl rfl rfl (by first | assumption | with_reducible rfl | decide | (simp only [decide_eq_true_eq, decide_eq_false_iff_not]; omega))) rfl rfl (po_field_bx rfl rfl (tyF rfl)) ?_ | refine sops_pure (.yes rfl rfl rfl (by first | assumption | with_reducible rfl | decide | (simp only [decide_eq_true_eq, decide_eq_false_iff_not]; omega))) rfl rfl (po_field rfl rfl (tyF rfl)) ?_ | refine sops_skip (.no0 rfl rfl rfl (by first | assumption | with_reducible rfl | decide | (simp only [decide_eq_true_eq, decide_eq_false_iff_not]; omega))) rfl rfl ?_ | ((refine sops_split rfl rfl rfl (fun hc => ?_) (fun hc => ?_)) <;> (first | refine sops_pure (.yes rfl rfl rfl (by first | assumption | with_reducible rfl | decide | (simp only [decide_eq_true_eq, decide_eq_false_iff_not]; omega))) rfl rfl (po_field_bx rfl rfl (tyF rfl)) ?_ | refine sops_pure (.yes rfl rfl rfl (by first | assumption | with_reducible rfl | decide | (simp only [decide_eq_true_eq, decide_eq_false_iff_not]; omega))) rfl rfl (po_field rfl rfl (tyF rfl)) ?_ | refine sops_skip (.no0 rfl rfl rfl (by first | assumption | with_reducible rfl | decide | (simp only [decide_eq_true_eq, decide_eq_false_iff_not]; omega))) rfl rfl ?_))) <;> (first | refine sops_pure (.yes rfl rfl rfl (by first | assumption | with_reducible rfl | decide | (simp only [decide_eq_true_eq, decide_eq_false_iff_not]; omega))) rfl rfl (po_load_bx rfl rfl (tyT rfl) rfl rfl) ?_ | refine sops_pure (.yes rfl rfl rfl (by first | assumption | with_reducible rfl | decide | (simp only [decide_eq_true_eq, decide_eq_false_iff_not]; omega))) rfl rfl (po_load rfl rfl (tyT rfl) rfl) ?_ | refine sops_skip (.no0 rfl rfl rfl (by first | assumption | with_reducible rfl | decide | (simp only [decide_eq_true_eq, decide_eq_false_iff_not]; omega))) rfl rfl ?_) <;> (first | refine sops_pure (.yes rfl rfl rfl (by first | assumption | with_reducible rfl | decide | (simp only [decide_eq_true_eq, decide_eq_false_iff_not]; omega))) rfl rfl (po_len rfl rfl (by first | exact .t _ | exact .own rfl rfl | exact .nil _ | exact .emp _) (tyS rfl)) ?_ | refine sops_skip (.no0 rfl rfl rfl (by first | assumption | with_reducible rfl | decide | (simp only [decide_eq_true_eq, decide_eq_false_iff_not]; omega))) rfl rfl ?_) <;> (first | refine sops_pure (.yes rfl rfl rfl (by first | assumption | with_reducible rfl | decide | (simp only [decide_eq_true_eq, decide_eq_false_iff_not]; omega))) rfl rfl (po_field_bx rfl rfl (tyF rfl)) ?_ | refine sops_pure (.yes rfl rfl rfl (by first | assumption | with_reducible rfl | decide | (simp only [decide_eq_true_eq, decide_eq_false_iff_not]; omega))) rfl rfl (po_field rfl rfl (tyF rfl)) ?_ | refine sops_skip (.no0 rfl rfl rfl (by first | assumption | with_reducible rfl | decide | (simp only [decide_eq_true_eq, decide_eq_false_iff_not]; omega))) rfl rfl ?_) <;> (first | refine sops_pure (.yes rfl rfl rfl (by first | assumption | with_reducible rfl | decide | (simp only [decide_eq_true_eq, decide_eq_false_iff_not]; omega))) rfl rfl (po_load_bx rfl rfl (tyT rfl) rfl rfl) ?_ | refine sops_pure (.yes rfl rfl rfl (by first | assumption | with_reducible rfl | decide | (simp only [decide_eq_true_eq, decide_eq_false_iff_not]; omega))) rfl rfl (po_load rfl rfl (tyT rfl) rfl) ?_ | refine sops_skip (.no0 rfl rfl rfl (by first | assumption | with_reducible rfl | decide | (simp only [decide_eq_true_eq, decide_eq_false_iff_not]; omega))) rfl rfl ?_) <;> (first | refine sops_pure (.yes rfl rfl rfl (by first | assumption | with_reducible rfl | decide | (simp only [decide_eq_true_eq, decide_eq_false_iff_not]; omega))) rfl rfl (po_len rfl rfl (by first | exact .t _ | exact .own rfl rfl | exact .nil _ | exact .emp _) (tyS rfl)) ?_ | refine sops_skip (.no0 rfl rfl rfl (by first | assumption | with_reducible rfl | decide | (simp only [decide_eq_true_eq, decide_eq_false_iff_not]; omega))) rfl rfl ?_) <;> (first | refine sops_pure (.yes rfl rfl rfl (by first | assumption | with_reducible rfl | decide | (simp only [decide_eq_true_eq, decide_eq_false_iff_not]; omega))) rfl rfl (po_cmp rfl rfl rfl rfl) ?_ | refine sops_skip (.no0 rfl rfl rfl (by first | assumption | with_reducible rfl | decide | (simp only [decide_eq_true_eq, decide_eq_false_iff_not]; omega))) rfl rfl ?_) <;> (first | refine sops_pure (.free rfl rfl) rfl rfl (po_pick_t rfl rfl (by first | assumption | with_reducible rfl | decide | (simp only [decide_eq_true_eq, decide_eq_false_iff_not]; omega)) rfl) ?_ | refine sops_pure (.free rfl rfl) rfl rfl (po_pick_f rfl rfl (by first | assumption | with_reducible rfl | decide | (simp only [decide_eq_true_eq, decide_eq_false_iff_not]; omega)) rfl) ?_) <;> (refine sops_nil ?_))
    | ((refine swp_region (id := 3) ?_) <;> (refine sops_pure (.free rfl rfl) rfl rfl (po_assign rfl rfl) ?_) <;> (refine sops_nil ?_))
    | refine swp_ret ?_
    | refine swp_skip ?_
    | refine swp_block ?_
    | refine swp_exit ?_
    | refine block_go ?_
    | refine block_exit ?_
    | refine block_far rfl ?_
    | refine block_ret ?_
    | refine then_ret ?_
    | refine then_exit ?_
    | refine for_ret ?_
    | refine for_exit ?_
    | refine swp_cond_t rfl (by first | assumption | with_reducible rfl | decide | (simp only [decide_eq_true_eq, Bool.not_eq_true', decide_eq_false_iff_not]; omega)) ?_
    | refine swp_cond_f rfl (by first | assumption | with_reducible rfl | decide | (simp only [decide_eq_false_iff_not, Bool.not_eq_false', decide_eq_true_eq]; omega)) ?_
    | refine swp_cond rfl (fun hc => ?_) (fun hc => ?_)
    | refine retq (by first | exact .inr rfl | exact .inl rfl) rfl (.tmp rfl (by first | exact .t _ | exact .own rfl rfl | exact .nil _ | exact .emp _) .nil) ?_)
  refine swp_for (R1 r) (fun _ => True) r.from_.length (weak_sub (.cons rfl rfl rfl (.cons rfl rfl rfl (.cons rfl rfl rfl .nil))) (.cons rfl rfl rfl (.cons rfl rfl rfl .nil)) .nil) trivial ?_
  intro k hk _
  unfold R1
  by_cases hlt : k < r.from_.length
  · obtain ⟨b0, b1, b2⟩ := hf.fs _ (List.getElem_mem hlt)
    have c0 := terms_ r.from_[k].names b0
    have c1 := terms_ r.from_[k].spaces b1
    have c2 := nets_ r.from_[k].nets b2
    repeat' (first
      | refine then_go ?_
      | refine swp_seq ?_
      | refine for_next hlt (weak_sub (.cons rfl rfl rfl (.cons rfl rfl rfl (.cons rfl rfl rfl .nil))) (.cons rfl rfl rfl (.cons rfl rfl rfl .nil)) .nil) trivial
      | ((refine swp_region (id := 4) ?_) <;> (refine sops_pure (.free rfl rfl) rfl rfl (po_move rfl rfl) ?_) <;> (first | refine sops_pure (.free rfl rfl) rfl rfl (po_field_bx rfl rfl (tyF rfl)) ?_ | refine sops_pure (.free rfl rfl) rfl rfl (po_field rfl rfl (tyF rfl)) ?_) <;> (first | refine sops_pure (.free rfl rfl) rfl rfl (po_load_bx rfl rfl (tyT rfl) rfl rfl) ?_ | refine sops_pure (.free rfl rfl) rfl rfl (po_load rfl rfl (tyT rfl) rfl) ?_) <;> (refine sops_pure (.free rfl rfl) rfl rfl (po_len rfl rfl (by first | exact .t _ | exact .own rfl rfl | exact .nil _ | exact .emp _) (tyS rfl)) ?_) <;> (refine sops_pure (.free rfl rfl) rfl rfl (po_cmp rfl rfl rfl rfl) ?_) <;> (refine sops_nil ?_))
      | ((refine swp_late (id := 6) 10 mixed (by kernel_rfl) (by kernel_rfl) ?_) <;> (first | refine slate_pure (.free rfl rfl) rfl (po_field_bx rfl rfl (tyF rfl)) ?_ | refine slate_pure (.free rfl rfl) rfl (po_field rfl rfl (tyF rfl)) ?_) <;> (first | refine slate_pure (.free rfl rfl) rfl (po_load_bx rfl rfl (tyT rfl) rfl rfl) ?_ | refine slate_pure (.free rfl rfl) rfl (po_load rfl rfl (tyT rfl) rfl) ?_) <;> (refine slate_pure (.free rfl rfl) rfl (po_move rfl rfl) ?_) <;> (refine slate_pure (.free rfl rfl) rfl (po_index rfl rfl (by first | exact .t _ | exact .own rfl rfl | exact .nil _ | exact .emp _) rfl (tyS rfl) (by first | rfl | omega) (by first | rfl | assumption | exact map_at (by first | assumption | omega))) ?_) <;> (first | refine slate_pure (.free rfl rfl) rfl (po_load_bx_agg rfl rfl (tyT rfl) rfl (.cons (by first | exact .t _ | exact .own rfl rfl | exact .nil _ | exact .emp _) (.cons (by first | exact .t _ | exact .own rfl rfl | exact .nil _ | exact .emp _) (.cons (by first | exact .t _ | exact .own rfl rfl | exact .nil _ | exact .emp _) .nil))) rfl) ?_ | refine slate_pure (.free rfl rfl) rfl (po_load_agg rfl rfl (tyT rfl) rfl rfl) ?_) <;> (first | refine slate_pure (.free rfl rfl) rfl (po_field_bx rfl rfl (tyF rfl)) ?_ | refine slate_pure (.free rfl rfl) rfl (po_field rfl rfl (tyF rfl)) ?_) <;> (first | refine slate_pure (.free rfl rfl) rfl (po_load_bx rfl rfl (tyT rfl) rfl rfl) ?_ | refine slate_pure (.free rfl rfl) rfl (po_load rfl rfl (tyT rfl) rfl) ?_) <;> (refine slate_pure (.free rfl rfl) rfl (po_move rfl rfl) ?_) <;> (refine slate_pure (.free rfl rfl) rfl (po_index rfl rfl (by first | exact .t _ | exact .own rfl rfl | exact .nil _ | exact .emp _) rfl (tyS rfl) (by first | rfl | omega) (by first | rfl | assumption | exact map_at (by first | assumption | omega))) ?_) <;> (first | refine slate_pure (.free rfl rfl) rfl (po_load_bx_agg rfl rfl (tyT rfl) rfl (.cons (by first | exact .t _ | exact .own rfl rfl | exact .nil _ | exact .emp _) (.cons (by first | exact .t _ | exact .own rfl rfl | exact .nil _ | exact .emp _) (.cons (by first | exact .t _ | exact .own rfl rfl | exact .nil _ | exact .emp _) .nil))) rfl) ?_ | refine slate_pure (.free rfl rfl) rfl (po_load_agg rfl rfl (tyT rfl) rfl rfl) ?_) <;> (refine slate_nil ?_) <;> (refine .mk ⟨6, 80, 49, _⟩ ⟨7, 80, 54, _⟩ ⟨⟨_, rfl, rfl, rfl, rfl⟩, ⟨_, rfl, rfl, rfl, rfl⟩, by kernel_rfl, ⟨_, _, str80, rfl⟩, rfl, rfl, rfl, ⟨_, tyT rfl⟩⟩ ⟨⟨_, rfl, rfl, rfl, rfl⟩, ⟨_, rfl, rfl, rfl, rfl⟩, by kernel_rfl, ⟨_, _, str80, rfl⟩, rfl, rfl, rfl, ⟨_, tyT rfl⟩⟩ rfl ?_) <;> (dsimp only))
      | ((refine swp_region (id := 7) ?_) <;> (first | refine sops_pure (.free rfl rfl) rfl rfl (po_field_bx rfl rfl (tyF rfl)) ?_ | refine sops_pure (.free rfl rfl) rfl rfl (po_field rfl rfl (tyF rfl)) ?_) <;> (first | refine sops_pure (.free rfl rfl) rfl rfl (po_load_bx rfl rfl (tyT rfl) rfl rfl) ?_ | refine sops_pure (.free rfl rfl) rfl rfl (po_load rfl rfl (tyT rfl) rfl) ?_) <;> (first | refine sops_pure (.free rfl rfl) rfl rfl (po_field_bx rfl rfl (tyF rfl)) ?_ | refine sops_pure (.free rfl rfl) rfl rfl (po_field rfl rfl (tyF rfl)) ?_) <;> (first | refine sops_pure (.free rfl rfl) rfl rfl (po_load_bx rfl rfl (tyT rfl) rfl rfl) ?_ | refine sops_pure (.free rfl rfl) rfl rfl (po_load rfl rfl (tyT rfl) rfl) ?_) <;> (first | refine sops_pure (.free rfl rfl) rfl rfl (po_call (c0) rfl (.cons rfl (by first | exact .t _ | exact .own rfl rfl | exact .nil _ | exact .emp _) (.cons rfl (by first | exact .t _ | exact .own rfl rfl | exact .nil _ | exact .emp _) .nil))) ?_ | refine sops_pure (.free rfl rfl) rfl rfl (po_call (c1) rfl (.cons rfl (by first | exact .t _ | exact .own rfl rfl | exact .nil _ | exact .emp _) (.cons rfl (by first | exact .t _ | exact .own rfl rfl | exact .nil _ | exact .emp _) .nil))) ?_ | refine sops_pure (.free rfl rfl) rfl rfl (po_call (c2) rfl (.cons rfl (by first | exact .t _ | exact .own rfl rfl | exact .nil _ | exact .emp _) (.cons rfl (by first | exact .t _ | exact .own rfl rfl | exact .nil _ | exact .emp _) .nil))) ?_) <;> (refine sops_pure (.free rfl rfl) rfl rfl (po_not rfl rfl) ?_) <;> (refine sops_pure (.free rfl rfl) rfl rfl (po_move rfl rfl) ?_) <;> (first | refine sops_pure (.yes rfl rfl rfl (by first | assumption | with_reducible rfl | decide | (simp only [decide_eq_true_eq, decide_eq_false_iff_not]; omega))) rfl rfl (po_field_bx rfl rfl (tyF rfl)) ?_ | refine sops_pure (.yes rfl rfl rfl (by first | assumption | with_reducible rfl | decide | (simp only [decide_eq_true_eq, decide_eq_false_iff_not]; omega))) rfl rfl (po_field rfl rfl (tyF rfl)) ?_ | refine sops_skip (.no0 rfl rfl rfl (by first | assumption | with_reducible rfl | decide | (simp only [decide_eq_true_eq, decide_eq_false_iff_not]; omega))) rfl rfl ?_ | ((refine sops_split rfl rfl rfl (fun hc => ?_) (fun hc => ?_)) <;> (first | refine sops_pure (.yes rfl rfl rfl (by first | assumption | with_reducible rfl | decide | (simp only [decide_eq_true_eq, decide_eq_false_iff_not]; omega))) rfl rfl (po_field_bx rfl rfl (tyF rfl)) ?_ | refine sops_pure (.yes rfl rfl rfl (by first | assumption | with_reducible rfl | decide | (simp only [decide_eq_true_eq, decide_eq_false_iff_not]; omega))) rfl rfl (po_field rfl rfl (tyF rfl)) ?_ | refine sops_skip (.no0 rfl rfl rfl (by first | assumption | with_reducible rfl | decide | (simp only [decide_eq_true_eq, decide_eq_false_iff_not]; omega))) rfl rfl ?_))) <;> (first | refine sops_pure (.yes rfl rfl rfl (by first | assumption | with_reducible rfl | decide | (simp only [decide_eq_true_eq, decide_eq_false_iff_not]; omega))) rfl rfl (po_load_bx rfl rfl (tyT rfl) rfl rfl) ?_ | refine sops_pure (.yes rfl rfl rfl (by first | assumption | with_reducible rfl | decide | (simp only [decide_eq_true_eq, decide_eq_false_iff_not]; omega))) rfl rfl (po_load rfl rfl (tyT rfl) rfl) ?_ | refine sops_skip (.no0 rfl rfl rfl (by first | assumption | with_reducible rfl | decide | (simp only [decide_eq_true_eq, decide_eq_false_iff_not]; omega))) rfl rfl ?_) <;> (first | refine sops_pure (.yes rfl rfl rfl (by first | assumption | with_reducible rfl | decide | (simp only [decide_eq_true_eq, decide_eq_false_iff_not]; omega))) rfl rfl (po_field_bx rfl rfl (tyF rfl)) ?_ | refine sops_pure (.yes rfl rfl rfl (by first | assumption | with_reducible rfl | decide | (simp only [decide_eq_true_eq, decide_eq_false_iff_not]; omega))) rfl rfl (po_field rfl rfl (tyF rfl)) ?_ | refine sops_skip (.no0 rfl rfl rfl (by first | assumption | with_reducible rfl | decide | (simp only [decide_eq_true_eq, decide_eq_false_iff_not]; omega))) rfl rfl ?_) <;> (first | refine sops_pure (.yes rfl rfl rfl (by first | assumption | with_reducible rfl | decide | (simp only [decide_eq_true_eq, decide_eq_false_iff_not]; omega))) rfl rfl (po_load_bx rfl rfl (tyT rfl) rfl rfl) ?_ | refine sops_pure (.yes rfl rfl rfl (by first | assumption | with_reducible rfl | decide | (simp only [decide_eq_true_eq, decide_eq_false_iff_not]; omega))) rfl rfl (po_load rfl rfl (tyT rfl) rfl) ?_ | refine sops_skip (.no0 rfl rfl rfl (by first | assumption | with_reducible rfl | decide | (simp only [decide_eq_true_eq, decide_eq_false_iff_not]; omega))) rfl rfl ?_) <;> (first | refine sops_pure (.yes rfl rfl rfl (by first | assumption | with_reducible rfl | decide | (simp only [decide_eq_true_eq, decide_eq_false_iff_not]; omega))) rfl rfl (po_call (c0) rfl (.cons rfl (by first | exact .t _ | exact .own rfl rfl | exact .nil _ | exact .emp _) (.cons rfl (by first | exact .t _ | exact .own rfl rfl | exact .nil _ | exact .emp _) .nil))) ?_ | refine sops_pure (.yes rfl rfl rfl (by first | assumption | with_reducible rfl | decide | (simp only [decide_eq_true_eq, decide_eq_false_iff_not]; omega))) rfl rfl (po_call (c1) rfl (.cons rfl (by first | exact .t _ | exact .own rfl rfl | exact .nil _ | exact .emp _) (.cons rfl (by first | exact .t _ | exact .own rfl rfl | exact .nil _ | exact .emp _) .nil))) ?_ | refine sops_pure (.yes rfl rfl rfl (by first | assumption | with_reducible rfl | decide | (simp only [decide_eq_true_eq, decide_eq_false_iff_not]; omega))) rfl rfl (po_call (c2) rfl (.cons rfl (by first | exact .t _ | exact .own rfl rfl | exact .nil _ | exact .emp _) (.cons rfl (by first | exact .t _ | exact .own rfl rfl | exact .nil _ | exact .emp _) .nil))) ?_ | refine sops_skip (.no0 rfl rfl rfl (by first | assumption | with_reducible rfl | decide | (simp only [decide_eq_true_eq, decide_eq_false_iff_not]; omega))) rfl rfl ?_) <;> (first | refine sops_pure (.yes rfl rfl rfl (by first | assumption | with_reducible rfl | decide | (simp only [decide_eq_true_eq, decide_eq_false_iff_not]; omega))) rfl rfl (po_not rfl rfl) ?_ | refine sops_skip (.no0 rfl rfl rfl (by first | assumption | with_reducible rfl | decide | (simp only [decide_eq_true_eq, decide_eq_false_iff_not]; omega))) rfl rfl ?_) <;> (first | refine sops_pure (.free rfl rfl) rfl rfl (po_pick_t rfl rfl (by first | assumption | with_reducible rfl | decide | (simp only [decide_eq_true_eq, decide_eq_false_iff_not]; omega)) rfl) ?_ | refine sops_pure (.free rfl rfl) rfl rfl (po_pick_f rfl rfl (by first | assumption | with_reducible rfl | decide | (simp only [decide_eq_true_eq, decide_eq_false_iff_not]; omega)) rfl) ?_) <;> (refine sops_pure (.free rfl rfl) rfl rfl (po_move rfl rfl) ?_) <;> (first | refine sops_pure (.yes rfl rfl rfl (by first | assumption | with_reducible rfl | decide | (simp only [decide_eq_true_eq, decide_eq_false_iff_not]; omega))) rfl rfl (po_field_bx rfl rfl (tyF rfl)) ?_ | refine sops_pure (.yes rfl rfl rfl (by first | assumption | with_reducible rfl | decide | (simp only [decide_eq_true_eq, decide_eq_false_iff_not]; omega))) rfl rfl (po_field rfl rfl (tyF rfl)) ?_ | refine sops_skip (.no0 rfl rfl rfl (by first | assumption | with_reducible rfl | decide | (simp only [decide_eq_true_eq, decide_eq_false_iff_not]; omega))) rfl rfl ?_ | ((refine sops_split rfl rfl rfl (fun hc => ?_) (fun hc => ?_)) <;> (first | refine sops_pure (.yes rfl rfl rfl (by first | assumption | with_reducible rfl | decide | (simp only [decide_eq_true_eq, decide_eq_false_iff_not]; omega))) rfl rfl (po_field_bx rfl rfl (tyF rfl)) ?_ | refine sops_pure (.yes rfl rfl rfl (by first | assumption | with_reducible rfl | decide | (simp only [decide_eq_true_eq, decide_eq_false_iff_not]; omega))) rfl rfl (po_field rfl rfl (tyF rfl)) ?_ | refine sops_skip (.no0 rfl rfl rfl (by first | assumption | with_reducible rfl | decide | (simp only [decide_eq_true_eq, decide_eq_false_iff_not]; omega))) rfl rfl ?_))) <;> (first | refine sops_pure (.yes rfl rfl rfl (by first | assumption | with_reducible rfl | decide | (simp only [decide_eq_true_eq, decide_eq_false_iff_not]; omega))) rfl rfl (po_load_bx rfl rfl (tyT rfl) rfl rfl) ?_ | refine sops_pure (.yes rfl rfl rfl (by first | assumption | with_reducible rfl | decide | (simp only [decide_eq_true_eq, decide_eq_false_iff_not]; omega))) rfl rfl (po_load rfl rfl (tyT rfl) rfl) ?_ | refine sops_skip (.no0 rfl rfl rfl (by first | assumption | with_reducible rfl | decide | (simp only [decide_eq_true_eq, decide_eq_false_iff_not]; omega))) rfl rfl ?_) <;> (first | refine sops_pure (.yes rfl rfl rfl (by first | assumption | with_reducible rfl | decide | (simp only [decide_eq_true_eq, decide_eq_false_iff_not]; omega))) rfl rfl (po_field_bx rfl rfl (tyF rfl)) ?_ | refine sops_pure (.yes rfl rfl rfl (by first | assumption | with_reducible rfl | decide | (simp only [decide_eq_true_eq, decide_eq_false_iff_not]; omega))) rfl rfl (po_field rfl rfl (tyF rfl)) ?_ | refine sops_skip (.no0 rfl rfl rfl (by first | assumption | with_reducible rfl | decide | (simp only [decide_eq_true_eq, decide_eq_false_iff_not]; omega))) rfl rfl ?_) <;> (first | refine sops_pure (.yes rfl rfl rfl (by first | assumption | with_reducible rfl | decide | (simp only [decide_eq_true_eq, decide_eq_false_iff_not]; omega))) rfl rfl (po_load_bx rfl rfl (tyT rfl) rfl rfl) ?_ | refine sops_pure (.yes rfl rfl rfl (by first | assumption | with_reducible rfl | decide | (simp only [decide_eq_true_eq, decide_eq_false_iff_not]; omega))) rfl rfl (po_load rfl rfl (tyT rfl) rfl) ?_ | refine sops_skip (.no0 rfl rfl rfl (by first | assumption | with_reducible rfl | decide | (simp only [decide_eq_true_eq, decide_eq_false_iff_not]; omega))) rfl rfl ?_) <;> (first | refine sops_pure (.yes rfl rfl rfl (by first | assumption | with_reducible rfl | decide | (simp only [decide_eq_true_eq, decide_eq_false_iff_not]; omega))) rfl rfl (po_call (c0) rfl (.cons rfl (by first | exact .t _ | exact .own rfl rfl | exact .nil _ | exact .emp _) (.cons rfl (by first | exact .t _ | exact .own rfl rfl | exact .nil _ | exact .emp _) .nil))) ?_ | refine sops_pure (.yes rfl rfl rfl (by first | assumption | with_reducible rfl | decide | (simp only [decide_eq_true_eq, decide_eq_false_iff_not]; omega))) rfl rfl (po_call (c1) rfl (.cons rfl (by first | exact .t _ | exact .own rfl rfl | exact .nil _ | exact .emp _) (.cons rfl (by first | exact .t _ | exact .own rfl rfl | exact .nil _ | exact .emp _) .nil))) ?_ | refine sops_pure (.yes rfl rfl rfl (by first | assumption | with_reducible rfl | decide | (simp only [decide_eq_true_eq, decide_eq_false_iff_not]; omega))) rfl rfl (po_call (c2) rfl (.cons rfl (by first | exact .t _ | exact .own rfl rfl | exact .nil _ | exact .emp _) (.cons rfl (by first | exact .t _ | exact .own rfl rfl | exact .nil _ | exact .emp _) .nil))) ?_ | refine sops_skip (.no0 rfl rfl rfl (by first | assumption | with_reducible rfl | decide | (simp only [decide_eq_true_eq, decide_eq_false_iff_not]; omega))) rfl rfl ?_) <;> (first | refine sops_pure (.yes rfl rfl rfl (by first | assumption | with_reducible rfl | decide | (simp only [decide_eq_true_eq, decide_eq_false_iff_not]; omega))) rfl rfl (po_not rfl rfl) ?_ | refine sops_skip (.no0 rfl rfl rfl (by first | assumption | with_reducible rfl | decide | (simp only [decide_eq_true_eq, decide_eq_false_iff_not]; omega))) rfl rfl ?_) <;> (first | refine sops_pure (.free rfl rfl) rfl rfl (po_pick_t rfl rfl (by first | assumption | with_reducible rfl | decide | (simp only [decide_eq_true_eq, decide_eq_false_iff_not]; omega)) rfl) ?_ | refine sops_pure (.free rfl rfl) rfl rfl (po_pick_f rfl rfl (by first | assumption | with_reducible rfl | decide | (simp only [decide_eq_true_eq, decide_eq_false_iff_not]; omega)) rfl) ?_) <;> (refine sops_nil ?_))
      | ((refine swp_region (id := 5) ?_) <;> (refine sops_pure (.free rfl rfl) rfl rfl (po_move rfl rfl) ?_) <;> (first | refine sops_pure (.free rfl rfl) rfl rfl (po_inc rfl rfl rfl (by omega)) ?_ | refine sops_pure (.free rfl rfl) rfl rfl (po_arith rfl rfl rfl (ar_add (by first | rfl | (refine wrap_i64 ?_; omega)) rfl)) ?_) <;> (refine sops_pure (.free rfl rfl) rfl rfl (po_assign rfl rfl) ?_) <;> (refine sops_nil ?_))
      | refine swp_ret ?_
      | refine swp_skip ?_
      | refine swp_block ?_
      | refine swp_exit ?_
      | refine block_go ?_
      | refine block_exit ?_
      | refine block_far rfl ?_
      | refine block_ret ?_
      | refine then_ret ?_
      | refine then_exit ?_
      | refine for_ret ?_
      | refine for_exit ?_
      | refine swp_cond_t rfl (by first | assumption | with_reducible rfl | decide | (simp only [decide_eq_true_eq, Bool.not_eq_true', decide_eq_false_iff_not]; omega)) ?_
      | refine swp_cond_f rfl (by first | assumption | with_reducible rfl | decide | (simp only [decide_eq_false_iff_not, Bool.not_eq_false', decide_eq_true_eq]; omega)) ?_
      | refine swp_cond rfl (fun hc => ?_) (fun hc => ?_)
      | refine retq (by first | exact .inr rfl | exact .inl rfl) rfl (.tmp rfl (by first | exact .t _ | exact .own rfl rfl | exact .nil _ | exact .emp _) .nil) ?_)
  obtain rfl : k = r.from_.length := by omega
  repeat' (first
    | refine then_go ?_
    | refine swp_seq ?_
    | ((refine swp_region (id := 4) ?_) <;> (refine sops_pure (.free rfl rfl) rfl rfl (po_move rfl rfl) ?_) <;> (first | refine sops_pure (.free rfl rfl) rfl rfl (po_field_bx rfl rfl (tyF rfl)) ?_ | refine sops_pure (.free rfl rfl) rfl rfl (po_field rfl rfl (tyF rfl)) ?_) <;> (first | refine sops_pure (.free rfl rfl) rfl rfl (po_load_bx rfl rfl (tyT rfl) rfl rfl) ?_ | refine sops_pure (.free rfl rfl) rfl rfl (po_load rfl rfl (tyT rfl) rfl) ?_) <;> (refine sops_pure (.free rfl rfl) rfl rfl (po_len rfl rfl (by first | exact .t _ | exact .own rfl rfl | exact .nil _ | exact .emp _) (tyS rfl)) ?_) <;> (refine sops_pure (.free rfl rfl) rfl rfl (po_cmp rfl rfl rfl rfl) ?_) <;> (refine sops_nil ?_))
    | ((refine swp_region (id := 9) ?_) <;> (refine sops_pure (.free rfl rfl) rfl rfl (po_assign rfl rfl) ?_) <;> (refine sops_nil ?_))
    | refine swp_ret ?_
    | refine swp_skip ?_
    | refine swp_block ?_
    | refine swp_exit ?_
    | refine block_go ?_
    | refine block_exit ?_
    | refine block_far rfl ?_
    | refine block_ret ?_
    | refine then_ret ?_
    | refine then_exit ?_
    | refine for_ret ?_
    | refine for_exit ?_
    | refine swp_cond_t rfl (by first | assumption | with_reducible rfl | decide | (simp only [decide_eq_true_eq, Bool.not_eq_true', decide_eq_false_iff_not]; omega)) ?_
    | refine swp_cond_f rfl (by first | assumption | with_reducible rfl | decide | (simp only [decide_eq_false_iff_not, Bool.not_eq_false', decide_eq_true_eq]; omega)) ?_
    | refine swp_cond rfl (fun hc => ?_) (fun hc => ?_)
    | refine retq (by first | exact .inr rfl | exact .inl rfl) rfl (.tmp rfl (by first | exact .t _ | exact .own rfl rfl | exact .nil _ | exact .emp _) .nil) ?_)
  refine swp_for (R2 r) (fun _ => True) r.to_.length (weak_sub (.cons rfl rfl rfl (.cons rfl rfl rfl (.cons rfl rfl rfl .nil))) (.cons rfl rfl rfl (.cons rfl rfl rfl .nil)) .nil) trivial ?_
  intro k hk _
  unfold R2
  by_cases hlt : k < r.to_.length
  · obtain ⟨b0, b1, b2, b3⟩ := hf.ts _ (List.getElem_mem hlt)
    have c1 := terms_ r.to_[k].methods b1
    have c2 := terms_ r.to_[k].paths b2
    have c3 := terms_ r.to_[k].hosts b3
    have e4 := ne_len (l := r.to_[k].ports.map intT)
    have hm4 : (r.to_[k].ports.map intT).length = r.to_[k].ports.length := List.length_map _
    repeat' (first
      | refine then_go ?_
      | refine swp_seq ?_
      | ((refine swp_region (id := 10) ?_) <;> (refine sops_pure (.free rfl rfl) rfl rfl (po_move rfl rfl) ?_) <;> (first | refine sops_pure (.free rfl rfl) rfl rfl (po_field_bx rfl rfl (tyF rfl)) ?_ | refine sops_pure (.free rfl rfl) rfl rfl (po_field rfl rfl (tyF rfl)) ?_) <;> (first | refine sops_pure (.free rfl rfl) rfl rfl (po_load_bx rfl rfl (tyT rfl) rfl rfl) ?_ | refine sops_pure (.free rfl rfl) rfl rfl (po_load rfl rfl (tyT rfl) rfl) ?_) <;> (refine sops_pure (.free rfl rfl) rfl rfl (po_len rfl rfl (by first | exact .t _ | exact .own rfl rfl | exact .nil _ | exact .emp _) (tyS rfl)) ?_) <;> (refine sops_pure (.free rfl rfl) rfl rfl (po_cmp rfl rfl rfl rfl) ?_) <;> (refine sops_nil ?_))
      | ((refine swp_late (id := 12) 10 mixed (by kernel_rfl) (by kernel_rfl) ?_) <;> (first | refine slate_pure (.free rfl rfl) rfl (po_field_bx rfl rfl (tyF rfl)) ?_ | refine slate_pure (.free rfl rfl) rfl (po_field rfl rfl (tyF rfl)) ?_) <;> (first | refine slate_pure (.free rfl rfl) rfl (po_load_bx rfl rfl (tyT rfl) rfl rfl) ?_ | refine slate_pure (.free rfl rfl) rfl (po_load rfl rfl (tyT rfl) rfl) ?_) <;> (refine slate_pure (.free rfl rfl) rfl (po_move rfl rfl) ?_) <;> (refine slate_pure (.free rfl rfl) rfl (po_index rfl rfl (by first | exact .t _ | exact .own rfl rfl | exact .nil _ | exact .emp _) rfl (tyS rfl) (by first | rfl | omega) (by first | rfl | assumption | exact map_at (by first | assumption | omega))) ?_) <;> (first | refine slate_pure (.free rfl rfl) rfl (po_load_bx_agg rfl rfl (tyT rfl) rfl (.cons (by first | exact .t _ | exact .own rfl rfl | exact .nil _ | exact .emp _) (.cons (by first | exact .t _ | exact .own rfl rfl | exact .nil _ | exact .emp _) (.cons (by first | exact .t _ | exact .own rfl rfl | exact .nil _ | exact .emp _) (.cons (by first | exact .t _ | exact .own rfl rfl | exact .nil _ | exact .emp _) .nil)))) rfl) ?_ | refine slate_pure (.free rfl rfl) rfl (po_load_agg rfl rfl (tyT rfl) rfl rfl) ?_) <;> (first | refine slate_pure (.free rfl rfl) rfl (po_field_bx rfl rfl (tyF rfl)) ?_ | refine slate_pure (.free rfl rfl) rfl (po_field rfl rfl (tyF rfl)) ?_) <;> (first | refine slate_pure (.free rfl rfl) rfl (po_load_bx rfl rfl (tyT rfl) rfl rfl) ?_ | refine slate_pure (.free rfl rfl) rfl (po_load rfl rfl (tyT rfl) rfl) ?_) <;> (refine slate_pure (.free rfl rfl) rfl (po_move rfl rfl) ?_) <;> (refine slate_pure (.free rfl rfl) rfl (po_index rfl rfl (by first | exact .t _ | exact .own rfl rfl | exact .nil _ | exact .emp _) rfl (tyS rfl) (by first | rfl | omega) (by first | rfl | assumption | exact map_at (by first | assumption | omega))) ?_) <;> (first | refine slate_pure (.free rfl rfl) rfl (po_load_bx_agg rfl rfl (tyT rfl) rfl (.cons (by first | exact .t _ | exact .own rfl rfl | exact .nil _ | exact .emp _) (.cons (by first | exact .t _ | exact .own rfl rfl | exact .nil _ | exact .emp _) (.cons (by first | exact .t _ | exact .own rfl rfl | exact .nil _ | exact .emp _) (.cons (by first | exact .t _ | exact .own rfl rfl | exact .nil _ | exact .emp _) .nil)))) rfl) ?_ | refine slate_pure (.free rfl rfl) rfl (po_load_agg rfl rfl (tyT rfl) rfl rfl) ?_) <;> (refine slate_nil ?_) <;> (refine .mk ⟨9, 84, 88, _⟩ ⟨10, 84, 93, _⟩ ⟨⟨_, rfl, rfl, rfl, rfl⟩, ⟨_, rfl, rfl, rfl, rfl⟩, by kernel_rfl, ⟨_, _, str84, rfl⟩, rfl, rfl, rfl, ⟨_, tyT rfl⟩⟩ ⟨⟨_, rfl, rfl, rfl, rfl⟩, ⟨_, rfl, rfl, rfl, rfl⟩, by kernel_rfl, ⟨_, _, str84, rfl⟩, rfl, rfl, rfl, ⟨_, tyT rfl⟩⟩ rfl ?_) <;> (dsimp only))
      | ((refine swp_region (id := 13) ?_) <;> (first | refine sops_pure (.free rfl rfl) rfl rfl (po_field_bx rfl rfl (tyF rfl)) ?_ | refine sops_pure (.free rfl rfl) rfl rfl (po_field rfl rfl (tyF rfl)) ?_) <;> (first | refine sops_pure (.free rfl rfl) rfl rfl (po_load_bx rfl rfl (tyT rfl) rfl rfl) ?_ | refine sops_pure (.free rfl rfl) rfl rfl (po_load rfl rfl (tyT rfl) rfl) ?_) <;> (first | refine sops_pure (.free rfl rfl) rfl rfl (po_field_bx rfl rfl (tyF rfl)) ?_ | refine sops_pure (.free rfl rfl) rfl rfl (po_field rfl rfl (tyF rfl)) ?_) <;> (first | refine sops_pure (.free rfl rfl) rfl rfl (po_load_bx rfl rfl (tyT rfl) rfl rfl) ?_ | refine sops_pure (.free rfl rfl) rfl rfl (po_load rfl rfl (tyT rfl) rfl) ?_) <;> (first | refine sops_pure (.free rfl rfl) rfl rfl (po_call (c1) rfl (.cons rfl (by first | exact .t _ | exact .own rfl rfl | exact .nil _ | exact .emp _) (.cons rfl (by first | exact .t _ | exact .own rfl rfl | exact .nil _ | exact .emp _) .nil))) ?_ | refine sops_pure (.free rfl rfl) rfl rfl (po_call (c2) rfl (.cons rfl (by first | exact .t _ | exact .own rfl rfl | exact .nil _ | exact .emp _) (.cons rfl (by first | exact .t _ | exact .own rfl rfl | exact .nil _ | exact .emp _) .nil))) ?_ | refine sops_pure (.free rfl rfl) rfl rfl (po_call (c3) rfl (.cons rfl (by first | exact .t _ | exact .own rfl rfl | exact .nil _ | exact .emp _) (.cons rfl (by first | exact .t _ | exact .own rfl rfl | exact .nil _ | exact .emp _) .nil))) ?_) <;> (refine sops_pure (.free rfl rfl) rfl rfl (po_not rfl rfl) ?_) <;> (refine sops_pure (.free rfl rfl) rfl rfl (po_move rfl rfl) ?_) <;> (first | refine sops_pure (.yes rfl rfl rfl (by first | assumption | with_reducible rfl | decide | (simp only [decide_eq_true_eq, decide_eq_false_iff_not]; omega))) rfl rfl (po_field_bx rfl rfl (tyF rfl)) ?_ | refine sops_pure (.yes rfl rfl rfl (by first | assumption | with_reducible rfl | decide | (simp only [decide_eq_true_eq, decide_eq_false_iff_not]; omega))) rfl rfl (po_field rfl rfl (tyF rfl)) ?_ | refine sops_skip (.no0 rfl rfl rfl (by first | assumption | with_reducible rfl | decide | (simp only [decide_eq_true_eq, decide_eq_false_iff_not]; omega))) rfl rfl ?_ | ((refine sops_split rfl rfl rfl (fun hc => ?_) (fun hc => ?_)) <;> (first | refine sops_pure (.yes rfl rfl rfl (by first | assumption | with_reducible rfl | decide | (simp only [decide_eq_true_eq, decide_eq_false_iff_not]; omega))) rfl rfl (po_field_bx rfl rfl (tyF rfl)) ?_ | refine sops_pure (.yes rfl rfl rfl (by first | assumption | with_reducible rfl | decide | (simp only [decide_eq_true_eq, decide_eq_false_iff_not]; omega))) rfl rfl (po_field rfl rfl (tyF rfl)) ?_ | refine sops_skip (.no0 rfl rfl rfl (by first | assumption | with_reducible rfl | decide | (simp only [decide_eq_true_eq, decide_eq_false_iff_not]; omega))) rfl rfl ?_))) <;> (first | refine sops_pure (.yes rfl rfl rfl (by first | assumption | with_reducible rfl | decide | (simp only [decide_eq_true_eq, decide_eq_false_iff_not]; omega))) rfl rfl (po_load_bx rfl rfl (tyT rfl) rfl rfl) ?_ | refine sops_pure (.yes rfl rfl rfl (by first | assumption | with_reducible rfl | decide | (simp only [decide_eq_true_eq, decide_eq_false_iff_not]; omega))) rfl rfl (po_load rfl rfl (tyT rfl) rfl) ?_ | refine sops_skip (.no0 rfl rfl rfl (by first | assumption | with_reducible rfl | decide | (simp only [decide_eq_true_eq, decide_eq_false_iff_not]; omega))) rfl rfl ?_) <;> (first | refine sops_pure (.yes rfl rfl rfl (by first | assumption | with_reducible rfl | decide | (simp only [decide_eq_true_eq, decide_eq_false_iff_not]; omega))) rfl rfl (po_field_bx rfl rfl (tyF rfl)) ?_ | refine sops_pure (.yes rfl rfl rfl (by first | assumption | with_reducible rfl | decide | (simp only [decide_eq_true_eq, decide_eq_false_iff_not]; omega))) rfl rfl (po_field rfl rfl (tyF rfl)) ?_ | refine sops_skip (.no0 rfl rfl rfl (by first | assumption | with_reducible rfl | decide | (simp only [decide_eq_true_eq, decide_eq_false_iff_not]; omega))) rfl rfl ?_) <;> (first | refine sops_pure (.yes rfl rfl rfl (by first | assumption | with_reducible rfl | decide | (simp only [decide_eq_true_eq, decide_eq_false_iff_not]; omega))) rfl rfl (po_load_bx rfl rfl (tyT rfl) rfl rfl) ?_ | refine sops_pure (.yes rfl rfl rfl (by first | assumption | with_reducible rfl | decide | (simp only [decide_eq_true_eq, decide_eq_false_iff_not]; omega))) rfl rfl (po_load rfl rfl (tyT rfl) rfl) ?_ | refine sops_skip (.no0 rfl rfl rfl (by first | assumption | with_reducible rfl | decide | (simp only [decide_eq_true_eq, decide_eq_false_iff_not]; omega))) rfl rfl ?_) <;> (first | refine sops_pure (.yes rfl rfl rfl (by first | assumption | with_reducible rfl | decide | (simp only [decide_eq_true_eq, decide_eq_false_iff_not]; omega))) rfl rfl (po_call (c1) rfl (.cons rfl (by first | exact .t _ | exact .own rfl rfl | exact .nil _ | exact .emp _) (.cons rfl (by first | exact .t _ | exact .own rfl rfl | exact .nil _ | exact .emp _) .nil))) ?_ | refine sops_pure (.yes rfl rfl rfl (by first | assumption | with_reducible rfl | decide | (simp only [decide_eq_true_eq, decide_eq_false_iff_not]; omega))) rfl rfl (po_call (c2) rfl (.cons rfl (by first | exact .t _ | exact .own rfl rfl | exact .nil _ | exact .emp _) (.cons rfl (by first | exact .t _ | exact .own rfl rfl | exact .nil _ | exact .emp _) .nil))) ?_ | refine sops_pure (.yes rfl rfl rfl (by first | assumption | with_reducible rfl | decide | (simp only [decide_eq_true_eq, decide_eq_false_iff_not]; omega))) rfl rfl (po_call (c3) rfl (.cons rfl (by first | exact .t _ | exact .own rfl rfl | exact .nil _ | exact .emp _) (.cons rfl (by first | exact .t _ | exact .own rfl rfl | exact .nil _ | exact .emp _) .nil))) ?_ | refine sops_skip (.no0 rfl rfl rfl (by first | assumption | with_reducible rfl | decide | (simp only [decide_eq_true_eq, decide_eq_false_iff_not]; omega))) rfl rfl ?_) <;> (first | refine sops_pure (.yes rfl rfl rfl (by first | assumption | with_reducible rfl | decide | (simp only [decide_eq_true_eq, decide_eq_false_iff_not]; omega))) rfl rfl (po_not rfl rfl) ?_ | refine sops_skip (.no0 rfl rfl rfl (by first | assumption | with_reducible rfl | decide | (simp only [decide_eq_true_eq, decide_eq_false_iff_not]; omega))) rfl rfl ?_) <;> (first | refine sops_pure (.free rfl rfl) rfl rfl (po_pick_t rfl rfl (by first | assumption | with_reducible rfl | decide | (simp only [decide_eq_true_eq, decide_eq_false_iff_not]; omega)) rfl) ?_ | refine sops_pure (.free rfl rfl) rfl rfl (po_pick_f rfl rfl (by first | assumption | with_reducible rfl | decide | (simp only [decide_eq_true_eq, decide_eq_false_iff_not]; omega)) rfl) ?_) <;> (refine sops_pure (.free rfl rfl) rfl rfl (po_move rfl rfl) ?_) <;> (first | refine sops_pure (.yes rfl rfl rfl (by first | assumption | with_reducible rfl | decide | (simp only [decide_eq_true_eq, decide_eq_false_iff_not]; omega))) rfl rfl (po_field_bx rfl rfl (tyF rfl)) ?_ | refine sops_pure (.yes rfl rfl rfl (by first | assumption | with_reducible rfl | decide | (simp only [decide_eq_true_eq, decide_eq_false_iff_not]; omega))) rfl rfl (po_field rfl rfl (tyF rfl)) ?_ | refine sops_skip (.no0 rfl rfl rfl (by first | assumption | with_reducible rfl | decide | (simp only [decide_eq_true_eq, decide_eq_false_iff_not]; omega))) rfl rfl ?_ | ((refine sops_split rfl rfl rfl (fun hc => ?_) (fun hc => ?_)) <;> (first | refine sops_pure (.yes rfl rfl rfl (by first | assumption | with_reducible rfl | decide | (simp only [decide_eq_true_eq, decide_eq_false_iff_not]; omega))) rfl rfl (po_field_bx rfl rfl (tyF rfl)) ?_ | refine sops_pure (.yes rfl rfl rfl (by first | assumption | with_reducible rfl | decide | (simp only [decide_eq_true_eq, decide_eq_false_iff_not]; omega))) rfl rfl (po_field rfl rfl (tyF rfl)) ?_ | refine sops_skip (.no0 rfl rfl rfl (by first | assumption | with_reducible rfl | decide | (simp only [decide_eq_true_eq, decide_eq_false_iff_not]; omega))) rfl rfl ?_))) <;> (first | refine sops_pure (.yes rfl rfl rfl (by first | assumption | with_reducible rfl | decide | (simp only [decide_eq_true_eq, decide_eq_false_iff_not]; omega))) rfl rfl (po_load_bx rfl rfl (tyT rfl) rfl rfl) ?_ | refine sops_pure (.yes rfl rfl rfl (by first | assumption | with_reducible rfl | decide | (simp only [decide_eq_true_eq, decide_eq_false_iff_not]; omega))) rfl rfl (po_load rfl rfl (tyT rfl) rfl) ?_ | refine sops_skip (.no0 rfl rfl rfl (by first | assumption | with_reducible rfl | decide | (simp only [decide_eq_true_eq, decide_eq_false_iff_not]; omega))) rfl rfl ?_) <;> (first | refine sops_pure (.yes rfl rfl rfl (by first | assumption | with_reducible rfl | decide | (simp only [decide_eq_true_eq, decide_eq_false_iff_not]; omega))) rfl rfl (po_field_bx rfl rfl (tyF rfl)) ?_ | refine sops_pure (.yes rfl rfl rfl (by first | assumption | with_reducible rfl | decide | (simp only [decide_eq_true_eq, decide_eq_false_iff_not]; omega))) rfl rfl (po_field rfl rfl (tyF rfl)) ?_ | refine sops_skip (.no0 rfl rfl rfl (by first | assumption | with_reducible rfl | decide | (simp only [decide_eq_true_eq, decide_eq_false_iff_not]; omega))) rfl rfl ?_) <;> (first | refine sops_pure (.yes rfl rfl rfl (by first | assumption | with_reducible rfl | decide | (simp only [decide_eq_true_eq, decide_eq_false_iff_not]; omega))) rfl rfl (po_load_bx rfl rfl (tyT rfl) rfl rfl) ?_ | refine sops_pure (.yes rfl rfl rfl (by first | assumption | with_reducible rfl | decide | (simp only [decide_eq_true_eq, decide_eq_false_iff_not]; omega))) rfl rfl (po_load rfl rfl (tyT rfl) rfl) ?_ | refine sops_skip (.no0 rfl rfl rfl (by first | assumption | with_reducible rfl | decide | (simp only [decide_eq_true_eq, decide_eq_false_iff_not]; omega))) rfl rfl ?_) <;> (first | refine sops_pure (.yes rfl rfl rfl (by first | assumption | with_reducible rfl | decide | (simp only [decide_eq_true_eq, decide_eq_false_iff_not]; omega))) rfl rfl (po_call (c1) rfl (.cons rfl (by first | exact .t _ | exact .own rfl rfl | exact .nil _ | exact .emp _) (.cons rfl (by first | exact .t _ | exact .own rfl rfl | exact .nil _ | exact .emp _) .nil))) ?_ | refine sops_pure (.yes rfl rfl rfl (by first | assumption | with_reducible rfl | decide | (simp only [decide_eq_true_eq, decide_eq_false_iff_not]; omega))) rfl rfl (po_call (c2) rfl (.cons rfl (by first | exact .t _ | exact .own rfl rfl | exact .nil _ | exact .emp _) (.cons rfl (by first | exact .t _ | exact .own rfl rfl | exact .nil _ | exact .emp _) .nil))) ?_ | refine sops_pure (.yes rfl rfl rfl (by first | assumption | with_reducible rfl | decide | (simp only [decide_eq_true_eq, decide_eq_false_iff_not]; omega))) rfl rfl (po_call (c3) rfl (.cons rfl (by first | exact .t _ | exact .own rfl rfl | exact .nil _ | exact .emp _) (.cons rfl (by first | exact .t _ | exact .own rfl rfl | exact .nil _ | exact .emp _) .nil))) ?_ | refine sops_skip (.no0 rfl rfl rfl (by first | assumption | with_reducible rfl | decide | (simp only [decide_eq_true_eq, decide_eq_false_iff_not]; omega))) rfl rfl ?_) <;> (first | refine sops_pure (.yes rfl rfl rfl (by first | assumption | with_reducible rfl | decide | (simp only [decide_eq_true_eq, decide_eq_false_iff_not]; omega))) rfl rfl (po_not rfl rfl) ?_ | refine sops_skip (.no0 rfl rfl rfl (by first | assumption | with_reducible rfl | decide | (simp only [decide_eq_true_eq, decide_eq_false_iff_not]; omega))) rfl rfl ?_) <;> (first | refine sops_pure (.free rfl rfl) rfl rfl (po_pick_t rfl rfl (by first | assumption | with_reducible rfl | decide | (simp only [decide_eq_true_eq, decide_eq_false_iff_not]; omega)) rfl) ?_ | refine sops_pure (.free rfl rfl) rfl rfl (po_pick_f rfl rfl (by first | assumption | with_reducible rfl | decide | (simp only [decide_eq_true_eq, decide_eq_false_iff_not]; omega)) rfl) ?_) <;> (refine sops_pure (.free rfl rfl) rfl rfl (po_move rfl rfl) ?_) <;> (first | refine sops_pure (.yes rfl rfl rfl (by first | assumption | with_reducible rfl | decide | (simp only [decide_eq_true_eq, decide_eq_false_iff_not]; omega))) rfl rfl (po_field_bx rfl rfl (tyF rfl)) ?_ | refine sops_pure (.yes rfl rfl rfl (by first | assumption | with_reducible rfl | decide | (simp only [decide_eq_true_eq, decide_eq_false_iff_not]; omega))) rfl rfl (po_field rfl rfl (tyF rfl)) ?_ | refine sops_skip (.no0 rfl rfl rfl (by first | assumption | with_reducible rfl | decide | (simp only [decide_eq_true_eq, decide_eq_false_iff_not]; omega))) rfl rfl ?_ | ((refine sops_split rfl rfl rfl (fun hc => ?_) (fun hc => ?_)) <;> (first | refine sops_pure (.yes rfl rfl rfl (by first | assumption | with_reducible rfl | decide | (simp only [decide_eq_true_eq, decide_eq_false_iff_not]; omega))) rfl rfl (po_field_bx rfl rfl (tyF rfl)) ?_ | refine sops_pure (.yes rfl rfl rfl (by first | assumption | with_reducible rfl | decide | (simp only [decide_eq_true_eq, decide_eq_false_iff_not]; omega))) rfl rfl (po_field rfl rfl (tyF rfl)) ?_ | refine sops_skip (.no0 rfl rfl rfl (by first | assumption | with_reducible rfl | decide | (simp only [decide_eq_true_eq, decide_eq_false_iff_not]; omega))) rfl rfl ?_))) <;> (first | refine sops_pure (.yes rfl rfl rfl (by first | assumption | with_reducible rfl | decide | (simp only [decide_eq_true_eq, decide_eq_false_iff_not]; omega))) rfl rfl (po_load_bx rfl rfl (tyT rfl) rfl rfl) ?_ | refine sops_pure (.yes rfl rfl rfl (by first | assumption | with_reducible rfl | decide | (simp only [decide_eq_true_eq, decide_eq_false_iff_not]; omega))) rfl rfl (po_load rfl rfl (tyT rfl) rfl) ?_ | refine sops_skip (.no0 rfl rfl rfl (by first | assumption | with_reducible rfl | decide | (simp only [decide_eq_true_eq, decide_eq_false_iff_not]; omega))) rfl rfl ?_) <;> (first | refine sops_pure (.yes rfl rfl rfl (by first | assumption | with_reducible rfl | decide | (simp only [decide_eq_true_eq, decide_eq_false_iff_not]; omega))) rfl rfl (po_len rfl rfl (by first | exact .t _ | exact .own rfl rfl | exact .nil _ | exact .emp _) (tyS rfl)) ?_ | refine sops_skip (.no0 rfl rfl rfl (by first | assumption | with_reducible rfl | decide | (simp only [decide_eq_true_eq, decide_eq_false_iff_not]; omega))) rfl rfl ?_) <;> (first | refine sops_pure (.yes rfl rfl rfl (by first | assumption | with_reducible rfl | decide | (simp only [decide_eq_true_eq, decide_eq_false_iff_not]; omega))) rfl rfl (po_field_bx rfl rfl (tyF rfl)) ?_ | refine sops_pure (.yes rfl rfl rfl (by first | assumption | with_reducible rfl | decide | (simp only [decide_eq_true_eq, decide_eq_false_iff_not]; omega))) rfl rfl (po_field rfl rfl (tyF rfl)) ?_ | refine sops_skip (.no0 rfl rfl rfl (by first | assumption | with_reducible rfl | decide | (simp only [decide_eq_true_eq, decide_eq_false_iff_not]; omega))) rfl rfl ?_) <;> (first | refine sops_pure (.yes rfl rfl rfl (by first | assumption | with_reducible rfl | decide | (simp only [decide_eq_true_eq, decide_eq_false_iff_not]; omega))) rfl rfl (po_load_bx rfl rfl (tyT rfl) rfl rfl) ?_ | refine sops_pure (.yes rfl rfl rfl (by first | assumption | with_reducible rfl | decide | (simp only [decide_eq_true_eq, decide_eq_false_iff_not]; omega))) rfl rfl (po_load rfl rfl (tyT rfl) rfl) ?_ | refine sops_skip (.no0 rfl rfl rfl (by first | assumption | with_reducible rfl | decide | (simp only [decide_eq_true_eq, decide_eq_false_iff_not]; omega))) rfl rfl ?_) <;> (first | refine sops_pure (.yes rfl rfl rfl (by first | assumption | with_reducible rfl | decide | (simp only [decide_eq_true_eq, decide_eq_false_iff_not]; omega))) rfl rfl (po_len rfl rfl (by first | exact .t _ | exact .own rfl rfl | exact .nil _ | exact .emp _) (tyS rfl)) ?_ | refine sops_skip (.no0 rfl rfl rfl (by first | assumption | with_reducible rfl | decide | (simp only [decide_eq_true_eq, decide_eq_false_iff_not]; omega))) rfl rfl ?_) <;> (first | refine sops_pure (.yes rfl rfl rfl (by first | assumption | with_reducible rfl | decide | (simp only [decide_eq_true_eq, decide_eq_false_iff_not]; omega))) rfl rfl (po_cmp rfl rfl rfl rfl) ?_ | refine sops_skip (.no0 rfl rfl rfl (by first | assumption | with_reducible rfl | decide | (simp only [decide_eq_true_eq, decide_eq_false_iff_not]; omega))) rfl rfl ?_) <;> (first | refine sops_pure (.free rfl rfl) rfl rfl (po_pick_t rfl rfl (by first | assumption | with_reducible rfl | decide | (simp only [decide_eq_true_eq, decide_eq_false_iff_not]; omega)) rfl) ?_ | refine sops_pure (.free rfl rfl) rfl rfl (po_pick_f rfl rfl (by first | assumption | with_reducible rfl | decide | (simp only [decide_eq_true_eq, decide_eq_false_iff_not]; omega)) rfl) ?_) <;> (refine sops_nil ?_))
      | ((refine swp_region (id := 15) ?_) <;> (refine sops_pure (.free rfl rfl) rfl rfl (po_assign rfl rfl) ?_) <;> (refine sops_nil ?_))
      | refine swp_ret ?_
      | refine swp_skip ?_
      | refine swp_block ?_
      | refine swp_exit ?_
      | refine block_go ?_
      | refine block_exit ?_
      | refine block_far rfl ?_
      | refine block_ret ?_
      | refine then_ret ?_
      | refine then_exit ?_
      | refine for_ret ?_
      | refine for_exit ?_
      | refine swp_cond_t rfl (by first | assumption | with_reducible rfl | decide | (simp only [decide_eq_true_eq, Bool.not_eq_true', decide_eq_false_iff_not]; omega)) ?_
      | refine swp_cond_f rfl (by first | assumption | with_reducible rfl | decide | (simp only [decide_eq_false_iff_not, Bool.not_eq_false', decide_eq_true_eq]; omega)) ?_
      | refine swp_cond rfl (fun hc => ?_) (fun hc => ?_)
      | refine retq (by first | exact .inr rfl | exact .inl rfl) rfl (.tmp rfl (by first | exact .t _ | exact .own rfl rfl | exact .nil _ | exact .emp _) .nil) ?_)
    refine swp_for (R2b r k r.to_[k]) (fun _ => True) r.to_[k].ports.length (weak_sub (.cons rfl rfl rfl (.cons rfl rfl rfl (.cons rfl rfl rfl (.cons rfl rfl rfl (.cons rfl rfl rfl (.cons rfl rfl rfl .nil)))))) (.cons rfl rfl rfl (.cons rfl rfl rfl (.cons rfl rfl rfl (.cons rfl rfl rfl .nil)))) .nil) trivial ?_
    intro j hj _
    unfold R2b
    by_cases hjl : j < r.to_[k].ports.length
    · have e5 := ne_self (n := r.to_[k].ports[j])
      repeat' (first
        | refine then_go ?_
        | refine swp_seq ?_
        | refine for_next hjl (weak_sub (.cons rfl rfl rfl (.cons rfl rfl rfl (.cons rfl rfl rfl (.cons rfl rfl rfl (.cons rfl rfl rfl (.cons rfl rfl rfl .nil)))))) (.cons rfl rfl rfl (.cons rfl rfl rfl (.cons rfl rfl rfl (.cons rfl rfl rfl .nil)))) .nil) trivial
        | ((refine swp_region (id := 16) ?_) <;> (refine sops_pure (.free rfl rfl) rfl rfl (po_move rfl rfl) ?_) <;> (first | refine sops_pure (.free rfl rfl) rfl rfl (po_field_bx rfl rfl (tyF rfl)) ?_ | refine sops_pure (.free rfl rfl) rfl rfl (po_field rfl rfl (tyF rfl)) ?_) <;> (first | refine sops_pure (.free rfl rfl) rfl rfl (po_load_bx rfl rfl (tyT rfl) rfl rfl) ?_ | refine sops_pure (.free rfl rfl) rfl rfl (po_load rfl rfl (tyT rfl) rfl) ?_) <;> (refine sops_pure (.free rfl rfl) rfl rfl (po_len rfl rfl (by first | exact .t _ | exact .own rfl rfl | exact .nil _ | exact .emp _) (tyS rfl)) ?_) <;> (refine sops_pure (.free rfl rfl) rfl rfl (po_cmp rfl rfl rfl rfl) ?_) <;> (refine sops_nil ?_))
        | ((refine swp_draw_all (id := 18) mixed (by kernel_rfl) (by kernel_rfl) ?_) <;> (first | refine sdraw_pure (.free rfl rfl) rfl (po_field_bx rfl rfl (tyF rfl)) ?_ | refine sdraw_pure (.free rfl rfl) rfl (po_field rfl rfl (tyF rfl)) ?_) <;> (first | refine sdraw_pure (.free rfl rfl) rfl (po_load_bx rfl rfl (tyT rfl) rfl rfl) ?_ | refine sdraw_pure (.free rfl rfl) rfl (po_load rfl rfl (tyT rfl) rfl) ?_) <;> (refine sdraw_pure (.free rfl rfl) rfl (po_move rfl rfl) ?_) <;> (refine sdraw_pure (.free rfl rfl) rfl (po_index rfl rfl (by first | exact .t _ | exact .own rfl rfl | exact .nil _ | exact .emp _) rfl (tyS rfl) (by first | rfl | omega) (by first | rfl | assumption | exact map_at (by first | assumption | omega))) ?_) <;> (first | refine sdraw_pure (.free rfl rfl) rfl (po_load_bx rfl rfl (tyT rfl) rfl rfl) ?_ | refine sdraw_pure (.free rfl rfl) rfl (po_load rfl rfl (tyT rfl) rfl) ?_) <;> (first | refine sdraw_pure (.free rfl rfl) rfl (po_field_bx rfl rfl (tyF rfl)) ?_ | refine sdraw_pure (.free rfl rfl) rfl (po_field rfl rfl (tyF rfl)) ?_) <;> (first | refine sdraw_pure (.free rfl rfl) rfl (po_load_bx rfl rfl (tyT rfl) rfl rfl) ?_ | refine sdraw_pure (.free rfl rfl) rfl (po_load rfl rfl (tyT rfl) rfl) ?_) <;> (refine sdraw_pure (.free rfl rfl) rfl (po_move rfl rfl) ?_) <;> (refine sdraw_pure (.free rfl rfl) rfl (po_index rfl rfl (by first | exact .t _ | exact .own rfl rfl | exact .nil _ | exact .emp _) rfl (tyS rfl) (by first | rfl | omega) (by first | rfl | assumption | exact map_at (by first | assumption | omega))) ?_) <;> (first | refine sdraw_pure (.free rfl rfl) rfl (po_load_bx rfl rfl (tyT rfl) rfl rfl) ?_ | refine sdraw_pure (.free rfl rfl) rfl (po_load rfl rfl (tyT rfl) rfl) ?_) <;> (refine sdraw_pure (.free rfl rfl) rfl (po_cmp rfl rfl rfl rfl) ?_) <;> (refine sdraw_nil ?_) <;> (refine sops_nil ?_))
        | ((refine swp_region (id := 17) ?_) <;> (refine sops_pure (.free rfl rfl) rfl rfl (po_move rfl rfl) ?_) <;> (first | refine sops_pure (.free rfl rfl) rfl rfl (po_inc rfl rfl rfl (by omega)) ?_ | refine sops_pure (.free rfl rfl) rfl rfl (po_arith rfl rfl rfl (ar_add (by first | rfl | (refine wrap_i64 ?_; omega)) rfl)) ?_) <;> (refine sops_pure (.free rfl rfl) rfl rfl (po_assign rfl rfl) ?_) <;> (refine sops_nil ?_))
        | refine swp_ret ?_
        | refine swp_skip ?_
        | refine swp_block ?_
        | refine swp_exit ?_
        | refine block_go ?_
        | refine block_exit ?_
        | refine block_far rfl ?_
        | refine block_ret ?_
        | refine then_ret ?_
        | refine then_exit ?_
        | refine for_ret ?_
        | refine for_exit ?_
        | refine swp_cond_t rfl (by first | assumption | with_reducible rfl | decide | (simp only [decide_eq_true_eq, Bool.not_eq_true', decide_eq_false_iff_not]; omega)) ?_
        | refine swp_cond_f rfl (by first | assumption | with_reducible rfl | decide | (simp only [decide_eq_false_iff_not, Bool.not_eq_false', decide_eq_true_eq]; omega)) ?_
        | refine swp_cond rfl (fun hc => ?_) (fun hc => ?_)
        | refine retq (by first | exact .inr rfl | exact .inl rfl) rfl (.tmp rfl (by first | exact .t _ | exact .own rfl rfl | exact .nil _ | exact .emp _) .nil) ?_)
    · repeat' (first
      | refine then_go ?_
      | refine swp_seq ?_
      | refine for_next hlt (weak_sub (.cons rfl rfl rfl (.cons rfl rfl rfl (.cons rfl rfl rfl .nil))) (.cons rfl rfl rfl (.cons rfl rfl rfl .nil)) .nil) trivial
      | ((refine swp_region (id := 16) ?_) <;> (refine sops_pure (.free rfl rfl) rfl rfl (po_move rfl rfl) ?_) <;> (first | refine sops_pure (.free rfl rfl) rfl rfl (po_field_bx rfl rfl (tyF rfl)) ?_ | refine sops_pure (.free rfl rfl) rfl rfl (po_field rfl rfl (tyF rfl)) ?_) <;> (first | refine sops_pure (.free rfl rfl) rfl rfl (po_load_bx rfl rfl (tyT rfl) rfl rfl) ?_ | refine sops_pure (.free rfl rfl) rfl rfl (po_load rfl rfl (tyT rfl) rfl) ?_) <;> (refine sops_pure (.free rfl rfl) rfl rfl (po_len rfl rfl (by first | exact .t _ | exact .own rfl rfl | exact .nil _ | exact .emp _) (tyS rfl)) ?_) <;> (refine sops_pure (.free rfl rfl) rfl rfl (po_cmp rfl rfl rfl rfl) ?_) <;> (refine sops_nil ?_))
      | ((refine swp_region (id := 11) ?_) <;> (refine sops_pure (.free rfl rfl) rfl rfl (po_move rfl rfl) ?_) <;> (first | refine sops_pure (.free rfl rfl) rfl rfl (po_inc rfl rfl rfl (by omega)) ?_ | refine sops_pure (.free rfl rfl) rfl rfl (po_arith rfl rfl rfl (ar_add (by first | rfl | (refine wrap_i64 ?_; omega)) rfl)) ?_) <;> (refine sops_pure (.free rfl rfl) rfl rfl (po_assign rfl rfl) ?_) <;> (refine sops_nil ?_))
      | refine swp_ret ?_
      | refine swp_skip ?_
      | refine swp_block ?_
      | refine swp_exit ?_
      | refine block_go ?_
      | refine block_exit ?_
      | refine block_far rfl ?_
      | refine block_ret ?_
      | refine then_ret ?_
      | refine then_exit ?_
      | refine for_ret ?_
      | refine for_exit ?_
      | refine swp_cond_t rfl (by first | assumption | with_reducible rfl | decide | (simp only [decide_eq_true_eq, Bool.not_eq_true', decide_eq_false_iff_not]; omega)) ?_
      | refine swp_cond_f rfl (by first | assumption | with_reducible rfl | decide | (simp only [decide_eq_false_iff_not, Bool.not_eq_false', decide_eq_true_eq]; omega)) ?_
      | refine swp_cond rfl (fun hc => ?_) (fun hc => ?_)
      | refine retq (by first | exact .inr rfl | exact .inl rfl) rfl (.tmp rfl (by first | exact .t _ | exact .own rfl rfl | exact .nil _ | exact .emp _) .nil) ?_)
  obtain rfl : k = r.to_.length := by omega
  repeat' (first
    | refine then_go ?_
    | refine swp_seq ?_
    | ((refine swp_region (id := 10) ?_) <;> (refine sops_pure (.free rfl rfl) rfl rfl (po_move rfl rfl) ?_) <;> (first | refine sops_pure (.free rfl rfl) rfl rfl (po_field_bx rfl rfl (tyF rfl)) ?_ | refine sops_pure (.free rfl rfl) rfl rfl (po_field rfl rfl (tyF rfl)) ?_) <;> (first | refine sops_pure (.free rfl rfl) rfl rfl (po_load_bx rfl rfl (tyT rfl) rfl rfl) ?_ | refine sops_pure (.free rfl rfl) rfl rfl (po_load rfl rfl (tyT rfl) rfl) ?_) <;> (refine sops_pure (.free rfl rfl) rfl rfl (po_len rfl rfl (by first | exact .t _ | exact .own rfl rfl | exact .nil _ | exact .emp _) (tyS rfl)) ?_) <;> (refine sops_pure (.free rfl rfl) rfl rfl (po_cmp rfl rfl rfl rfl) ?_) <;> (refine sops_nil ?_))
    | ((refine swp_region (id := 20) ?_) <;> (refine sops_pure (.free rfl rfl) rfl rfl (po_assign rfl rfl) ?_) <;> (refine sops_nil ?_))
    | refine swp_ret ?_
    | refine swp_skip ?_
    | refine swp_block ?_
    | refine swp_exit ?_
    | refine block_go ?_
    | refine block_exit ?_
    | refine block_far rfl ?_
    | refine block_ret ?_
    | refine then_ret ?_
    | refine then_exit ?_
    | refine for_ret ?_
    | refine for_exit ?_
    | refine swp_cond_t rfl (by first | assumption | with_reducible rfl | decide | (simp only [decide_eq_true_eq, Bool.not_eq_true', decide_eq_false_iff_not]; omega)) ?_
    | refine swp_cond_f rfl (by first | assumption | with_reducible rfl | decide | (simp only [decide_eq_false_iff_not, Bool.not_eq_false', decide_eq_true_eq]; omega)) ?_
    | refine swp_cond rfl (fun hc => ?_) (fun hc => ?_)
    | refine retq (by first | exact .inr rfl | exact .inl rfl) rfl (.tmp rfl (by first | exact .t _ | exact .own rfl rfl | exact .nil _ | exact .emp _) .nil) ?_)
  refine swp_for (R3 r) (fun _ => True) r.when_.length (weak_sub (.cons rfl rfl rfl (.cons rfl rfl rfl (.cons rfl rfl rfl .nil))) (.cons rfl rfl rfl (.cons rfl rfl rfl .nil)) .nil) trivial ?_
  intro k hk _
  unfold R3
  by_cases hlt : k < r.when_.length
  · have b0 := hf.ws _ (List.getElem_mem hlt)
    have c1 := terms_ r.when_[k].terms b0
    have e4 := sne_self (n := r.when_[k].head)
    repeat' (first
      | refine then_go ?_
      | refine swp_seq ?_
      | refine for_next hlt (weak_sub (.cons rfl rfl rfl (.cons rfl rfl rfl (.cons rfl rfl rfl .nil))) (.cons rfl rfl rfl (.cons rfl rfl rfl .nil)) .nil) trivial
      | ((refine swp_region (id := 21) ?_) <;> (refine sops_pure (.free rfl rfl) rfl rfl (po_move rfl rfl) ?_) <;> (first | refine sops_pure (.free rfl rfl) rfl rfl (po_field_bx rfl rfl (tyF rfl)) ?_ | refine sops_pure (.free rfl rfl) rfl rfl (po_field rfl rfl (tyF rfl)) ?_) <;> (first | refine sops_pure (.free rfl rfl) rfl rfl (po_load_bx rfl rfl (tyT rfl) rfl rfl) ?_ | refine sops_pure (.free rfl rfl) rfl rfl (po_load rfl rfl (tyT rfl) rfl) ?_) <;> (refine sops_pure (.free rfl rfl) rfl rfl (po_len rfl rfl (by first | exact .t _ | exact .own rfl rfl | exact .nil _ | exact .emp _) (tyS rfl)) ?_) <;> (refine sops_pure (.free rfl rfl) rfl rfl (po_cmp rfl rfl rfl rfl) ?_) <;> (refine sops_nil ?_))
      | ((refine swp_draw_all (id := 23) mixed (by kernel_rfl) (by kernel_rfl) ?_) <;> (first | refine sdraw_pure (.free rfl rfl) rfl (po_field_bx rfl rfl (tyF rfl)) ?_ | refine sdraw_pure (.free rfl rfl) rfl (po_field rfl rfl (tyF rfl)) ?_) <;> (first | refine sdraw_pure (.free rfl rfl) rfl (po_load_bx rfl rfl (tyT rfl) rfl rfl) ?_ | refine sdraw_pure (.free rfl rfl) rfl (po_load rfl rfl (tyT rfl) rfl) ?_) <;> (refine sdraw_pure (.free rfl rfl) rfl (po_move rfl rfl) ?_) <;> (refine sdraw_pure (.free rfl rfl) rfl (po_index rfl rfl (by first | exact .t _ | exact .own rfl rfl | exact .nil _ | exact .emp _) rfl (tyS rfl) (by first | rfl | omega) (by first | rfl | assumption | exact map_at (by first | assumption | omega))) ?_) <;> (first | refine sdraw_pure (.free rfl rfl) rfl (po_field_bx rfl rfl (tyF rfl)) ?_ | refine sdraw_pure (.free rfl rfl) rfl (po_field rfl rfl (tyF rfl)) ?_) <;> (first | refine sdraw_pure (.free rfl rfl) rfl (po_load_bx rfl rfl (tyT rfl) rfl rfl) ?_ | refine sdraw_pure (.free rfl rfl) rfl (po_load rfl rfl (tyT rfl) rfl) ?_) <;> (first | refine sdraw_pure (.free rfl rfl) rfl (po_field_bx rfl rfl (tyF rfl)) ?_ | refine sdraw_pure (.free rfl rfl) rfl (po_field rfl rfl (tyF rfl)) ?_) <;> (first | refine sdraw_pure (.free rfl rfl) rfl (po_load_bx rfl rfl (tyT rfl) rfl rfl) ?_ | refine sdraw_pure (.free rfl rfl) rfl (po_load rfl rfl (tyT rfl) rfl) ?_) <;> (refine sdraw_pure (.free rfl rfl) rfl (po_move rfl rfl) ?_) <;> (refine sdraw_pure (.free rfl rfl) rfl (po_index rfl rfl (by first | exact .t _ | exact .own rfl rfl | exact .nil _ | exact .emp _) rfl (tyS rfl) (by first | rfl | omega) (by first | rfl | assumption | exact map_at (by first | assumption | omega))) ?_) <;> (first | refine sdraw_pure (.free rfl rfl) rfl (po_field_bx rfl rfl (tyF rfl)) ?_ | refine sdraw_pure (.free rfl rfl) rfl (po_field rfl rfl (tyF rfl)) ?_) <;> (first | refine sdraw_pure (.free rfl rfl) rfl (po_load_bx rfl rfl (tyT rfl) rfl rfl) ?_ | refine sdraw_pure (.free rfl rfl) rfl (po_load rfl rfl (tyT rfl) rfl) ?_) <;> (refine sdraw_pure (.free rfl rfl) rfl (po_str rfl rfl rfl rfl) ?_) <;> (refine sdraw_pure (.free rfl rfl) rfl (po_move rfl rfl) ?_) <;> (first | refine sdraw_pure (.yes rfl rfl rfl (by first | assumption | with_reducible rfl | decide | (simp only [decide_eq_true_eq, decide_eq_false_iff_not]; omega))) rfl (po_field_bx rfl rfl (tyF rfl)) ?_ | refine sdraw_pure (.yes rfl rfl rfl (by first | assumption | with_reducible rfl | decide | (simp only [decide_eq_true_eq, decide_eq_false_iff_not]; omega))) rfl (po_field rfl rfl (tyF rfl)) ?_ | refine sdraw_skip (.no0 rfl rfl rfl (by first | assumption | with_reducible rfl | decide | (simp only [decide_eq_true_eq, decide_eq_false_iff_not]; omega))) rfl ?_ | ((refine sdraw_split rfl rfl rfl (fun hc => ?_) (fun hc => ?_)) <;> (first | refine sdraw_pure (.yes rfl rfl rfl (by first | assumption | with_reducible rfl | decide | (simp only [decide_eq_true_eq, decide_eq_false_iff_not]; omega))) rfl (po_field_bx rfl rfl (tyF rfl)) ?_ | refine sdraw_pure (.yes rfl rfl rfl (by first | assumption | with_reducible rfl | decide | (simp only [decide_eq_true_eq, decide_eq_false_iff_not]; omega))) rfl (po_field rfl rfl (tyF rfl)) ?_ | refine sdraw_skip (.no0 rfl rfl rfl (by first | assumption | with_reducible rfl | decide | (simp only [decide_eq_true_eq, decide_eq_false_iff_not]; omega))) rfl ?_))) <;> (first | refine sdraw_pure (.yes rfl rfl rfl (by first | assumption | with_reducible rfl | decide | (simp only [decide_eq_true_eq, decide_eq_false_iff_not]; omega))) rfl (po_load_bx rfl rfl (tyT rfl) rfl rfl) ?_ | refine sdraw_pure (.yes rfl rfl rfl (by first | assumption | with_reducible rfl | decide | (simp only [decide_eq_true_eq, decide_eq_false_iff_not]; omega))) rfl (po_load rfl rfl (tyT rfl) rfl) ?_ | refine sdraw_skip (.no0 rfl rfl rfl (by first | assumption | with_reducible rfl | decide | (simp only [decide_eq_true_eq, decide_eq_false_iff_not]; omega))) rfl ?_) <;> (first | refine sdraw_pure (.yes rfl rfl rfl (by first | assumption | with_reducible rfl | decide | (simp only [decide_eq_true_eq, decide_eq_false_iff_not]; omega))) rfl (po_move rfl rfl) ?_ | refine sdraw_skip (.no0 rfl rfl rfl (by first | assumption | with_reducible rfl | decide | (simp only [decide_eq_true_eq, decide_eq_false_iff_not]; omega))) rfl ?_) <;> (first | refine sdraw_pure (.yes rfl rfl rfl (by first | assumption | with_reducible rfl | decide | (simp only [decide_eq_true_eq, decide_eq_false_iff_not]; omega))) rfl (po_index rfl rfl (by first | exact .t _ | exact .own rfl rfl | exact .nil _ | exact .emp _) rfl (tyS rfl) (by first | rfl | omega) (by first | rfl | assumption | exact map_at (by first | assumption | omega))) ?_ | refine sdraw_skip (.no0 rfl rfl rfl (by first | assumption | with_reducible rfl | decide | (simp only [decide_eq_true_eq, decide_eq_false_iff_not]; omega))) rfl ?_) <;> (first | refine sdraw_pure (.yes rfl rfl rfl (by first | assumption | with_reducible rfl | decide | (simp only [decide_eq_true_eq, decide_eq_false_iff_not]; omega))) rfl (po_field_bx rfl rfl (tyF rfl)) ?_ | refine sdraw_pure (.yes rfl rfl rfl (by first | assumption | with_reducible rfl | decide | (simp only [decide_eq_true_eq, decide_eq_false_iff_not]; omega))) rfl (po_field rfl rfl (tyF rfl)) ?_ | refine sdraw_skip (.no0 rfl rfl rfl (by first | assumption | with_reducible rfl | decide | (simp only [decide_eq_true_eq, decide_eq_false_iff_not]; omega))) rfl ?_) <;> (first | refine sdraw_pure (.yes rfl rfl rfl (by first | assumption | with_reducible rfl | decide | (simp only [decide_eq_true_eq, decide_eq_false_iff_not]; omega))) rfl (po_load_bx rfl rfl (tyT rfl) rfl rfl) ?_ | refine sdraw_pure (.yes rfl rfl rfl (by first | assumption | with_reducible rfl | decide | (simp only [decide_eq_true_eq, decide_eq_false_iff_not]; omega))) rfl (po_load rfl rfl (tyT rfl) rfl) ?_ | refine sdraw_skip (.no0 rfl rfl rfl (by first | assumption | with_reducible rfl | decide | (simp only [decide_eq_true_eq, decide_eq_false_iff_not]; omega))) rfl ?_) <;> (first | refine sdraw_pure (.yes rfl rfl rfl (by first | assumption | with_reducible rfl | decide | (simp only [decide_eq_true_eq, decide_eq_false_iff_not]; omega))) rfl (po_field_bx rfl rfl (tyF rfl)) ?_ | refine sdraw_pure (.yes rfl rfl rfl (by first | assumption | with_reducible rfl | decide | (simp only [decide_eq_true_eq, decide_eq_false_iff_not]; omega))) rfl (po_field rfl rfl (tyF rfl)) ?_ | refine sdraw_skip (.no0 rfl rfl rfl (by first | assumption | with_reducible rfl | decide | (simp only [decide_eq_true_eq, decide_eq_false_iff_not]; omega))) rfl ?_) <;> (first | refine sdraw_pure (.yes rfl rfl rfl (by first | assumption | with_reducible rfl | decide | (simp only [decide_eq_true_eq, decide_eq_false_iff_not]; omega))) rfl (po_load_bx rfl rfl (tyT rfl) rfl rfl) ?_ | refine sdraw_pure (.yes rfl rfl rfl (by first | assumption | with_reducible rfl | decide | (simp only [decide_eq_true_eq, decide_eq_false_iff_not]; omega))) rfl (po_load rfl rfl (tyT rfl) rfl) ?_ | refine sdraw_skip (.no0 rfl rfl rfl (by first | assumption | with_reducible rfl | decide | (simp only [decide_eq_true_eq, decide_eq_false_iff_not]; omega))) rfl ?_) <;> (first | refine sdraw_pure (.yes rfl rfl rfl (by first | assumption | with_reducible rfl | decide | (simp only [decide_eq_true_eq, decide_eq_false_iff_not]; omega))) rfl (po_move rfl rfl) ?_ | refine sdraw_skip (.no0 rfl rfl rfl (by first | assumption | with_reducible rfl | decide | (simp only [decide_eq_true_eq, decide_eq_false_iff_not]; omega))) rfl ?_) <;> (first | refine sdraw_pure (.yes rfl rfl rfl (by first | assumption | with_reducible rfl | decide | (simp only [decide_eq_true_eq, decide_eq_false_iff_not]; omega))) rfl (po_index rfl rfl (by first | exact .t _ | exact .own rfl rfl | exact .nil _ | exact .emp _) rfl (tyS rfl) (by first | rfl | omega) (by first | rfl | assumption | exact map_at (by first | assumption | omega))) ?_ | refine sdraw_skip (.no0 rfl rfl rfl (by first | assumption | with_reducible rfl | decide | (simp only [decide_eq_true_eq, decide_eq_false_iff_not]; omega))) rfl ?_) <;> (first | refine sdraw_pure (.yes rfl rfl rfl (by first | assumption | with_reducible rfl | decide | (simp only [decide_eq_true_eq, decide_eq_false_iff_not]; omega))) rfl (po_field_bx rfl rfl (tyF rfl)) ?_ | refine sdraw_pure (.yes rfl rfl rfl (by first | assumption | with_reducible rfl | decide | (simp only [decide_eq_true_eq, decide_eq_false_iff_not]; omega))) rfl (po_field rfl rfl (tyF rfl)) ?_ | refine sdraw_skip (.no0 rfl rfl rfl (by first | assumption | with_reducible rfl | decide | (simp only [decide_eq_true_eq, decide_eq_false_iff_not]; omega))) rfl ?_) <;> (first | refine sdraw_pure (.yes rfl rfl rfl (by first | assumption | with_reducible rfl | decide | (simp only [decide_eq_true_eq, decide_eq_false_iff_not]; omega))) rfl (po_load_bx rfl rfl (tyT rfl) rfl rfl) ?_ | refine sdraw_pure (.yes rfl rfl rfl (by first | assumption | with_reducible rfl | decide | (simp only [decide_eq_true_eq, decide_eq_false_iff_not]; omega))) rfl (po_load rfl rfl (tyT rfl) rfl) ?_ | refine sdraw_skip (.no0 rfl rfl rfl (by first | assumption | with_reducible rfl | decide | (simp only [decide_eq_true_eq, decide_eq_false_iff_not]; omega))) rfl ?_) <;> (first | refine sdraw_pure (.yes rfl rfl rfl (by first | assumption | with_reducible rfl | decide | (simp only [decide_eq_true_eq, decide_eq_false_iff_not]; omega))) rfl (po_call (c1) rfl (.cons rfl (by first | exact .t _ | exact .own rfl rfl | exact .nil _ | exact .emp _) (.cons rfl (by first | exact .t _ | exact .own rfl rfl | exact .nil _ | exact .emp _) .nil))) ?_ | refine sdraw_skip (.no0 rfl rfl rfl (by first | assumption | with_reducible rfl | decide | (simp only [decide_eq_true_eq, decide_eq_false_iff_not]; omega))) rfl ?_) <;> (first | refine sdraw_pure (.yes rfl rfl rfl (by first | assumption | with_reducible rfl | decide | (simp only [decide_eq_true_eq, decide_eq_false_iff_not]; omega))) rfl (po_not rfl rfl) ?_ | refine sdraw_skip (.no0 rfl rfl rfl (by first | assumption | with_reducible rfl | decide | (simp only [decide_eq_true_eq, decide_eq_false_iff_not]; omega))) rfl ?_) <;> (first | refine sdraw_pure (.free rfl rfl) rfl (po_pick_t rfl rfl (by first | assumption | with_reducible rfl | decide | (simp only [decide_eq_true_eq, decide_eq_false_iff_not]; omega)) rfl) ?_ | refine sdraw_pure (.free rfl rfl) rfl (po_pick_f rfl rfl (by first | assumption | with_reducible rfl | decide | (simp only [decide_eq_true_eq, decide_eq_false_iff_not]; omega)) rfl) ?_) <;> (refine sdraw_nil ?_) <;> (refine sops_nil ?_))
      | ((refine swp_region (id := 22) ?_) <;> (refine sops_pure (.free rfl rfl) rfl rfl (po_move rfl rfl) ?_) <;> (first | refine sops_pure (.free rfl rfl) rfl rfl (po_inc rfl rfl rfl (by omega)) ?_ | refine sops_pure (.free rfl rfl) rfl rfl (po_arith rfl rfl rfl (ar_add (by first | rfl | (refine wrap_i64 ?_; omega)) rfl)) ?_) <;> (refine sops_pure (.free rfl rfl) rfl rfl (po_assign rfl rfl) ?_) <;> (refine sops_nil ?_))
      | refine swp_ret ?_
      | refine swp_skip ?_
      | refine swp_block ?_
      | refine swp_exit ?_
      | refine block_go ?_
      | refine block_exit ?_
      | refine block_far rfl ?_
      | refine block_ret ?_
      | refine then_ret ?_
      | refine then_exit ?_
      | refine for_ret ?_
      | refine for_exit ?_
      | refine swp_cond_t rfl (by first | assumption | with_reducible rfl | decide | (simp only [decide_eq_true_eq, Bool.not_eq_true', decide_eq_false_iff_not]; omega)) ?_
      | refine swp_cond_f rfl (by first | assumption | with_reducible rfl | decide | (simp only [decide_eq_false_iff_not, Bool.not_eq_false', decide_eq_true_eq]; omega)) ?_
      | refine swp_cond rfl (fun hc => ?_) (fun hc => ?_)
      | refine retq (by first | exact .inr rfl | exact .inl rfl) rfl (.tmp rfl (by first | exact .t _ | exact .own rfl rfl | exact .nil _ | exact .emp _) .nil) ?_)
  · repeat' (first
    | refine then_go ?_
    | refine swp_seq ?_
    | ((refine swp_region (id := 21) ?_) <;> (refine sops_pure (.free rfl rfl) rfl rfl (po_move rfl rfl) ?_) <;> (first | refine sops_pure (.free rfl rfl) rfl rfl (po_field_bx rfl rfl (tyF rfl)) ?_ | refine sops_pure (.free rfl rfl) rfl rfl (po_field rfl rfl (tyF rfl)) ?_) <;> (first | refine sops_pure (.free rfl rfl) rfl rfl (po_load_bx rfl rfl (tyT rfl) rfl rfl) ?_ | refine sops_pure (.free rfl rfl) rfl rfl (po_load rfl rfl (tyT rfl) rfl) ?_) <;> (refine sops_pure (.free rfl rfl) rfl rfl (po_len rfl rfl (by first | exact .t _ | exact .own rfl rfl | exact .nil _ | exact .emp _) (tyS rfl)) ?_) <;> (refine sops_pure (.free rfl rfl) rfl rfl (po_cmp rfl rfl rfl rfl) ?_) <;> (refine sops_nil ?_))
    | ((refine swp_region (id := 25) ?_) <;> (refine sops_pure (.free rfl rfl) rfl rfl (po_assign rfl rfl) ?_) <;> (refine sops_nil ?_))
    | refine swp_ret ?_
    | refine swp_skip ?_
    | refine swp_block ?_
    | refine swp_exit ?_
    | refine block_go ?_
    | refine block_exit ?_
    | refine block_far rfl ?_
    | refine block_ret ?_
    | refine then_ret ?_
    | refine then_exit ?_
    | refine for_ret ?_
    | refine for_exit ?_
    | refine swp_cond_t rfl (by first | assumption | with_reducible rfl | decide | (simp only [decide_eq_true_eq, Bool.not_eq_true', decide_eq_false_iff_not]; omega)) ?_
    | refine swp_cond_f rfl (by first | assumption | with_reducible rfl | decide | (simp only [decide_eq_false_iff_not, Bool.not_eq_false', decide_eq_true_eq]; omega)) ?_
    | refine swp_cond rfl (fun hc => ?_) (fun hc => ?_)
    | refine retq (by first | exact .inr rfl | exact .inl rfl) rfl (.tmp rfl (by first | exact .t _ | exact .own rfl rfl | exact .nil _ | exact .emp _) .nil) ?_)
    rfl
structure FewP (p : Pl.Policy) : Prop where
  n : p.rules.length ≤ 1000
  r : ∀ r ∈ p.rules, FewR r
abbrev pcells (p : Pl.Policy) : List A := [.t (.v (.int .u64 p.id)), .t (.v (.string p.ns)), .t (.v (.int .u64 p.service)), .t (.v (.int .i64 p.deny)), .t (.sl 3 (p.rules.map ruleT))]
set_option maxRecDepth 100000 in
set_option maxHeartbeats 1000000 in
theorem same_ (p : Pl.Policy) (hf : FewP p) : PCalls Try.prog 39 [.agg (polT p), .agg (polT p)] (.v (.bool true)) := by
  have hm1 : (p.rules.map ruleT).length = p.rules.length := List.length_map _
  have n1 := hf.n
  have e1 := ne_self (n := p.id)
  have e2 := sne_self (n := p.ns)
  have e3 := ne_self (n := p.service)
  have e4 := ne_self (n := p.deny)
  have e5 := ne_len (l := p.rules.map ruleT)
  refine pcalls_of Try.func39 rfl rfl Try.ntmps39 rfl ?_
  repeat' (first
    | refine then_go ?_
    | refine swp_seq ?_
    | ((refine swp_region (id := 0) ?_) <;> (refine sops_box (.free rfl rfl) rfl rfl rfl rfl rfl rfl ?_) <;> (refine sops_box (.free rfl rfl) rfl rfl rfl rfl rfl rfl ?_) <;> (refine sops_pure (.free rfl rfl) rfl rfl (po_assign rfl rfl) ?_) <;> (refine sops_nil ?_))
    | ((refine swp_region (id := 1) ?_) <;> (first | refine sops_pure (.free rfl rfl) rfl rfl (po_field_bx rfl rfl (tyF rfl)) ?_ | refine sops_pure (.free rfl rfl) rfl rfl (po_field rfl rfl (tyF rfl)) ?_) <;> (first | refine sops_pure (.free rfl rfl) rfl rfl (po_load_bx rfl rfl (tyT rfl) rfl rfl) ?_ | refine sops_pure (.free rfl rfl) rfl rfl (po_load rfl rfl (tyT rfl) rfl) ?_) <;> (first | refine sops_pure (.free rfl rfl) rfl rfl (po_field_bx rfl rfl (tyF rfl)) ?_ | refine sops_pure (.free rfl rfl) rfl rfl (po_field rfl rfl (tyF rfl)) ?_) <;> (first | refine sops_pure (.free rfl rfl) rfl rfl (po_load_bx rfl rfl (tyT rfl) rfl rfl) ?_ | refine sops_pure (.free rfl rfl) rfl rfl (po_load rfl rfl (tyT rfl) rfl) ?_) <;> (refine sops_pure (.free rfl rfl) rfl rfl (po_cmp rfl rfl rfl rfl) ?_) <;> (refine sops_pure (.free rfl rfl) rfl rfl (po_move rfl rfl) ?_) <;> (first | refine sops_pure (.yes rfl rfl rfl (by first | assumption | with_reducible rfl | decide | (simp only [decide_eq_true_eq, decide_eq_false_iff_not]; omega))) rfl rfl (po_field_bx rfl rfl (tyF rfl)) ?_ | refine sops_pure (.yes rfl rfl rfl (by first | assumption | with_reducible rfl | decide | (simp only [decide_eq_true_eq, decide_eq_false_iff_not]; omega))) rfl rfl (po_field rfl rfl (tyF rfl)) ?_ | refine sops_skip (.no0 rfl rfl rfl (by first | assumption | with_reducible rfl | decide | (simp only [decide_eq_true_eq, decide_eq_false_iff_not]; omega))) rfl rfl ?_ | ((refine sops_split rfl rfl rfl (fun hc => ?_) (fun hc => ?_)) <;> (first | refine sops_pure (.yes rfl rfl rfl (by first | assumption | with_reducible rfl | decide | (simp only [decide_eq_true_eq, decide_eq_false_iff_not]; omega))) rfl rfl (po_field_bx rfl rfl (tyF rfl)) ?_ | refine sops_pure (.yes rfl rfl rfl (by first | assumption | with_reducible rfl | decide | (simp only [decide_eq_true_eq, decide_eq_false_iff_not]; omega))) rfl rfl (po_field rfl rfl (tyF rfl)) ?_ | refine sops_skip (.no0 rfl rfl rfl (by first | assumption | with_reducible rfl | decide | (simp only [decide_eq_true_eq, decide_eq_false_iff_not]; omega))) rfl rfl ?_))) <;> (first | refine sops_pure (.yes rfl rfl rfl (by first | assumption | with_reducible rfl | decide | (simp only [decide_eq_true_eq, decide_eq_false_iff_not]; omega))) rfl rfl (po_load_bx rfl rfl (tyT rfl) rfl rfl) ?_ | refine sops_pure (.yes rfl rfl rfl (by first | assumption | with_reducible rfl | decide | (simp only [decide_eq_true_eq, decide_eq_false_iff_not]; omega))) rfl rfl (po_load rfl rfl (tyT rfl) rfl) ?_ | refine sops_skip (.no0 rfl rfl rfl (by first | assumption | with_reducible rfl | decide | (simp only [decide_eq_true_eq, decide_eq_false_iff_not]; omega))) rfl rfl ?_) <;> (first | refine sops_pure (.yes rfl rfl rfl (by first | assumption | with_reducible rfl | decide | (simp only [decide_eq_true_eq, decide_eq_false_iff_not]; omega))) rfl rfl (po_field_bx rfl rfl (tyF rfl)) ?_ | refine sops_pure (.yes rfl rfl rfl (by first | assumption | with_reducible rfl | decide | (simp only [decide_eq_true_eq, decide_eq_false_iff_not]; omega))) rfl rfl (po_field rfl rfl (tyF rfl)) ?_ | refine sops_skip (.no0 rfl rfl rfl (by first | assumption | with_reducible rfl | decide | (simp only [decide_eq_true_eq, decide_eq_false_iff_not]; omega))) rfl rfl ?_) <;> (first | refine sops_pure (.yes rfl rfl rfl (by first | assumption | with_reducible rfl | decide | (simp only [decide_eq_true_eq, decide_eq_false_iff_not]; omega))) rfl rfl (po_load_bx rfl rfl (tyT rfl) rfl rfl) ?_ | refine sops_pure (.yes rfl rfl rfl (by first | assumption | with_reducible rfl | decide | (simp only [decide_eq_true_eq, decide_eq_false_iff_not]; omega))) rfl rfl (po_load rfl rfl (tyT rfl) rfl) ?_ | refine sops_skip (.no0 rfl rfl rfl (by first | assumption | with_reducible rfl | decide | (simp only [decide_eq_true_eq, decide_eq_false_iff_not]; omega))) rfl rfl ?_) <;> (first | refine sops_pure (.yes rfl rfl rfl (by first | assumption | with_reducible rfl | decide | (simp only [decide_eq_true_eq, decide_eq_false_iff_not]; omega))) rfl rfl (po_str rfl rfl rfl rfl) ?_ | refine sops_skip (.no0 rfl rfl rfl (by first | assumption | with_reducible rfl | decide | (simp only [decide_eq_true_eq, decide_eq_false_iff_not]; omega))) rfl rfl ?_) <;> (first | refine sops_pure (.free rfl rfl) rfl rfl (po_pick_t rfl rfl (by first | assumption | with_reducible rfl | decide | (simp only [decide_eq_true_eq, decide_eq_false_iff_not]; omega)) rfl) ?_ | refine sops_pure (.free rfl rfl) rfl rfl (po_pick_f rfl rfl (by first | assumption | with_reducible rfl | decide | (simp only [decide_eq_true_eq, decide_eq_false_iff_not]; omega)) rfl) ?_) <;> (refine sops_pure (.free rfl rfl) rfl rfl (po_move rfl rfl) ?_) <;> (first | refine sops_pure (.yes rfl rfl rfl (by first | assumption | with_reducible rfl | decide | (simp only [decide_eq_true_eq, decide_eq_false_iff_not]; omega))) rfl rfl (po_field_bx rfl rfl (tyF rfl)) ?_ | refine sops_pure (.yes rfl rfl rfl (by first | assumption | with_reducible rfl | decide | (simp only [decide_eq_true_eq, decide_eq_false_iff_not]; omega))) rfl rfl (po_field rfl rfl (tyF rfl)) ?_ | refine sops_skip (.no0 rfl rfl rfl (by first | assumption | with_reducible rfl | decide | (simp only [decide_eq_true_eq, decide_eq_false_iff_not]; omega))) rfl rfl ?_ | ((refine sops_split rfl rfl rfl (fun hc => ?_) (fun hc => ?_)) <;> (first | refine sops_pure (.yes rfl rfl rfl (by first | assumption | with_reducible rfl | decide | (simp only [decide_eq_true_eq, decide_eq_false_iff_not]; omega))) rfl rfl (po_field_bx rfl rfl (tyF rfl)) ?_ | refine sops_pure (.yes rfl rfl rfl (by first | assumption | with_reducible rfl | decide | (simp only [decide_eq_true_eq, decide_eq_false_iff_not]; omega))) rfl rfl (po_field rfl rfl (tyF rfl)) ?_ | refine sops_skip (.no0 rfl rfl rfl (by first | assumption | with_reducible rfl | decide | (simp only [decide_eq_true_eq, decide_eq_false_iff_not]; omega))) rfl rfl ?_))) <;> (first | refine sops_pure (.yes rfl rfl rfl (by first | assumption | with_reducible rfl | decide | (simp only [decide_eq_true_eq, decide_eq_false_iff_not]; omega))) rfl rfl (po_load_bx rfl rfl (tyT rfl) rfl rfl) ?_ | refine sops_pure (.yes rfl rfl rfl (by first | assumption | with_reducible rfl | decide | (simp only [decide_eq_true_eq, decide_eq_false_iff_not]; omega))) rfl rfl (po_load rfl rfl (tyT rfl) rfl) ?_ | refine sops_skip (.no0 rfl rfl rfl (by first | assumption | with_reducible rfl | decide | (simp only [decide_eq_true_eq, decide_eq_false_iff_not]; omega))) rfl rfl ?_) <;> (first | refine sops_pure (.yes rfl rfl rfl (by first | assumption | with_reducible rfl | decide | (simp only [decide_eq_true_eq, decide_eq_false_iff_not]; omega))) rfl rfl (po_field_bx rfl rfl (tyF rfl)) ?_ | refine sops_pure (.yes rfl rfl rfl (by first | assumption | with_reducible rfl | decide | (simp only [decide_eq_true_eq, decide_eq_false_iff_not]; omega))) rfl rfl (po_field rfl rfl (tyF rfl)) ?_ | refine sops_skip (.no0 rfl rfl rfl (by first | assumption | with_reducible rfl | decide | (simp only [decide_eq_true_eq, decide_eq_false_iff_not]; omega))) rfl rfl ?_) <;> (first | refine sops_pure (.yes rfl rfl rfl (by first | assumption | with_reducible rfl | decide | (simp only [decide_eq_true_eq, decide_eq_false_iff_not]; omega))) rfl rfl (po_load_bx rfl rfl (tyT rfl) rfl rfl) ?_ | refine sops_pure (.yes rfl rfl rfl (by first | assumption | with_reducible rfl | decide | (simp only [decide_eq_true_eq, decide_eq_false_iff_not]; omega))) rfl rfl (po_load rfl rfl (tyT rfl) rfl) ?_ | refine sops_skip (.no0 rfl rfl rfl (by first | assumption | with_reducible rfl | decide | (simp only [decide_eq_true_eq, decide_eq_false_iff_not]; omega))) rfl rfl ?_) <;> (first | refine sops_pure (.yes rfl rfl rfl (by first | assumption | with_reducible rfl | decide | (simp only [decide_eq_true_eq, decide_eq_false_iff_not]; omega))) rfl rfl (po_cmp rfl rfl rfl rfl) ?_ | refine sops_skip (.no0 rfl rfl rfl (by first | assumption | with_reducible rfl | decide | (simp only [decide_eq_true_eq, decide_eq_false_iff_not]; omega))) rfl rfl ?_) <;> (first | refine sops_pure (.free rfl rfl) rfl rfl (po_pick_t rfl rfl (by first | assumption | with_reducible rfl | decide | (simp only [decide_eq_true_eq, decide_eq_false_iff_not]; omega)) rfl) ?_ | refine sops_pure (.free rfl rfl) rfl rfl (po_pick_f rfl rfl (by first | assumption | with_reducible rfl | decide | (simp only [decide_eq_true_eq, decide_eq_false_iff_not]; omega)) rfl) ?_) <;> (refine sops_pure (.free rfl rfl) rfl rfl (po_move rfl rfl) ?_) <;> (first | refine sops_pure (.yes rfl rfl rfl (by first | assumption | with_reducible rfl | decide | (simp only [decide_eq_true_eq, decide_eq_false_iff_not]; omega))) rfl rfl (po_field_bx rfl rfl (tyF rfl)) ?_ | refine sops_pure (.yes rfl rfl rfl (by first | assumption | with_reducible rfl | decide | (simp only [decide_eq_true_eq, decide_eq_false_iff_not]; omega))) rfl rfl (po_field rfl rfl (tyF rfl)) ?_ | refine sops_skip (.no0 rfl rfl rfl (by first | assumption | with_reducible rfl | decide | (simp only [decide_eq_true_eq, decide_eq_false_iff_not]; omega))) rfl rfl ?_ | ((refine sops_split rfl rfl rfl (fun hc => ?_) (fun hc => ?_)) <;> (first | refine sops_pure (.yes rfl rfl rfl (by first | assumption | with_reducible rfl | decide | (simp only [decide_eq_true_eq, decide_eq_false_iff_not]; omega))) rfl rfl (po_field_bx rfl rfl (tyF rfl)) ?_ | refine sops_pure (.yes rfl rfl rfl (by first | assumption | with_reducible rfl | decide | (simp only [decide_eq_true_eq, decide_eq_false_iff_not]; omega))) rfl rfl (po_field rfl rfl (tyF rfl)) ?_ | refine sops_skip (.no0 rfl rfl rfl (by first | assumption | with_reducible rfl | decide | (simp only [decide_eq_true_eq, decide_eq_false_iff_not]; omega))) rfl rfl ?_))) <;> (first | refine sops_pure (.yes rfl rfl rfl (by first | assumption | with_reducible rfl | decide | (simp only [decide_eq_true_eq, decide_eq_false_iff_not]; omega))) rfl rfl (po_load_bx rfl rfl (tyT rfl) rfl rfl) ?_ | refine sops_pure (.yes rfl rfl rfl (by first | assumption | with_reducible rfl | decide | (simp only [decide_eq_true_eq, decide_eq_false_iff_not]; omega))) rfl rfl (po_load rfl rfl (tyT rfl) rfl) ?_ | refine sops_skip (.no0 rfl rfl rfl (by first | assumption | with_reducible rfl | decide | (simp only [decide_eq_true_eq, decide_eq_false_iff_not]; omega))) rfl rfl ?_) <;> (first | refine sops_pure (.yes rfl rfl rfl (by first | assumption | with_reducible rfl | decide | (simp only [decide_eq_true_eq, decide_eq_false_iff_not]; omega))) rfl rfl (po_field_bx rfl rfl (tyF rfl)) ?_ | refine sops_pure (.yes rfl rfl rfl (by first | assumption | with_reducible rfl | decide | (simp only [decide_eq_true_eq, decide_eq_false_iff_not]; omega))) rfl rfl (po_field rfl rfl (tyF rfl)) ?_ | refine sops_skip (.no0 rfl rfl rfl (by first | assumption | with_reducible rfl | decide | (simp only [decide_eq_true_eq, decide_eq_false_iff_not]; omega))) rfl rfl ?_) <;> (first | refine sops_pure (.yes rfl rfl rfl (by first | assumption | with_reducible rfl | decide | (simp only [decide_eq_true_eq, decide_eq_false_iff_not]; omega))) rfl rfl (po_load_bx rfl rfl (tyT rfl) rfl rfl) ?_ | refine sops_pure (.yes rfl rfl rfl (by first | assumption | with_reducible rfl | decide | (simp only [decide_eq_true_eq, decide_eq_false_iff_not]; omega))) rfl rfl (po_load rfl rfl (tyT rfl) rfl) ?_ | refine sops_skip (.no0 rfl rfl rfl (by first | assumption | with_reducible rfl | decide | (simp only [decide_eq_true_eq, decide_eq_false_iff_not]; omega))) rfl rfl ?_) <;> (first | refine sops_pure (.yes rfl rfl rfl (by first | assumption | with_reducible rfl | decide | (simp only [decide_eq_true_eq, decide_eq_false_iff_not]; omega))) rfl rfl (po_cmp rfl rfl rfl rfl) ?_ | refine sops_skip (.no0 rfl rfl rfl (by first | assumption | with_reducible rfl | decide | (simp only [decide_eq_true_eq, decide_eq_false_iff_not]; omega))) rfl rfl ?_) <;> (first | refine sops_pure (.free rfl rfl) rfl rfl (po_pick_t rfl rfl (by first | assumption | with_reducible rfl | decide | (simp only [decide_eq_true_eq, decide_eq_false_iff_not]; omega)) rfl) ?_ | refine sops_pure (.free rfl rfl) rfl rfl (po_pick_f rfl rfl (by first | assumption | with_reducible rfl | decide | (simp only [decide_eq_true_eq, decide_eq_false_iff_not]; omega)) rfl) ?_) <;> (refine sops_pure (.free rfl rfl) rfl rfl (po_move rfl rfl) ?_) <;> (first | refine sops_pure (.yes rfl rfl rfl (by first | assumption | with_reducible rfl | decide | (simp only [decide_eq_true_eq, decide_eq_false_iff_not]; omega))) rfl rfl (po_field_bx rfl rfl (tyF rfl)) ?_ | refine sops_pure (.yes rfl rfl rfl (by first | assumption | with_reducible rfl | decide | (simp only [decide_eq_true_eq, decide_eq_false_iff_not]; omega))) rfl rfl (po_field rfl rfl (tyF rfl)) ?_ | refine sops_skip (.no0 rfl rfl rfl (by first | assumption | with_reducible rfl | decide | (simp only [decide_eq_true_eq, decide_eq_false_iff_not]; omega))) rfl rfl ?_ | ((refine sops_split rfl rfl rfl (fun hc => ?_) (fun hc => ?_)) <;> (first | refine sops_pure (.yes rfl rfl rfl (by first | assumption | with_reducible rfl | decide | (simp only [decide_eq_true_eq, decide_eq_false_iff_not]; omega))) rfl rfl (po_field_bx rfl rfl (tyF rfl)) ?_ | refine sops_pure (.yes rfl rfl rfl (by first | assumption | with_reducible rfl | decide | (simp only [decide_eq_true_eq, decide_eq_false_iff_not]; omega))) rfl rfl (po_field rfl rfl (tyF rfl)) ?_ | refine sops_skip (.no0 rfl rfl rfl (by first | assumption | with_reducible rfl | decide | (simp only [decide_eq_true_eq, decide_eq_false_iff_not]; omega))) rfl rfl ?_))) <;> (first | refine sops_pure (.yes rfl rfl rfl (by first | assumption | with_reducible rfl | decide | (simp only [decide_eq_true_eq, decide_eq_false_iff_not]; omega))) rfl rfl (po_load_bx rfl rfl (tyT rfl) rfl rfl) ?_ | refine sops_pure (.yes rfl rfl rfl (by first | assumption | with_reducible rfl | decide | (simp only [decide_eq_true_eq, decide_eq_false_iff_not]; omega))) rfl rfl (po_load rfl rfl (tyT rfl) rfl) ?_ | refine sops_skip (.no0 rfl rfl rfl (by first | assumption | with_reducible rfl | decide | (simp only [decide_eq_true_eq, decide_eq_false_iff_not]; omega))) rfl rfl ?_) <;> (first | refine sops_pure (.yes rfl rfl rfl (by first | assumption | with_reducible rfl | decide | (simp only [decide_eq_true_eq, decide_eq_false_iff_not]; omega))) rfl rfl (po_len rfl rfl (by first | exact .t _ | exact .own rfl rfl | exact .nil _ | exact .emp _) (tyS rfl)) ?_ | refine sops_skip (.no0 rfl rfl rfl (by first | assumption | with_reducible rfl | decide | (simp only [decide_eq_true_eq, decide_eq_false_iff_not]; omega))) rfl rfl ?_) <;> (first | refine sops_pure (.yes rfl rfl rfl (by first | assumption | with_reducible rfl | decide | (simp only [decide_eq_true_eq, decide_eq_false_iff_not]; omega))) rfl rfl (po_field_bx rfl rfl (tyF rfl)) ?_ | refine sops_pure (.yes rfl rfl rfl (by first | assumption | with_reducible rfl | decide | (simp only [decide_eq_true_eq, decide_eq_false_iff_not]; omega))) rfl rfl (po_field rfl rfl (tyF rfl)) ?_ | refine sops_skip (.no0 rfl rfl rfl (by first | assumption | with_reducible rfl | decide | (simp only [decide_eq_true_eq, decide_eq_false_iff_not]; omega))) rfl rfl ?_) <;> (first | refine sops_pure (.yes rfl rfl rfl (by first | assumption | with_reducible rfl | decide | (simp only [decide_eq_true_eq, decide_eq_false_iff_not]; omega))) rfl rfl (po_load_bx rfl rfl (tyT rfl) rfl rfl) ?_ | refine sops_pure (.yes rfl rfl rfl (by first | assumption | with_reducible rfl | decide | (simp only [decide_eq_true_eq, decide_eq_false_iff_not]; omega))) rfl rfl (po_load rfl rfl (tyT rfl) rfl) ?_ | refine sops_skip (.no0 rfl rfl rfl (by first | assumption | with_reducible rfl | decide | (simp only [decide_eq_true_eq, decide_eq_false_iff_not]; omega))) rfl rfl ?_) <;> (first | refine sops_pure (.yes rfl rfl rfl (by first | assumption | with_reducible rfl | decide | (simp only [decide_eq_true_eq, decide_eq_false_iff_not]; omega))) rfl rfl (po_len rfl rfl (by first | exact .t _ | exact .own rfl rfl | exact .nil _ | exact .emp _) (tyS rfl)) ?_ | refine sops_skip (.no0 rfl rfl rfl (by first | assumption | with_reducible rfl | decide | (simp only [decide_eq_true_eq, decide_eq_false_iff_not]; omega))) rfl rfl ?_) <;> (first | refine sops_pure (.yes rfl rfl rfl (by first | assumption | with_reducible rfl | decide | (simp only [decide_eq_true_eq, decide_eq_false_iff_not]; omega))) rfl rfl (po_cmp rfl rfl rfl rfl) ?_ | refine sops_skip (.no0 rfl rfl rfl (by first | assumption | with_reducible rfl | decide | (simp only [decide_eq_true_eq, decide_eq_false_iff_not]; omega))) rfl rfl ?_) <;> (first | refine sops_pure (.free rfl rfl) rfl rfl (po_pick_t rfl rfl (by first | assumption | with_reducible rfl | decide | (simp only [decide_eq_true_eq, decide_eq_false_iff_not]; omega)) rfl) ?_ | refine sops_pure (.free rfl rfl) rfl rfl (po_pick_f rfl rfl (by first | assumption | with_reducible rfl | decide | (simp only [decide_eq_true_eq, decide_eq_false_iff_not]; omega)) rfl) ?_) <;> (refine sops_nil ?_))
    | ((refine swp_region (id := 3) ?_) <;> (refine sops_pure (.free rfl rfl) rfl rfl (po_assign rfl rfl) ?_) <;> (refine sops_nil ?_))
    | refine swp_ret ?_
    | refine swp_skip ?_
    | refine swp_block ?_
    | refine swp_exit ?_
    | refine block_go ?_
    | refine block_exit ?_
    | refine block_far rfl ?_
    | refine block_ret ?_
    | refine then_ret ?_
    | refine then_exit ?_
    | refine for_ret ?_
    | refine for_exit ?_
    | refine swp_cond_t rfl (by first | assumption | with_reducible rfl | decide | (simp only [decide_eq_true_eq, Bool.not_eq_true', decide_eq_false_iff_not]; omega)) ?_
    | refine swp_cond_f rfl (by first | assumption | with_reducible rfl | decide | (simp only [decide_eq_false_iff_not, Bool.not_eq_false', decide_eq_true_eq]; omega)) ?_
    | refine swp_cond rfl (fun hc => ?_) (fun hc => ?_)
    | refine retq (by first | exact .inr rfl | exact .inl rfl) rfl (.tmp rfl (by first | exact .t _ | exact .own rfl rfl | exact .nil _ | exact .emp _) .nil) ?_)
  refine swp_for (fun k => ⟨[(2, .bp 2 0), (3, .bp 3 0), (5, .t (.v (.int .i64 (k : Int))))], [(2, pcells p), (3, pcells p)], []⟩) (fun k => True) p.rules.length (weak_sub (.cons rfl rfl rfl (.cons rfl rfl rfl (.cons rfl rfl rfl .nil))) (.cons rfl rfl rfl (.cons rfl rfl rfl .nil)) .nil) trivial ?_
  intro k hk _
  by_cases hlt : k < p.rules.length
  · have c1 := sameRule_ p.rules[k] (hf.r _ (List.getElem_mem hlt))
    repeat' (first
      | refine then_go ?_
      | refine swp_seq ?_
      | refine for_next hlt (weak_sub (.cons rfl rfl rfl (.cons rfl rfl rfl (.cons rfl rfl rfl .nil))) (.cons rfl rfl rfl (.cons rfl rfl rfl .nil)) .nil) trivial
      | ((refine swp_region (id := 4) ?_) <;> (refine sops_pure (.free rfl rfl) rfl rfl (po_move rfl rfl) ?_) <;> (first | refine sops_pure (.free rfl rfl) rfl rfl (po_field_bx rfl rfl (tyF rfl)) ?_ | refine sops_pure (.free rfl rfl) rfl rfl (po_field rfl rfl (tyF rfl)) ?_) <;> (first | refine sops_pure (.free rfl rfl) rfl rfl (po_load_bx rfl rfl (tyT rfl) rfl rfl) ?_ | refine sops_pure (.free rfl rfl) rfl rfl (po_load rfl rfl (tyT rfl) rfl) ?_) <;> (refine sops_pure (.free rfl rfl) rfl rfl (po_len rfl rfl (by first | exact .t _ | exact .own rfl rfl | exact .nil _ | exact .emp _) (tyS rfl)) ?_) <;> (refine sops_pure (.free rfl rfl) rfl rfl (po_cmp rfl rfl rfl rfl) ?_) <;> (refine sops_nil ?_))
      | ((refine swp_draw_all (id := 6) mixed (by kernel_rfl) (by kernel_rfl) ?_) <;> (first | refine sdraw_pure (.free rfl rfl) rfl (po_field_bx rfl rfl (tyF rfl)) ?_ | refine sdraw_pure (.free rfl rfl) rfl (po_field rfl rfl (tyF rfl)) ?_) <;> (first | refine sdraw_pure (.free rfl rfl) rfl (po_load_bx rfl rfl (tyT rfl) rfl rfl) ?_ | refine sdraw_pure (.free rfl rfl) rfl (po_load rfl rfl (tyT rfl) rfl) ?_) <;> (refine sdraw_pure (.free rfl rfl) rfl (po_move rfl rfl) ?_) <;> (refine sdraw_pure (.free rfl rfl) rfl (po_index rfl rfl (by first | exact .t _ | exact .own rfl rfl | exact .nil _ | exact .emp _) rfl (tyS rfl) (by first | rfl | omega) (by first | rfl | assumption | exact map_at (by first | assumption | omega))) ?_) <;> (first | refine sdraw_pure (.free rfl rfl) rfl (po_load_bx_agg rfl rfl (tyT rfl) rfl (.cons (by first | exact .t _ | exact .own rfl rfl | exact .nil _ | exact .emp _) (.cons (by first | exact .t _ | exact .own rfl rfl | exact .nil _ | exact .emp _) (.cons (by first | exact .t _ | exact .own rfl rfl | exact .nil _ | exact .emp _) .nil))) rfl) ?_ | refine sdraw_pure (.free rfl rfl) rfl (po_load_agg rfl rfl (tyT rfl) rfl rfl) ?_) <;> (first | refine sdraw_pure (.free rfl rfl) rfl (po_field_bx rfl rfl (tyF rfl)) ?_ | refine sdraw_pure (.free rfl rfl) rfl (po_field rfl rfl (tyF rfl)) ?_) <;> (first | refine sdraw_pure (.free rfl rfl) rfl (po_load_bx rfl rfl (tyT rfl) rfl rfl) ?_ | refine sdraw_pure (.free rfl rfl) rfl (po_load rfl rfl (tyT rfl) rfl) ?_) <;> (refine sdraw_pure (.free rfl rfl) rfl (po_move rfl rfl) ?_) <;> (refine sdraw_pure (.free rfl rfl) rfl (po_index rfl rfl (by first | exact .t _ | exact .own rfl rfl | exact .nil _ | exact .emp _) rfl (tyS rfl) (by first | rfl | omega) (by first | rfl | assumption | exact map_at (by first | assumption | omega))) ?_) <;> (first | refine sdraw_pure (.free rfl rfl) rfl (po_load_bx_agg rfl rfl (tyT rfl) rfl (.cons (by first | exact .t _ | exact .own rfl rfl | exact .nil _ | exact .emp _) (.cons (by first | exact .t _ | exact .own rfl rfl | exact .nil _ | exact .emp _) (.cons (by first | exact .t _ | exact .own rfl rfl | exact .nil _ | exact .emp _) .nil))) rfl) ?_ | refine sdraw_pure (.free rfl rfl) rfl (po_load_agg rfl rfl (tyT rfl) rfl rfl) ?_) <;> (refine sdraw_pure (.free rfl rfl) rfl (po_call (c1) rfl (.cons rfl (by first | exact .t _ | exact .own rfl rfl | exact .nil _ | exact .emp _) (.cons rfl (by first | exact .t _ | exact .own rfl rfl | exact .nil _ | exact .emp _) .nil))) ?_) <;> (refine sdraw_pure (.free rfl rfl) rfl (po_not rfl rfl) ?_) <;> (refine sdraw_nil ?_) <;> (refine sops_nil ?_))
      | ((refine swp_region (id := 5) ?_) <;> (refine sops_pure (.free rfl rfl) rfl rfl (po_move rfl rfl) ?_) <;> (first | refine sops_pure (.free rfl rfl) rfl rfl (po_inc rfl rfl rfl (by omega)) ?_ | refine sops_pure (.free rfl rfl) rfl rfl (po_arith rfl rfl rfl (ar_add (by first | rfl | (refine wrap_i64 ?_; omega)) rfl)) ?_) <;> (refine sops_pure (.free rfl rfl) rfl rfl (po_assign rfl rfl) ?_) <;> (refine sops_nil ?_))
      | refine swp_ret ?_
      | refine swp_skip ?_
      | refine swp_block ?_
      | refine swp_exit ?_
      | refine block_go ?_
      | refine block_exit ?_
      | refine block_far rfl ?_
      | refine block_ret ?_
      | refine then_ret ?_
      | refine then_exit ?_
      | refine for_ret ?_
      | refine for_exit ?_
      | refine swp_cond_t rfl (by first | assumption | with_reducible rfl | decide | (simp only [decide_eq_true_eq, Bool.not_eq_true', decide_eq_false_iff_not]; omega)) ?_
      | refine swp_cond_f rfl (by first | assumption | with_reducible rfl | decide | (simp only [decide_eq_false_iff_not, Bool.not_eq_false', decide_eq_true_eq]; omega)) ?_
      | refine swp_cond rfl (fun hc => ?_) (fun hc => ?_)
      | refine retq (by first | exact .inr rfl | exact .inl rfl) rfl (.tmp rfl (by first | exact .t _ | exact .own rfl rfl | exact .nil _ | exact .emp _) .nil) ?_)
  · repeat' (first
    | refine then_go ?_
    | refine swp_seq ?_
    | ((refine swp_region (id := 4) ?_) <;> (refine sops_pure (.free rfl rfl) rfl rfl (po_move rfl rfl) ?_) <;> (first | refine sops_pure (.free rfl rfl) rfl rfl (po_field_bx rfl rfl (tyF rfl)) ?_ | refine sops_pure (.free rfl rfl) rfl rfl (po_field rfl rfl (tyF rfl)) ?_) <;> (first | refine sops_pure (.free rfl rfl) rfl rfl (po_load_bx rfl rfl (tyT rfl) rfl rfl) ?_ | refine sops_pure (.free rfl rfl) rfl rfl (po_load rfl rfl (tyT rfl) rfl) ?_) <;> (refine sops_pure (.free rfl rfl) rfl rfl (po_len rfl rfl (by first | exact .t _ | exact .own rfl rfl | exact .nil _ | exact .emp _) (tyS rfl)) ?_) <;> (refine sops_pure (.free rfl rfl) rfl rfl (po_cmp rfl rfl rfl rfl) ?_) <;> (refine sops_nil ?_))
    | ((refine swp_region (id := 8) ?_) <;> (refine sops_pure (.free rfl rfl) rfl rfl (po_assign rfl rfl) ?_) <;> (refine sops_nil ?_))
    | refine swp_ret ?_
    | refine swp_skip ?_
    | refine swp_block ?_
    | refine swp_exit ?_
    | refine block_go ?_
    | refine block_exit ?_
    | refine block_far rfl ?_
    | refine block_ret ?_
    | refine then_ret ?_
    | refine then_exit ?_
    | refine for_ret ?_
    | refine for_exit ?_
    | refine swp_cond_t rfl (by first | assumption | with_reducible rfl | decide | (simp only [decide_eq_true_eq, Bool.not_eq_true', decide_eq_false_iff_not]; omega)) ?_
    | refine swp_cond_f rfl (by first | assumption | with_reducible rfl | decide | (simp only [decide_eq_false_iff_not, Bool.not_eq_false', decide_eq_true_eq]; omega)) ?_
    | refine swp_cond rfl (fun hc => ?_) (fun hc => ?_)
    | refine retq (by first | exact .inr rfl | exact .inl rfl) rfl (.tmp rfl (by first | exact .t _ | exact .own rfl rfl | exact .nil _ | exact .emp _) .nil) ?_)
    rfl
def C0 (p : Pl.Policy) (k : Nat) : St := ⟨[(1, .bp 1 0), (2, .bp 2 0), (3, .own 130 ((p.rules.take k).map ruleT).length), (4, .t (.v (.int .i64 (k : Int))))], [(1, pcells p), (2, [.t (.v (.int .u64 0)), .t (.v (.string ⟨#[]⟩)), .t (.v (.int .u64 0)), .t (.v (.int .i64 0)), nil0])], [(130, ⟨71, 3, (p.rules.take k).map ruleT⟩)]⟩
set_option maxRecDepth 100000 in
set_option maxHeartbeats 1000000 in
theorem copy_ (p : Pl.Policy) (hf : FewP p) : PCalls Try.prog 36 [.agg (polT p)] (.agg (polT p)) := by
  have hm1 : (p.rules.map ruleT).length = p.rules.length := List.length_map _
  have n1 := hf.n
  refine pcalls_of Try.func36 rfl rfl Try.ntmps36 rfl ?_
  repeat' (first
    | refine then_go ?_
    | refine swp_seq ?_
    | ((refine swp_region (id := 0) ?_) <;> (refine sops_box (.free rfl rfl) rfl rfl rfl rfl rfl rfl ?_) <;> (refine sops_allocS str61 (.free rfl rfl) rfl rfl rfl rfl ?_) <;> (refine sops_nil ?_))
    | ((refine swp_region (id := 1) ?_) <;> (refine sops_pure (.free rfl rfl) rfl rfl (po_assign rfl rfl) ?_) <;> (refine sops_nil ?_))
    | ((refine swp_region (id := 2) ?_) <;> (refine sops_pure (.free rfl rfl) rfl rfl (po_assign rfl rfl) ?_) <;> (refine sops_nil ?_))
    | refine swp_ret ?_
    | refine swp_skip ?_
    | refine swp_block ?_
    | refine swp_exit ?_
    | refine block_go ?_
    | refine block_exit ?_
    | refine block_far rfl ?_
    | refine block_ret ?_
    | refine then_ret ?_
    | refine then_exit ?_
    | refine for_ret ?_
    | refine for_exit ?_
    | refine swp_cond_t rfl (by first | assumption | with_reducible rfl | decide | (simp only [decide_eq_true_eq, Bool.not_eq_true', decide_eq_false_iff_not]; omega)) ?_
    | refine swp_cond_f rfl (by first | assumption | with_reducible rfl | decide | (simp only [decide_eq_false_iff_not, Bool.not_eq_false', decide_eq_true_eq]; omega)) ?_
    | refine swp_cond rfl (fun hc => ?_) (fun hc => ?_)
    | refine retq (by first | exact .inr rfl | exact .inl rfl) rfl (.cell rfl rfl (tyT rfl) (.cons (by first | exact .t _ | exact .own rfl rfl | exact .nil _ | exact .emp _) (.cons (by first | exact .t _ | exact .own rfl rfl | exact .nil _ | exact .emp _) (.cons (by first | exact .t _ | exact .own rfl rfl | exact .nil _ | exact .emp _) (.cons (by first | exact .t _ | exact .own rfl rfl | exact .nil _ | exact .emp _) (.cons (by first | exact .t _ | exact .own rfl rfl | exact .nil _ | exact .emp _) .nil))))) rfl .nil) ?_)
  refine swp_for (C0 p) (fun _ => True) p.rules.length ?_ trivial ?_
  · refine Weak.trans (weak_own0 (i := 130) 71 3 (s := 3) rfl rfl) ?_
    exact (weak_sub (.cons rfl rfl rfl (.cons rfl rfl rfl (.cons rfl rfl rfl (.cons rfl rfl rfl .nil)))) (.cons rfl rfl rfl (.cons rfl rfl rfl .nil)) (.cons rfl rfl .nil))
  intro k hk _
  unfold C0
  by_cases hlt : k < p.rules.length
  · have c1 := copyRule_ p.rules[k] (hf.r _ (List.getElem_mem hlt))
    have hsn := map_take_succ ruleT hlt
    have g1 : (((p.rules.take k).map ruleT).length + 1) * 72 ≤ 140737488355328 := by rw [List.length_map, List.length_take]; omega
    repeat' (first
      | refine then_go ?_
      | refine swp_seq ?_
      | refine for_next hlt (weak_sub (.cons rfl (by first | rfl | (rw [hsn]; try rfl)) rfl (.cons rfl (by first | rfl | (rw [hsn]; try rfl)) rfl (.cons rfl (by first | rfl | (rw [hsn]; try rfl)) rfl (.cons rfl (by first | rfl | (rw [hsn]; try rfl)) rfl .nil)))) (.cons rfl (by first | rfl | (rw [hsn]; try rfl)) rfl (.cons rfl (by first | rfl | (rw [hsn]; try rfl)) rfl .nil)) (.cons rfl (by first | rfl | (rw [hsn]; try rfl)) .nil)) trivial
      | ((refine swp_region (id := 3) ?_) <;> (refine sops_pure (.free rfl rfl) rfl rfl (po_move rfl rfl) ?_) <;> (first | refine sops_pure (.free rfl rfl) rfl rfl (po_field_bx rfl rfl (tyF rfl)) ?_ | refine sops_pure (.free rfl rfl) rfl rfl (po_field rfl rfl (tyF rfl)) ?_) <;> (first | refine sops_pure (.free rfl rfl) rfl rfl (po_load_bx rfl rfl (tyT rfl) rfl rfl) ?_ | refine sops_pure (.free rfl rfl) rfl rfl (po_load rfl rfl (tyT rfl) rfl) ?_) <;> (refine sops_pure (.free rfl rfl) rfl rfl (po_len rfl rfl (by first | exact .t _ | exact .own rfl rfl | exact .nil _ | exact .emp _) (tyS rfl)) ?_) <;> (refine sops_pure (.free rfl rfl) rfl rfl (po_cmp rfl rfl rfl rfl) ?_) <;> (refine sops_nil ?_))
      | ((refine swp_region (id := 5) ?_) <;> (refine sops_pure (.free rfl rfl) rfl rfl (po_move rfl rfl) ?_) <;> (first | refine sops_pure (.free rfl rfl) rfl rfl (po_field_bx rfl rfl (tyF rfl)) ?_ | refine sops_pure (.free rfl rfl) rfl rfl (po_field rfl rfl (tyF rfl)) ?_) <;> (first | refine sops_pure (.free rfl rfl) rfl rfl (po_load_bx rfl rfl (tyT rfl) rfl rfl) ?_ | refine sops_pure (.free rfl rfl) rfl rfl (po_load rfl rfl (tyT rfl) rfl) ?_) <;> (refine sops_pure (.free rfl rfl) rfl rfl (po_move rfl rfl) ?_) <;> (refine sops_pure (.free rfl rfl) rfl rfl (po_index rfl rfl (by first | exact .t _ | exact .own rfl rfl | exact .nil _ | exact .emp _) rfl (tyS rfl) (by first | rfl | omega) (by first | rfl | assumption | exact map_at (by first | assumption | omega))) ?_) <;> (first | refine sops_pure (.free rfl rfl) rfl rfl (po_load_bx_agg rfl rfl (tyT rfl) rfl (.cons (by first | exact .t _ | exact .own rfl rfl | exact .nil _ | exact .emp _) (.cons (by first | exact .t _ | exact .own rfl rfl | exact .nil _ | exact .emp _) (.cons (by first | exact .t _ | exact .own rfl rfl | exact .nil _ | exact .emp _) .nil))) rfl) ?_ | refine sops_pure (.free rfl rfl) rfl rfl (po_load_agg rfl rfl (tyT rfl) rfl rfl) ?_) <;> (refine sops_pure (.free rfl rfl) rfl rfl (po_call (c1) rfl (.cons rfl (by first | exact .t _ | exact .own rfl rfl | exact .nil _ | exact .emp _) .nil)) ?_) <;> (refine sops_pure (.free rfl rfl) rfl rfl (po_buildSlice rfl (tyE rfl) (.cons rfl (by first | exact .t _ | exact .own rfl rfl | exact .nil _ | exact .emp _) rfl rfl (.nil _)) rfl rfl rfl) ?_) <;> (first | refine sops_append rfl rfl rfl rfl rfl rfl (by first | rfl | simp) rfl (by first | exact .t _ | exact .own rfl rfl | exact .nil _ | exact .emp _) (tyE rfl) (by first | assumption | (simp at *; omega)) (by first | assumption | (simp [maxLen] at *; omega)) ?_ | refine sops_append_nil rfl rfl rfl rfl rfl rfl rfl (by first | exact .t _ | exact .own rfl rfl | exact .nil _ | exact .emp _) (tyE rfl) (by first | assumption | (simp at *; omega)) (by first | assumption | (simp [maxLen] at *; omega)) ?_) <;> (refine sops_pure (.free rfl rfl) rfl rfl (po_assign rfl rfl) ?_) <;> (refine sops_nil ?_))
      | ((refine swp_region (id := 4) ?_) <;> (refine sops_pure (.free rfl rfl) rfl rfl (po_move rfl rfl) ?_) <;> (first | refine sops_pure (.free rfl rfl) rfl rfl (po_inc rfl rfl rfl (by omega)) ?_ | refine sops_pure (.free rfl rfl) rfl rfl (po_arith rfl rfl rfl (ar_add (by first | rfl | (refine wrap_i64 ?_; omega)) rfl)) ?_) <;> (refine sops_pure (.free rfl rfl) rfl rfl (po_assign rfl rfl) ?_) <;> (refine sops_nil ?_))
      | refine swp_ret ?_
      | refine swp_skip ?_
      | refine swp_block ?_
      | refine swp_exit ?_
      | refine block_go ?_
      | refine block_exit ?_
      | refine block_far rfl ?_
      | refine block_ret ?_
      | refine then_ret ?_
      | refine then_exit ?_
      | refine for_ret ?_
      | refine for_exit ?_
      | refine swp_cond_t rfl (by first | assumption | with_reducible rfl | decide | (simp only [decide_eq_true_eq, Bool.not_eq_true', decide_eq_false_iff_not]; omega)) ?_
      | refine swp_cond_f rfl (by first | assumption | with_reducible rfl | decide | (simp only [decide_eq_false_iff_not, Bool.not_eq_false', decide_eq_true_eq]; omega)) ?_
      | refine swp_cond rfl (fun hc => ?_) (fun hc => ?_)
      | refine retq (by first | exact .inr rfl | exact .inl rfl) rfl (.cell rfl rfl (tyT rfl) (.cons (by first | exact .t _ | exact .own rfl rfl | exact .nil _ | exact .emp _) (.cons (by first | exact .t _ | exact .own rfl rfl | exact .nil _ | exact .emp _) (.cons (by first | exact .t _ | exact .own rfl rfl | exact .nil _ | exact .emp _) (.cons (by first | exact .t _ | exact .own rfl rfl | exact .nil _ | exact .emp _) (.cons (by first | exact .t _ | exact .own rfl rfl | exact .nil _ | exact .emp _) .nil))))) rfl .nil) ?_)
  · obtain rfl : k = p.rules.length := by omega
    rw [List.take_length]
    repeat' (first
      | refine then_go ?_
      | refine swp_seq ?_
      | ((refine swp_region (id := 3) ?_) <;> (refine sops_pure (.free rfl rfl) rfl rfl (po_move rfl rfl) ?_) <;> (first | refine sops_pure (.free rfl rfl) rfl rfl (po_field_bx rfl rfl (tyF rfl)) ?_ | refine sops_pure (.free rfl rfl) rfl rfl (po_field rfl rfl (tyF rfl)) ?_) <;> (first | refine sops_pure (.free rfl rfl) rfl rfl (po_load_bx rfl rfl (tyT rfl) rfl rfl) ?_ | refine sops_pure (.free rfl rfl) rfl rfl (po_load rfl rfl (tyT rfl) rfl) ?_) <;> (refine sops_pure (.free rfl rfl) rfl rfl (po_len rfl rfl (by first | exact .t _ | exact .own rfl rfl | exact .nil _ | exact .emp _) (tyS rfl)) ?_) <;> (refine sops_pure (.free rfl rfl) rfl rfl (po_cmp rfl rfl rfl rfl) ?_) <;> (refine sops_nil ?_))
      | ((refine swp_region (id := 6) ?_) <;> (refine sops_pure (.free rfl rfl) rfl rfl (po_move rfl rfl) ?_) <;> (first | refine sops_pure (.free rfl rfl) rfl rfl (po_field_bx rfl rfl (tyF rfl)) ?_ | refine sops_pure (.free rfl rfl) rfl rfl (po_field rfl rfl (tyF rfl)) ?_) <;> (refine sops_store (.free rfl rfl) rfl rfl rfl rfl rfl rfl (tyT rfl) rfl rfl ?_) <;> (refine sops_nil ?_))
      | ((refine swp_region (id := 7) ?_) <;> (first | refine sops_pure (.free rfl rfl) rfl rfl (po_load_bx_agg rfl rfl (tyT rfl) rfl (.cons (by first | exact .t _ | exact .own rfl rfl | exact .nil _ | exact .emp _) (.cons (by first | exact .t _ | exact .own rfl rfl | exact .nil _ | exact .emp _) (.cons (by first | exact .t _ | exact .own rfl rfl | exact .nil _ | exact .emp _) (.cons (by first | exact .t _ | exact .own rfl rfl | exact .nil _ | exact .emp _) (.cons (by first | exact .t _ | exact .own rfl rfl | exact .nil _ | exact .emp _) .nil))))) rfl) ?_ | refine sops_pure (.free rfl rfl) rfl rfl (po_load_agg rfl rfl (tyT rfl) rfl rfl) ?_) <;> (refine sops_store (.free rfl rfl) rfl rfl rfl rfl rfl rfl (tyT rfl) rfl rfl ?_) <;> (refine sops_nil ?_))
      | refine swp_ret ?_
      | refine swp_skip ?_
      | refine swp_block ?_
      | refine swp_exit ?_
      | refine block_go ?_
      | refine block_exit ?_
      | refine block_far rfl ?_
      | refine block_ret ?_
      | refine then_ret ?_
      | refine then_exit ?_
      | refine for_ret ?_
      | refine for_exit ?_
      | refine swp_cond_t rfl (by first | assumption | with_reducible rfl | decide | (simp only [decide_eq_true_eq, Bool.not_eq_true', decide_eq_false_iff_not]; omega)) ?_
      | refine swp_cond_f rfl (by first | assumption | with_reducible rfl | decide | (simp only [decide_eq_false_iff_not, Bool.not_eq_false', decide_eq_true_eq]; omega)) ?_
      | refine swp_cond rfl (fun hc => ?_) (fun hc => ?_)
      | refine retq (by first | exact .inr rfl | exact .inl rfl) rfl (.cell rfl rfl (tyT rfl) (.cons (by first | exact .t _ | exact .own rfl rfl | exact .nil _ | exact .emp _) (.cons (by first | exact .t _ | exact .own rfl rfl | exact .nil _ | exact .emp _) (.cons (by first | exact .t _ | exact .own rfl rfl | exact .nil _ | exact .emp _) (.cons (by first | exact .t _ | exact .own rfl rfl | exact .nil _ | exact .emp _) (.cons (by first | exact .t _ | exact .own rfl rfl | exact .nil _ | exact .emp _) .nil))))) rfl .nil) ?_)
    rfl
end Go.Proofs.Ytlcecabfmemfeaa.Pol

/- auth's functions and the law's own, as the logic of states has them. -/
namespace Go.Proofs.Ytlcecabfmemfeaa.Pol
set_option linter.unusedVariables false
set_option linter.unusedSimpArgs false
open Go.RowKit Mem Sim Opn WAddr WName WMatch WAuth
theorem tr2 {m : Mm} {a b : T} {x y : Value} (ha : TR m a x) (hb : TR m b y) : TR m (.tup [a, b]) (.tuple #[x, y]) := by
  refine .tup [a, b] #[x, y] rfl fun j t v h1 h2 => ?_
  match j, h1, h2 with
  | 0, h1, h2 => simp at h1 h2; subst h1 h2; exact ha
  | 1, h1, h2 => simp at h1 h2; subst h1 h2; exact hb
theorem args4 {m : Mm} {t0 t1 t2 t3 : T} {vals : Array Value} (hl : vals.size = [t0, t1, t2, t3].length) (hv : ∀ (i : Nat) t v, [t0, t1, t2, t3][i]? = some t → vals[i]? = some v → TR m t v) : ∃ x0 x1 x2 x3, vals = #[x0, x1, x2, x3] ∧ TR m t0 x0 ∧ TR m t1 x1 ∧ TR m t2 x2 ∧ TR m t3 x3 := by
  obtain ⟨l⟩ := vals
  match l, hl with
  | [x0, x1, x2, x3], _ => exact ⟨x0, x1, x2, x3, rfl, hv 0 _ _ rfl rfl, hv 1 _ _ rfl rfl, hv 2 _ _ rfl rfl, hv 3 _ _ rfl rfl⟩
theorem agg_inv {m : Mm} {cs : List T} {v : Value} (h : TR m (.agg cs) v) : ∃ vs : List Value, v = .agg vs.toArray ∧ CellsAre m cs vs := by
  cases h with
  | agg cs vs h h1 ht => exact ⟨vs.toList, by simp, by simpa using h, fun j t v h2 h3 => ⟨ht j t v h2 (by simpa using h3), h1 v (List.mem_of_getElem? h3)⟩⟩
theorem agg_bwd {m : Mm} {cs : List T} {vs : List Value} (h : CellsAre m cs vs) : TR m (.agg cs) (.agg vs.toArray) :=
  .agg cs vs.toArray (by simpa using h.1) (fun v hv => by
    obtain ⟨j, hj⟩ := List.getElem?_of_mem hv
    have hj' : vs[j]? = some v := by simpa using hj
    have hlt : j < cs.length := by rw [← h.1]; exact (List.getElem?_eq_some_iff.1 hj').1
    exact (h.2 j _ v (List.getElem?_eq_getElem hlt) hj').2) fun j t v h1 h2 => (h.2 j t v h1 (by simpa using h2)).1
theorem ask_inv {m : Mm} {a : Pl.Asker} {v : Value} (h : TR m (.agg (askT a)) v) : v = .agg #[.string a.ns, .string a.sa, .int .u32 a.addr] := by
  obtain ⟨vs, rfl, hc⟩ := agg_inv h
  rw [cells_ex hc [.string a.ns, .string a.sa, .int .u32 a.addr] rfl]
/-- what of a request fits, however many headers -/
structure OkReq0 (q : Pl.Req) : Prop where
  method : q.method.size ≤ maxLen
  path : q.path.size ≤ maxLen
  host : q.host.size ≤ maxLen
  heads : ∀ h ∈ q.heads, okHead h
theorem req_inv {m : Mm} {w : World} (hs : Sub m w) {q : Pl.Req} {tg qu : ByteArray} {bd v : Value} (hq : OkReq0 q) (h : TR m (.agg (reqT q tg qu bd)) v) : ∃ A cap, v = .agg #[.string q.method, .string tg, .string q.path, .string qu, .string q.host, .slice A q.heads.length cap, bd] ∧ SliceAt HeadR 2 w.heap.size w A q.heads ∧ q.heads.length ≤ maxLen ∧ bd.oneCell' = true := by
  obtain ⟨vs, rfl, hc⟩ := agg_inv h
  obtain ⟨u0, vs, rfl, h0, hc⟩ := cellsAre_inv hc
  obtain ⟨u1, vs, rfl, h1, hc⟩ := cellsAre_inv hc
  obtain ⟨u2, vs, rfl, h2, hc⟩ := cellsAre_inv hc
  obtain ⟨u3, vs, rfl, h3, hc⟩ := cellsAre_inv hc
  obtain ⟨u4, vs, rfl, h4, hc⟩ := cellsAre_inv hc
  obtain ⟨u5, vs, rfl, h5, hc⟩ := cellsAre_inv hc
  have hone : ∀ u ∈ vs, u.oneCell' = true := fun u hu => by
    obtain ⟨j, hj⟩ := List.getElem?_of_mem hu
    have hlt : j < 1 := by have := (List.getElem?_eq_some_iff.1 hj).1; have := hc.1; simp at this; omega
    have : j = 0 := by omega
    subst this
    exact (hc.2 0 _ u rfl hj).2
  obtain ⟨u6, vs, rfl, h6, hc⟩ := cellsAre_inv hc
  obtain rfl := cellsAre_inv0 hc
  obtain ⟨A, cap, e, hA, hc1, hc2⟩ := sl_fwd hs (by omega) (head_fwd hs) hq.heads h5
  injection e with e; subst e
  rw [tr_v h6] at hone
  rw [tr_v h0, tr_v h1, tr_v h2, tr_v h3, tr_v h4, tr_v h6]
  exact ⟨A, cap, rfl, hA, Nat.le_trans hc1 hc2, hone bd (by simp)⟩
theorem pols_inv {m : Mm} {w : World} (hs : Sub m w) {l : List Pl.Policy} {v : Value} (hl : ∀ p ∈ l, okPolicy p) (h : TR m (.sl 5 (l.map polT)) v) : ∃ A cap, v = .slice A l.length cap ∧ SliceAt PolicyR 5 w.heap.size w A l ∧ l.length ≤ maxLen := by
  obtain ⟨A, cap, e, hA, hc1, hc2⟩ := sl_fwd hs (by omega) (policy_fwd hs) hl h
  injection e with e; subst e
  exact ⟨A, cap, rfl, hA, Nat.le_trans hc1 hc2⟩
theorem p_judge (l : List Pl.Policy) (hl : ∀ p ∈ l, okPolicy p) (a : Pl.Asker) (ha : OkAsk a) (port : Int) (q : Pl.Req) (hq : OkReq0 q) (hf : q.heads.length ≤ 1000) (tg qu : ByteArray) (bd : Value) :
    PCalls Try.prog 37 [.sl 5 (l.map polT), .agg (askT a), .v (.int .i64 port), .agg (reqT q tg qu bd)] (.tup [.v (.bool (Pl.judgeP (matchP a port q) l).1), .v (.int .u64 (Pl.judgeP (matchP a port q) l).2)]) where
  ent := ent_of Try.func37 rfl rfl
  run := fun m w vals hm hvl hv => by
    obtain ⟨x0, x1, x2, x3, rfl, h0, h1, h2, h3⟩ := args4 hvl hv
    obtain ⟨A0, cap0, rfl, hA0, hn⟩ := pols_inv hm hl h0
    obtain rfl := ask_inv h1
    rw [tr_v h2]
    obtain ⟨A, cap, rfl, hA, _, _⟩ := req_inv hm hq h3
    refine (judge l A0 cap0 a port q A cap tg qu bd w (Nat.le_refl _) hA0 hn ⟨ha.ns, ha.sa, hq.method, hq.path, hq.host, hA, hf⟩).mono fun e w' ⟨he, hlo⟩ => ?_
    rw [he]
    exact post_ex hm hlo (tr2 (.v _) (.v _))
theorem p_long (l : List Pl.Policy) (hl : ∀ p ∈ l, okPolicy p) (a : Pl.Asker) (ha : OkAsk a) (q : Pl.Req) (hq : OkReq0 q) (tg qu : ByteArray) (bd : Value) :
    PCalls Try.prog 34 [.sl 5 (l.map polT), .agg (askT a), .agg (reqT q tg qu bd)] (.v (.bool (long13 l a q))) where
  ent := ent_of Try.func34 rfl rfl
  run := fun m w vals hm hvl hv => by
    obtain ⟨x0, x1, x3, rfl, h0, h1, h3⟩ := args3 hvl hv
    obtain ⟨A0, cap0, rfl, hA0, hn⟩ := pols_inv hm hl h0
    obtain rfl := ask_inv h1
    obtain ⟨A, cap, rfl, hA, hn2, hbd⟩ := req_inv hm hq h3
    refine (long13_ l A0 cap0 a q A cap (.string tg) (.string qu) bd w (Nat.le_refl _) hA0 hn ⟨ha.ns, ha.sa, hq.method, hq.path, hq.host, hA, hn2⟩ rfl rfl hbd).mono fun e w' ⟨he, hlo⟩ => ?_
    rw [he]
    exact post_ex hm hlo (.v _)
theorem p_awake13 : PCalls Try.prog 35 [] (.v (.bool true)) where
  ent := ent_of Try.func35 rfl rfl
  run := fun m w vals hs hvl hv => by
    have : vals = #[] := Array.eq_empty_of_size_eq_zero hvl
    subst this
    refine (awake13 w).mono fun e w' ⟨he, hlo⟩ => ?_
    rw [he]
    exact post_ex hs hlo (.v _)
theorem few_rule {r : Pl.Rule} (h : longRule r = false) : FewR r := by
  unfold longRule at h
  simp only [Bool.or_eq_false_iff, decide_eq_false_iff_not, List.any_eq_false] at h
  obtain ⟨⟨⟨⟨⟨h1, h2⟩, h3⟩, h4⟩, h5⟩, h6⟩ := h
  refine ⟨by omega, by omega, by omega, fun s hs => ?_, fun s hs => ?_, fun s hs => ?_⟩
  · have := h4 s hs
    simp [srcLong, termsB, rowLong] at this
    omega
  · have := h5 s hs
    simp [tgtLong, termsB, rowLong] at this
    omega
  · have := h6 s hs
    simp [whenLong, termsB, rowLong] at this
    omega
theorem few_pol {p : Pl.Policy} (h : longPol p = false) : FewP p := by
  unfold longPol at h
  simp only [Bool.or_eq_false_iff, decide_eq_false_iff_not, List.any_eq_false] at h
  exact ⟨by omega, fun r hr => few_rule (by simpa using h.2 r hr)⟩
theorem few_long {l : List Pl.Policy} {a : Pl.Asker} {q : Pl.Req} (h : long13 l a q = false) : FewL l ∧ l.length ≤ 30 ∧ q.heads.length ≤ 100 ∧ ∀ p ∈ l, FewP p := by
  unfold long13 longHeads at h
  simp only [Bool.or_eq_false_iff, decide_eq_false_iff_not, List.any_eq_false] at h
  have hp : ∀ p ∈ l, FewP p := fun p hp => few_pol (by simpa using h.2 p hp)
  exact ⟨⟨by omega, fun p h => ⟨(hp p h).n, (hp p h).r⟩⟩, by omega, by omega, hp⟩
end Go.Proofs.Ytlcecabfmemfeaa.Pol

/- For every row of policies, asker, port and request, the law AuthJudge returns true. -/
namespace Go.Proofs.Ytlcecabfmemfeaa.AuthJudge
set_option linter.unusedVariables false
set_option linter.unusedSimpArgs false
open Go.RowKit Mem Sim Opn WAddr WName WMatch WAuth Pol
theorem po_beq {P : Program} {bx : List (Nat × List A)} {ow : List (Nat × Own)} {o : Oper} {ρ : Operand → Option A} {t t2 : TypeId} {x y : Operand} {i j : Bool} (c : Bool) (ho : o.op = .binOp .eql t x y t2) (hx : ρ x = some (.t (.v (.bool i)))) (hy : ρ y = some (.t (.v (.bool j)))) (hu : P.underlying t = some .bool) (hc : (i == j) = c) : PureOp P bx ow o ρ (.t (.v (.bool c))) := by
  have := po_boolq (bx := bx) (ow := ow) ho hx hy hu (.inl rfl)
  rw [if_pos rfl, hc] at this
  exact this
section
variable (l : List Pl.Policy) (a : Pl.Asker) (port : Int) (q : Pl.Req) (tg qu : ByteArray) (bd : Value)
abbrev params : List T := [.sl 5 (l.map polT), .agg (askT a), .v (.int .i64 port), .agg (reqT q tg qu bd)]
def K1 (k : Nat) : St := ⟨[(0, .t (.sl 5 (l.map polT))), (2, .t (.v (.int .i64 port))), (5, .bp 5 0), (7, .bp 7 0), (9, .own 140 ((l.take k).map polT).length), (10, .t (.v (.int .i64 (k : Int))))], [(5, askA a), (7, reqA q tg qu bd)], [(140, ⟨61, 5, (l.take k).map polT⟩)]⟩
def K2 (x : Bool) (y : Int) (j : Nat) : St := ⟨[(0, .t (.sl 5 (l.map polT))), (9, .own 140 (l.map polT).length), (11, .t (.v (.bool x))), (12, .t (.v (.int .u64 y))), (13, .t (.v (.bool x))), (14, .t (.v (.int .u64 y))), (15, .t (.v (.int .i64 (j : Int))))], [], [(140, ⟨61, 5, l.map polT⟩)]⟩
end
set_option maxRecDepth 100000 in
set_option maxHeartbeats 2000000 in
theorem law_ (l : List Pl.Policy) (hl : ∀ p ∈ l, okPolicy p) (a : Pl.Asker) (ha : OkAsk a) (port : Int) (q : Pl.Req) (hq : OkReq0 q) (tg qu : ByteArray) (bd : Value) : PCalls Try.prog 8 (params l a port q tg qu bd) (.v (.bool true)) := by
  have hlong := p_long l hl a ha q hq tg qu bd
  have haw := p_awake13
  have hm1 : (l.map polT).length = l.length := List.length_map _
  cases hlo : long13 l a q with
  | true =>
    rw [hlo] at hlong
    refine pcalls_of Try.func8 rfl rfl Try.ntmps8 rfl ?_
    repeat' (first
      | refine then_go ?_
      | refine swp_seq ?_
      | ((refine swp_region (id := 0) ?_) <;> (refine sops_box (.free rfl rfl) rfl rfl rfl rfl rfl rfl ?_) <;> (refine sops_box (.free rfl rfl) rfl rfl rfl rfl rfl rfl ?_) <;> (refine sops_pure (.free rfl rfl) rfl rfl (po_assign rfl rfl) ?_) <;> (refine sops_nil ?_))
      | ((refine swp_region (id := 1) ?_) <;> (refine sops_pure (.free rfl rfl) rfl rfl (po_move rfl rfl) ?_) <;> (first | refine sops_pure (.free rfl rfl) rfl rfl (po_load_bx_agg rfl rfl (tyT rfl) rfl (.cons (by first | exact .t _ | exact .own rfl rfl | exact .nil _ | exact .emp _) (.cons (by first | exact .t _ | exact .own rfl rfl | exact .nil _ | exact .emp _) (.cons (by first | exact .t _ | exact .own rfl rfl | exact .nil _ | exact .emp _) .nil))) rfl) ?_ | refine sops_pure (.free rfl rfl) rfl rfl (po_load_agg rfl rfl (tyT rfl) rfl rfl) ?_) <;> (first | refine sops_pure (.free rfl rfl) rfl rfl (po_load_bx_agg rfl rfl (tyT rfl) rfl (.cons (by first | exact .t _ | exact .own rfl rfl | exact .nil _ | exact .emp _) (.cons (by first | exact .t _ | exact .own rfl rfl | exact .nil _ | exact .emp _) (.cons (by first | exact .t _ | exact .own rfl rfl | exact .nil _ | exact .emp _) (.cons (by first | exact .t _ | exact .own rfl rfl | exact .nil _ | exact .emp _) (.cons (by first | exact .t _ | exact .own rfl rfl | exact .nil _ | exact .emp _) (.cons (by first | exact .t _ | exact .own rfl rfl | exact .nil _ | exact .emp _) (.cons (by first | exact .t _ | exact .own rfl rfl | exact .nil _ | exact .emp _) .nil))))))) rfl) ?_ | refine sops_pure (.free rfl rfl) rfl rfl (po_load_agg rfl rfl (tyT rfl) rfl rfl) ?_) <;> (first | refine sops_pure (.free rfl rfl) rfl rfl (po_call (hlong) rfl (.cons rfl (by first | exact .t _ | exact .own rfl rfl | exact .nil _ | exact .emp _) (.cons rfl (by first | exact .t _ | exact .own rfl rfl | exact .nil _ | exact .emp _) (.cons rfl (by first | exact .t _ | exact .own rfl rfl | exact .nil _ | exact .emp _) .nil)))) ?_ | refine sops_pure (.free rfl rfl) rfl rfl (po_call (haw) rfl (.cons rfl (by first | exact .t _ | exact .own rfl rfl | exact .nil _ | exact .emp _) (.cons rfl (by first | exact .t _ | exact .own rfl rfl | exact .nil _ | exact .emp _) (.cons rfl (by first | exact .t _ | exact .own rfl rfl | exact .nil _ | exact .emp _) .nil)))) ?_) <;> (refine sops_nil ?_))
      | ((refine swp_region (id := 2) ?_) <;> (first | refine sops_pure (.free rfl rfl) rfl rfl (po_call (hlong) rfl .nil) ?_ | refine sops_pure (.free rfl rfl) rfl rfl (po_call (haw) rfl .nil) ?_) <;> (refine sops_pure (.free rfl rfl) rfl rfl (po_assign rfl rfl) ?_) <;> (refine sops_nil ?_))
      | refine swp_ret ?_
      | refine swp_skip ?_
      | refine swp_block ?_
      | refine swp_exit ?_
      | refine block_go ?_
      | refine block_exit ?_
      | refine block_far rfl ?_
      | refine block_ret ?_
      | refine then_ret ?_
      | refine then_exit ?_
      | refine for_ret ?_
      | refine for_exit ?_
      | refine swp_cond_t rfl (by first | assumption | with_reducible rfl | decide | (simp only [decide_eq_true_eq, Bool.not_eq_true', decide_eq_false_iff_not]; omega)) ?_
      | refine swp_cond_f rfl (by first | assumption | with_reducible rfl | decide | (simp only [decide_eq_false_iff_not, Bool.not_eq_false', decide_eq_true_eq]; omega)) ?_
      | refine swp_cond rfl (fun hc => ?_) (fun hc => ?_)
      | refine retq (by first | exact .inr rfl | exact .inl rfl) rfl (.tmp rfl (by first | exact .t _ | exact .own rfl rfl | exact .nil _ | exact .emp _) .nil) ?_)
    rfl
  | false =>
    rw [hlo] at hlong
    obtain ⟨hfl, n30, n100, hfp⟩ := few_long hlo
    have hjud := p_judge l hl a ha port q hq (by omega) tg qu bd
    have href := judge_ l hl hfl a ha port q ⟨hq.method, hq.path, hq.host, hq.heads, by omega⟩ tg qu bd
    generalize Pl.judgeP (matchP a port q) l = J at hjud href
    obtain ⟨x, y⟩ := J
    simp only at hjud href
    have hxx : (x == x) = true := by simp
    have hyy : decide (y = y) = true := by simp
    refine pcalls_of Try.func8 rfl rfl Try.ntmps8 rfl ?_
    repeat' (first
      | refine then_go ?_
      | refine swp_seq ?_
      | ((refine swp_region (id := 0) ?_) <;> (refine sops_box (.free rfl rfl) rfl rfl rfl rfl rfl rfl ?_) <;> (refine sops_box (.free rfl rfl) rfl rfl rfl rfl rfl rfl ?_) <;> (refine sops_pure (.free rfl rfl) rfl rfl (po_assign rfl rfl) ?_) <;> (refine sops_nil ?_))
      | ((refine swp_region (id := 1) ?_) <;> (refine sops_pure (.free rfl rfl) rfl rfl (po_move rfl rfl) ?_) <;> (first | refine sops_pure (.free rfl rfl) rfl rfl (po_load_bx_agg rfl rfl (tyT rfl) rfl (.cons (by first | exact .t _ | exact .own rfl rfl | exact .nil _ | exact .emp _) (.cons (by first | exact .t _ | exact .own rfl rfl | exact .nil _ | exact .emp _) (.cons (by first | exact .t _ | exact .own rfl rfl | exact .nil _ | exact .emp _) .nil))) rfl) ?_ | refine sops_pure (.free rfl rfl) rfl rfl (po_load_agg rfl rfl (tyT rfl) rfl rfl) ?_) <;> (first | refine sops_pure (.free rfl rfl) rfl rfl (po_load_bx_agg rfl rfl (tyT rfl) rfl (.cons (by first | exact .t _ | exact .own rfl rfl | exact .nil _ | exact .emp _) (.cons (by first | exact .t _ | exact .own rfl rfl | exact .nil _ | exact .emp _) (.cons (by first | exact .t _ | exact .own rfl rfl | exact .nil _ | exact .emp _) (.cons (by first | exact .t _ | exact .own rfl rfl | exact .nil _ | exact .emp _) (.cons (by first | exact .t _ | exact .own rfl rfl | exact .nil _ | exact .emp _) (.cons (by first | exact .t _ | exact .own rfl rfl | exact .nil _ | exact .emp _) (.cons (by first | exact .t _ | exact .own rfl rfl | exact .nil _ | exact .emp _) .nil))))))) rfl) ?_ | refine sops_pure (.free rfl rfl) rfl rfl (po_load_agg rfl rfl (tyT rfl) rfl rfl) ?_) <;> (refine sops_pure (.free rfl rfl) rfl rfl (po_call (hlong) rfl (.cons rfl (by first | exact .t _ | exact .own rfl rfl | exact .nil _ | exact .emp _) (.cons rfl (by first | exact .t _ | exact .own rfl rfl | exact .nil _ | exact .emp _) (.cons rfl (by first | exact .t _ | exact .own rfl rfl | exact .nil _ | exact .emp _) .nil)))) ?_) <;> (refine sops_nil ?_))
      | ((refine swp_region (id := 3) ?_) <;> (refine sops_pure (.free rfl rfl) rfl rfl (po_assign rfl rfl) ?_) <;> (refine sops_nil ?_))
      | ((refine swp_region (id := 4) ?_) <;> (refine sops_pure (.free rfl rfl) rfl rfl (po_assign rfl rfl) ?_) <;> (refine sops_nil ?_))
      | refine swp_ret ?_
      | refine swp_skip ?_
      | refine swp_block ?_
      | refine swp_exit ?_
      | refine block_go ?_
      | refine block_exit ?_
      | refine block_far rfl ?_
      | refine block_ret ?_
      | refine then_ret ?_
      | refine then_exit ?_
      | refine for_ret ?_
      | refine for_exit ?_
      | refine swp_cond_t rfl (by first | assumption | with_reducible rfl | decide | (simp only [decide_eq_true_eq, Bool.not_eq_true', decide_eq_false_iff_not]; omega)) ?_
      | refine swp_cond_f rfl (by first | assumption | with_reducible rfl | decide | (simp only [decide_eq_false_iff_not, Bool.not_eq_false', decide_eq_true_eq]; omega)) ?_
      | refine swp_cond rfl (fun hc => ?_) (fun hc => ?_)
      | refine retq (by first | exact .inr rfl | exact .inl rfl) rfl (.tmp rfl (by first | exact .t _ | exact .own rfl rfl | exact .nil _ | exact .emp _) .nil) ?_)
    refine swp_for (K1 l a port q tg qu bd) (fun _ => True) l.length ?_ trivial ?_
    · refine Weak.trans (weak_own0 (i := 140) 61 5 (s := 9) rfl rfl) ?_
      exact (weak_sub (.cons rfl rfl rfl (.cons rfl rfl rfl (.cons rfl rfl rfl (.cons rfl rfl rfl (.cons rfl rfl rfl (.cons rfl rfl rfl .nil)))))) (.cons rfl rfl rfl (.cons rfl rfl rfl .nil)) (.cons rfl rfl .nil))
    intro k hk _
    unfold K1
    by_cases hlt : k < l.length
    · have hc := copy_ l[k] (hfp _ (List.getElem_mem hlt))
      have hsn := map_take_succ polT hlt
      have g1 : (((l.take k).map polT).length + 1) * 64 ≤ 140737488355328 := by rw [List.length_map, List.length_take]; omega
      repeat' (first
        | refine then_go ?_
        | refine swp_seq ?_
        | refine for_next hlt (weak_sub (.cons rfl (by first | rfl | (rw [hsn]; try rfl)) rfl (.cons rfl (by first | rfl | (rw [hsn]; try rfl)) rfl (.cons rfl (by first | rfl | (rw [hsn]; try rfl)) rfl (.cons rfl (by first | rfl | (rw [hsn]; try rfl)) rfl (.cons rfl (by first | rfl | (rw [hsn]; try rfl)) rfl (.cons rfl (by first | rfl | (rw [hsn]; try rfl)) rfl .nil)))))) (.cons rfl (by first | rfl | (rw [hsn]; try rfl)) rfl (.cons rfl (by first | rfl | (rw [hsn]; try rfl)) rfl .nil)) (.cons rfl (by first | rfl | (rw [hsn]; try rfl)) .nil)) trivial
        | ((refine swp_region (id := 5) ?_) <;> (refine sops_pure (.free rfl rfl) rfl rfl (po_move rfl rfl) ?_) <;> (refine sops_pure (.free rfl rfl) rfl rfl (po_move rfl rfl) ?_) <;> (refine sops_pure (.free rfl rfl) rfl rfl (po_len rfl rfl (by first | exact .t _ | exact .own rfl rfl | exact .nil _ | exact .emp _) (tyS rfl)) ?_) <;> (refine sops_pure (.free rfl rfl) rfl rfl (po_cmp rfl rfl rfl rfl) ?_) <;> (refine sops_nil ?_))
        | ((refine swp_region (id := 7) ?_) <;> (refine sops_pure (.free rfl rfl) rfl rfl (po_move rfl rfl) ?_) <;> (refine sops_pure (.free rfl rfl) rfl rfl (po_move rfl rfl) ?_) <;> (refine sops_pure (.free rfl rfl) rfl rfl (po_move rfl rfl) ?_) <;> (refine sops_pure (.free rfl rfl) rfl rfl (po_index rfl rfl (by first | exact .t _ | exact .own rfl rfl | exact .nil _ | exact .emp _) rfl (tyS rfl) (by first | rfl | omega) (by first | rfl | assumption | exact map_at (by first | assumption | omega))) ?_) <;> (first | refine sops_pure (.free rfl rfl) rfl rfl (po_load_bx_agg rfl rfl (tyT rfl) rfl (.cons (by first | exact .t _ | exact .own rfl rfl | exact .nil _ | exact .emp _) (.cons (by first | exact .t _ | exact .own rfl rfl | exact .nil _ | exact .emp _) (.cons (by first | exact .t _ | exact .own rfl rfl | exact .nil _ | exact .emp _) (.cons (by first | exact .t _ | exact .own rfl rfl | exact .nil _ | exact .emp _) (.cons (by first | exact .t _ | exact .own rfl rfl | exact .nil _ | exact .emp _) .nil))))) rfl) ?_ | refine sops_pure (.free rfl rfl) rfl rfl (po_load_agg rfl rfl (tyT rfl) rfl rfl) ?_) <;> (refine sops_pure (.free rfl rfl) rfl rfl (po_call (hc) rfl (.cons rfl (by first | exact .t _ | exact .own rfl rfl | exact .nil _ | exact .emp _) .nil)) ?_) <;> (refine sops_pure (.free rfl rfl) rfl rfl (po_buildSlice rfl (tyE rfl) (.cons rfl (by first | exact .t _ | exact .own rfl rfl | exact .nil _ | exact .emp _) rfl rfl (.nil _)) rfl rfl rfl) ?_) <;> (first | refine sops_append rfl rfl rfl rfl rfl rfl (by first | rfl | simp) rfl (by first | exact .t _ | exact .own rfl rfl | exact .nil _ | exact .emp _) (tyE rfl) (by first | assumption | (simp at *; omega)) (by first | assumption | (simp [maxLen] at *; omega)) ?_ | refine sops_append_nil rfl rfl rfl rfl rfl rfl rfl (by first | exact .t _ | exact .own rfl rfl | exact .nil _ | exact .emp _) (tyE rfl) (by first | assumption | (simp at *; omega)) (by first | assumption | (simp [maxLen] at *; omega)) ?_) <;> (refine sops_pure (.free rfl rfl) rfl rfl (po_assign rfl rfl) ?_) <;> (refine sops_nil ?_))
        | ((refine swp_region (id := 6) ?_) <;> (refine sops_pure (.free rfl rfl) rfl rfl (po_move rfl rfl) ?_) <;> (first | refine sops_pure (.free rfl rfl) rfl rfl (po_inc rfl rfl rfl (by omega)) ?_ | refine sops_pure (.free rfl rfl) rfl rfl (po_arith rfl rfl rfl (ar_add (by first | rfl | (refine wrap_i64 ?_; omega)) rfl)) ?_) <;> (refine sops_pure (.free rfl rfl) rfl rfl (po_assign rfl rfl) ?_) <;> (refine sops_nil ?_))
        | refine swp_ret ?_
        | refine swp_skip ?_
        | refine swp_block ?_
        | refine swp_exit ?_
        | refine block_go ?_
        | refine block_exit ?_
        | refine block_far rfl ?_
        | refine block_ret ?_
        | refine then_ret ?_
        | refine then_exit ?_
        | refine for_ret ?_
        | refine for_exit ?_
        | refine swp_cond_t rfl (by first | assumption | with_reducible rfl | decide | (simp only [decide_eq_true_eq, Bool.not_eq_true', decide_eq_false_iff_not]; omega)) ?_
        | refine swp_cond_f rfl (by first | assumption | with_reducible rfl | decide | (simp only [decide_eq_false_iff_not, Bool.not_eq_false', decide_eq_true_eq]; omega)) ?_
        | refine swp_cond rfl (fun hc => ?_) (fun hc => ?_)
        | refine retq (by first | exact .inr rfl | exact .inl rfl) rfl (.tmp rfl (by first | exact .t _ | exact .own rfl rfl | exact .nil _ | exact .emp _) .nil) ?_)
    obtain rfl : k = l.length := by omega
    rw [List.take_length]
    repeat' (first
      | refine then_go ?_
      | refine swp_seq ?_
      | ((refine swp_region (id := 5) ?_) <;> (refine sops_pure (.free rfl rfl) rfl rfl (po_move rfl rfl) ?_) <;> (refine sops_pure (.free rfl rfl) rfl rfl (po_move rfl rfl) ?_) <;> (refine sops_pure (.free rfl rfl) rfl rfl (po_len rfl rfl (by first | exact .t _ | exact .own rfl rfl | exact .nil _ | exact .emp _) (tyS rfl)) ?_) <;> (refine sops_pure (.free rfl rfl) rfl rfl (po_cmp rfl rfl rfl rfl) ?_) <;> (refine sops_nil ?_))
      | ((refine swp_region (id := 8) ?_) <;> (refine sops_pure (.free rfl rfl) rfl rfl (po_move rfl rfl) ?_) <;> (first | refine sops_pure (.free rfl rfl) rfl rfl (po_load_bx_agg rfl rfl (tyT rfl) rfl (.cons (by first | exact .t _ | exact .own rfl rfl | exact .nil _ | exact .emp _) (.cons (by first | exact .t _ | exact .own rfl rfl | exact .nil _ | exact .emp _) (.cons (by first | exact .t _ | exact .own rfl rfl | exact .nil _ | exact .emp _) .nil))) rfl) ?_ | refine sops_pure (.free rfl rfl) rfl rfl (po_load_agg rfl rfl (tyT rfl) rfl rfl) ?_) <;> (refine sops_pure (.free rfl rfl) rfl rfl (po_move rfl rfl) ?_) <;> (first | refine sops_pure (.free rfl rfl) rfl rfl (po_load_bx_agg rfl rfl (tyT rfl) rfl (.cons (by first | exact .t _ | exact .own rfl rfl | exact .nil _ | exact .emp _) (.cons (by first | exact .t _ | exact .own rfl rfl | exact .nil _ | exact .emp _) (.cons (by first | exact .t _ | exact .own rfl rfl | exact .nil _ | exact .emp _) (.cons (by first | exact .t _ | exact .own rfl rfl | exact .nil _ | exact .emp _) (.cons (by first | exact .t _ | exact .own rfl rfl | exact .nil _ | exact .emp _) (.cons (by first | exact .t _ | exact .own rfl rfl | exact .nil _ | exact .emp _) (.cons (by first | exact .t _ | exact .own rfl rfl | exact .nil _ | exact .emp _) .nil))))))) rfl) ?_ | refine sops_pure (.free rfl rfl) rfl rfl (po_load_agg rfl rfl (tyT rfl) rfl rfl) ?_) <;> (first | refine sops_pure (.free rfl rfl) rfl rfl (po_call (hjud) rfl (.cons rfl (by first | exact .t _ | exact .own rfl rfl | exact .nil _ | exact .emp _) (.cons rfl (by first | exact .t _ | exact .own rfl rfl | exact .nil _ | exact .emp _) (.cons rfl (by first | exact .t _ | exact .own rfl rfl | exact .nil _ | exact .emp _) (.cons rfl (by first | exact .t _ | exact .own rfl rfl | exact .nil _ | exact .emp _) .nil))))) ?_ | refine sops_pure (.free rfl rfl) rfl rfl (po_call (href) rfl (.cons rfl (by first | exact .t _ | exact .own rfl rfl | exact .nil _ | exact .emp _) (.cons rfl (by first | exact .t _ | exact .own rfl rfl | exact .nil _ | exact .emp _) (.cons rfl (by first | exact .t _ | exact .own rfl rfl | exact .nil _ | exact .emp _) (.cons rfl (by first | exact .t _ | exact .own rfl rfl | exact .nil _ | exact .emp _) .nil))))) ?_) <;> (refine sops_pure (.free rfl rfl) rfl rfl (po_move rfl rfl) ?_) <;> (refine sops_pure (.free rfl rfl) rfl rfl (po_extract rfl rfl rfl) ?_) <;> (refine sops_pure (.free rfl rfl) rfl rfl (po_extract rfl rfl rfl) ?_) <;> (refine sops_pure (.free rfl rfl) rfl rfl (po_assign rfl rfl) ?_) <;> (refine sops_pure (.free rfl rfl) rfl rfl (po_assign rfl rfl) ?_) <;> (refine sops_nil ?_))
      | ((refine swp_region (id := 9) ?_) <;> (refine sops_pure (.free rfl rfl) rfl rfl (po_move rfl rfl) ?_) <;> (first | refine sops_pure (.free rfl rfl) rfl rfl (po_load_bx_agg rfl rfl (tyT rfl) rfl (.cons (by first | exact .t _ | exact .own rfl rfl | exact .nil _ | exact .emp _) (.cons (by first | exact .t _ | exact .own rfl rfl | exact .nil _ | exact .emp _) (.cons (by first | exact .t _ | exact .own rfl rfl | exact .nil _ | exact .emp _) .nil))) rfl) ?_ | refine sops_pure (.free rfl rfl) rfl rfl (po_load_agg rfl rfl (tyT rfl) rfl rfl) ?_) <;> (refine sops_pure (.free rfl rfl) rfl rfl (po_move rfl rfl) ?_) <;> (first | refine sops_pure (.free rfl rfl) rfl rfl (po_load_bx_agg rfl rfl (tyT rfl) rfl (.cons (by first | exact .t _ | exact .own rfl rfl | exact .nil _ | exact .emp _) (.cons (by first | exact .t _ | exact .own rfl rfl | exact .nil _ | exact .emp _) (.cons (by first | exact .t _ | exact .own rfl rfl | exact .nil _ | exact .emp _) (.cons (by first | exact .t _ | exact .own rfl rfl | exact .nil _ | exact .emp _) (.cons (by first | exact .t _ | exact .own rfl rfl | exact .nil _ | exact .emp _) (.cons (by first | exact .t _ | exact .own rfl rfl | exact .nil _ | exact .emp _) (.cons (by first | exact .t _ | exact .own rfl rfl | exact .nil _ | exact .emp _) .nil))))))) rfl) ?_ | refine sops_pure (.free rfl rfl) rfl rfl (po_load_agg rfl rfl (tyT rfl) rfl rfl) ?_) <;> (first | refine sops_pure (.free rfl rfl) rfl rfl (po_call (hjud) rfl (.cons rfl (by first | exact .t _ | exact .own rfl rfl | exact .nil _ | exact .emp _) (.cons rfl (by first | exact .t _ | exact .own rfl rfl | exact .nil _ | exact .emp _) (.cons rfl (by first | exact .t _ | exact .own rfl rfl | exact .nil _ | exact .emp _) (.cons rfl (by first | exact .t _ | exact .own rfl rfl | exact .nil _ | exact .emp _) .nil))))) ?_ | refine sops_pure (.free rfl rfl) rfl rfl (po_call (href) rfl (.cons rfl (by first | exact .t _ | exact .own rfl rfl | exact .nil _ | exact .emp _) (.cons rfl (by first | exact .t _ | exact .own rfl rfl | exact .nil _ | exact .emp _) (.cons rfl (by first | exact .t _ | exact .own rfl rfl | exact .nil _ | exact .emp _) (.cons rfl (by first | exact .t _ | exact .own rfl rfl | exact .nil _ | exact .emp _) .nil))))) ?_) <;> (refine sops_pure (.free rfl rfl) rfl rfl (po_move rfl rfl) ?_) <;> (refine sops_pure (.free rfl rfl) rfl rfl (po_extract rfl rfl rfl) ?_) <;> (refine sops_pure (.free rfl rfl) rfl rfl (po_extract rfl rfl rfl) ?_) <;> (refine sops_pure (.free rfl rfl) rfl rfl (po_assign rfl rfl) ?_) <;> (refine sops_pure (.free rfl rfl) rfl rfl (po_assign rfl rfl) ?_) <;> (refine sops_nil ?_))
      | ((refine swp_region (id := 10) ?_) <;> (refine sops_pure (.free rfl rfl) rfl rfl (po_assign rfl rfl) ?_) <;> (refine sops_nil ?_))
      | refine swp_ret ?_
      | refine swp_skip ?_
      | refine swp_block ?_
      | refine swp_exit ?_
      | refine block_go ?_
      | refine block_exit ?_
      | refine block_far rfl ?_
      | refine block_ret ?_
      | refine then_ret ?_
      | refine then_exit ?_
      | refine for_ret ?_
      | refine for_exit ?_
      | refine swp_cond_t rfl (by first | assumption | with_reducible rfl | decide | (simp only [decide_eq_true_eq, Bool.not_eq_true', decide_eq_false_iff_not]; omega)) ?_
      | refine swp_cond_f rfl (by first | assumption | with_reducible rfl | decide | (simp only [decide_eq_false_iff_not, Bool.not_eq_false', decide_eq_true_eq]; omega)) ?_
      | refine swp_cond rfl (fun hc => ?_) (fun hc => ?_)
      | refine retq (by first | exact .inr rfl | exact .inl rfl) rfl (.tmp rfl (by first | exact .t _ | exact .own rfl rfl | exact .nil _ | exact .emp _) .nil) ?_)
    refine swp_for (K2 l x y) (fun _ => True) l.length (weak_sub (.cons rfl rfl rfl (.cons rfl rfl rfl (.cons rfl rfl rfl (.cons rfl rfl rfl (.cons rfl rfl rfl (.cons rfl rfl rfl (.cons rfl rfl rfl .nil))))))) .nil (.cons rfl rfl .nil)) trivial ?_
    intro j hj _
    unfold K2
    by_cases hjl : j < l.length
    · have hs := same_ l[j] (hfp _ (List.getElem_mem hjl))
      repeat' (first
        | refine then_go ?_
        | refine swp_seq ?_
        | refine for_next hjl (weak_sub (.cons rfl rfl rfl (.cons rfl rfl rfl (.cons rfl rfl rfl (.cons rfl rfl rfl (.cons rfl rfl rfl (.cons rfl rfl rfl (.cons rfl rfl rfl .nil))))))) .nil (.cons rfl rfl .nil)) trivial
        | ((refine swp_region (id := 11) ?_) <;> (refine sops_pure (.free rfl rfl) rfl rfl (po_move rfl rfl) ?_) <;> (refine sops_pure (.free rfl rfl) rfl rfl (po_move rfl rfl) ?_) <;> (refine sops_pure (.free rfl rfl) rfl rfl (po_len rfl rfl (by first | exact .t _ | exact .own rfl rfl | exact .nil _ | exact .emp _) (tyS rfl)) ?_) <;> (refine sops_pure (.free rfl rfl) rfl rfl (po_cmp rfl rfl rfl rfl) ?_) <;> (refine sops_nil ?_))
        | ((refine swp_draw_all (id := 13) mixed (by kernel_rfl) (by kernel_rfl) ?_) <;> (refine sdraw_pure (.free rfl rfl) rfl (po_move rfl rfl) ?_) <;> (refine sdraw_pure (.free rfl rfl) rfl (po_move rfl rfl) ?_) <;> (refine sdraw_pure (.free rfl rfl) rfl (po_index rfl rfl (by first | exact .t _ | exact .own rfl rfl | exact .nil _ | exact .emp _) rfl (tyS rfl) (by first | rfl | omega) (by first | rfl | assumption | exact map_at (by first | assumption | omega))) ?_) <;> (first | refine sdraw_pure (.free rfl rfl) rfl (po_load_bx_agg rfl rfl (tyT rfl) rfl (.cons (by first | exact .t _ | exact .own rfl rfl | exact .nil _ | exact .emp _) (.cons (by first | exact .t _ | exact .own rfl rfl | exact .nil _ | exact .emp _) (.cons (by first | exact .t _ | exact .own rfl rfl | exact .nil _ | exact .emp _) (.cons (by first | exact .t _ | exact .own rfl rfl | exact .nil _ | exact .emp _) (.cons (by first | exact .t _ | exact .own rfl rfl | exact .nil _ | exact .emp _) .nil))))) rfl) ?_ | refine sdraw_pure (.free rfl rfl) rfl (po_load_agg rfl rfl (tyT rfl) rfl rfl) ?_) <;> (refine sdraw_pure (.free rfl rfl) rfl (po_move rfl rfl) ?_) <;> (refine sdraw_pure (.free rfl rfl) rfl (po_move rfl rfl) ?_) <;> (refine sdraw_pure (.free rfl rfl) rfl (po_index rfl rfl (by first | exact .t _ | exact .own rfl rfl | exact .nil _ | exact .emp _) rfl (tyS rfl) (by first | rfl | omega) (by first | rfl | assumption | exact map_at (by first | assumption | omega))) ?_) <;> (first | refine sdraw_pure (.free rfl rfl) rfl (po_load_bx_agg rfl rfl (tyT rfl) rfl (.cons (by first | exact .t _ | exact .own rfl rfl | exact .nil _ | exact .emp _) (.cons (by first | exact .t _ | exact .own rfl rfl | exact .nil _ | exact .emp _) (.cons (by first | exact .t _ | exact .own rfl rfl | exact .nil _ | exact .emp _) (.cons (by first | exact .t _ | exact .own rfl rfl | exact .nil _ | exact .emp _) (.cons (by first | exact .t _ | exact .own rfl rfl | exact .nil _ | exact .emp _) .nil))))) rfl) ?_ | refine sdraw_pure (.free rfl rfl) rfl (po_load_agg rfl rfl (tyT rfl) rfl rfl) ?_) <;> (refine sdraw_pure (.free rfl rfl) rfl (po_call (hs) rfl (.cons rfl (by first | exact .t _ | exact .own rfl rfl | exact .nil _ | exact .emp _) (.cons rfl (by first | exact .t _ | exact .own rfl rfl | exact .nil _ | exact .emp _) .nil))) ?_) <;> (refine sdraw_pure (.free rfl rfl) rfl (po_not rfl rfl) ?_) <;> (refine sdraw_nil ?_) <;> (refine sops_nil ?_))
        | ((refine swp_region (id := 12) ?_) <;> (refine sops_pure (.free rfl rfl) rfl rfl (po_move rfl rfl) ?_) <;> (first | refine sops_pure (.free rfl rfl) rfl rfl (po_inc rfl rfl rfl (by omega)) ?_ | refine sops_pure (.free rfl rfl) rfl rfl (po_arith rfl rfl rfl (ar_add (by first | rfl | (refine wrap_i64 ?_; omega)) rfl)) ?_) <;> (refine sops_pure (.free rfl rfl) rfl rfl (po_assign rfl rfl) ?_) <;> (refine sops_nil ?_))
        | refine swp_ret ?_
        | refine swp_skip ?_
        | refine swp_block ?_
        | refine swp_exit ?_
        | refine block_go ?_
        | refine block_exit ?_
        | refine block_far rfl ?_
        | refine block_ret ?_
        | refine then_ret ?_
        | refine then_exit ?_
        | refine for_ret ?_
        | refine for_exit ?_
        | refine swp_cond_t rfl (by first | assumption | with_reducible rfl | decide | (simp only [decide_eq_true_eq, Bool.not_eq_true', decide_eq_false_iff_not]; omega)) ?_
        | refine swp_cond_f rfl (by first | assumption | with_reducible rfl | decide | (simp only [decide_eq_false_iff_not, Bool.not_eq_false', decide_eq_true_eq]; omega)) ?_
        | refine swp_cond rfl (fun hc => ?_) (fun hc => ?_)
        | refine retq (by first | exact .inr rfl | exact .inl rfl) rfl (.tmp rfl (by first | exact .t _ | exact .own rfl rfl | exact .nil _ | exact .emp _) .nil) ?_)
    · repeat' (first
      | refine then_go ?_
      | refine swp_seq ?_
      | ((refine swp_region (id := 11) ?_) <;> (first | refine sops_pure (.free rfl rfl) rfl rfl (po_beq true rfl rfl rfl (by kernel_rfl) hxx) ?_ | refine sops_pure (.free rfl rfl) rfl rfl (po_move rfl rfl) ?_) <;> (first | refine sops_pure (.free rfl rfl) rfl rfl (po_beq true rfl rfl rfl (by kernel_rfl) hxx) ?_ | refine sops_pure (.free rfl rfl) rfl rfl (po_move rfl rfl) ?_) <;> (first | refine sops_pure (.free rfl rfl) rfl rfl (po_beq true rfl rfl rfl (by kernel_rfl) hxx) ?_ | refine sops_pure (.free rfl rfl) rfl rfl (po_len rfl rfl (by first | exact .t _ | exact .own rfl rfl | exact .nil _ | exact .emp _) (tyS rfl)) ?_) <;> (first | refine sops_pure (.free rfl rfl) rfl rfl (po_beq true rfl rfl rfl (by kernel_rfl) hxx) ?_ | refine sops_pure (.free rfl rfl) rfl rfl (po_cmp rfl rfl rfl rfl) ?_) <;> (refine sops_nil ?_))
      | ((refine swp_region (id := 15) ?_) <;> (first | refine sops_pure (.free rfl rfl) rfl rfl (po_beq true rfl rfl rfl (by kernel_rfl) hxx) ?_ | refine sops_pure (.free rfl rfl) rfl rfl (po_move rfl rfl) ?_) <;> (first | refine sops_pure (.free rfl rfl) rfl rfl (po_beq true rfl rfl rfl (by kernel_rfl) hxx) ?_ | refine sops_pure (.free rfl rfl) rfl rfl (po_move rfl rfl) ?_) <;> (first | refine sops_pure (.free rfl rfl) rfl rfl (po_beq true rfl rfl rfl (by kernel_rfl) hxx) ?_ | refine sops_pure (.free rfl rfl) rfl rfl (po_boolq rfl rfl rfl (by kernel_rfl) (by first | exact .inl rfl | exact .inr rfl)) ?_) <;> (first | refine sops_pure (.free rfl rfl) rfl rfl (po_beq true rfl rfl rfl (by kernel_rfl) hxx) ?_ | refine sops_pure (.free rfl rfl) rfl rfl (po_move rfl rfl) ?_) <;> (first | refine sops_pure (.yes rfl rfl rfl (by first | assumption | with_reducible rfl | decide | (simp only [decide_eq_true_eq, decide_eq_false_iff_not]; omega))) rfl rfl (po_beq true rfl rfl rfl (by kernel_rfl) hxx) ?_ | refine sops_pure (.yes rfl rfl rfl (by first | assumption | with_reducible rfl | decide | (simp only [decide_eq_true_eq, decide_eq_false_iff_not]; omega))) rfl rfl (po_move rfl rfl) ?_ | refine sops_skip (.no1 rfl rfl rfl (by first | assumption | with_reducible rfl | decide | (simp only [decide_eq_true_eq, decide_eq_false_iff_not]; omega))) rfl rfl ?_ | ((refine sops_split rfl rfl rfl (fun hc => ?_) (fun hc => ?_)) <;> (first | refine sops_pure (.yes rfl rfl rfl (by first | assumption | with_reducible rfl | decide | (simp only [decide_eq_true_eq, decide_eq_false_iff_not]; omega))) rfl rfl (po_beq true rfl rfl rfl (by kernel_rfl) hxx) ?_ | refine sops_pure (.yes rfl rfl rfl (by first | assumption | with_reducible rfl | decide | (simp only [decide_eq_true_eq, decide_eq_false_iff_not]; omega))) rfl rfl (po_move rfl rfl) ?_ | refine sops_skip (.no1 rfl rfl rfl (by first | assumption | with_reducible rfl | decide | (simp only [decide_eq_true_eq, decide_eq_false_iff_not]; omega))) rfl rfl ?_))) <;> (first | refine sops_pure (.yes rfl rfl rfl (by first | assumption | with_reducible rfl | decide | (simp only [decide_eq_true_eq, decide_eq_false_iff_not]; omega))) rfl rfl (po_beq true rfl rfl rfl (by kernel_rfl) hxx) ?_ | refine sops_pure (.yes rfl rfl rfl (by first | assumption | with_reducible rfl | decide | (simp only [decide_eq_true_eq, decide_eq_false_iff_not]; omega))) rfl rfl (po_move rfl rfl) ?_ | refine sops_skip (.no1 rfl rfl rfl (by first | assumption | with_reducible rfl | decide | (simp only [decide_eq_true_eq, decide_eq_false_iff_not]; omega))) rfl rfl ?_) <;> (first | refine sops_pure (.yes rfl rfl rfl (by first | assumption | with_reducible rfl | decide | (simp only [decide_eq_true_eq, decide_eq_false_iff_not]; omega))) rfl rfl (po_beq true rfl rfl rfl (by kernel_rfl) hxx) ?_ | refine sops_pure (.yes rfl rfl rfl (by first | assumption | with_reducible rfl | decide | (simp only [decide_eq_true_eq, decide_eq_false_iff_not]; omega))) rfl rfl (po_cmp rfl rfl rfl rfl) ?_ | refine sops_skip (.no1 rfl rfl rfl (by first | assumption | with_reducible rfl | decide | (simp only [decide_eq_true_eq, decide_eq_false_iff_not]; omega))) rfl rfl ?_) <;> (first | refine sops_pure (.free rfl rfl) rfl rfl (po_beq true rfl rfl rfl (by kernel_rfl) hxx) ?_ | refine sops_pure (.free rfl rfl) rfl rfl (po_pick_t rfl rfl (by first | assumption | with_reducible rfl | decide | (simp only [decide_eq_true_eq, decide_eq_false_iff_not]; omega)) rfl) ?_ | refine sops_pure (.free rfl rfl) rfl rfl (po_pick_f rfl rfl (by first | assumption | with_reducible rfl | decide | (simp only [decide_eq_true_eq, decide_eq_false_iff_not]; omega)) rfl) ?_) <;> (first | refine sops_pure (.free rfl rfl) rfl rfl (po_beq true rfl rfl rfl (by kernel_rfl) hxx) ?_ | refine sops_pure (.free rfl rfl) rfl rfl (po_move rfl rfl) ?_) <;> (first | refine sops_pure (.yes rfl rfl rfl (by first | assumption | with_reducible rfl | decide | (simp only [decide_eq_true_eq, decide_eq_false_iff_not]; omega))) rfl rfl (po_beq true rfl rfl rfl (by kernel_rfl) hxx) ?_ | refine sops_pure (.yes rfl rfl rfl (by first | assumption | with_reducible rfl | decide | (simp only [decide_eq_true_eq, decide_eq_false_iff_not]; omega))) rfl rfl (po_call (haw) rfl .nil) ?_ | refine sops_skip (.no1 rfl rfl rfl (by first | assumption | with_reducible rfl | decide | (simp only [decide_eq_true_eq, decide_eq_false_iff_not]; omega))) rfl rfl ?_ | ((refine sops_split rfl rfl rfl (fun hc => ?_) (fun hc => ?_)) <;> (first | refine sops_pure (.yes rfl rfl rfl (by first | assumption | with_reducible rfl | decide | (simp only [decide_eq_true_eq, decide_eq_false_iff_not]; omega))) rfl rfl (po_beq true rfl rfl rfl (by kernel_rfl) hxx) ?_ | refine sops_pure (.yes rfl rfl rfl (by first | assumption | with_reducible rfl | decide | (simp only [decide_eq_true_eq, decide_eq_false_iff_not]; omega))) rfl rfl (po_call (haw) rfl .nil) ?_ | refine sops_skip (.no1 rfl rfl rfl (by first | assumption | with_reducible rfl | decide | (simp only [decide_eq_true_eq, decide_eq_false_iff_not]; omega))) rfl rfl ?_))) <;> (first | refine sops_pure (.free rfl rfl) rfl rfl (po_beq true rfl rfl rfl (by kernel_rfl) hxx) ?_ | refine sops_pure (.free rfl rfl) rfl rfl (po_pick_t rfl rfl (by first | assumption | with_reducible rfl | decide | (simp only [decide_eq_true_eq, decide_eq_false_iff_not]; omega)) rfl) ?_ | refine sops_pure (.free rfl rfl) rfl rfl (po_pick_f rfl rfl (by first | assumption | with_reducible rfl | decide | (simp only [decide_eq_true_eq, decide_eq_false_iff_not]; omega)) rfl) ?_) <;> (first | refine sops_pure (.free rfl rfl) rfl rfl (po_beq true rfl rfl rfl (by kernel_rfl) hxx) ?_ | refine sops_pure (.free rfl rfl) rfl rfl (po_assign rfl rfl) ?_) <;> (refine sops_nil ?_))
      | refine swp_ret ?_
      | refine swp_skip ?_
      | refine swp_block ?_
      | refine swp_exit ?_
      | refine block_go ?_
      | refine block_exit ?_
      | refine block_far rfl ?_
      | refine block_ret ?_
      | refine then_ret ?_
      | refine then_exit ?_
      | refine for_ret ?_
      | refine for_exit ?_
      | refine swp_cond_t rfl (by first | assumption | with_reducible rfl | decide | (simp only [decide_eq_true_eq, Bool.not_eq_true', decide_eq_false_iff_not]; omega)) ?_
      | refine swp_cond_f rfl (by first | assumption | with_reducible rfl | decide | (simp only [decide_eq_false_iff_not, Bool.not_eq_false', decide_eq_true_eq]; omega)) ?_
      | refine swp_cond rfl (fun hc => ?_) (fun hc => ?_)
      | refine retq (by first | exact .inr rfl | exact .inl rfl) rfl (.tmp rfl (by first | exact .t _ | exact .own rfl rfl | exact .nil _ | exact .emp _) .nil) ?_)
      rfl
theorem walk (l : List Pl.Policy) (A0 : Option Addr) (cap0 : Nat) (a : Pl.Asker) (port : Int) (q : Pl.Req) (A : Option Addr) (cap : Nat) (tg qu : ByteArray) (bd : Value) (hbd : bd.oneCell' = true) (w : World) (hA : SliceAt PolicyR 5 w.heap.size w A0 l) (hl1 : l.length ≤ cap0) (hl2 : cap0 ≤ maxLen) (hadr : (Lit.int .u32 a.addr).wf = true) (hf : Fits0 w.heap.size w a q A) (hc1 : q.heads.length ≤ cap) (hc2 : cap ≤ maxLen) :
    Calls Try.prog 8 #[.slice A0 l.length cap0, .agg #[.string a.ns, .string a.sa, .int .u32 a.addr], .int .i64 port, .agg #[.string q.method, .string tg, .string q.path, .string qu, .string q.host, .slice A q.heads.length cap, bd]] w fun e w' => e = .returned (.bool true) ∧ Lo w w' := by
  have hpol : SliceC PolicyR 5 w.heap.size w l [.slice A0 l.length cap0] := ⟨A0, cap0, rfl, hA, hl1, hl2⟩
  have hhd : SliceC HeadR 2 w.heap.size w q.heads [.slice A q.heads.length cap] := ⟨A, cap, rfl, hf.heads, hc1, hc2⟩
  have h := law_ l (sl_ok policy_ok hpol) a ⟨hf.ns, hf.sa, hadr⟩ port q ⟨hf.method, hf.path, hf.host, sl_ok head_ok hhd⟩ tg qu bd
  exact h.law w _ rfl fun i t v h1 h2 => by
    match i, h1, h2 with
    | 0, h1, h2 => simp at h1 h2; subst h1 h2; exact (sl_bwd (enc := polT) (fun _ => rfl) policy_bwd hpol).1
    | 1, h1, h2 => simp at h1 h2; subst h1 h2; exact agg_bwd (vs := [_, _, _]) (cellsAre_cons (.v _) rfl (cellsAre_cons (.v _) rfl (cellsAre_cons (.v _) rfl (cellsAre_nil _))))
    | 2, h1, h2 => simp at h1 h2; subst h1 h2; exact .v _
    | 3, h1, h2 => simp at h1 h2; subst h1 h2; exact agg_bwd (vs := [_, _, _, _, _, _, _]) (cellsAre_cons (.v _) rfl (cellsAre_cons (.v _) rfl (cellsAre_cons (.v _) rfl (cellsAre_cons (.v _) rfl (cellsAre_cons (.v _) rfl (cellsAre_cons (sl_bwd (enc := headT) (fun _ => rfl) head_bwd hhd).1 rfl (cellsAre_cons (.v _) hbd (cellsAre_nil _))))))))
end Go.Proofs.Ytlcecabfmemfeaa.AuthJudge
