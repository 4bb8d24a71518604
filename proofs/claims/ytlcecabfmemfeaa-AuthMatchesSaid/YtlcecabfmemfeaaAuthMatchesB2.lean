/- Merged by bundle.py: SimRefE, SimL, SimSame, SimBr13, WOwn0, WOwn, WOwn2, WOwn3. -/
import Derived.Test.YtlcecabfmemfeaaAuthMatchesB1
import Derived.Test.YtlcecabfmemfeaaAuthMatchesB0
import Derived.Test.YtlcecabfmemfeaaWAwake13
import Derived.Test.YtlcecabfmemfeaaRegion3
import Derived.Test.YtlcecabfmemfeaaRel13
import Derived.Test.YtlcecabfmemfeaaWLong2
import Derived.Test.YtlcecabfmemfeaaWCloneTerm
import Derived.Test.YtlcecabfmemfeaaWCloneCidr
import Derived.Test.YtlcecabfmemfeaaWCloneInt
import Derived.Test.YtlcecabfmemfeaaMPolicySource
import Derived.Test.YtlcecabfmemfeaaMPolicyTarget
import Derived.Test.YtlcecabfmemfeaaMPolicyWhen
import Derived.Test.YtlcecabfmemfeaaMPolicyRule
import Derived.Test.YtlcecabfmemfeaaWLong3
/- The document's answer for auth: Judge. -/
namespace Go.Proofs.Ytlcecabfmemfeaa.Pol
set_option linter.unusedVariables false
set_option linter.unusedSimpArgs false
open Go.RowKit Mem Sim Opn WAddr WName WMatch WAuth
section
variable (M : Pl.Rule → Bool) (l : List Pl.Policy) (a : Pl.Asker) (port : Int) (q : Pl.Req) (tg qu : ByteArray) (bd : Value)
def J1 (k : Nat) : St := ⟨[(0, .t (.sl 5 (l.map polT))), (2, .t (.v (.int .i64 port))), (5, .bp 5 0), (7, .bp 7 0), (10, .own 110 ((l.take k).map (hitP M)).length), (11, .t (.v (.int .i64 (k : Int))))], [(5, askA a), (7, reqA q tg qu bd)], [(110, ⟨82, 1, (l.take k).map (hitP M)⟩)]⟩
def J2 (k : Nat) (p : Pl.Policy) (j : Nat) : St := ⟨[(0, .t (.sl 5 (l.map polT))), (2, .t (.v (.int .i64 port))), (5, .bp 5 0), (7, .bp 7 0), (10, .own 110 ((l.take k).map (hitP M)).length), (11, .t (.v (.int .i64 (k : Int)))), (12, .own 112 ((p.rules.take j).map (hitR M)).length), (13, .t (.v (.int .i64 (j : Int))))], [(5, askA a), (7, reqA q tg qu bd)], [(110, ⟨82, 1, (l.take k).map (hitP M)⟩), (112, ⟨3, 1, (p.rules.take j).map (hitR M)⟩)]⟩
end
theorem few_p {α : Type} {f : α → List T} {l : List α} (k n : Nat) (h : l.length ≤ 1000) (hn : n ≤ 100) : (((l.take k).map f).length + 1) * n ≤ 140737488355328 := by
  rw [List.length_map, List.length_take]
  have h1 : min k l.length + 1 ≤ 1001 := by omega
  have := Nat.mul_le_mul h1 hn
  omega
structure FewL (l : List Pl.Policy) : Prop where
  n : l.length ≤ 1000
  r : ∀ p ∈ l, p.rules.length ≤ 1000 ∧ ∀ r ∈ p.rules, FewR r
set_option maxRecDepth 100000 in
set_option maxHeartbeats 2000000 in
theorem judge_ (l : List Pl.Policy) (hl : ∀ p ∈ l, okPolicy p) (hf : FewL l) (a : Pl.Asker) (ha : OkAsk a) (port : Int) (q : Pl.Req) (hq : OkReq q) (tg qu : ByteArray) (bd : Value) :
    PCalls Try.prog 38 [.sl 5 (l.map polT), .agg (askT a), .v (.int .i64 port), .agg (reqT q tg qu bd)] (.tup [.v (.bool (Pl.judgeP (matchP a port q) l).1), .v (.int .u64 (Pl.judgeP (matchP a port q) l).2)]) := by
  have hm1 : (l.map polT).length = l.length := List.length_map _
  have hn := hf.n
  have hsays := says_ (matchP a port q) l hn fun p hp => (hf.r p hp).1
  generalize hMM : matchP a port q = M at *
  refine pcalls_of Try.func38 rfl rfl Try.ntmps38 rfl ?_
  repeat' (first
    | refine then_go ?_
    | refine swp_seq ?_
    | ((refine swp_region (id := 0) ?_) <;> (refine sops_box (.free rfl rfl) rfl rfl rfl rfl rfl rfl ?_) <;> (refine sops_box (.free rfl rfl) rfl rfl rfl rfl rfl rfl ?_) <;> (refine sops_pure (.free rfl rfl) rfl rfl (po_assign rfl rfl) ?_) <;> (refine sops_pure (.free rfl rfl) rfl rfl (po_assign rfl rfl) ?_) <;> (refine sops_nil ?_))
    | ((refine swp_region (id := 1) ?_) <;> (refine sops_pure (.free rfl rfl) rfl rfl (po_assign rfl rfl) ?_) <;> (refine sops_nil ?_))
    | ((refine swp_region (id := 2) ?_) <;> (refine sops_pure (.free rfl rfl) rfl rfl (po_assign rfl rfl) ?_) <;> (refine sops_nil ?_))
    | refine swp_ret ?_
    | refine swp_skip ?_
    | refine swp_block ?_
    | refine swp_exit ?_
    | refine block_go ?_
    | refine block_exit ?_
    | refine block_far rfl ?_
    | refine block_ret ?_
    | refine then_ret ?_
    | refine then_exit ?_
    | refine for_ret ?_
    | refine for_exit ?_
    | refine swp_cond_t rfl (by first | assumption | with_reducible rfl | decide | (simp only [decide_eq_true_eq, Bool.not_eq_true', decide_eq_false_iff_not]; omega)) ?_
    | refine swp_cond_f rfl (by first | assumption | with_reducible rfl | decide | (simp only [decide_eq_false_iff_not, Bool.not_eq_false', decide_eq_true_eq]; omega)) ?_
    | refine swp_cond rfl (fun hc => ?_) (fun hc => ?_)
    | refine retq (by first | exact .inr rfl | exact .inl rfl) rfl (.tmp rfl (by first | exact .t _ | exact .own rfl rfl | exact .nil _ | exact .emp _) (.tmp rfl (by first | exact .t _ | exact .own rfl rfl | exact .nil _ | exact .emp _) .nil)) ?_)
  refine swp_for (J1 M l a port q tg qu bd) (fun k => True) l.length ?_ trivial ?_
  · refine Weak.trans (weak_own0 (i := 110) 82 1 (s := 10) rfl rfl) ?_
    exact (weak_sub (.cons rfl rfl rfl (.cons rfl rfl rfl (.cons rfl rfl rfl (.cons rfl rfl rfl (.cons rfl rfl rfl (.cons rfl rfl rfl .nil)))))) (.cons rfl rfl rfl (.cons rfl rfl rfl .nil)) (.cons rfl rfl .nil))
  intro k hk _
  unfold J1
  by_cases hlt : k < l.length
  · have hnr := (hf.r _ (List.getElem_mem hlt)).1
    have hm2 : (l[k].rules.map ruleT).length = l[k].rules.length := List.length_map _
    have hsn := map_take_succ (hitP M) hlt
    have g1 := few_p (f := hitP M) (l := l) k 24 hn (by omega)
    repeat' (first
      | refine then_go ?_
      | refine swp_seq ?_
      | ((refine swp_region (id := 3) ?_) <;> (refine sops_pure (.free rfl rfl) rfl rfl (po_move rfl rfl) ?_) <;> (refine sops_pure (.free rfl rfl) rfl rfl (po_move rfl rfl) ?_) <;> (refine sops_pure (.free rfl rfl) rfl rfl (po_len rfl rfl (by first | exact .t _ | exact .own rfl rfl | exact .nil _ | exact .emp _) (tyS rfl)) ?_) <;> (refine sops_pure (.free rfl rfl) rfl rfl (po_cmp rfl rfl rfl rfl) ?_) <;> (refine sops_nil ?_))
      | ((refine swp_region (id := 5) ?_) <;> (refine sops_pure (.free rfl rfl) rfl rfl (po_assign rfl rfl) ?_) <;> (refine sops_nil ?_))
      | ((refine swp_region (id := 6) ?_) <;> (refine sops_pure (.free rfl rfl) rfl rfl (po_assign rfl rfl) ?_) <;> (refine sops_nil ?_))
      | refine swp_ret ?_
      | refine swp_skip ?_
      | refine swp_block ?_
      | refine swp_exit ?_
      | refine block_go ?_
      | refine block_exit ?_
      | refine block_far rfl ?_
      | refine block_ret ?_
      | refine then_ret ?_
      | refine then_exit ?_
      | refine for_ret ?_
      | refine for_exit ?_
      | refine swp_cond_t rfl (by first | assumption | with_reducible rfl | decide | (simp only [decide_eq_true_eq, Bool.not_eq_true', decide_eq_false_iff_not]; omega)) ?_
      | refine swp_cond_f rfl (by first | assumption | with_reducible rfl | decide | (simp only [decide_eq_false_iff_not, Bool.not_eq_false', decide_eq_true_eq]; omega)) ?_
      | refine swp_cond rfl (fun hc => ?_) (fun hc => ?_)
      | refine retq (by first | exact .inr rfl | exact .inl rfl) rfl (.tmp rfl (by first | exact .t _ | exact .own rfl rfl | exact .nil _ | exact .emp _) (.tmp rfl (by first | exact .t _ | exact .own rfl rfl | exact .nil _ | exact .emp _) .nil)) ?_)
    refine swp_for (J2 M l a port q tg qu bd k l[k]) (fun j => True) l[k].rules.length ?_ trivial ?_
    · refine Weak.trans (weak_own0 (i := 112) 3 1 (s := 12) rfl rfl) ?_
      exact (weak_sub (.cons rfl rfl rfl (.cons rfl rfl rfl (.cons rfl rfl rfl (.cons rfl rfl rfl (.cons rfl rfl rfl (.cons rfl rfl rfl (.cons rfl rfl rfl (.cons rfl rfl rfl .nil)))))))) (.cons rfl rfl rfl (.cons rfl rfl rfl .nil)) (.cons rfl rfl (.cons rfl rfl .nil)))
    intro j hj _
    unfold J2
    by_cases hjl : j < l[k].rules.length
    · have hmatch := matches__ l[k].rules[j] ((hl _ (List.getElem_mem hlt)).2.2.2.2 _ (List.getElem_mem hjl)) ((hf.r _ (List.getElem_mem hlt)).2 _ (List.getElem_mem hjl)) a ha port q hq tg qu bd
      rw [hMM] at hmatch
      have g2 := few_p (f := hitR M) (l := l[k].rules) j 8 hnr (by omega)
      cases hM : M l[k].rules[j] with
      | true =>
        rw [hM] at hmatch
        have hsn2 : (l[k].rules.take (j + 1)).map (hitR M) = (l[k].rules.take j).map (hitR M) ++ [[.v (.int .i64 1)]] := by rw [map_take_succ (hitR M) hjl, hitR, hM]; rfl
        repeat' (first
          | refine then_go ?_
          | refine swp_seq ?_
          | refine for_next hjl (weak_sub (.cons rfl (by first | rfl | (rw [hsn2]; try rfl)) rfl (.cons rfl (by first | rfl | (rw [hsn2]; try rfl)) rfl (.cons rfl (by first | rfl | (rw [hsn2]; try rfl)) rfl (.cons rfl (by first | rfl | (rw [hsn2]; try rfl)) rfl (.cons rfl (by first | rfl | (rw [hsn2]; try rfl)) rfl (.cons rfl (by first | rfl | (rw [hsn2]; try rfl)) rfl (.cons rfl (by first | rfl | (rw [hsn2]; try rfl)) rfl (.cons rfl (by first | rfl | (rw [hsn2]; try rfl)) rfl .nil)))))))) (.cons rfl (by first | rfl | (rw [hsn2]; try rfl)) rfl (.cons rfl (by first | rfl | (rw [hsn2]; try rfl)) rfl .nil)) (.cons rfl (by first | rfl | (rw [hsn2]; try rfl)) (.cons rfl (by first | rfl | (rw [hsn2]; try rfl)) .nil))) trivial
          | ((refine swp_region (id := 7) ?_) <;> (refine sops_pure (.free rfl rfl) rfl rfl (po_move rfl rfl) ?_) <;> (refine sops_pure (.free rfl rfl) rfl rfl (po_move rfl rfl) ?_) <;> (refine sops_pure (.free rfl rfl) rfl rfl (po_move rfl rfl) ?_) <;> (refine sops_pure (.free rfl rfl) rfl rfl (po_index rfl rfl (by first | exact .t _ | exact .own rfl rfl | exact .nil _ | exact .emp _) rfl (tyS rfl) (by first | rfl | omega) (by first | rfl | assumption | exact map_at (by first | assumption | omega))) ?_) <;> (first | refine sops_pure (.free rfl rfl) rfl rfl (po_field_bx rfl rfl (tyF rfl)) ?_ | refine sops_pure (.free rfl rfl) rfl rfl (po_field rfl rfl (tyF rfl)) ?_) <;> (first | refine sops_pure (.free rfl rfl) rfl rfl (po_load_bx rfl rfl (tyT rfl) rfl rfl) ?_ | refine sops_pure (.free rfl rfl) rfl rfl (po_load rfl rfl (tyT rfl) rfl) ?_) <;> (refine sops_pure (.free rfl rfl) rfl rfl (po_len rfl rfl (by first | exact .t _ | exact .own rfl rfl | exact .nil _ | exact .emp _) (tyS rfl)) ?_) <;> (refine sops_pure (.free rfl rfl) rfl rfl (po_cmp rfl rfl rfl rfl) ?_) <;> (refine sops_nil ?_))
          | ((refine swp_draw_all (id := 9) mixed (by kernel_rfl) (by kernel_rfl) ?_) <;> (refine sdraw_pure (.free rfl rfl) rfl (po_move rfl rfl) ?_) <;> (refine sdraw_pure (.free rfl rfl) rfl (po_move rfl rfl) ?_) <;> (refine sdraw_pure (.free rfl rfl) rfl (po_index rfl rfl (by first | exact .t _ | exact .own rfl rfl | exact .nil _ | exact .emp _) rfl (tyS rfl) (by first | rfl | omega) (by first | rfl | assumption | exact map_at (by first | assumption | omega))) ?_) <;> (first | refine sdraw_pure (.free rfl rfl) rfl (po_field_bx rfl rfl (tyF rfl)) ?_ | refine sdraw_pure (.free rfl rfl) rfl (po_field rfl rfl (tyF rfl)) ?_) <;> (first | refine sdraw_pure (.free rfl rfl) rfl (po_load_bx rfl rfl (tyT rfl) rfl rfl) ?_ | refine sdraw_pure (.free rfl rfl) rfl (po_load rfl rfl (tyT rfl) rfl) ?_) <;> (refine sdraw_pure (.free rfl rfl) rfl (po_move rfl rfl) ?_) <;> (refine sdraw_pure (.free rfl rfl) rfl (po_index rfl rfl (by first | exact .t _ | exact .own rfl rfl | exact .nil _ | exact .emp _) rfl (tyS rfl) (by first | rfl | omega) (by first | rfl | assumption | exact map_at (by first | assumption | omega))) ?_) <;> (first | refine sdraw_pure (.free rfl rfl) rfl (po_load_bx_agg rfl rfl (tyT rfl) rfl (.cons (by first | exact .t _ | exact .own rfl rfl | exact .nil _ | exact .emp _) (.cons (by first | exact .t _ | exact .own rfl rfl | exact .nil _ | exact .emp _) (.cons (by first | exact .t _ | exact .own rfl rfl | exact .nil _ | exact .emp _) .nil))) rfl) ?_ | refine sdraw_pure (.free rfl rfl) rfl (po_load_agg rfl rfl (tyT rfl) rfl rfl) ?_) <;> (first | refine sdraw_pure (.free rfl rfl) rfl (po_load_bx_agg rfl rfl (tyT rfl) rfl (.cons (by first | exact .t _ | exact .own rfl rfl | exact .nil _ | exact .emp _) (.cons (by first | exact .t _ | exact .own rfl rfl | exact .nil _ | exact .emp _) (.cons (by first | exact .t _ | exact .own rfl rfl | exact .nil _ | exact .emp _) .nil))) rfl) ?_ | refine sdraw_pure (.free rfl rfl) rfl (po_load_agg rfl rfl (tyT rfl) rfl rfl) ?_) <;> (refine sdraw_pure (.free rfl rfl) rfl (po_move rfl rfl) ?_) <;> (first | refine sdraw_pure (.free rfl rfl) rfl (po_load_bx_agg rfl rfl (tyT rfl) rfl (.cons (by first | exact .t _ | exact .own rfl rfl | exact .nil _ | exact .emp _) (.cons (by first | exact .t _ | exact .own rfl rfl | exact .nil _ | exact .emp _) (.cons (by first | exact .t _ | exact .own rfl rfl | exact .nil _ | exact .emp _) (.cons (by first | exact .t _ | exact .own rfl rfl | exact .nil _ | exact .emp _) (.cons (by first | exact .t _ | exact .own rfl rfl | exact .nil _ | exact .emp _) (.cons (by first | exact .t _ | exact .own rfl rfl | exact .nil _ | exact .emp _) (.cons (by first | exact .t _ | exact .own rfl rfl | exact .nil _ | exact .emp _) .nil))))))) rfl) ?_ | refine sdraw_pure (.free rfl rfl) rfl (po_load_agg rfl rfl (tyT rfl) rfl rfl) ?_) <;> (refine sdraw_pure (.free rfl rfl) rfl (po_call (hmatch) rfl (.cons rfl (by first | exact .t _ | exact .own rfl rfl | exact .nil _ | exact .emp _) (.cons rfl (by first | exact .t _ | exact .own rfl rfl | exact .nil _ | exact .emp _) (.cons rfl (by first | exact .t _ | exact .own rfl rfl | exact .nil _ | exact .emp _) (.cons rfl (by first | exact .t _ | exact .own rfl rfl | exact .nil _ | exact .emp _) .nil))))) ?_) <;> (refine sdraw_nil ?_) <;> (refine sops_nil ?_))
          | ((refine swp_region (id := 10) ?_) <;> (refine sops_pure (.free rfl rfl) rfl rfl (po_move rfl rfl) ?_) <;> (refine sops_pure (.free rfl rfl) rfl rfl (po_buildSlice rfl (tyE rfl) (.cons rfl (by first | exact .t _ | exact .own rfl rfl | exact .nil _ | exact .emp _) rfl rfl (.nil _)) rfl rfl rfl) ?_) <;> (first | refine sops_append rfl rfl rfl rfl rfl rfl (by first | rfl | simp) rfl (by first | exact .t _ | exact .own rfl rfl | exact .nil _ | exact .emp _) (tyE rfl) (by first | assumption | (simp at *; omega)) (by first | assumption | (simp [maxLen] at *; omega)) ?_ | refine sops_append_nil rfl rfl rfl rfl rfl rfl rfl (by first | exact .t _ | exact .own rfl rfl | exact .nil _ | exact .emp _) (tyE rfl) (by first | assumption | (simp at *; omega)) (by first | assumption | (simp [maxLen] at *; omega)) ?_) <;> (refine sops_pure (.free rfl rfl) rfl rfl (po_assign rfl rfl) ?_) <;> (refine sops_nil ?_))
          | ((refine swp_region (id := 8) ?_) <;> (refine sops_pure (.free rfl rfl) rfl rfl (po_move rfl rfl) ?_) <;> (first | refine sops_pure (.free rfl rfl) rfl rfl (po_inc rfl rfl rfl (by omega)) ?_ | refine sops_pure (.free rfl rfl) rfl rfl (po_arith rfl rfl rfl (ar_add (by first | rfl | (refine wrap_i64 ?_; omega)) rfl)) ?_) <;> (refine sops_pure (.free rfl rfl) rfl rfl (po_assign rfl rfl) ?_) <;> (refine sops_nil ?_))
          | refine swp_ret ?_
          | refine swp_skip ?_
          | refine swp_block ?_
          | refine swp_exit ?_
          | refine block_go ?_
          | refine block_exit ?_
          | refine block_far rfl ?_
          | refine block_ret ?_
          | refine then_ret ?_
          | refine then_exit ?_
          | refine for_ret ?_
          | refine for_exit ?_
          | refine swp_cond_t rfl (by first | assumption | with_reducible rfl | decide | (simp only [decide_eq_true_eq, Bool.not_eq_true', decide_eq_false_iff_not]; omega)) ?_
          | refine swp_cond_f rfl (by first | assumption | with_reducible rfl | decide | (simp only [decide_eq_false_iff_not, Bool.not_eq_false', decide_eq_true_eq]; omega)) ?_
          | refine swp_cond rfl (fun hc => ?_) (fun hc => ?_)
          | refine retq (by first | exact .inr rfl | exact .inl rfl) rfl (.tmp rfl (by first | exact .t _ | exact .own rfl rfl | exact .nil _ | exact .emp _) (.tmp rfl (by first | exact .t _ | exact .own rfl rfl | exact .nil _ | exact .emp _) .nil)) ?_)
      | false =>
        rw [hM] at hmatch
        have hsn2 : (l[k].rules.take (j + 1)).map (hitR M) = (l[k].rules.take j).map (hitR M) ++ [[.v (.int .i64 0)]] := by rw [map_take_succ (hitR M) hjl, hitR, hM]; rfl
        repeat' (first
          | refine then_go ?_
          | refine swp_seq ?_
          | refine for_next hjl (weak_sub (.cons rfl (by first | rfl | (rw [hsn2]; try rfl)) rfl (.cons rfl (by first | rfl | (rw [hsn2]; try rfl)) rfl (.cons rfl (by first | rfl | (rw [hsn2]; try rfl)) rfl (.cons rfl (by first | rfl | (rw [hsn2]; try rfl)) rfl (.cons rfl (by first | rfl | (rw [hsn2]; try rfl)) rfl (.cons rfl (by first | rfl | (rw [hsn2]; try rfl)) rfl (.cons rfl (by first | rfl | (rw [hsn2]; try rfl)) rfl (.cons rfl (by first | rfl | (rw [hsn2]; try rfl)) rfl .nil)))))))) (.cons rfl (by first | rfl | (rw [hsn2]; try rfl)) rfl (.cons rfl (by first | rfl | (rw [hsn2]; try rfl)) rfl .nil)) (.cons rfl (by first | rfl | (rw [hsn2]; try rfl)) (.cons rfl (by first | rfl | (rw [hsn2]; try rfl)) .nil))) trivial
          | ((refine swp_region (id := 7) ?_) <;> (refine sops_pure (.free rfl rfl) rfl rfl (po_move rfl rfl) ?_) <;> (refine sops_pure (.free rfl rfl) rfl rfl (po_move rfl rfl) ?_) <;> (refine sops_pure (.free rfl rfl) rfl rfl (po_move rfl rfl) ?_) <;> (refine sops_pure (.free rfl rfl) rfl rfl (po_index rfl rfl (by first | exact .t _ | exact .own rfl rfl | exact .nil _ | exact .emp _) rfl (tyS rfl) (by first | rfl | omega) (by first | rfl | assumption | exact map_at (by first | assumption | omega))) ?_) <;> (first | refine sops_pure (.free rfl rfl) rfl rfl (po_field_bx rfl rfl (tyF rfl)) ?_ | refine sops_pure (.free rfl rfl) rfl rfl (po_field rfl rfl (tyF rfl)) ?_) <;> (first | refine sops_pure (.free rfl rfl) rfl rfl (po_load_bx rfl rfl (tyT rfl) rfl rfl) ?_ | refine sops_pure (.free rfl rfl) rfl rfl (po_load rfl rfl (tyT rfl) rfl) ?_) <;> (refine sops_pure (.free rfl rfl) rfl rfl (po_len rfl rfl (by first | exact .t _ | exact .own rfl rfl | exact .nil _ | exact .emp _) (tyS rfl)) ?_) <;> (refine sops_pure (.free rfl rfl) rfl rfl (po_cmp rfl rfl rfl rfl) ?_) <;> (refine sops_nil ?_))
          | ((refine swp_draw_all (id := 9) mixed (by kernel_rfl) (by kernel_rfl) ?_) <;> (refine sdraw_pure (.free rfl rfl) rfl (po_move rfl rfl) ?_) <;> (refine sdraw_pure (.free rfl rfl) rfl (po_move rfl rfl) ?_) <;> (refine sdraw_pure (.free rfl rfl) rfl (po_index rfl rfl (by first | exact .t _ | exact .own rfl rfl | exact .nil _ | exact .emp _) rfl (tyS rfl) (by first | rfl | omega) (by first | rfl | assumption | exact map_at (by first | assumption | omega))) ?_) <;> (first | refine sdraw_pure (.free rfl rfl) rfl (po_field_bx rfl rfl (tyF rfl)) ?_ | refine sdraw_pure (.free rfl rfl) rfl (po_field rfl rfl (tyF rfl)) ?_) <;> (first | refine sdraw_pure (.free rfl rfl) rfl (po_load_bx rfl rfl (tyT rfl) rfl rfl) ?_ | refine sdraw_pure (.free rfl rfl) rfl (po_load rfl rfl (tyT rfl) rfl) ?_) <;> (refine sdraw_pure (.free rfl rfl) rfl (po_move rfl rfl) ?_) <;> (refine sdraw_pure (.free rfl rfl) rfl (po_index rfl rfl (by first | exact .t _ | exact .own rfl rfl | exact .nil _ | exact .emp _) rfl (tyS rfl) (by first | rfl | omega) (by first | rfl | assumption | exact map_at (by first | assumption | omega))) ?_) <;> (first | refine sdraw_pure (.free rfl rfl) rfl (po_load_bx_agg rfl rfl (tyT rfl) rfl (.cons (by first | exact .t _ | exact .own rfl rfl | exact .nil _ | exact .emp _) (.cons (by first | exact .t _ | exact .own rfl rfl | exact .nil _ | exact .emp _) (.cons (by first | exact .t _ | exact .own rfl rfl | exact .nil _ | exact .emp _) .nil))) rfl) ?_ | refine sdraw_pure (.free rfl rfl) rfl (po_load_agg rfl rfl (tyT rfl) rfl rfl) ?_) <;> (first | refine sdraw_pure (.free rfl rfl) rfl (po_load_bx_agg rfl rfl (tyT rfl) rfl (.cons (by first | exact .t _ | exact .own rfl rfl | exact .nil _ | exact .emp _) (.cons (by first | exact .t _ | exact .own rfl rfl | exact .nil _ | exact .emp _) (.cons (by first | exact .t _ | exact .own rfl rfl | exact .nil _ | exact .emp _) .nil))) rfl) ?_ | refine sdraw_pure (.free rfl rfl) rfl (po_load_agg rfl rfl (tyT rfl) rfl rfl) ?_) <;> (refine sdraw_pure (.free rfl rfl) rfl (po_move rfl rfl) ?_) <;> (first | refine sdraw_pure (.free rfl rfl) rfl (po_load_bx_agg rfl rfl (tyT rfl) rfl (.cons (by first | exact .t _ | exact .own rfl rfl | exact .nil _ | exact .emp _) (.cons (by first | exact .t _ | exact .own rfl rfl | exact .nil _ | exact .emp _) (.cons (by first | exact .t _ | exact .own rfl rfl | exact .nil _ | exact .emp _) (.cons (by first | exact .t _ | exact .own rfl rfl | exact .nil _ | exact .emp _) (.cons (by first | exact .t _ | exact .own rfl rfl | exact .nil _ | exact .emp _) (.cons (by first | exact .t _ | exact .own rfl rfl | exact .nil _ | exact .emp _) (.cons (by first | exact .t _ | exact .own rfl rfl | exact .nil _ | exact .emp _) .nil))))))) rfl) ?_ | refine sdraw_pure (.free rfl rfl) rfl (po_load_agg rfl rfl (tyT rfl) rfl rfl) ?_) <;> (refine sdraw_pure (.free rfl rfl) rfl (po_call (hmatch) rfl (.cons rfl (by first | exact .t _ | exact .own rfl rfl | exact .nil _ | exact .emp _) (.cons rfl (by first | exact .t _ | exact .own rfl rfl | exact .nil _ | exact .emp _) (.cons rfl (by first | exact .t _ | exact .own rfl rfl | exact .nil _ | exact .emp _) (.cons rfl (by first | exact .t _ | exact .own rfl rfl | exact .nil _ | exact .emp _) .nil))))) ?_) <;> (refine sdraw_nil ?_) <;> (refine sops_nil ?_))
          | ((refine swp_region (id := 11) ?_) <;> (refine sops_pure (.free rfl rfl) rfl rfl (po_move rfl rfl) ?_) <;> (refine sops_pure (.free rfl rfl) rfl rfl (po_buildSlice rfl (tyE rfl) (.cons rfl (by first | exact .t _ | exact .own rfl rfl | exact .nil _ | exact .emp _) rfl rfl (.nil _)) rfl rfl rfl) ?_) <;> (first | refine sops_append rfl rfl rfl rfl rfl rfl (by first | rfl | simp) rfl (by first | exact .t _ | exact .own rfl rfl | exact .nil _ | exact .emp _) (tyE rfl) (by first | assumption | (simp at *; omega)) (by first | assumption | (simp [maxLen] at *; omega)) ?_ | refine sops_append_nil rfl rfl rfl rfl rfl rfl rfl (by first | exact .t _ | exact .own rfl rfl | exact .nil _ | exact .emp _) (tyE rfl) (by first | assumption | (simp at *; omega)) (by first | assumption | (simp [maxLen] at *; omega)) ?_) <;> (refine sops_pure (.free rfl rfl) rfl rfl (po_assign rfl rfl) ?_) <;> (refine sops_nil ?_))
          | ((refine swp_region (id := 8) ?_) <;> (refine sops_pure (.free rfl rfl) rfl rfl (po_move rfl rfl) ?_) <;> (first | refine sops_pure (.free rfl rfl) rfl rfl (po_inc rfl rfl rfl (by omega)) ?_ | refine sops_pure (.free rfl rfl) rfl rfl (po_arith rfl rfl rfl (ar_add (by first | rfl | (refine wrap_i64 ?_; omega)) rfl)) ?_) <;> (refine sops_pure (.free rfl rfl) rfl rfl (po_assign rfl rfl) ?_) <;> (refine sops_nil ?_))
          | refine swp_ret ?_
          | refine swp_skip ?_
          | refine swp_block ?_
          | refine swp_exit ?_
          | refine block_go ?_
          | refine block_exit ?_
          | refine block_far rfl ?_
          | refine block_ret ?_
          | refine then_ret ?_
          | refine then_exit ?_
          | refine for_ret ?_
          | refine for_exit ?_
          | refine swp_cond_t rfl (by first | assumption | with_reducible rfl | decide | (simp only [decide_eq_true_eq, Bool.not_eq_true', decide_eq_false_iff_not]; omega)) ?_
          | refine swp_cond_f rfl (by first | assumption | with_reducible rfl | decide | (simp only [decide_eq_false_iff_not, Bool.not_eq_false', decide_eq_true_eq]; omega)) ?_
          | refine swp_cond rfl (fun hc => ?_) (fun hc => ?_)
          | refine retq (by first | exact .inr rfl | exact .inl rfl) rfl (.tmp rfl (by first | exact .t _ | exact .own rfl rfl | exact .nil _ | exact .emp _) (.tmp rfl (by first | exact .t _ | exact .own rfl rfl | exact .nil _ | exact .emp _) .nil)) ?_)
    · obtain rfl : j = l[k].rules.length := by omega
      rw [List.take_length]
      repeat' (first
        | refine then_go ?_
        | refine swp_seq ?_
        | refine for_next hlt (weak_sub (.cons rfl (by first | rfl | (rw [hsn]; try rfl)) rfl (.cons rfl (by first | rfl | (rw [hsn]; try rfl)) rfl (.cons rfl (by first | rfl | (rw [hsn]; try rfl)) rfl (.cons rfl (by first | rfl | (rw [hsn]; try rfl)) rfl (.cons rfl (by first | rfl | (rw [hsn]; try rfl)) rfl (.cons rfl (by first | rfl | (rw [hsn]; try rfl)) rfl .nil)))))) (.cons rfl (by first | rfl | (rw [hsn]; try rfl)) rfl (.cons rfl (by first | rfl | (rw [hsn]; try rfl)) rfl .nil)) (.cons rfl (by first | rfl | (rw [hsn]; try rfl)) .nil)) trivial
        | ((refine swp_region (id := 7) ?_) <;> (refine sops_pure (.free rfl rfl) rfl rfl (po_move rfl rfl) ?_) <;> (refine sops_pure (.free rfl rfl) rfl rfl (po_move rfl rfl) ?_) <;> (refine sops_pure (.free rfl rfl) rfl rfl (po_move rfl rfl) ?_) <;> (refine sops_pure (.free rfl rfl) rfl rfl (po_index rfl rfl (by first | exact .t _ | exact .own rfl rfl | exact .nil _ | exact .emp _) rfl (tyS rfl) (by first | rfl | omega) (by first | rfl | assumption | exact map_at (by first | assumption | omega))) ?_) <;> (first | refine sops_pure (.free rfl rfl) rfl rfl (po_field_bx rfl rfl (tyF rfl)) ?_ | refine sops_pure (.free rfl rfl) rfl rfl (po_field rfl rfl (tyF rfl)) ?_) <;> (first | refine sops_pure (.free rfl rfl) rfl rfl (po_load_bx rfl rfl (tyT rfl) rfl rfl) ?_ | refine sops_pure (.free rfl rfl) rfl rfl (po_load rfl rfl (tyT rfl) rfl) ?_) <;> (refine sops_pure (.free rfl rfl) rfl rfl (po_len rfl rfl (by first | exact .t _ | exact .own rfl rfl | exact .nil _ | exact .emp _) (tyS rfl)) ?_) <;> (refine sops_pure (.free rfl rfl) rfl rfl (po_cmp rfl rfl rfl rfl) ?_) <;> (refine sops_nil ?_))
        | ((refine swp_region (id := 12) ?_) <;> (refine sops_pure (.free rfl rfl) rfl rfl (po_move rfl rfl) ?_) <;> (refine sops_pure (.free rfl rfl) rfl rfl (po_move rfl rfl) ?_) <;> (refine sops_pure (.free rfl rfl) rfl rfl (po_buildSlice rfl (tyE rfl) (.cons rfl (by first | exact .t _ | exact .own rfl rfl | exact .nil _ | exact .emp _) rfl rfl (.nil _)) rfl rfl rfl) ?_) <;> (first | refine sops_append rfl rfl rfl rfl rfl rfl (by first | rfl | simp) rfl (by first | exact .t _ | exact .own rfl rfl | exact .nil _ | exact .emp _) (tyE rfl) (by first | assumption | (simp at *; omega)) (by first | assumption | (simp [maxLen] at *; omega)) ?_ | refine sops_append_nil rfl rfl rfl rfl rfl rfl rfl (by first | exact .t _ | exact .own rfl rfl | exact .nil _ | exact .emp _) (tyE rfl) (by first | assumption | (simp at *; omega)) (by first | assumption | (simp [maxLen] at *; omega)) ?_) <;> (refine sops_pure (.free rfl rfl) rfl rfl (po_assign rfl rfl) ?_) <;> (refine sops_nil ?_))
        | ((refine swp_region (id := 4) ?_) <;> (refine sops_pure (.free rfl rfl) rfl rfl (po_move rfl rfl) ?_) <;> (first | refine sops_pure (.free rfl rfl) rfl rfl (po_inc rfl rfl rfl (by omega)) ?_ | refine sops_pure (.free rfl rfl) rfl rfl (po_arith rfl rfl rfl (ar_add (by first | rfl | (refine wrap_i64 ?_; omega)) rfl)) ?_) <;> (refine sops_pure (.free rfl rfl) rfl rfl (po_assign rfl rfl) ?_) <;> (refine sops_nil ?_))
        | refine swp_ret ?_
        | refine swp_skip ?_
        | refine swp_block ?_
        | refine swp_exit ?_
        | refine block_go ?_
        | refine block_exit ?_
        | refine block_far rfl ?_
        | refine block_ret ?_
        | refine then_ret ?_
        | refine then_exit ?_
        | refine for_ret ?_
        | refine for_exit ?_
        | refine swp_cond_t rfl (by first | assumption | with_reducible rfl | decide | (simp only [decide_eq_true_eq, Bool.not_eq_true', decide_eq_false_iff_not]; omega)) ?_
        | refine swp_cond_f rfl (by first | assumption | with_reducible rfl | decide | (simp only [decide_eq_false_iff_not, Bool.not_eq_false', decide_eq_true_eq]; omega)) ?_
        | refine swp_cond rfl (fun hc => ?_) (fun hc => ?_)
        | refine retq (by first | exact .inr rfl | exact .inl rfl) rfl (.tmp rfl (by first | exact .t _ | exact .own rfl rfl | exact .nil _ | exact .emp _) (.tmp rfl (by first | exact .t _ | exact .own rfl rfl | exact .nil _ | exact .emp _) .nil)) ?_)
  · obtain rfl : k = l.length := by omega
    rw [List.take_length]
    repeat' (first
      | refine then_go ?_
      | refine swp_seq ?_
      | ((refine swp_region (id := 3) ?_) <;> (refine sops_pure (.free rfl rfl) rfl rfl (po_move rfl rfl) ?_) <;> (refine sops_pure (.free rfl rfl) rfl rfl (po_move rfl rfl) ?_) <;> (refine sops_pure (.free rfl rfl) rfl rfl (po_len rfl rfl (by first | exact .t _ | exact .own rfl rfl | exact .nil _ | exact .emp _) (tyS rfl)) ?_) <;> (refine sops_pure (.free rfl rfl) rfl rfl (po_cmp rfl rfl rfl rfl) ?_) <;> (refine sops_nil ?_))
      | ((refine swp_region (id := 13) ?_) <;> (refine sops_pure (.free rfl rfl) rfl rfl (po_move rfl rfl) ?_) <;> (refine sops_pure (.free rfl rfl) rfl rfl (po_move rfl rfl) ?_) <;> (refine sops_pure (.free rfl rfl) rfl rfl (po_call (hsays) rfl (.cons rfl (by first | exact .t _ | exact .own rfl rfl | exact .nil _ | exact .emp _) (.cons rfl (by first | exact .t _ | exact .own rfl rfl | exact .nil _ | exact .emp _) .nil))) ?_) <;> (refine sops_pure (.free rfl rfl) rfl rfl (po_extract rfl rfl rfl) ?_) <;> (refine sops_pure (.free rfl rfl) rfl rfl (po_extract rfl rfl rfl) ?_) <;> (refine sops_pure (.free rfl rfl) rfl rfl (po_assign rfl rfl) ?_) <;> (refine sops_pure (.free rfl rfl) rfl rfl (po_assign rfl rfl) ?_) <;> (refine sops_nil ?_))
      | refine swp_ret ?_
      | refine swp_skip ?_
      | refine swp_block ?_
      | refine swp_exit ?_
      | refine block_go ?_
      | refine block_exit ?_
      | refine block_far rfl ?_
      | refine block_ret ?_
      | refine then_ret ?_
      | refine then_exit ?_
      | refine for_ret ?_
      | refine for_exit ?_
      | refine swp_cond_t rfl (by first | assumption | with_reducible rfl | decide | (simp only [decide_eq_true_eq, Bool.not_eq_true', decide_eq_false_iff_not]; omega)) ?_
      | refine swp_cond_f rfl (by first | assumption | with_reducible rfl | decide | (simp only [decide_eq_false_iff_not, Bool.not_eq_false', decide_eq_true_eq]; omega)) ?_
      | refine swp_cond rfl (fun hc => ?_) (fun hc => ?_)
      | refine retq (by first | exact .inr rfl | exact .inl rfl) rfl (.tmp rfl (by first | exact .t _ | exact .own rfl rfl | exact .nil _ | exact .emp _) (.tmp rfl (by first | exact .t _ | exact .own rfl rfl | exact .nil _ | exact .emp _) .nil)) ?_)
    rfl
end Go.Proofs.Ytlcecabfmemfeaa.Pol

/- A region that draws its order, at whose end two boxes are made and written, in any order ('x, y := a[i], b[i]'). -/
namespace Go.Proofs.Ytlcecabfmemfeaa.Sim
set_option linter.unusedVariables false
set_option linter.unusedSimpArgs false
open Go.RowKit Mem
section
variable {C : Ctx} {bx : List (Nat × List A)} {ow : List (Nat × Own)} {w : World} {m : Mm} {g : Gh}
/-- a box that lies there already -/
theorem EnvG.boxAt (he : EnvG C bx ow w m g) {i b : Nat} (hi : get bx i = none) {cs : List A} {vs : Array Value} {ty : TypeId} (hh : w.heap[b]? = some (.cells vs ty (0, 0))) (hc : ACells m g cs vs.toList) (hb : C.w0.heap.size ≤ b) (hm : ∀ o, m b o = none)
    (hbx : ∀ j cj, get bx j = some cj → g.gb j ≠ b) (how : ∀ j o, get ow j = some o → (g.go j).ownBlock ≠ some b) : EnvG C ((i, cs) :: bx) ow w m (g.addB i b) := by
  have hlb : g.lb i = false := by rw [he.lb, hi]; rfl
  have e : ∀ q, (g.addB i b).gb q = if q = i then b else g.gb q := fun q => rfl
  exact {
    lo := he.lo, sub := he.sub, ext := he.ext
    lb := fun j => by
      rw [get_cons]
      show (if j = i then true else g.lb j) = _
      by_cases hji : j = i
      · subst hji; simp
      · rw [if_neg hji, if_neg (fun e => hji e.symm)]; exact he.lb j
    lw := he.lw, ln := he.ln
    boxes := fun j cs' hj => by
      rw [get_cons] at hj
      by_cases hji : i = j
      · subst hji
        rw [if_pos rfl] at hj; injection hj with hj; subst hj
        rw [e, if_pos rfl]
        exact ⟨vs, ty, hh, by simpa using hc.1, fun k x v h1 h2 => by
          have := hc.2 k x v h1 (by simpa using h2)
          exact ⟨this.1.addB hlb, this.2⟩, hb, hm⟩
      · rw [if_neg hji] at hj
        obtain ⟨vs', ty', h1, h2, h3, h4, h5⟩ := he.boxes j cs' hj
        rw [e, if_neg (fun e => hji e.symm)]
        exact ⟨vs', ty', h1, h2, fun k x v h6 h7 => ⟨(h3 k x v h6 h7).1.addB hlb, (h3 k x v h6 h7).2⟩, h4, h5⟩
    inj := fun j k cj ck hj hk h => by
      rw [get_cons] at hj hk
      rw [e, e] at h
      by_cases hji : i = j <;> by_cases hki : i = k
      · omega
      · rw [if_neg hki] at hk
        rw [if_pos hji.symm, if_neg (fun e => hki e.symm)] at h
        exact absurd h.symm (hbx k ck hk)
      · rw [if_neg hji] at hj
        rw [if_neg (fun e => hji e.symm), if_pos hki.symm] at h
        exact absurd h (hbx j cj hj)
      · rw [if_neg hji] at hj; rw [if_neg hki] at hk
        rw [if_neg (fun e => hji e.symm), if_neg (fun e => hki e.symm)] at h
        exact he.inj j k cj ck hj hk h
    owns := fun j o hj => by
      obtain ⟨vs', h1, h2, h3, h4⟩ := he.owns j o hj
      refine ⟨vs', h1, h2, h3, fun b' hb' => ⟨(h4 b' hb').1, fun k ck hk => ?_⟩⟩
      rw [get_cons] at hk
      rw [e]
      by_cases hki : i = k
      · rw [if_pos hki.symm]
        exact fun h => how j o hj (by have hb2 : (g.go j).ownBlock = some b' := hb'; rw [hb2, h])
      · rw [if_neg hki] at hk
        rw [if_neg (fun e => hki e.symm)]
        exact (h4 b' hb').2 k ck hk
    apart := he.apart }
theorem ACells.mono {m' : Mm} (hm : ∀ b o v, m b o = some v → m' b o = some v) {ys : List A} {us : List Value} (h : ACells m g ys us) : ACells m' g ys us := ⟨h.1, fun j y u h1 h2 => ⟨(h.2 j y u h1 h2).1.mono hm, (h.2 j y u h1 h2).2⟩⟩
theorem ACells.addB {i b : Nat} (hi : g.lb i = false) {ys : List A} {us : List Value} (h : ACells m g ys us) : ACells m (g.addB i b) ys us := ⟨h.1, fun j y u h1 h2 => ⟨(h.2 j y u h1 h2).1.addB hi, (h.2 j y u h1 h2).2⟩⟩
end

/-- a box to be made and written: its slot, its type, the value's slot, its zero, what is written -/
structure Bx where
  d : Nat
  ty : TypeId
  s : Nat
  y : A
def zeroOf (P : Program) (t : TypeId) : Value := ((P.info? t).bind (·.zero)).getD undef
theorem zeroOf_of {P : Program} {t n : Nat} (h : ∃ pl zs, strI P t = some (pl, zs) ∧ zs.length = n) : (P.info? t).bind (·.zero) = some (zeroOf P t) ∧ (zeroOf P t).cells.size = n := by
  obtain ⟨pl, zs, h1, h2⟩ := h
  obtain ⟨it, z, h3, h4, h5, _⟩ := strI_zero h1
  have e : (P.info? t).bind (·.zero) = some z := by rw [h3]; exact h4
  unfold zeroOf
  rw [e]
  exact ⟨rfl, by have : z.cells.toList.length = zs.length := by rw [h5]
                 simpa [h2] using this⟩
def lateB (ops : Array Oper) (n M : Nat) : Bool :=
  (ops.size == n + 4) && ((List.range ops.size).all fun i => ((deps ops i).all fun j => decide (j < i)) &&
    (match dstOf ops i with | some d => decide (writer ops d = some i) && decide (d < M) | none => true))
def lateS (ops : Array Oper) (n q s : Nat) : Bool := (deps ops (n + 2 + q)).contains (n + q) && (match writer ops s with | none => true | some j => decide (j < n) && (deps ops (n + 2 + q)).contains j)
def depsL (ops : Array Oper) (n : Nat) : Bool := (List.range n).all fun i => match ops[i]? with
  | none => false
  | some o => ((slotsOf o).all fun s => match writer ops s with | none => true | some j => decide (j < i) && (deps ops i).contains j) &&
    (match o.guard with | none => true | some (j, _) => decide (j < i) && (deps ops i).contains j)
/-- how a box's operations stand -/
structure BxOk (P : Program) (bx : List (Nat × List A)) (ops : Array Oper) (n q : Nat) (tm : List (Nat × A)) (b : Bx) : Prop where
  al : ∃ o, ops[n + q]? = some o ∧ o.op = .alloc b.ty ∧ o.guard = none ∧ o.dst = some b.d
  st : ∃ o, ops[n + 2 + q]? = some o ∧ o.op = .store b.ty (.tmp b.d) (.tmp b.s) ∧ o.guard = none ∧ o.dst = none
  sl : lateS ops n q b.s = true
  zs : ∃ pl zs, strI P b.ty = some (pl, zs) ∧ zs.length = b.y.cells.length
  free : get bx b.d = none
  y : get tm b.s = some b.y
  yk : b.y.okB = true
  n : ∃ ag, tyI P b.ty = some (ag, b.y.cells.length)
inductive LateR (P : Program) (N : Nat) (bx : List (Nat × List A)) (ow : List (Nat × Own)) (ops : Array Oper) (Q : Exit → St → Prop) (n : Nat) (tm : List (Nat × A)) : Prop
  | mk (b0 b1 : Bx) (h0 : BxOk P bx ops n 0 tm b0) (h1 : BxOk P bx ops n 1 tm b1) (hne : Nat.beq b0.d b1.d = false) (h : Q .normal ⟨(b1.d, .bp b1.d 0) :: (b0.d, .bp b0.d 0) :: tm, (b1.d, b1.y.cells) :: (b0.d, b0.y.cells) :: bx, ow⟩) : LateR P N bx ow ops Q n tm
structure SLate (P : Program) (N : Nat) (bx : List (Nat × List A)) (ow : List (Nat × Own)) (ops : Array Oper) (Q : Exit → St → Prop) (n : Nat) (l : List Oper) (tm : List (Nat × A)) : Prop where
  go : ∃ tm', PRun P bx ow ops l tm tm' ∧ LateR P N bx ow ops Q n tm'
section
variable {P : Program} {N : Nat} {Q : Exit → St → Prop} {ops : Array Oper} {rest : List Oper} {o : Oper} {tm : List (Nat × A)} {bx : List (Nat × List A)} {ow : List (Nat × Own)} {n : Nat}
theorem slate_nil (h : LateR P N bx ow ops Q n tm) : SLate P N bx ow ops Q n [] tm := ⟨⟨tm, .nil tm, h⟩⟩
theorem slate_pure {d : Nat} {r : A} (hg : GuardIs ops tm o true) (hd : o.dst = some d) (hp : PureOp P bx ow o (evA tm) r) (h : SLate P N bx ow ops Q n rest ((d, r) :: tm)) : SLate P N bx ow ops Q n (o :: rest) tm := by
  obtain ⟨tm', h1, h2⟩ := h; exact ⟨⟨tm', .on hg hd hp h1, h2⟩⟩
end

/-- what holds while the region runs -/
structure LateI (P : Program) (C : Ctx) (ops : Array Oper) (n : Nat) (val : Nat → A) (B : Nat → Bx) (a0 : Act) (w : World) (m : Mm) (g : Gh) (vals : Nat → Option Value) (w' : World) (m' : Mm) : Prop where
  lo : Lo w w'
  ext : Ext m m' w.heap.size
  sub : Sub m' w'
  pure : ∀ i v, i < n → vals i = some v → AR m' g (val i) v
  box : ∀ q v, q < 2 → vals (n + q) = some v → ∃ (b : Nat) (vs : Array Value), v = .pointer (some ⟨b, 0, none⟩) ∧ w.heap.size ≤ b ∧ w'.heap[b]? = some (.cells vs (B q).ty (0, 0)) ∧ (∀ o, m' b o = none) ∧ (vals (n + 2 + q) = none → vs = (zeroOf P (B q).ty).cells) ∧ (vals (n + 2 + q) ≠ none → ACells m' g (B q).y.cells vs.toList)
  apart : ∀ v, vals n = some v → vals (n + 1) ≠ some v
theorem setRow_lo {w w' : World} {b : Nat} {vs : Array Value} (h : Lo w w') (hb : w.heap.size ≤ b) : Lo w (w'.setRow b vs) := h.grown (EnvG.setB.grown_setRow' w' b vs) (fun k hk => by injection hk with hk; subst hk; exact hb)
theorem late_store {P : Program} {o : Oper} {a : Act} {w : World} {ty b n : Nat} {vs us : Array Value} {ag : Bool} {sd ss : Tmp} (ho : o.op = .store ty (.tmp sd) (.tmp ss)) (hd : a.eval (.tmp sd) = .pointer (some ⟨b, 0, none⟩)) (hh : w.heap[b]? = some (.cells vs ty (0, 0)))
    (hT : tyI P ty = some (ag, n)) (hu : (a.eval (.tmp ss)).cells = us) (hn : us.size = n) (hvs : vs.size = n) (hone : ∀ v ∈ us.toList, v.oneCell' = true) : (execOp a.eval o).run P w = .ok .skip (w.setRow b us) := by
  obtain ⟨d', i', hu', hi', _, hsz⟩ := tyI_spec hT
  have hst := run_storeCells_at P b 0 ty us.toList 0 vs w hh (by simp; omega) hone
  have e : (vs.toList.take 0 ++ us.toList ++ vs.toList.drop (0 + us.toList.length)).toArray = us := by
    rw [List.drop_eq_nil_of_le (by simp; omega)]; simp
  rw [Nat.add_zero, e] at hst
  have hsv : (storeVar ty ⟨b, 0, none⟩ (a.eval (.tmp ss))).run P w = .ok () (w.setRow b us) := by
    have hsz' : (a.eval (.tmp ss)).cells.size = i'.size := by rw [hsz, hu]; exact hn
    generalize a.eval (.tmp ss) = u at *
    simp [storeVar, sizeOf, typeInfo, hi', hsz']
    rw [hu]
    simpa [hu, hsz'] using hst
  simp only [execOp, ho, hd, Instr.storeAt, Instr.sureAddr, Sem.run_bind, Sem.run_pure, Result.andThen_ok, hsv]
theorem late_alloc {P : Program} {o : Oper} {a : Act} {w : World} {ty : Nat} {z : Value} (ho : o.op = .alloc ty) (hz : (P.info? ty).bind (·.zero) = some z) : (execOp a.eval o).run P w = .ok (.value (.pointer (some ⟨w.heap.size, 0, none⟩))) (w.alloc (.cells z.cells ty)) := by
  cases hq : P.info? ty with
  | none => rw [hq] at hz; cases hz
  | some i => rw [hq] at hz; simp at hz; simp [execOp, ho, Instr.alloc, zeroValue, typeInfo, hq, hz, newVar, newRow]
set_option maxHeartbeats 2000000 in
/-- a region that draws its order, with two boxes that are made and written at its end, in any order -/
theorem swp_late {P : Program} {N : Nat} {Q : Exit → St → Prop} {id : Nat} {l : List Oper} {tm : List (Nat × A)} {bx : List (Nat × List A)} {ow : List (Nat × Own)} (n : Nat) (hm : P.follows .mixedOrders = true) (hB : lateB l.toArray n N = true) (hD : depsL l.toArray n = true)
    (h : SLate P N bx ow l.toArray Q n (l.take n) tm) : SWp P N (.region id l.toArray true) Q ⟨tm, bx, ow⟩ := by
  obtain ⟨tm', hrun, ⟨b0, b1, k0, k1, hne, hQ⟩⟩ := h
  obtain ⟨val, tms, ht0, htn, hstep⟩ := prun_at hrun
  generalize hops' : l.toArray = ops at *
  have hlsz : l.length = ops.size := by rw [← hops']; simp
  unfold lateB at hB
  simp only [Bool.and_eq_true, beq_iff_eq] at hB
  obtain ⟨hsize, hB⟩ := hB
  rw [List.all_eq_true] at hB
  have hlen : (l.take n).length = n := by simp; omega
  rw [hlen] at htn
  have hdl : ∀ i, i < ops.size → ∀ j ∈ deps ops i, j < i := fun i hi j hj => by
    have := hB i (by simpa using hi)
    simp only [Bool.and_eq_true] at this
    simpa using (List.all_eq_true.1 this.1) j hj
  have hwr : ∀ i d, i < ops.size → dstOf ops i = some d → writer ops d = some i ∧ d < N := fun i d hi hd => by
    have := hB i (by simpa using hi)
    simp only [Bool.and_eq_true] at this
    have h2 := this.2
    rw [hd] at h2
    simpa only [Bool.and_eq_true, decide_eq_true_eq] using h2
  have hops : ∀ i, i < n → ∃ o, ops[i]? = some o ∧ (l.take n)[i]? = some o := by
    intro i hi
    refine ⟨l[i]'(by omega), ?_, ?_⟩
    · have h0 : l.toArray[i]? = some (l[i]'(by omega)) := by simp [List.getElem?_eq_getElem (show i < l.length by omega)]
      rwa [hops'] at h0
    · rw [List.getElem?_take_of_lt hi]; exact List.getElem?_eq_getElem (show i < l.length by omega)
  have hdst : ∀ i, i < n → ∃ d, dstOf ops i = some d ∧ tms (i + 1) = (d, val i) :: tms i := by
    intro i hi
    obtain ⟨o, h1, h2⟩ := hops i hi
    obtain ⟨d, h3, h4, _⟩ := hstep i o h2
    exact ⟨d, by unfold dstOf; rw [h1]; exact h3, h4⟩
  obtain ⟨B, hB0, hB1⟩ : ∃ B : Nat → Bx, B 0 = b0 ∧ B 1 = b1 := ⟨fun q => if q = 0 then b0 else b1, rfl, rfl⟩
  have kB : ∀ q, q < 2 → BxOk P bx ops n q tm' (B q) := fun q hq => by
    match q, hq with
    | 0, _ => rw [hB0]; exact k0
    | 1, _ => rw [hB1]; exact k1
  have hal : ∀ q, q < 2 → dstOf ops (n + q) = some (B q).d := fun q hq => by
    obtain ⟨o, h1, _, _, h4⟩ := (kB q hq).al
    unfold dstOf; rw [h1]; exact h4
  refine .mk fun C a w ⟨m, g, hr⟩ => ?_
  have hfn := frame_none ops a
  have hev : ∀ {vals : Nat → Option Value} {i d v}, i < ops.size → dstOf ops i = some d → vals i = some v → (frame ops a vals).eval (.tmp d) = v := fun {vals i d v} hi hd hv => by
    obtain ⟨h1, h2⟩ := hwr i d hi hd
    exact frame_eval h1 hv (by rw [hr.size]; exact h2)
  -- a slot of the operations ahead, by what is done
  have hslot : ∀ (vals : Nat → Option Value) (w' : World) (m' : Mm), LateI P C ops n val B a w m g vals w' m' → ∀ i, i ≤ n → ∀ s, (match writer ops s with | none => true | some j => (decide (j < i) && (vals j).isSome)) = true → ∀ y, get (tms i) s = some y → AR m' g y ((frame ops a vals).eval (.tmp s)) := by
    intro vals w' m' hI i hi s hs y hy
    rcases tms_get hdst i hi s y hy with ⟨j, hj1, hj2, rfl⟩ | ⟨hg0, hnone⟩
    · have hw := (hwr j s (by omega) hj2).1
      rw [hw] at hs
      simp only [Bool.and_eq_true, decide_eq_true_eq] at hs
      obtain ⟨v, hv⟩ := Option.isSome_iff_exists.1 hs.2
      rw [hev (by omega) hj2 hv]
      exact hI.pure j v (by omega) hv
    · rw [ht0] at hg0
      cases hw : writer ops s with
      | none => rw [frame_old hw]; exact (hr.tmps s y hg0).mono hI.ext.1
      | some j =>
        rw [hw] at hs
        simp only [Bool.and_eq_true, decide_eq_true_eq] at hs
        exact absurd (writer_spec hw) (hnone j hs.1)
  have hput : ∀ (vals : Nat → Option Value) (i : Nat) (o : Oper) (v : Value), ops[i]? = some o → (frame ops a vals).put o.dst v = frame ops a (setV vals i v) := by
    intro vals i o v ho
    have hi : i < ops.size := by
      rcases Nat.lt_or_ge i ops.size with h | h
      · exact h
      · rw [Array.getElem?_eq_none h] at ho; cases ho
    cases hd : o.dst with
    | some d => exact frame_put (hwr i d hi (by unfold dstOf; rw [ho]; exact hd)).1 v
    | none =>
      refine frame_put_none (fun s hs => ?_) v v
      have := writer_spec hs
      rw [ho] at this
      simp only [Option.bind_some, hd] at this
      cases this
  refine wp_region_any hm (wpAny_inv (fun listed a' w' => listed.size = ops.size ∧ Closed ops listed ∧ ∃ vals m', a' = frame ops a vals ∧ (∀ i, isOn listed i = (vals i).isSome) ∧ LateI P C ops n val B a w m g vals w' m') ?_ ?_ _ _ _ _ ⟨by simp, ?_, fun _ => none, m, hfn.symm, ?_, ⟨(Lo.refl w).drew, Ext.refl _ _, fun b o v hv => hr.env.sub b o v hv, fun i v _ h => (by cases h), fun q v _ h => (by cases h), fun v h => (by cases h)⟩⟩ (by simp) (by simp [List.countP_replicate]))
  · rintro listed a' w' i ⟨hsz, hcl, vals, m', rfl, hon, hI⟩ _ hrd
    obtain ⟨hlt, hoff, hdeps⟩ := ready_spec hrd
    have hcl' : Closed ops (listed.setIfInBounds i true) := by
      intro x y hx hy
      rw [isOn_set (by omega)] at hx ⊢
      by_cases hxi : x = i
      · subst hxi; rw [hdeps y hy]; simp
      · simp [hxi] at hx
        rw [hcl x y hx hy]; simp
    have hon' : ∀ v x, isOn (listed.setIfInBounds i true) x = (setV vals i v x).isSome := by
      intro v x
      rw [isOn_set (by omega)]
      by_cases hx : x = i
      · subst hx; simp [setV]
      · simp [setV, hx, hon x]
    have hvi : vals i = none := by rw [hon i] at hoff; simpa using hoff
    have hfin : ∀ v w'' m'', LateI P C ops n val B a w m g (setV vals i v) w'' m'' → (listed.setIfInBounds i true).size = ops.size ∧ Closed ops (listed.setIfInBounds i true) ∧ ∃ vals' m', frame ops a (setV vals i v) = frame ops a vals' ∧ (∀ x, isOn (listed.setIfInBounds i true) x = (vals' x).isSome) ∧ LateI P C ops n val B a w m g vals' w'' m' :=
      fun v w'' m'' h => ⟨by simpa using hsz, hcl', _, m'', rfl, hon' v, h⟩
    obtain ⟨o, ho⟩ : ∃ o, ops[i]? = some o := ⟨_, Array.getElem?_eq_getElem hlt⟩
    unfold wpOp
    rw [ho]
    simp only
    -- a store's value is there only where its box is
    have hst0 : ∀ q, q < 2 → vals (n + 2 + q) ≠ none → vals (n + q) ≠ none := by
      intro q hq h
      have h1 := (kB q hq).sl
      unfold lateS at h1
      simp only [Bool.and_eq_true] at h1
      have h2 := hcl (n + 2 + q) (n + q) (by rw [hon]; exact Option.isSome_iff_ne_none.2 h) (by simpa using h1.1)
      rw [hon] at h2
      exact Option.isSome_iff_ne_none.1 h2
    rcases Nat.lt_or_ge i n with hin | hin
    · -- an operation ahead
      obtain ⟨o', h1, h2⟩ := hops i hin
      rw [ho] at h1; injection h1 with h1; subst h1
      have hD' := (List.all_eq_true.1 hD) i (by simpa using hin)
      rw [ho] at hD'
      simp only [Bool.and_eq_true] at hD'
      have hdv : ∀ j, (deps ops i).contains j = true → (vals j).isSome = true := fun j hj => by rw [← hon j]; exact hdeps j (by simpa using hj)
      have hs1 : ∀ s, (match writer ops s with | none => true | some j => decide (j < i) && (deps ops i).contains j) = true → ∀ y, get (tms i) s = some y → AR m' g y ((frame ops a vals).eval (.tmp s)) := by
        intro s hs y hy
        refine hslot vals w' m' hI i (by omega) s ?_ y hy
        cases hw : writer ops s with
        | none => rfl
        | some j =>
          rw [hw] at hs
          simp only [Bool.and_eq_true] at hs ⊢
          exact ⟨hs.1, hdv j hs.2⟩
      have hgd : ∀ j want e, o.guard = some (j, want) → dstOf ops j = some e → ∀ y, get (tms i) e = some y → AR m' g y ((frame ops a vals).eval (.tmp e)) := by
        intro j want e hg he y hy
        have h3 := hD'.2
        rw [hg] at h3
        refine hs1 e ?_ y hy
        have hji : j < i := by simp only [Bool.and_eq_true, decide_eq_true_eq] at h3; exact h3.1
        rw [(hwr j e (by omega) he).1]
        exact h3
      -- what is done then holds
      have hnext : ∀ v w'' m'', Lo w' w'' → Ext m' m'' w'.heap.size → Sub m'' w'' → AR m'' g (val i) v → LateI P C ops n val B a w m g (setV vals i v) w'' m'' := by
        intro v w'' m'' hl he hs hv
        refine ⟨hI.lo.trans hl, hI.ext.trans he hI.lo.size, hs, fun x u hx hu => ?_, fun q u hq hu => ?_, fun u hu hu' => ?_⟩
        · by_cases hxi : x = i
          · subst hxi; rw [setV_same] at hu; injection hu with hu; subst hu; exact hv
          · rw [setV_other _ hxi] at hu; exact (hI.pure x u hx hu).mono he.1
        · rw [setV_other _ (by omega)] at hu
          obtain ⟨b, vs, h5, h6, h7, h8, h9, h10⟩ := hI.box q u hq hu
          refine ⟨b, vs, h5, h6, hl.block h7, fun o => by rw [he.2 b o (block_lt h7)]; exact h8 o, fun h => h9 ?_, fun h => (h10 ?_).mono he.1⟩
          · rwa [setV_other _ (by omega)] at h
          · rwa [setV_other _ (by omega)] at h
        · rw [setV_other _ (by omega)] at hu hu'
          exact hI.apart u hu hu'
      obtain ⟨d, hd, htm, hcase⟩ := hstep i o h2
      rcases hcase with ⟨hg, hp⟩ | ⟨hg, hv⟩
      · rw [if_pos (hg.wanted hgd)]
        refine .inl (Oper.wp_mono ?_ (hp.go C m' g w' (frame ops a vals) _ (hr.env.step hI.lo hI.ext hI.sub) ?_))
        · rintro a2 w2 ⟨v, m2, rfl, hl2, he2, hs2, hv2⟩
          rw [hput vals i o v ho]
          exact hfin v w2 m2 (hnext v w2 m2 hl2 he2 hs2 hv2)
        · intro x hx y hy
          cases x with
          | tmp s => exact hs1 s ((List.all_eq_true.1 hD'.1) s (mem_slots hx)) y hy
          | const v => injection hy with hy; subst hy; exact .v v
          | func f => injection hy with hy; subst hy; exact .v _
          | global i => cases hy
      · rw [if_neg (by rw [hg.wanted hgd]; simp)]
        rw [hput vals i o _ ho]
        exact hfin _ w' m' (hnext _ w' m' (Lo.refl _) (Ext.refl _ _) hI.sub (by rw [hv]; exact .v _))
    · obtain ⟨q, hq, hiq⟩ : ∃ q, q < 2 ∧ (i = n + q ∨ i = n + 2 + q) := by
        rcases Nat.lt_or_ge i (n + 2) with h | h
        · exact ⟨i - n, by omega, .inl (by omega)⟩
        · exact ⟨i - (n + 2), by omega, .inr (by omega)⟩
      have hk := kB q hq
      rcases hiq with rfl | rfl
      · -- a box is made
        obtain ⟨o2, h1, h2, h3, h4⟩ := hk.al
        rw [ho] at h1; injection h1 with h1; subst h1
        rw [if_pos (wanted_free h3)]
        refine .inl (wp_of_run (late_alloc h2 (zeroOf_of hk.zs).1) ?_)
        rw [hput vals _ o _ ho]
        have hnost : vals (n + 2 + q) = none := by
          cases h : vals (n + 2 + q) with
          | none => rfl
          | some v => exact absurd hvi (hst0 q hq (by rw [h]; simp))
        have hlo2 : Lo w' (w'.alloc (.cells (zeroOf P (B q).ty).cells (B q).ty)) := (Lo.refl w').alloc _
        refine hfin _ _ m' ⟨hI.lo.trans hlo2, hI.ext, hI.sub.lo hlo2, fun x u hx hu => ?_, fun q2 u hq2 hu => ?_, fun u hu hu' => ?_⟩
        · rw [setV_other _ (by omega)] at hu; exact hI.pure x u hx hu
        · by_cases hqq : q2 = q
          · subst hqq
            rw [setV_same] at hu; injection hu with hu; subst hu
            refine ⟨w'.heap.size, (zeroOf P (B q2).ty).cells, rfl, hI.lo.size, heap_alloc_new _ _, fun o => alloc_new_cells hI.sub (Nat.le_refl _), fun _ => rfl, fun h => absurd ?_ h⟩
            rw [setV_other _ (by omega)]; exact hnost
          · rw [setV_other _ (by omega)] at hu
            obtain ⟨b, vs, h5, h6, h7, h8, h9, h10⟩ := hI.box q2 u hq2 hu
            refine ⟨b, vs, h5, h6, hlo2.block h7, h8, fun h => h9 ?_, fun h => h10 ?_⟩
            · rwa [setV_other _ (by omega)] at h
            · rwa [setV_other _ (by omega)] at h
        · -- unlike blocks
          have hold : ∀ q2 u, q2 < 2 → vals (n + q2) = some u → u ≠ .pointer (some ⟨w'.heap.size, 0, none⟩) := by
            intro q2 u hq2 hu e
            obtain ⟨b, vs, h5, h6, h7, _⟩ := hI.box q2 u hq2 hu
            rw [h5] at e; injection e with e; injection e with e; injection e with e
            have := block_lt h7; omega
          rcases (show q = 0 ∨ q = 1 by omega) with hq0 | hq0
          · have e : n + q = n := by omega
            rw [e] at hu hu'
            rw [setV_same] at hu; injection hu with hu
            rw [setV_other _ (by omega)] at hu'
            exact hold 1 u (by omega) hu' hu.symm
          · have e : n + q = n + 1 := by omega
            rw [e] at hu hu'
            rw [setV_same] at hu'; injection hu' with hu'
            rw [setV_other _ (by omega)] at hu
            exact hold 0 u (by omega) hu hu'.symm
      · -- a box is written
        obtain ⟨o2, h1, h2, h3, h4⟩ := hk.st
        rw [ho] at h1; injection h1 with h1; subst h1
        rw [if_pos (wanted_free h3)]
        have hsl := hk.sl
        unfold lateS at hsl
        simp only [Bool.and_eq_true] at hsl
        have hal1 := hdeps (n + q) (by simpa using hsl.1)
        rw [hon] at hal1
        obtain ⟨pv, hpv⟩ := Option.isSome_iff_exists.1 hal1
        obtain ⟨b, vs, rfl, h6, h7, h8, h9, _⟩ := hI.box q _ hq hpv
        have hvs := h9 hvi
        have hdv := hev (by omega) (hal q hq) hpv
        have hsv : AR m' g (B q).y ((frame ops a vals).eval (.tmp (B q).s)) := by
          refine hslot vals w' m' hI n (Nat.le_refl _) (B q).s ?_ _ (by rw [htn]; exact hk.y)
          cases hw : writer ops (B q).s with
          | none => rfl
          | some j =>
            have h10 := hsl.2
            rw [hw] at h10
            simp only [Bool.and_eq_true] at h10 ⊢
            refine ⟨h10.1, ?_⟩
            rw [← hon j]; exact hdeps j (by simpa using h10.2)
        have hca := acells_ok hsv hk.yk
        obtain ⟨ag, hT⟩ := hk.n
        have hrunS := late_store (P := P) h2 hdv h7 hT rfl (by simpa using hca.1) (by rw [hvs]; exact (zeroOf_of hk.zs).2) hca.one
        left
        unfold Oper.wp
        rw [hrunS, Oper.upon_skip]
        rw [hput vals _ o _ ho]
        have hother : ∀ k, k ≠ b → (w'.setRow b ((frame ops a vals).eval (.tmp (B q).s)).cells).heap[k]? = w'.heap[k]? := fun k hk => setRow_other w' b k _ hk
        refine hfin _ _ m' ⟨setRow_lo hI.lo h6, hI.ext, fun b' o' v' hv' => ?_, fun x u hx hu => ?_, fun q2 u hq2 hu => ?_, fun u hu hu' => ?_⟩
        · have hb : b' ≠ b := fun e => by rw [e, h8 o'] at hv'; cases hv'
          rw [World.cell?_of_block (a := ⟨b', o', none⟩) (hother b' hb)]; exact hI.sub b' o' v' hv'
        · rw [setV_other _ (by omega)] at hu; exact hI.pure x u hx hu
        · rw [setV_other _ (by omega)] at hu
          by_cases hqq : q2 = q
          · subst hqq
            rw [hpv] at hu; injection hu with hu; subst hu
            refine ⟨b, _, rfl, h6, setRow_heap w' b vs _ _ (0, 0) h7, h8, fun h => ?_, fun _ => hca⟩
            rw [setV_same] at h; cases h
          · obtain ⟨b2, vs2, h11, h12, h13, h14, h15, h16⟩ := hI.box q2 u hq2 hu
            have hb2 : b2 ≠ b := by
              intro e
              rw [h11, e] at hu
              rcases (show (n + q = n ∧ n + q2 = n + 1) ∨ (n + q2 = n ∧ n + q = n + 1) by omega) with ⟨e1, e2⟩ | ⟨e1, e2⟩
              · rw [e1] at hpv; rw [e2] at hu; exact hI.apart _ hpv hu
              · rw [e2] at hpv; rw [e1] at hu; exact hI.apart _ hu hpv
            refine ⟨b2, vs2, h11, h12, by rw [hother b2 hb2]; exact h13, h14, fun h => h15 ?_, fun h => h16 ?_⟩
            · rwa [setV_other _ (by omega)] at h
            · rwa [setV_other _ (by omega)] at h
        · rw [setV_other _ (by omega)] at hu hu'
          exact hI.apart u hu hu'
  · rintro listed a' w' ⟨hsz, hcl, vals, m', rfl, hon, hI⟩ hrd
    have hall : ∀ k, ∀ i, i < k → i < ops.size → isOn listed i = true := by
      intro k
      induction k with
      | zero => intro i hi; omega
      | succ k ih =>
        intro i hi hs
        rcases Nat.lt_or_ge i k with h | h
        · exact ih i h hs
        · have hik : i = k := by omega
          subst hik
          rcases Bool.eq_false_or_eq_true (isOn listed i) with h1 | h1
          · exact h1
          · exfalso
            have hmem : i ∈ Region.ready .any ops listed := by
              unfold Region.ready
              rw [List.mem_filter, List.mem_range]
              refine ⟨hs, ?_⟩
              simp only [Bool.and_eq_true, Bool.not_eq_true']
              constructor
              · unfold isOn at h1
                rw [Array.getD_eq_getD_getElem?, Array.getElem?_eq_getElem (by omega)] at h1 ⊢
                simpa using h1
              · rw [Array.getElem?_eq_getElem hs]
                simp only [Option.map_some, Option.getD_some]
                rw [Array.all_eq_true_iff_forall_mem]
                intro e he
                rcases Bool.eq_false_or_eq_true (Region.binds .any e) with hb | hb
                · have hj : e.on ∈ deps ops i := by
                    unfold deps
                    rw [Array.getElem?_eq_getElem hs]
                    simp only [Option.map_some, Option.getD_some, List.mem_map, List.mem_filter]
                    exact ⟨e, ⟨by simpa using he, hb⟩, rfl⟩
                  have := ih e.on (hdl i hs _ hj) (by have := hdl i hs _ hj; omega)
                  unfold isOn at this
                  simp [this]
                · simp [hb]
            rw [hrd] at hmem; cases hmem
    have hvs : ∀ i, i < ops.size → (vals i).isSome = true := fun i hi => by rw [← hon i]; exact hall (i + 1) i (by omega) hi
    have hbx : ∀ q, q < 2 → ∃ (b : Nat) (vs : Array Value), vals (n + q) = some (.pointer (some ⟨b, 0, none⟩)) ∧ w.heap.size ≤ b ∧ w'.heap[b]? = some (.cells vs (B q).ty (0, 0)) ∧ (∀ o, m' b o = none) ∧ ACells m' g (B q).y.cells vs.toList := by
      intro q hq
      obtain ⟨v, hv⟩ := Option.isSome_iff_exists.1 (hvs (n + q) (by omega))
      obtain ⟨b, vs, rfl, h2, h3, h4, _, h5⟩ := hI.box q v hq hv
      exact ⟨b, vs, hv, h2, h3, h4, h5 (Option.isSome_iff_ne_none.1 (hvs (n + 2 + q) (by omega)))⟩
    obtain ⟨p0, vs0, u0, r0, s0, t0, c0⟩ := hbx 0 (by omega)
    obtain ⟨p1, vs1, u1, r1, s1, t1, c1⟩ := hbx 1 (by omega)
    rw [hB0] at s0 c0
    rw [hB1] at s1 c1
    have hp : p0 ≠ p1 := fun e => hI.apart _ u0 (by rw [u1, e])
    have henv := hr.env.step hI.lo hI.ext hI.sub
    have hgb : ∀ p, w.heap.size ≤ p → ∀ j cj, get bx j = some cj → g.gb j ≠ p := fun p hp j cj hj e => by
      obtain ⟨vs, ty, h1, _⟩ := hr.env.boxes j cj hj
      have := block_lt h1; omega
    have hgo : ∀ p, w.heap.size ≤ p → ∀ j o, get ow j = some o → (g.go j).ownBlock ≠ some p := fun p hp j o hj e => by
      obtain ⟨vs, h1, _⟩ := hr.env.owns j o hj
      have := (h1.lt p e).2; omega
    have hw0 := hr.env.lo.size
    have e0 := henv.boxAt k0.free s0 c0 (by omega) t0 (hgb p0 r0) (hgo p0 r0)
    have hl0 : g.lb b0.d = false := by rw [henv.lb, k0.free]; rfl
    have hne' : b0.d ≠ b1.d := Nat.ne_of_beq_eq_false hne
    have hfree1 : get ((b0.d, b0.y.cells) :: bx) b1.d = none := by rw [get_cons, if_neg hne']; exact k1.free
    have hl1 : (g.addB b0.d p0).lb b1.d = false := by rw [e0.lb, hfree1]; rfl
    have e1 := e0.boxAt hfree1 s1 (c1.addB hl0) (by omega) t1 (fun j cj hj e => by
      rw [get_cons] at hj
      change (if j = b0.d then p0 else g.gb j) = p1 at e
      by_cases hj0 : b0.d = j
      · rw [if_pos hj0.symm] at e; exact hp e
      · rw [if_neg hj0] at hj
        rw [if_neg (fun e => hj0 e.symm)] at e
        exact hgb p1 r1 j cj hj e) (fun j o hj => hgo p1 r1 j o hj)
    refine ⟨_, ⟨m', _, e1, by simp [frame, hr.size], hr.defers, fun s x hx => ?_⟩, hQ⟩
    have hd0 : (frame ops a vals).eval (.tmp b0.d) = .pointer (some ⟨p0, 0, none⟩) := by
      have := hal 0 (by omega); rw [hB0] at this
      exact hev (by omega) this u0
    have hd1 : (frame ops a vals).eval (.tmp b1.d) = .pointer (some ⟨p1, 0, none⟩) := by
      have := hal 1 (by omega); rw [hB1] at this
      exact hev (by omega) this u1
    rw [get_cons] at hx
    by_cases hs1 : b1.d = s
    · subst hs1
      rw [if_pos rfl] at hx; injection hx with hx; subst hx
      rw [hd1]
      exact ⟨by simp [Gh.addB], by simp [Gh.addB]⟩
    · rw [if_neg hs1, get_cons] at hx
      by_cases hs0 : b0.d = s
      · subst hs0
        rw [if_pos rfl] at hx; injection hx with hx; subst hx
        rw [hd0]
        exact ⟨by simp [Gh.addB], by simp [Gh.addB, hne']⟩
      · rw [if_neg hs0] at hx
        refine AR.addB (AR.addB ?_ hl0) hl1
        refine hslot vals w' m' hI n (Nat.le_refl _) s ?_ x (by rw [htn]; exact hx)
        cases hw : writer ops s with
        | none => rfl
        | some j =>
          have hjs := writer_spec hw
          have hjlt : j < ops.size := by
            rcases Nat.lt_or_ge j ops.size with h | h
            · exact h
            · rw [Array.getElem?_eq_none h] at hjs; cases hjs
          have hjn : j < n := by
            rcases Nat.lt_or_ge j n with h | h
            · exact h
            · exfalso
              have hjd : dstOf ops j = some s := hjs
              rcases (show j = n + 0 ∨ j = n + 1 ∨ j = n + 2 + 0 ∨ j = n + 2 + 1 by omega) with e | e | e | e
              · rw [e, hal 0 (by omega), hB0] at hjd; injection hjd with hjd; exact hs0 hjd
              · rw [e, hal 1 (by omega), hB1] at hjd; injection hjd with hjd; exact hs1 hjd
              · obtain ⟨o, h1, _, _, h4⟩ := k0.st
                unfold dstOf at hjd; rw [e, h1] at hjd; simp [h4] at hjd
              · obtain ⟨o, h1, _, _, h4⟩ := k1.st
                unfold dstOf at hjd; rw [e, h1] at hjd; simp [h4] at hjd
          simp only [Bool.and_eq_true, decide_eq_true_eq]
          exact ⟨hjn, hvs j hjlt⟩
  · intro i j h
    unfold isOn at h
    rw [Array.getD_eq_getD_getElem?] at h
    simp only [Array.getElem?_replicate] at h
    split at h <;> cases h
  · intro i
    unfold isOn
    rw [Array.getD_eq_getD_getElem?]
    simp only [Array.getElem?_replicate]
    split <;> rfl
end Go.Proofs.Ytlcecabfmemfeaa.Sim

/- The document's answer for policies: each is the same as itself; copies. -/
namespace Go.Proofs.Ytlcecabfmemfeaa.Pol
set_option linter.unusedVariables false
set_option linter.unusedSimpArgs false
open Go.RowKit Mem Sim Opn
abbrev termV (x : Pl.Term) : Value := .agg #[.int .i64 x.k, .string x.s]
abbrev cidrV (x : Pl.Cidr) : Value := .agg #[.int .u32 x.addr, .int .i64 x.bits]
theorem ex_two (a b : Value) : Ex (.agg [.v a, .v b]) (.agg #[a, b]) := Ex.agg (cs := [.v a, .v b]) (vs := [a, b]) rfl (fun j t v h1 h2 => by
  match j, h1, h2 with
  | 0, h1, h2 => simp at h1 h2; rw [← h1, ← h2]
  | 1, h1, h2 => simp at h1 h2; rw [← h1, ← h2])
theorem term_Ex (x : Pl.Term) : Ex (.agg (termT x)) (termV x) := ex_two _ _
theorem cidr_Ex (x : Pl.Cidr) : Ex (.agg (cidrT x)) (cidrV x) := ex_two _ _
theorem termq_run (a : Pl.Term) (w : World) (x y : Operand) : ((do eqGuard .neq 23 x y (termV a) (termV a); binOp .neq 23 (termV a) (termV a)) : Sem Value).run Try.prog w = .ok (.bool false) w := by
  have hm : Try.prog.eqGuardType Try.prog.depth 23 = false := by kernel_rfl
  rw [Sem.run_bind, run_eqGuard_agg _ _ _ _ _ _ _ hm]
  simp only [Result.andThen_ok]
  rw [run_neq_struct]
  simp [go_sem]
theorem cidrq_run (a : Pl.Cidr) (w : World) (x y : Operand) : ((do eqGuard .neq 126 x y (cidrV a) (cidrV a); binOp .neq 126 (cidrV a) (cidrV a)) : Sem Value).run Try.prog w = .ok (.bool false) w := by
  have hm : Try.prog.eqGuardType Try.prog.depth 126 = false := by kernel_rfl
  rw [Sem.run_bind, run_eqGuard_agg _ _ _ _ _ _ _ hm]
  simp only [Result.andThen_ok]
  rw [run_neq_struct]
  simp [go_sem]
theorem ne_self {n : Int} : (!decide (n = n)) = false := by simp
theorem sne_self {n : ByteArray} : (!decide (n = n)) = false := by simp
set_option maxRecDepth 100000 in
theorem terms_ (l : List Pl.Term) (hn : l.length ≤ 1000) : PCalls Try.prog 113 [.sl 2 (l.map termT), .sl 2 (l.map termT)] (.v (.bool true)) := by
  have hm1 : (l.map termT).length = l.length := List.length_map _
  have h0 : (!decide (((l.map termT).length : Int) = ((l.map termT).length : Int))) = false := by simp
  refine pcalls_of Try.func113 rfl rfl Try.ntmps113 rfl ?_
  repeat' (first
    | refine then_go ?_
    | refine swp_seq ?_
    | ((refine swp_region (id := 0) ?_) <;> (refine sops_pure (.free rfl rfl) rfl rfl (po_assign rfl rfl) ?_) <;> (refine sops_nil ?_))
    | ((refine swp_region (id := 1) ?_) <;> (refine sops_pure (.free rfl rfl) rfl rfl (po_move rfl rfl) ?_) <;> (refine sops_pure (.free rfl rfl) rfl rfl (po_len rfl rfl (by first | exact .t _ | exact .own rfl rfl | exact .nil _ | exact .emp _) (tyS rfl)) ?_) <;> (refine sops_pure (.free rfl rfl) rfl rfl (po_move rfl rfl) ?_) <;> (refine sops_pure (.free rfl rfl) rfl rfl (po_len rfl rfl (by first | exact .t _ | exact .own rfl rfl | exact .nil _ | exact .emp _) (tyS rfl)) ?_) <;> (refine sops_pure (.free rfl rfl) rfl rfl (po_cmp rfl rfl rfl rfl) ?_) <;> (refine sops_nil ?_))
    | ((refine swp_region (id := 3) ?_) <;> (refine sops_pure (.free rfl rfl) rfl rfl (po_assign rfl rfl) ?_) <;> (refine sops_nil ?_))
    | refine swp_ret ?_
    | refine swp_skip ?_
    | refine swp_block ?_
    | refine swp_exit ?_
    | refine block_go ?_
    | refine block_exit ?_
    | refine block_far rfl ?_
    | refine block_ret ?_
    | refine then_ret ?_
    | refine then_exit ?_
    | refine for_ret ?_
    | refine for_exit ?_
    | refine swp_cond_t rfl (by first | assumption | with_reducible rfl | decide | (simp only [decide_eq_true_eq, Bool.not_eq_true', decide_eq_false_iff_not]; omega)) ?_
    | refine swp_cond_f rfl (by first | assumption | with_reducible rfl | decide | (simp only [decide_eq_false_iff_not, Bool.not_eq_false', decide_eq_true_eq]; omega)) ?_
    | refine swp_cond rfl (fun hc => ?_) (fun hc => ?_)
    | refine retq (by first | exact .inr rfl | exact .inl rfl) rfl (.tmp rfl (by first | exact .t _ | exact .own rfl rfl | exact .nil _ | exact .emp _) .nil) ?_)
  refine swp_for (fun k => ⟨[(0, .t (.sl 2 (l.map termT))), (1, .t (.sl 2 (l.map termT))), (5, .t (.v (.int .i64 (k : Int))))], [], []⟩) (fun k => True) l.length (weak_sub (.cons rfl rfl rfl (.cons rfl rfl rfl (.cons rfl rfl rfl .nil))) .nil .nil) trivial ?_
  intro k hk _
  by_cases hlt : k < l.length
  · repeat' (first
    | refine then_go ?_
    | refine swp_seq ?_
    | refine for_next hlt (weak_sub (.cons rfl rfl rfl (.cons rfl rfl rfl (.cons rfl rfl rfl .nil))) .nil .nil) trivial
    | ((refine swp_region (id := 4) ?_) <;> (refine sops_pure (.free rfl rfl) rfl rfl (po_move rfl rfl) ?_) <;> (refine sops_pure (.free rfl rfl) rfl rfl (po_move rfl rfl) ?_) <;> (refine sops_pure (.free rfl rfl) rfl rfl (po_len rfl rfl (by first | exact .t _ | exact .own rfl rfl | exact .nil _ | exact .emp _) (tyS rfl)) ?_) <;> (first | refine sops_pure (.free rfl rfl) rfl rfl (po_ex2 rfl rfl rfl (term_Ex l[k]) (term_Ex l[k]) (termq_run _)) ?_ | refine sops_pure (.free rfl rfl) rfl rfl (po_cmp rfl rfl rfl rfl) ?_) <;> (refine sops_nil ?_))
    | ((refine swp_draw_all (id := 6) mixed (by kernel_rfl) (by kernel_rfl) ?_) <;> (refine sdraw_pure (.free rfl rfl) rfl (po_move rfl rfl) ?_) <;> (refine sdraw_pure (.free rfl rfl) rfl (po_move rfl rfl) ?_) <;> (refine sdraw_pure (.free rfl rfl) rfl (po_index rfl rfl (by first | exact .t _ | exact .own rfl rfl | exact .nil _ | exact .emp _) rfl (tyS rfl) (by first | rfl | omega) (by first | rfl | assumption | exact map_at (by first | assumption | omega))) ?_) <;> (first | refine sdraw_pure (.free rfl rfl) rfl (po_load_bx_agg rfl rfl (tyT rfl) rfl (.cons (by first | exact .t _ | exact .own rfl rfl | exact .nil _ | exact .emp _) (.cons (by first | exact .t _ | exact .own rfl rfl | exact .nil _ | exact .emp _) .nil)) rfl) ?_ | refine sdraw_pure (.free rfl rfl) rfl (po_load_agg rfl rfl (tyT rfl) rfl rfl) ?_) <;> (refine sdraw_pure (.free rfl rfl) rfl (po_move rfl rfl) ?_) <;> (refine sdraw_pure (.free rfl rfl) rfl (po_move rfl rfl) ?_) <;> (refine sdraw_pure (.free rfl rfl) rfl (po_index rfl rfl (by first | exact .t _ | exact .own rfl rfl | exact .nil _ | exact .emp _) rfl (tyS rfl) (by first | rfl | omega) (by first | rfl | assumption | exact map_at (by first | assumption | omega))) ?_) <;> (first | refine sdraw_pure (.free rfl rfl) rfl (po_load_bx_agg rfl rfl (tyT rfl) rfl (.cons (by first | exact .t _ | exact .own rfl rfl | exact .nil _ | exact .emp _) (.cons (by first | exact .t _ | exact .own rfl rfl | exact .nil _ | exact .emp _) .nil)) rfl) ?_ | refine sdraw_pure (.free rfl rfl) rfl (po_load_agg rfl rfl (tyT rfl) rfl rfl) ?_) <;> (first | refine sdraw_pure (.free rfl rfl) rfl (po_ex2 rfl rfl rfl (term_Ex l[k]) (term_Ex l[k]) (termq_run _)) ?_ | refine sdraw_pure (.free rfl rfl) rfl (po_boolq rfl rfl rfl (by kernel_rfl) (by first | exact .inl rfl | exact .inr rfl)) ?_) <;> (refine sdraw_nil ?_) <;> (refine sops_nil ?_))
    | ((refine swp_region (id := 5) ?_) <;> (refine sops_pure (.free rfl rfl) rfl rfl (po_move rfl rfl) ?_) <;> (first | refine sops_pure (.free rfl rfl) rfl rfl (po_inc rfl rfl rfl (by omega)) ?_ | refine sops_pure (.free rfl rfl) rfl rfl (po_arith rfl rfl rfl (ar_add (by first | rfl | (refine wrap_i64 ?_; omega)) rfl)) ?_) <;> (refine sops_pure (.free rfl rfl) rfl rfl (po_assign rfl rfl) ?_) <;> (refine sops_nil ?_))
    | refine swp_ret ?_
    | refine swp_skip ?_
    | refine swp_block ?_
    | refine swp_exit ?_
    | refine block_go ?_
    | refine block_exit ?_
    | refine block_far rfl ?_
    | refine block_ret ?_
    | refine then_ret ?_
    | refine then_exit ?_
    | refine for_ret ?_
    | refine for_exit ?_
    | refine swp_cond_t rfl (by first | assumption | with_reducible rfl | decide | (simp only [decide_eq_true_eq, Bool.not_eq_true', decide_eq_false_iff_not]; omega)) ?_
    | refine swp_cond_f rfl (by first | assumption | with_reducible rfl | decide | (simp only [decide_eq_false_iff_not, Bool.not_eq_false', decide_eq_true_eq]; omega)) ?_
    | refine swp_cond rfl (fun hc => ?_) (fun hc => ?_)
    | refine retq (by first | exact .inr rfl | exact .inl rfl) rfl (.tmp rfl (by first | exact .t _ | exact .own rfl rfl | exact .nil _ | exact .emp _) .nil) ?_)
  · repeat' (first
    | refine then_go ?_
    | refine swp_seq ?_
    | ((refine swp_region (id := 4) ?_) <;> (refine sops_pure (.free rfl rfl) rfl rfl (po_move rfl rfl) ?_) <;> (refine sops_pure (.free rfl rfl) rfl rfl (po_move rfl rfl) ?_) <;> (refine sops_pure (.free rfl rfl) rfl rfl (po_len rfl rfl (by first | exact .t _ | exact .own rfl rfl | exact .nil _ | exact .emp _) (tyS rfl)) ?_) <;> (refine sops_pure (.free rfl rfl) rfl rfl (po_cmp rfl rfl rfl rfl) ?_) <;> (refine sops_nil ?_))
    | ((refine swp_region (id := 8) ?_) <;> (refine sops_pure (.free rfl rfl) rfl rfl (po_assign rfl rfl) ?_) <;> (refine sops_nil ?_))
    | refine swp_ret ?_
    | refine swp_skip ?_
    | refine swp_block ?_
    | refine swp_exit ?_
    | refine block_go ?_
    | refine block_exit ?_
    | refine block_far rfl ?_
    | refine block_ret ?_
    | refine then_ret ?_
    | refine then_exit ?_
    | refine for_ret ?_
    | refine for_exit ?_
    | refine swp_cond_t rfl (by first | assumption | with_reducible rfl | decide | (simp only [decide_eq_true_eq, Bool.not_eq_true', decide_eq_false_iff_not]; omega)) ?_
    | refine swp_cond_f rfl (by first | assumption | with_reducible rfl | decide | (simp only [decide_eq_false_iff_not, Bool.not_eq_false', decide_eq_true_eq]; omega)) ?_
    | refine swp_cond rfl (fun hc => ?_) (fun hc => ?_)
    | refine retq (by first | exact .inr rfl | exact .inl rfl) rfl (.tmp rfl (by first | exact .t _ | exact .own rfl rfl | exact .nil _ | exact .emp _) .nil) ?_)
    rfl
set_option maxRecDepth 100000 in
theorem nets_ (l : List Pl.Cidr) (hn : l.length ≤ 1000) : PCalls Try.prog 114 [.sl 2 (l.map cidrT), .sl 2 (l.map cidrT)] (.v (.bool true)) := by
  have hm1 : (l.map cidrT).length = l.length := List.length_map _
  have h0 : (!decide (((l.map cidrT).length : Int) = ((l.map cidrT).length : Int))) = false := by simp
  refine pcalls_of Try.func114 rfl rfl Try.ntmps114 rfl ?_
  repeat' (first
    | refine then_go ?_
    | refine swp_seq ?_
    | ((refine swp_region (id := 0) ?_) <;> (refine sops_pure (.free rfl rfl) rfl rfl (po_assign rfl rfl) ?_) <;> (refine sops_nil ?_))
    | ((refine swp_region (id := 1) ?_) <;> (refine sops_pure (.free rfl rfl) rfl rfl (po_move rfl rfl) ?_) <;> (refine sops_pure (.free rfl rfl) rfl rfl (po_len rfl rfl (by first | exact .t _ | exact .own rfl rfl | exact .nil _ | exact .emp _) (tyS rfl)) ?_) <;> (refine sops_pure (.free rfl rfl) rfl rfl (po_move rfl rfl) ?_) <;> (refine sops_pure (.free rfl rfl) rfl rfl (po_len rfl rfl (by first | exact .t _ | exact .own rfl rfl | exact .nil _ | exact .emp _) (tyS rfl)) ?_) <;> (refine sops_pure (.free rfl rfl) rfl rfl (po_cmp rfl rfl rfl rfl) ?_) <;> (refine sops_nil ?_))
    | ((refine swp_region (id := 3) ?_) <;> (refine sops_pure (.free rfl rfl) rfl rfl (po_assign rfl rfl) ?_) <;> (refine sops_nil ?_))
    | refine swp_ret ?_
    | refine swp_skip ?_
    | refine swp_block ?_
    | refine swp_exit ?_
    | refine block_go ?_
    | refine block_exit ?_
    | refine block_far rfl ?_
    | refine block_ret ?_
    | refine then_ret ?_
    | refine then_exit ?_
    | refine for_ret ?_
    | refine for_exit ?_
    | refine swp_cond_t rfl (by first | assumption | with_reducible rfl | decide | (simp only [decide_eq_true_eq, Bool.not_eq_true', decide_eq_false_iff_not]; omega)) ?_
    | refine swp_cond_f rfl (by first | assumption | with_reducible rfl | decide | (simp only [decide_eq_false_iff_not, Bool.not_eq_false', decide_eq_true_eq]; omega)) ?_
    | refine swp_cond rfl (fun hc => ?_) (fun hc => ?_)
    | refine retq (by first | exact .inr rfl | exact .inl rfl) rfl (.tmp rfl (by first | exact .t _ | exact .own rfl rfl | exact .nil _ | exact .emp _) .nil) ?_)
  refine swp_for (fun k => ⟨[(0, .t (.sl 2 (l.map cidrT))), (1, .t (.sl 2 (l.map cidrT))), (5, .t (.v (.int .i64 (k : Int))))], [], []⟩) (fun k => True) l.length (weak_sub (.cons rfl rfl rfl (.cons rfl rfl rfl (.cons rfl rfl rfl .nil))) .nil .nil) trivial ?_
  intro k hk _
  by_cases hlt : k < l.length
  · repeat' (first
    | refine then_go ?_
    | refine swp_seq ?_
    | refine for_next hlt (weak_sub (.cons rfl rfl rfl (.cons rfl rfl rfl (.cons rfl rfl rfl .nil))) .nil .nil) trivial
    | ((refine swp_region (id := 4) ?_) <;> (refine sops_pure (.free rfl rfl) rfl rfl (po_move rfl rfl) ?_) <;> (refine sops_pure (.free rfl rfl) rfl rfl (po_move rfl rfl) ?_) <;> (refine sops_pure (.free rfl rfl) rfl rfl (po_len rfl rfl (by first | exact .t _ | exact .own rfl rfl | exact .nil _ | exact .emp _) (tyS rfl)) ?_) <;> (first | refine sops_pure (.free rfl rfl) rfl rfl (po_ex2 rfl rfl rfl (cidr_Ex l[k]) (cidr_Ex l[k]) (cidrq_run _)) ?_ | refine sops_pure (.free rfl rfl) rfl rfl (po_cmp rfl rfl rfl rfl) ?_) <;> (refine sops_nil ?_))
    | ((refine swp_draw_all (id := 6) mixed (by kernel_rfl) (by kernel_rfl) ?_) <;> (refine sdraw_pure (.free rfl rfl) rfl (po_move rfl rfl) ?_) <;> (refine sdraw_pure (.free rfl rfl) rfl (po_move rfl rfl) ?_) <;> (refine sdraw_pure (.free rfl rfl) rfl (po_index rfl rfl (by first | exact .t _ | exact .own rfl rfl | exact .nil _ | exact .emp _) rfl (tyS rfl) (by first | rfl | omega) (by first | rfl | assumption | exact map_at (by first | assumption | omega))) ?_) <;> (first | refine sdraw_pure (.free rfl rfl) rfl (po_load_bx_agg rfl rfl (tyT rfl) rfl (.cons (by first | exact .t _ | exact .own rfl rfl | exact .nil _ | exact .emp _) (.cons (by first | exact .t _ | exact .own rfl rfl | exact .nil _ | exact .emp _) .nil)) rfl) ?_ | refine sdraw_pure (.free rfl rfl) rfl (po_load_agg rfl rfl (tyT rfl) rfl rfl) ?_) <;> (refine sdraw_pure (.free rfl rfl) rfl (po_move rfl rfl) ?_) <;> (refine sdraw_pure (.free rfl rfl) rfl (po_move rfl rfl) ?_) <;> (refine sdraw_pure (.free rfl rfl) rfl (po_index rfl rfl (by first | exact .t _ | exact .own rfl rfl | exact .nil _ | exact .emp _) rfl (tyS rfl) (by first | rfl | omega) (by first | rfl | assumption | exact map_at (by first | assumption | omega))) ?_) <;> (first | refine sdraw_pure (.free rfl rfl) rfl (po_load_bx_agg rfl rfl (tyT rfl) rfl (.cons (by first | exact .t _ | exact .own rfl rfl | exact .nil _ | exact .emp _) (.cons (by first | exact .t _ | exact .own rfl rfl | exact .nil _ | exact .emp _) .nil)) rfl) ?_ | refine sdraw_pure (.free rfl rfl) rfl (po_load_agg rfl rfl (tyT rfl) rfl rfl) ?_) <;> (first | refine sdraw_pure (.free rfl rfl) rfl (po_ex2 rfl rfl rfl (cidr_Ex l[k]) (cidr_Ex l[k]) (cidrq_run _)) ?_ | refine sdraw_pure (.free rfl rfl) rfl (po_boolq rfl rfl rfl (by kernel_rfl) (by first | exact .inl rfl | exact .inr rfl)) ?_) <;> (refine sdraw_nil ?_) <;> (refine sops_nil ?_))
    | ((refine swp_region (id := 5) ?_) <;> (refine sops_pure (.free rfl rfl) rfl rfl (po_move rfl rfl) ?_) <;> (first | refine sops_pure (.free rfl rfl) rfl rfl (po_inc rfl rfl rfl (by omega)) ?_ | refine sops_pure (.free rfl rfl) rfl rfl (po_arith rfl rfl rfl (ar_add (by first | rfl | (refine wrap_i64 ?_; omega)) rfl)) ?_) <;> (refine sops_pure (.free rfl rfl) rfl rfl (po_assign rfl rfl) ?_) <;> (refine sops_nil ?_))
    | refine swp_ret ?_
    | refine swp_skip ?_
    | refine swp_block ?_
    | refine swp_exit ?_
    | refine block_go ?_
    | refine block_exit ?_
    | refine block_far rfl ?_
    | refine block_ret ?_
    | refine then_ret ?_
    | refine then_exit ?_
    | refine for_ret ?_
    | refine for_exit ?_
    | refine swp_cond_t rfl (by first | assumption | with_reducible rfl | decide | (simp only [decide_eq_true_eq, Bool.not_eq_true', decide_eq_false_iff_not]; omega)) ?_
    | refine swp_cond_f rfl (by first | assumption | with_reducible rfl | decide | (simp only [decide_eq_false_iff_not, Bool.not_eq_false', decide_eq_true_eq]; omega)) ?_
    | refine swp_cond rfl (fun hc => ?_) (fun hc => ?_)
    | refine retq (by first | exact .inr rfl | exact .inl rfl) rfl (.tmp rfl (by first | exact .t _ | exact .own rfl rfl | exact .nil _ | exact .emp _) .nil) ?_)
  · repeat' (first
    | refine then_go ?_
    | refine swp_seq ?_
    | ((refine swp_region (id := 4) ?_) <;> (refine sops_pure (.free rfl rfl) rfl rfl (po_move rfl rfl) ?_) <;> (refine sops_pure (.free rfl rfl) rfl rfl (po_move rfl rfl) ?_) <;> (refine sops_pure (.free rfl rfl) rfl rfl (po_len rfl rfl (by first | exact .t _ | exact .own rfl rfl | exact .nil _ | exact .emp _) (tyS rfl)) ?_) <;> (refine sops_pure (.free rfl rfl) rfl rfl (po_cmp rfl rfl rfl rfl) ?_) <;> (refine sops_nil ?_))
    | ((refine swp_region (id := 8) ?_) <;> (refine sops_pure (.free rfl rfl) rfl rfl (po_assign rfl rfl) ?_) <;> (refine sops_nil ?_))
    | refine swp_ret ?_
    | refine swp_skip ?_
    | refine swp_block ?_
    | refine swp_exit ?_
    | refine block_go ?_
    | refine block_exit ?_
    | refine block_far rfl ?_
    | refine block_ret ?_
    | refine then_ret ?_
    | refine then_exit ?_
    | refine for_ret ?_
    | refine for_exit ?_
    | refine swp_cond_t rfl (by first | assumption | with_reducible rfl | decide | (simp only [decide_eq_true_eq, Bool.not_eq_true', decide_eq_false_iff_not]; omega)) ?_
    | refine swp_cond_f rfl (by first | assumption | with_reducible rfl | decide | (simp only [decide_eq_false_iff_not, Bool.not_eq_false', decide_eq_true_eq]; omega)) ?_
    | refine swp_cond rfl (fun hc => ?_) (fun hc => ?_)
    | refine retq (by first | exact .inr rfl | exact .inl rfl) rfl (.tmp rfl (by first | exact .t _ | exact .own rfl rfl | exact .nil _ | exact .emp _) .nil) ?_)
    rfl
abbrev tcells (t : Pl.Target) : List A := [.t (.sl 1 (t.ports.map intT)), .t (.sl 2 (t.methods.map termT)), .t (.sl 2 (t.paths.map termT)), .t (.sl 2 (t.hosts.map termT))]
def R1 (r : Pl.Rule) (k : Nat) : St := ⟨[(2, .bp 2 0), (3, .bp 3 0), (5, .t (.v (.int .i64 (k : Int))))], [(2, rcells r), (3, rcells r)], []⟩
def R2 (r : Pl.Rule) (k : Nat) : St := ⟨[(2, .bp 2 0), (3, .bp 3 0), (8, .t (.v (.int .i64 (k : Int))))], [(2, rcells r), (3, rcells r)], []⟩
def R2b (r : Pl.Rule) (k : Nat) (t : Pl.Target) (j : Nat) : St := ⟨[(2, .bp 2 0), (3, .bp 3 0), (8, .t (.v (.int .i64 (k : Int)))), (9, .bp 9 0), (10, .bp 10 0), (11, .t (.v (.int .i64 (j : Int))))], [(2, rcells r), (3, rcells r), (9, tcells t), (10, tcells t)], []⟩
def R3 (r : Pl.Rule) (k : Nat) : St := ⟨[(2, .bp 2 0), (3, .bp 3 0), (12, .t (.v (.int .i64 (k : Int))))], [(2, rcells r), (3, rcells r)], []⟩
theorem ne_len {α : Type} {l : List α} : (!decide ((l.length : Int) = (l.length : Int))) = false := by simp
set_option maxRecDepth 100000 in
set_option maxHeartbeats 1000000 in
theorem sameRule_ (r : Pl.Rule) (hf : FewR r) : PCalls Try.prog 73 [.agg (ruleT r), .agg (ruleT r)] (.v (.bool true)) := by
  have hm1 : (r.from_.map sourceT).length = r.from_.length := List.length_map _
  have hm2 : (r.to_.map targetT).length = r.to_.length := List.length_map _
  have hm3 : (r.when_.map whenT).length = r.when_.length := List.length_map _
  have n1 := hf.f
  have n2 := hf.t
  have n3 := hf.w
  have e1 := ne_len (l := r.from_.map sourceT)
  have e2 := ne_len (l := r.to_.map targetT)
  have e3 := ne_len (l := r.when_.map whenT)
  refine pcalls_of Try.func73 rfl rfl Try.ntmps73 rfl ?_
  repeat' (first
    | refine then_go ?_
    | refine swp_seq ?_
    | ((refine swp_region (id := 0) ?_) <;> (refine sops_box (.free rfl rfl) rfl rfl rfl rfl rfl rfl ?_) <;> (refine sops_box (.free rfl rfl) rfl rfl rfl rfl rfl rfl ?_) <;> (refine sops_pure (.free rfl rfl) rfl rfl (po_assign rfl rfl) ?_) <;> (refine sops_nil ?_))
    | ((refine swp_region (id := 1) ?_) <;> (first | refine sops_pure (.free rfl rfl) rfl rfl (po_field_bx rfl rfl (tyF rfl)) ?_ | refine sops_pure (.free rfl rfl) rfl rfl (po_field rfl rfl (tyF rfl)) ?_) <;> (first | refine sops_pure (.free rfl rfl) rfl rfl (po_load_bx rfl rfl (tyT rfl) rfl rfl) ?_ | refine sops_pure (.free rfl rfl) rfl rfl (po_load rfl rfl (tyT rfl) rfl) ?_) <;> (refine sops_pure (.free rfl rfl) rfl rfl (po_len rfl rfl (by first | exact .t _ | exact .own rfl rfl | exact .nil _ | exact .emp _) (tyS rfl)) ?_) <;> (first | refine sops_pure (.free rfl rfl) rfl rfl (po_field_bx rfl rfl (tyF rfl)) ?_ | refine sops_pure (.free rfl rfl) rfl rfl (po_field rfl rfl (tyF rfl)) ?_) <;> (first | refine sops_pure (.free rfl rfl) rfl rfl (po_load_bx rfl rfl (tyT rfl) rfl rfl) ?_ | refine sops_pure (.free rfl rfl) rfl rfl (po_load rfl rfl (tyT rfl) rfl) ?_) <;> (refine sops_pure (.free rfl rfl) rfl rfl (po_len rfl rfl (by first | exact .t _ | exact .own rfl rfl | exact .nil _ | exact .emp _) (tyS rfl)) ?_) <;> (refine sops_pure (.free rfl rfl) rfl rfl (po_cmp rfl rfl rfl rfl) ?_) <;> (refine sops_pure (.free rfl rfl) rfl rfl (po_move rfl rfl) ?_) <;> (first | refine sops_pure (.yes rfl rfl rfl (by first | assumption | with_reducible rfl | decide | (simp only [decide_eq_true_eq, decide_eq_false_iff_not]; omega))) rfl rfl (po_field_bx rfl rfl (tyF rfl)) ?_ | refine sops_pure (.yes rfl rfl rfl (by first | assumption | with_reducible rfl | decide | (simp only [decide_eq_true_eq, decide_eq_false_iff_not]; omega))) rfl rfl (po_field rfl rfl (tyF rfl)) ?_ | refine sops_skip (.no0 rfl rfl rfl (by first | assumption | with_reducible rfl | decide | (simp only [decide_eq_true_eq, decide_eq_false_iff_not]; omega))) rfl rfl ?_ | ((refine sops_split rfl rfl rfl (fun hc => ?_) (fun hc => ?_)) <;> (first | refine sops_pure (.yes rfl rfl rfl (by first | assumption | with_reducible rfl | decide | (simp only [decide_eq_true_eq, decide_eq_false_iff_not]; omega))) rfl rfl (po_field_bx rfl rfl (tyF rfl)) ?_ | refine sops_pure (.yes rfl rfl rfl (by first | assumption | with_reducible rfl | decide | (simp only [decide_eq_true_eq, decide_eq_false_iff_not]; omega))) rfl rfl (po_field rfl rfl (tyF rfl)) ?_ | refine sops_skip (.no0 rfl rfl rfl (by first | assumption | with_reducible rfl | decide | (simp only [decide_eq_true_eq, decide_eq_false_iff_not]; omega))) rfl rfl ?_))) <;> (first | refine sops_pure (.yes rfl rfl rfl (by first | assumption | with_reducible rfl | decide | (simp only [decide_eq_true_eq, decide_eq_false_iff_not]; omega))) rfl rfl (po_load_bx rfl rfl (tyT rfl) rfl rfl) ?_ | refine sops_pure (.yes rfl rfl rfl (by first | assumption | with_reducible rfl | decide | (simp only [decide_eq_true_eq, decide_eq_false_iff_not]; omega))) rfl rfl (po_load rfl rfl (tyT rfl) rfl) ?_ | refine sops_skip (.no0 rfl rfl rfl (by first | assumption | with_reducible rfl | decide | (simp only [decide_eq_true_eq, decide_eq_false_iff_not]; omega))) rfl rfl ?_) <;> (first | refine sops_pure (.yes rfl rfl rfl (by first | assumption | with_reducible rfl | decide | (simp only [decide_eq_true_eq, decide_eq_false_iff_not]; omega))) rfl rfl (po_len rfl rfl (by first | exact .t _ | exact .own rfl rfl | exact .nil _ | exact .emp _) (tyS rfl)) ?_ | refine sops_skip (.no0 rfl rfl rfl (by first | assumption | with_reducible rfl | decide | (simp only [decide_eq_true_eq, decide_eq_false_iff_not]; omega))) rfl rfl ?_) <;> (first | refine sops_pure (.yes rfl rfl rfl (by first | assumption | with_reducible rfl | decide | (simp only [decide_eq_true_eq, decide_eq_false_iff_not]; omega))) rfl rfl (po_field_bx rfl rfl (tyF rfl)) ?_ | refine sops_pure (.yes rfl rfl rfl (by first | assumption | with_reducible rfl | decide | (simp only [decide_eq_true_eq, decide_eq_false_iff_not]; omega))) rfl rfl (po_field rfl rfl (tyF rfl)) ?_ | refine sops_skip (.no0 rfl rfl rfl (by first | assumption | with_reducible rfl | decide | (simp only [decide_eq_true_eq, decide_eq_false_iff_not]; omega))) rfl rfl ?_) <;> (first | refine sops_pure (.yes rfl rfl rfl (by first | assumption | with_reducible rfl | decide | (simp only [decide_eq_true_eq, decide_eq_false_iff_not]; omega))) rfl rfl (po_load_bx rfl rfl (tyT rfl) rfl rfl) ?_ | refine sops_pure (.yes rfl rfl rfl (by first | assumption | with_reducible rfl | decide | (simp only [decide_eq_true_eq, decide_eq_false_iff_not]; omega))) rfl rfl (po_load rfl rfl (tyT rfl) rfl) ?_ | refine sops_skip (.no0 rfl rfl rfl (by first | assumption | with_reducible rfl | decide | (simp only [decide_eq_true_eq, decide_eq_false_iff_not]; omega))) rfl rfl ?_) <;> (first | refine sops_pure (.yes rfl rfl rfl (by first | assumption | with_reducible rfl | decide | (simp only [decide_eq_true_eq, decide_eq_false_iff_not]; omega))) rfl rfl (po_len rfl rfl (by first | exact .t _ | exact .own rfl rfl | exact .nil _ | exact .emp _) (tyS rfl)) ?_ | refine sops_skip (.no0 rfl rfl rfl (by first | assumption | with_reducible rfl | decide | (simp only [decide_eq_true_eq, decide_eq_false_iff_not]; omega))) rfl rfl ?_) <;> (first | refine sops_pure (.yes rfl rfl rfl (by first | assumption | with_reducible rfl | decide | (simp only [decide_eq_true_eq, decide_eq_false_iff_not]; omega))) rfl rfl (po_cmp rfl rfl rfl rfl) ?_ | refine sops_skip (.no0 rfl rfl rfl (by first | assumption | with_reducible rfl | decide | (simp only [decide_eq_true_eq, decide_eq_false_iff_not]; omega))) rfl rfl ?_) <;> (first | refine sops_pure (.free rfl rfl) rfl rfl (po_pick_t rfl rfl (by first | assumption | with_reducible rfl | decide | (simp only [decide_eq_true_eq, decide_eq_false_iff_not]; omega)) rfl) ?_ | refine sops_pure (.free rfl rfl) rfl rfl (po_pick_f rfl rfl (by first | assumption | with_reducible rfl | decide | (simp only [decide_eq_true_eq, decide_eq_false_iff_not]; omega)) rfl) ?_) <;> (refine sops_pure (.free rfl rfl) rfl rfl (po_move rfl rfl) ?_) <;> (first | refine sops_pure (.yes rfl rfl rfl (by first | assumption | with_reducible rfl | decide | (simp only [decide_eq_true_eq, decide_eq_false_iff_not]; omega))) rfl rfl (po_field_bx rfl rfl (tyF rfl)) ?_ | refine sops_pure (.yes rfl rfl rfl (by first | assumption | with_reducible rfl | decide | (simp only [decide_eq_true_eq, decide_eq_false_iff_not]; omega))) rfl rfl (po_field rfl rfl (tyF rfl)) ?_ | refine sops_skip (.no0 rfl rfl rfl (by first | assumption | with_reducible rfl | decide | (simp only [decide_eq_true_eq, decide_eq_false_iff_not]; omega))) rfl rfl ?_ | ((refine sops_split rfl rfl rfl (fun hc => ?_) (fun hc => ?_)) <;> (first | refine sops_pure (.yes rfl rfl rfl (by first | assumption | with_reducible rfl | decide | (simp only [decide_eq_true_eq, decide_eq_false_iff_not]; omega))) rfl rfl (po_field_bx rfl rfl (tyF rfl)) ?_ | refine sops_pure (.yes rfl rfl rfl (by first | assumption | with_reducible rfl | decide | (simp only [decide_eq_true_eq, decide_eq_false_iff_not]; omega))) rfl rfl (po_field rfl rfl (tyF rfl)) ?_ | refine sops_skip (.no0 rfl rfl rfl (by first | assumption | with_reducible rfl | decide | (simp only [decide_eq_true_eq, decide_eq_false_iff_not]; omega))) rfl rfl ?_))) <;> (first | refine sops_pure (.yes rfl rfl rfl (by first | assumption | with_reducible rfl | decide | (simp only [decide_eq_true_eq, decide_eq_false_iff_not]; omega))) rfl rfl (po_load_bx rfl rfl (tyT rfl) rfl rfl) ?_ | refine sops_pure (.yes rfl rfl rfl (by first | assumption | with_reducible rfl | decide | (simp only [decide_eq_true_eq, decide_eq_false_iff_not]; omega))) rfl rfl (po_load rfl rfl (tyT rfl) rfl) ?_ | refine sops_skip (.no0 rfl rfl rfl (by first | assumption | with_reducible rfl | decide | (simp only [decide_eq_true_eq, decide_eq_false_iff_not]; omega))) rfl rfl ?_) <;> (first | refine sops_pure (.yes rfl rfl rfl (by first | assumption | with_reducible rfl | decide | (simp only [decide_eq_true_eq, decide_eq_false_iff_not]; omega))) rfl rfl (po_len rfl rfl (by first | exact .t _ | exact .own rfl rfl | exact .nil _ | exact .emp _) (tyS rfl)) ?_ | refine sops_skip (.no0 rfl rfl rfl (by first | assumption | with_reducible rfl | decide | (simp only [decide_eq_true_eq, decide_eq_false_iff_not]; omega))) rfl rfl ?_) <;> (first | refine sops_pure (.yes rfl rfl rfl (by first | assumption | with_reducible rfl | decide | (simp only [decide_eq_true_eq, decide_eq_false_iff_not]; omega))) rfl rfl (po_field_bx rfl rfl (tyF rfl)) ?_ | refine sops_pure (.yes rfl rfl rfl (by first | assumption | with_reducible rfl | decide | (simp only [decide_eq_true_eq, decide_eq_false_iff_not]; omega))) rfl rfl (po_field rfl rfl (tyF rfl)) ?_ | refine sops_skip (.no0 rfl rfl rfl (by first | assumption | with_reducible rfl | decide | (simp only [decide_eq_true_eq, decide_eq_false_iff_not]; omega))) rfl rfl ?_) <;> (first | refine sops_pure (.yes rfl rfl rfl (by first | assumption | with_reducible rfl | decide | (simp only [decide_eq_true_eq, decide_eq_false_iff_not]; omega))) rfl rfl (po_load_bx rfl rfl (tyT rfl) rfl rfl) ?_ | refine sops_pure (.yes rfl rfl rfl (by first | assumption | with_reducible rfl | decide | (simp only [decide_eq_true_eq, decide_eq_false_iff_not]; omega))) rfl rfl (po_load rfl rfl (tyT rfl) rfl) ?_ | refine sops_skip (.no0 rfl rfl rfl (by first | assumption | with_reducible rfl | decide | (simp only [decide_eq_true_eq, decide_eq_false_iff_not]; omega))) rfl rfl ?_) <;> (first | refine sops_pure (.yes rfl rfl rfl (by first | assumption | with_reducible rfl | decide | (simp only [decide_eq_true_eq, decide_eq_false_iff_not]; omega))) rfl rfl (po_len rfl rfl (by first | exact .t _ | exact .own rfl rfl | exact .nil _ | exact .emp _) (tyS rfl)) ?_ | refine sops_skip (.no0 rfl rfl rfl (by first | assumption | with_reducible rfl | decide | (simp only [decide_eq_true_eq, decide_eq_false_iff_not]; omega))) rfl rfl ?_) <;> (first | refine sops_pure (.yes rfl rfl rfl (by first | assumption | with_reducible rfl | decide | (simp only [decide_eq_true_eq, decide_eq_false_iff_not]; omega))) rfl rfl (po_cmp rfl rfl rfl rfl) ?_ | refine sops_skip (.no0 rfl rfl rfl (by first | assumption | with_reducible rfl | decide | (simp only [decide_eq_true_eq, decide_eq_false_iff_not]; omega))) rfl rfl ?_) <;> (first | refine sops_pure (.free rfl rfl) rfl rfl (po_pick_t rfl rfl (by first | assumption | with_reducible rfl | decide | (simp only [decide_eq_true_eq, decide_eq_false_iff_not]; omega)) rfl) ?_ | refine sops_pure (.free rfl rfl) rfl rfl (po_pick_f rfl rfl (by first | assumption | with_reducible rfl | decide | (simp only [decide_eq_true_eq, decide_eq_false_iff_not]; omega)) rfl) ?_) <;> (refine sops_nil ?_))
    | ((refine swp_region (id := 3) ?_) <;> (refine sops_pure (.free rfl rfl) rfl rfl (po_assign rfl rfl) ?_) <;> (refine sops_nil ?_))
    | refine swp_ret ?_
    | refine swp_skip ?_
    | refine swp_block ?_
    | refine swp_exit ?_
    | refine block_go ?_
    | refine block_exit ?_
    | refine block_far rfl ?_
    | refine block_ret ?_
    | refine then_ret ?_
    | refine then_exit ?_
    | refine for_ret ?_
    | refine for_exit ?_
    | refine swp_cond_t rfl (by first | assumption | with_reducible rfl | decide | (simp only [decide_eq_true_eq, Bool.not_eq_true', decide_eq_false_iff_not]; omega)) ?_
    | refine swp_cond_f rfl (by first | assumption | with_reducible rfl | decide | (simp only [decide_eq_false_iff_not, Bool.not_eq_false', decide_eq_true_eq]; omega)) ?_
    | refine swp_cond rfl (fun hc => ?_) (fun hc => ?_)
    | refine retq (by first | exact .inr rfl | exact .inl rfl) rfl (.tmp rfl (by first | exact .t _ | exact .own rfl rfl | exact .nil _ | exact .emp _) .nil) ?_)
  refine swp_for (R1 r) (fun _ => True) r.from_.length (weak_sub (.cons rfl rfl rfl (.cons rfl rfl rfl (.cons rfl rfl rfl .nil))) (.cons rfl rfl rfl (.cons rfl rfl rfl .nil)) .nil) trivial ?_
  intro k hk _
  unfold R1
  by_cases hlt : k < r.from_.length
  · obtain ⟨b0, b1, b2⟩ := hf.fs _ (List.getElem_mem hlt)
    have c0 := terms_ r.from_[k].names b0
    have c1 := terms_ r.from_[k].spaces b1
    have c2 := nets_ r.from_[k].nets b2
    repeat' (first
      | refine then_go ?_
      | refine swp_seq ?_
      | refine for_next hlt (weak_sub (.cons rfl rfl rfl (.cons rfl rfl rfl (.cons rfl rfl rfl .nil))) (.cons rfl rfl rfl (.cons rfl rfl rfl .nil)) .nil) trivial
      | ((refine swp_region (id := 4) ?_) <;> (refine sops_pure (.free rfl rfl) rfl rfl (po_move rfl rfl) ?_) <;> (first | refine sops_pure (.free rfl rfl) rfl rfl (po_field_bx rfl rfl (tyF rfl)) ?_ | refine sops_pure (.free rfl rfl) rfl rfl (po_field rfl rfl (tyF rfl)) ?_) <;> (first | refine sops_pure (.free rfl rfl) rfl rfl (po_load_bx rfl rfl (tyT rfl) rfl rfl) ?_ | refine sops_pure (.free rfl rfl) rfl rfl (po_load rfl rfl (tyT rfl) rfl) ?_) <;> (refine sops_pure (.free rfl rfl) rfl rfl (po_len rfl rfl (by first | exact .t _ | exact .own rfl rfl | exact .nil _ | exact .emp _) (tyS rfl)) ?_) <;> (refine sops_pure (.free rfl rfl) rfl rfl (po_cmp rfl rfl rfl rfl) ?_) <;> (refine sops_nil ?_))
      | ((refine swp_late (id := 6) 10 mixed (by kernel_rfl) (by kernel_rfl) ?_) <;> (first | refine slate_pure (.free rfl rfl) rfl (po_field_bx rfl rfl (tyF rfl)) ?_ | refine slate_pure (.free rfl rfl) rfl (po_field rfl rfl (tyF rfl)) ?_) <;> (first | refine slate_pure (.free rfl rfl) rfl (po_load_bx rfl rfl (tyT rfl) rfl rfl) ?_ | refine slate_pure (.free rfl rfl) rfl (po_load rfl rfl (tyT rfl) rfl) ?_) <;> (refine slate_pure (.free rfl rfl) rfl (po_move rfl rfl) ?_) <;> (refine slate_pure (.free rfl rfl) rfl (po_index rfl rfl (by first | exact .t _ | exact .own rfl rfl | exact .nil _ | exact .emp _) rfl (tyS rfl) (by first | rfl | omega) (by first | rfl | assumption | exact map_at (by first | assumption | omega))) ?_) <;> (first | refine slate_pure (.free rfl rfl) rfl (po_load_bx_agg rfl rfl (tyT rfl) rfl (.cons (by first | exact .t _ | exact .own rfl rfl | exact .nil _ | exact .emp _) (.cons (by first | exact .t _ | exact .own rfl rfl | exact .nil _ | exact .emp _) (.cons (by first | exact .t _ | exact .own rfl rfl | exact .nil _ | exact .emp _) .nil))) rfl) ?_ | refine slate_pure (.free rfl rfl) rfl (po_load_agg rfl rfl (tyT rfl) rfl rfl) ?_) <;> (first | refine slate_pure (.free rfl rfl) rfl (po_field_bx rfl rfl (tyF rfl)) ?_ | refine slate_pure (.free rfl rfl) rfl (po_field rfl rfl (tyF rfl)) ?_) <;> (first | refine slate_pure (.free rfl rfl) rfl (po_load_bx rfl rfl (tyT rfl) rfl rfl) ?_ | refine slate_pure (.free rfl rfl) rfl (po_load rfl rfl (tyT rfl) rfl) ?_) <;> (refine slate_pure (.free rfl rfl) rfl (po_move rfl rfl) ?_) <;> (refine slate_pure (.free rfl rfl) rfl (po_index rfl rfl (by first | exact .t _ | exact .own rfl rfl | exact .nil _ | exact .emp _) rfl (tyS rfl) (by first | rfl | omega) (by first | rfl | assumption | exact map_at (by first | assumption | omega))) ?_) <;> (first | refine slate_pure (.free rfl rfl) rfl (po_load_bx_agg rfl rfl (tyT rfl) rfl (.cons (by first | exact .t _ | exact .own rfl rfl | exact .nil _ | exact .emp _) (.cons (by first | exact .t _ | exact .own rfl rfl | exact .nil _ | exact .emp _) (.cons (by first | exact .t _ | exact .own rfl rfl | exact .nil _ | exact .emp _) .nil))) rfl) ?_ | refine slate_pure (.free rfl rfl) rfl (po_load_agg rfl rfl (tyT rfl) rfl rfl) ?_) <;> (refine slate_nil ?_) <;> (refine .mk ⟨6, 80, 49, _⟩ ⟨7, 80, 54, _⟩ ⟨⟨_, rfl, rfl, rfl, rfl⟩, ⟨_, rfl, rfl, rfl, rfl⟩, by kernel_rfl, ⟨_, _, str80, rfl⟩, rfl, rfl, rfl, ⟨_, tyT rfl⟩⟩ ⟨⟨_, rfl, rfl, rfl, rfl⟩, ⟨_, rfl, rfl, rfl, rfl⟩, by kernel_rfl, ⟨_, _, str80, rfl⟩, rfl, rfl, rfl, ⟨_, tyT rfl⟩⟩ rfl ?_) <;> (dsimp only))
      | ((refine swp_region (id := 7) ?_) <;> (first | refine sops_pure (.free rfl rfl) rfl rfl (po_field_bx rfl rfl (tyF rfl)) ?_ | refine sops_pure (.free rfl rfl) rfl rfl (po_field rfl rfl (tyF rfl)) ?_) <;> (first | refine sops_pure (.free rfl rfl) rfl rfl (po_load_bx rfl rfl (tyT rfl) rfl rfl) ?_ | refine sops_pure (.free rfl rfl) rfl rfl (po_load rfl rfl (tyT rfl) rfl) ?_) <;> (first | refine sops_pure (.free rfl rfl) rfl rfl (po_field_bx rfl rfl (tyF rfl)) ?_ | refine sops_pure (.free rfl rfl) rfl rfl (po_field rfl rfl (tyF rfl)) ?_) <;> (first | refine sops_pure (.free rfl rfl) rfl rfl (po_load_bx rfl rfl (tyT rfl) rfl rfl) ?_ | refine sops_pure (.free rfl rfl) rfl rfl (po_load rfl rfl (tyT rfl) rfl) ?_) <;> (first | refine sops_pure (.free rfl rfl) rfl rfl (po_call (c0) rfl (.cons rfl (by first | exact .t _ | exact .own rfl rfl | exact .nil _ | exact .emp _) (.cons rfl (by first | exact .t _ | exact .own rfl rfl | exact .nil _ | exact .emp _) .nil))) ?_ | refine sops_pure (.free rfl rfl) rfl rfl (po_call (c1) rfl (.cons rfl (by first | exact .t _ | exact .own rfl rfl | exact .nil _ | exact .emp _) (.cons rfl (by first | exact .t _ | exact .own rfl rfl | exact .nil _ | exact .emp _) .nil))) ?_ | refine sops_pure (.free rfl rfl) rfl rfl (po_call (c2) rfl (.cons rfl (by first | exact .t _ | exact .own rfl rfl | exact .nil _ | exact .emp _) (.cons rfl (by first | exact .t _ | exact .own rfl rfl | exact .nil _ | exact .emp _) .nil))) ?_) <;> (refine sops_pure (.free rfl rfl) rfl rfl (po_not rfl rfl) ?_) <;> (refine sops_pure (.free rfl rfl) rfl rfl (po_move rfl rfl) ?_) <;> (first | refine sops_pure (.yes rfl rfl rfl (by first | assumption | with_reducible rfl | decide | (simp only [decide_eq_true_eq, decide_eq_false_iff_not]; omega))) rfl rfl (po_field_bx rfl rfl (tyF rfl)) ?_ | refine sops_pure (.yes rfl rfl rfl (by first | assumption | with_reducible rfl | decide | (simp only [decide_eq_true_eq, decide_eq_false_iff_not]; omega))) rfl rfl (po_field rfl rfl (tyF rfl)) ?_ | refine sops_skip (.no0 rfl rfl rfl (by first | assumption | with_reducible rfl | decide | (simp only [decide_eq_true_eq, decide_eq_false_iff_not]; omega))) rfl rfl ?_ | ((refine sops_split rfl rfl rfl (fun hc => ?_) (fun hc => ?_)) <;> (first | refine sops_pure (.yes rfl rfl rfl (by first | assumption | with_reducible rfl | decide | (simp only [decide_eq_true_eq, decide_eq_false_iff_not]; omega))) rfl rfl (po_field_bx rfl rfl (tyF rfl)) ?_ | refine sops_pure (.yes rfl rfl rfl (by first | assumption | with_reducible rfl | decide | (simp only [decide_eq_true_eq, decide_eq_false_iff_not]; omega))) rfl rfl (po_field rfl rfl (tyF rfl)) ?_ | refine sops_skip (.no0 rfl rfl rfl (by first | assumption | with_reducible rfl | decide | (simp only [decide_eq_true_eq, decide_eq_false_iff_not]; omega))) rfl rfl ?_))) <;> (first | refine sops_pure (.yes rfl rfl rfl (by first | assumption | with_reducible rfl | decide | (simp only [decide_eq_true_eq, decide_eq_false_iff_not]; omega))) rfl rfl (po_load_bx rfl rfl (tyT rfl) rfl rfl) ?_ | refine sops_pure (.yes rfl rfl rfl (by first | assumption | with_reducible rfl | decide | (simp only [decide_eq_true_eq, decide_eq_false_iff_not]; omega))) rfl rfl (po_load rfl rfl (tyT rfl) rfl) ?_ | refine sops_skip (.no0 rfl rfl rfl (by first | assumption | with_reducible rfl | decide | (simp only [decide_eq_true_eq, decide_eq_false_iff_not]; omega))) rfl rfl ?_) <;> (first | refine sops_pure (.yes rfl rfl rfl (by first | assumption | with_reducible rfl | decide | (simp only [decide_eq_true_eq, decide_eq_false_iff_not]; omega))) rfl rfl (po_field_bx rfl rfl (tyF rfl)) ?_ | refine sops_pure (.yes rfl rfl rfl (by first | assumption | with_reducible rfl | decide | (simp only [decide_eq_true_eq, decide_eq_false_iff_not]; omega))) rfl rfl (po_field rfl rfl (tyF rfl)) ?_ | refine sops_skip (.no0 rfl rfl rfl (by first | assumption | with_reducible rfl | decide | (simp only [decide_eq_true_eq, decide_eq_false_iff_not]; omega))) rfl rfl ?_) <;> (first | refine sops_pure (.yes rfl rfl rfl (by first | assumption | with_reducible rfl | decide | (simp only [decide_eq_true_eq, decide_eq_false_iff_not]; omega))) rfl rfl (po_load_bx rfl rfl (tyT rfl) rfl rfl) ?_ | refine sops_pure (.yes rfl rfl rfl (by first | assumption | with_reducible rfl | decide | (simp only [decide_eq_true_eq, decide_eq_false_iff_not]; omega))) rfl rfl (po_load rfl rfl (tyT rfl) rfl) ?_ | refine sops_skip (.no0 rfl rfl rfl (by first | assumption | with_reducible rfl | decide | (simp only [decide_eq_true_eq, decide_eq_false_iff_not]; omega))) rfl rfl ?_) <;> (first | refine sops_pure (.yes rfl rfl rfl (by first | assumption | with_reducible rfl | decide | (simp only [decide_eq_true_eq, decide_eq_false_iff_not]; omega))) rfl rfl (po_call (c0) rfl (.cons rfl (by first | exact .t _ | exact .own rfl rfl | exact .nil _ | exact .emp _) (.cons rfl (by first | exact .t _ | exact .own rfl rfl | exact .nil _ | exact .emp _) .nil))) ?_ | refine sops_pure (.yes rfl rfl rfl (by first | assumption | with_reducible rfl | decide | (simp only [decide_eq_true_eq, decide_eq_false_iff_not]; omega))) rfl rfl (po_call (c1) rfl (.cons rfl (by first | exact .t _ | exact .own rfl rfl | exact .nil _ | exact .emp _) (.cons rfl (by first | exact .t _ | exact .own rfl rfl | exact .nil _ | exact .emp _) .nil))) ?_ | refine sops_pure (.yes rfl rfl rfl (by first | assumption | with_reducible rfl | decide | (simp only [decide_eq_true_eq, decide_eq_false_iff_not]; omega))) rfl rfl (po_call (c2) rfl (.cons rfl (by first | exact .t _ | exact .own rfl rfl | exact .nil _ | exact .emp _) (.cons rfl (by first | exact .t _ | exact .own rfl rfl | exact .nil _ | exact .emp _) .nil))) ?_ | refine sops_skip (.no0 rfl rfl rfl (by first | assumption | with_reducible rfl | decide | (simp only [decide_eq_true_eq, decide_eq_false_iff_not]; omega))) rfl rfl ?_) <;> (first | refine sops_pure (.yes rfl rfl rfl (by first | assumption | with_reducible rfl | decide | (simp only [decide_eq_true_eq, decide_eq_false_iff_not]; omega))) rfl rfl (po_not rfl rfl) ?_ | refine sops_skip (.no0 rfl rfl rfl (by first | assumption | with_reducible rfl | decide | (simp only [decide_eq_true_eq, decide_eq_false_iff_not]; omega))) rfl rfl ?_) <;> (first | refine sops_pure (.free rfl rfl) rfl rfl (po_pick_t rfl rfl (by first | assumption | with_reducible rfl | decide | (simp only [decide_eq_true_eq, decide_eq_false_iff_not]; omega)) rfl) ?_ | refine sops_pure (.free rfl rfl) rfl rfl (po_pick_f rfl rfl (by first | assumption | with_reducible rfl | decide | (simp only [decide_eq_true_eq, decide_eq_false_iff_not]; omega)) rfl) ?_) <;> (refine sops_pure (.free rfl rfl) rfl rfl (po_move rfl rfl) ?_) <;> (first | refine sops_pure (.yes rfl rfl rfl (by first | assumption | with_reducible rfl | decide | (simp only [decide_eq_true_eq, decide_eq_false_iff_not]; omega))) rfl rfl (po_field_bx rfl rfl (tyF rfl)) ?_ | refine sops_pure (.yes rfl rfl rfl (by first | assumption | with_reducible rfl | decide | (simp only [decide_eq_true_eq, decide_eq_false_iff_not]; omega))) rfl rfl (po_field rfl rfl (tyF rfl)) ?_ | refine sops_skip (.no0 rfl rfl rfl (by first | assumption | with_reducible rfl | decide | (simp only [decide_eq_true_eq, decide_eq_false_iff_not]; omega))) rfl rfl ?_ | ((refine sops_split rfl rfl rfl (fun hc => ?_) (fun hc => ?_)) <;> (first | refine sops_pure (.yes rfl rfl rfl (by first | assumption | with_reducible rfl | decide | (simp only [decide_eq_true_eq, decide_eq_false_iff_not]; omega))) rfl rfl (po_field_bx rfl rfl (tyF rfl)) ?_ | refine sops_pure (.yes rfl rfl rfl (by first | assumption | with_reducible rfl | decide | (simp only [decide_eq_true_eq, decide_eq_false_iff_not]; omega))) rfl rfl (po_field rfl rfl (tyF rfl)) ?_ | refine sops_skip (.no0 rfl rfl rfl (by first | assumption | with_reducible rfl | decide | (simp only [decide_eq_true_eq, decide_eq_false_iff_not]; omega))) rfl rfl ?_))) <;> (first | refine sops_pure (.yes rfl rfl rfl (by first | assumption | with_reducible rfl | decide | (simp only [decide_eq_true_eq, decide_eq_false_iff_not]; omega))) rfl rfl (po_load_bx rfl rfl (tyT rfl) rfl rfl) ?_ | refine sops_pure (.yes rfl rfl rfl (by first | assumption | with_reducible rfl | decide | (simp only [decide_eq_true_eq, decide_eq_false_iff_not]; omega))) rfl rfl (po_load rfl rfl (tyT rfl) rfl) ?_ | refine sops_skip (.no0 rfl rfl rfl (by first | assumption | with_reducible rfl | decide | (simp only [decide_eq_true_eq, decide_eq_false_iff_not]; omega))) rfl rfl ?_) <;> (first | refine sops_pure (.yes rfl rfl rfl (by first | assumption | with_reducible rfl | decide | (simp only [decide_eq_true_eq, decide_eq_false_iff_not]; omega))) rfl rfl (po_field_bx rfl rfl (tyF rfl)) ?_ | refine sops_pure (.yes rfl rfl rfl (by first | assumption | with_reducible rfl | decide | (simp only [decide_eq_true_eq, decide_eq_false_iff_not]; omega))) rfl rfl (po_field rfl rfl (tyF rfl)) ?_ | refine sops_skip (.no0 rfl rfl rfl (by first | assumption | with_reducible rfl | decide | (simp only [decide_eq_true_eq, decide_eq_false_iff_not]; omega))) rfl rfl ?_) <;> (first | refine sops_pure (.yes rfl rfl rfl (by first | assumption | with_reducible rfl | decide | (simp only [decide_eq_true_eq, decide_eq_false_iff_not]; omega))) rfl rfl (po_load_bx rfl rfl (tyT rfl) rfl rfl) ?_ | refine sops_pure (.yes rfl rfl rfl (by first | assumption | with_reducible rfl | decide | (simp only [decide_eq_true_eq, decide_eq_false_iff_not]; omega))) rfl rfl (po_load rfl rfl (tyT rfl) rfl) ?_ | refine sops_skip (.no0 rfl rfl rfl (by first | assumption | with_reducible rfl | decide | (simp only [decide_eq_true_eq, decide_eq_false_iff_not]; omega))) rfl rfl ?_) <;> (first | refine sops_pure (.yes rfl rfl rfl (by first | assumption | with_reducible rfl | decide | (simp only [decide_eq_true_eq, decide_eq_false_iff_not]; omega))) rfl rfl (po_call (c0) rfl (.cons rfl (by first | exact .t _ | exact .own rfl rfl | exact .nil _ | exact .emp _) (.cons rfl (by first | exact .t _ | exact .own rfl rfl | exact .nil _ | exact .emp _) .nil))) ?_ | refine sops_pure (.yes rfl rfl rfl (by first | assumption | with_reducible rfl | decide | (simp only [decide_eq_true_eq, decide_eq_false_iff_not]; omega))) rfl rfl (po_call (c1) rfl (.cons rfl (by first | exact .t _ | exact .own rfl rfl | exact .nil _ | exact .emp _) (.cons rfl (by first | exact .t _ | exact .own rfl rfl | exact .nil _ | exact .emp _) .nil))) ?_ | refine sops_pure (.yes rfl rfl rfl (by first | assumption | with_reducible rfl | decide | (simp only [decide_eq_true_eq, decide_eq_false_iff_not]; omega))) rfl rfl (po_call (c2) rfl (.cons rfl (by first | exact .t _ | exact .own rfl rfl | exact .nil _ | exact .emp _) (.cons rfl (by first | exact .t _ | exact .own rfl rfl | exact .nil _ | exact .emp _) .nil))) ?_ | refine sops_skip (.no0 rfl rfl rfl (by first | assumption | with_reducible rfl | decide | (simp only [decide_eq_true_eq, decide_eq_false_iff_not]; omega))) rfl rfl ?_) <;> (first | refine sops_pure (.yes rfl rfl rfl (by first | assumption | with_reducible rfl | decide | (simp only [decide_eq_true_eq, decide_eq_false_iff_not]; omega))) rfl rfl (po_not rfl rfl) ?_ | refine sops_skip (.no0 rfl rfl rfl (by first | assumption | with_reducible rfl | decide | (simp only [decide_eq_true_eq, decide_eq_false_iff_not]; omega))) rfl rfl ?_) <;> (first | refine sops_pure (.free rfl rfl) rfl rfl (po_pick_t rfl rfl (by first | assumption | with_reducible rfl | decide | (simp only [decide_eq_true_eq, decide_eq_false_iff_not]; omega)) rfl) ?_ | refine sops_pure (.free rfl rfl) rfl rfl (po_pick_f rfl rfl (by first | assumption | with_reducible rfl | decide | (simp only [decide_eq_true_eq, decide_eq_false_iff_not]; omega)) rfl) ?_) <;> (refine sops_nil ?_))
      | ((refine swp_region (id := 5) ?_) <;> (refine sops_pure (.free rfl rfl) rfl rfl (po_move rfl rfl) ?_) <;> (first | refine sops_pure (.free rfl rfl) rfl rfl (po_inc rfl rfl rfl (by omega)) ?_ | refine sops_pure (.free rfl rfl) rfl rfl (po_arith rfl rfl rfl (ar_add (by first | rfl | (refine wrap_i64 ?_; omega)) rfl)) ?_) <;> (refine sops_pure (.free rfl rfl) rfl rfl (po_assign rfl rfl) ?_) <;> (refine sops_nil ?_))
      | refine swp_ret ?_
      | refine swp_skip ?_
      | refine swp_block ?_
      | refine swp_exit ?_
      | refine block_go ?_
      | refine block_exit ?_
      | refine block_far rfl ?_
      | refine block_ret ?_
      | refine then_ret ?_
      | refine then_exit ?_
      | refine for_ret ?_
      | refine for_exit ?_
      | refine swp_cond_t rfl (by first | assumption | with_reducible rfl | decide | (simp only [decide_eq_true_eq, Bool.not_eq_true', decide_eq_false_iff_not]; omega)) ?_
      | refine swp_cond_f rfl (by first | assumption | with_reducible rfl | decide | (simp only [decide_eq_false_iff_not, Bool.not_eq_false', decide_eq_true_eq]; omega)) ?_
      | refine swp_cond rfl (fun hc => ?_) (fun hc => ?_)
      | refine retq (by first | exact .inr rfl | exact .inl rfl) rfl (.tmp rfl (by first | exact .t _ | exact .own rfl rfl | exact .nil _ | exact .emp _) .nil) ?_)
  obtain rfl : k = r.from_.length := by omega
  repeat' (first
    | refine then_go ?_
    | refine swp_seq ?_
    | ((refine swp_region (id := 4) ?_) <;> (refine sops_pure (.free rfl rfl) rfl rfl (po_move rfl rfl) ?_) <;> (first | refine sops_pure (.free rfl rfl) rfl rfl (po_field_bx rfl rfl (tyF rfl)) ?_ | refine sops_pure (.free rfl rfl) rfl rfl (po_field rfl rfl (tyF rfl)) ?_) <;> (first | refine sops_pure (.free rfl rfl) rfl rfl (po_load_bx rfl rfl (tyT rfl) rfl rfl) ?_ | refine sops_pure (.free rfl rfl) rfl rfl (po_load rfl rfl (tyT rfl) rfl) ?_) <;> (refine sops_pure (.free rfl rfl) rfl rfl (po_len rfl rfl (by first | exact .t _ | exact .own rfl rfl | exact .nil _ | exact .emp _) (tyS rfl)) ?_) <;> (refine sops_pure (.free rfl rfl) rfl rfl (po_cmp rfl rfl rfl rfl) ?_) <;> (refine sops_nil ?_))
    | ((refine swp_region (id := 9) ?_) <;> (refine sops_pure (.free rfl rfl) rfl rfl (po_assign rfl rfl) ?_) <;> (refine sops_nil ?_))
    | refine swp_ret ?_
    | refine swp_skip ?_
    | refine swp_block ?_
    | refine swp_exit ?_
    | refine block_go ?_
    | refine block_exit ?_
    | refine block_far rfl ?_
    | refine block_ret ?_
    | refine then_ret ?_
    | refine then_exit ?_
    | refine for_ret ?_
    | refine for_exit ?_
    | refine swp_cond_t rfl (by first | assumption | with_reducible rfl | decide | (simp only [decide_eq_true_eq, Bool.not_eq_true', decide_eq_false_iff_not]; omega)) ?_
    | refine swp_cond_f rfl (by first | assumption | with_reducible rfl | decide | (simp only [decide_eq_false_iff_not, Bool.not_eq_false', decide_eq_true_eq]; omega)) ?_
    | refine swp_cond rfl (fun hc => ?_) (fun hc => ?_)
    | refine retq (by first | exact .inr rfl | exact .inl rfl) rfl (.tmp rfl (by first | exact .t _ | exact .own rfl rfl | exact .nil _ | exact .emp _) .nil) ?_)
  refine swp_for (R2 r) (fun _ => True) r.to_.length (weak_sub (.cons rfl rfl rfl (.cons rfl rfl rfl (.cons rfl rfl rfl .nil))) (.cons rfl rfl rfl (.cons rfl rfl rfl .nil)) .nil) trivial ?_
  intro k hk _
  unfold R2
  by_cases hlt : k < r.to_.length
  · obtain ⟨b0, b1, b2, b3⟩ := hf.ts _ (List.getElem_mem hlt)
    have c1 := terms_ r.to_[k].methods b1
    have c2 := terms_ r.to_[k].paths b2
    have c3 := terms_ r.to_[k].hosts b3
    have e4 := ne_len (l := r.to_[k].ports.map intT)
    have hm4 : (r.to_[k].ports.map intT).length = r.to_[k].ports.length := List.length_map _
    repeat' (first
      | refine then_go ?_
      | refine swp_seq ?_
      | ((refine swp_region (id := 10) ?_) <;> (refine sops_pure (.free rfl rfl) rfl rfl (po_move rfl rfl) ?_) <;> (first | refine sops_pure (.free rfl rfl) rfl rfl (po_field_bx rfl rfl (tyF rfl)) ?_ | refine sops_pure (.free rfl rfl) rfl rfl (po_field rfl rfl (tyF rfl)) ?_) <;> (first | refine sops_pure (.free rfl rfl) rfl rfl (po_load_bx rfl rfl (tyT rfl) rfl rfl) ?_ | refine sops_pure (.free rfl rfl) rfl rfl (po_load rfl rfl (tyT rfl) rfl) ?_) <;> (refine sops_pure (.free rfl rfl) rfl rfl (po_len rfl rfl (by first | exact .t _ | exact .own rfl rfl | exact .nil _ | exact .emp _) (tyS rfl)) ?_) <;> (refine sops_pure (.free rfl rfl) rfl rfl (po_cmp rfl rfl rfl rfl) ?_) <;> (refine sops_nil ?_))
      | ((refine swp_late (id := 12) 10 mixed (by kernel_rfl) (by kernel_rfl) ?_) <;> (first | refine slate_pure (.free rfl rfl) rfl (po_field_bx rfl rfl (tyF rfl)) ?_ | refine slate_pure (.free rfl rfl) rfl (po_field rfl rfl (tyF rfl)) ?_) <;> (first | refine slate_pure (.free rfl rfl) rfl (po_load_bx rfl rfl (tyT rfl) rfl rfl) ?_ | refine slate_pure (.free rfl rfl) rfl (po_load rfl rfl (tyT rfl) rfl) ?_) <;> (refine slate_pure (.free rfl rfl) rfl (po_move rfl rfl) ?_) <;> (refine slate_pure (.free rfl rfl) rfl (po_index rfl rfl (by first | exact .t _ | exact .own rfl rfl | exact .nil _ | exact .emp _) rfl (tyS rfl) (by first | rfl | omega) (by first | rfl | assumption | exact map_at (by first | assumption | omega))) ?_) <;> (first | refine slate_pure (.free rfl rfl) rfl (po_load_bx_agg rfl rfl (tyT rfl) rfl (.cons (by first | exact .t _ | exact .own rfl rfl | exact .nil _ | exact .emp _) (.cons (by first | exact .t _ | exact .own rfl rfl | exact .nil _ | exact .emp _) (.cons (by first | exact .t _ | exact .own rfl rfl | exact .nil _ | exact .emp _) (.cons (by first | exact .t _ | exact .own rfl rfl | exact .nil _ | exact .emp _) .nil)))) rfl) ?_ | refine slate_pure (.free rfl rfl) rfl (po_load_agg rfl rfl (tyT rfl) rfl rfl) ?_) <;> (first | refine slate_pure (.free rfl rfl) rfl (po_field_bx rfl rfl (tyF rfl)) ?_ | refine slate_pure (.free rfl rfl) rfl (po_field rfl rfl (tyF rfl)) ?_) <;> (first | refine slate_pure (.free rfl rfl) rfl (po_load_bx rfl rfl (tyT rfl) rfl rfl) ?_ | refine slate_pure (.free rfl rfl) rfl (po_load rfl rfl (tyT rfl) rfl) ?_) <;> (refine slate_pure (.free rfl rfl) rfl (po_move rfl rfl) ?_) <;> (refine slate_pure (.free rfl rfl) rfl (po_index rfl rfl (by first | exact .t _ | exact .own rfl rfl | exact .nil _ | exact .emp _) rfl (tyS rfl) (by first | rfl | omega) (by first | rfl | assumption | exact map_at (by first | assumption | omega))) ?_) <;> (first | refine slate_pure (.free rfl rfl) rfl (po_load_bx_agg rfl rfl (tyT rfl) rfl (.cons (by first | exact .t _ | exact .own rfl rfl | exact .nil _ | exact .emp _) (.cons (by first | exact .t _ | exact .own rfl rfl | exact .nil _ | exact .emp _) (.cons (by first | exact .t _ | exact .own rfl rfl | exact .nil _ | exact .emp _) (.cons (by first | exact .t _ | exact .own rfl rfl | exact .nil _ | exact .emp _) .nil)))) rfl) ?_ | refine slate_pure (.free rfl rfl) rfl (po_load_agg rfl rfl (tyT rfl) rfl rfl) ?_) <;> (refine slate_nil ?_) <;> (refine .mk ⟨9, 84, 88, _⟩ ⟨10, 84, 93, _⟩ ⟨⟨_, rfl, rfl, rfl, rfl⟩, ⟨_, rfl, rfl, rfl, rfl⟩, by kernel_rfl, ⟨_, _, str84, rfl⟩, rfl, rfl, rfl, ⟨_, tyT rfl⟩⟩ ⟨⟨_, rfl, rfl, rfl, rfl⟩, ⟨_, rfl, rfl, rfl, rfl⟩, by kernel_rfl, ⟨_, _, str84, rfl⟩, rfl, rfl, rfl, ⟨_, tyT rfl⟩⟩ rfl ?_) <;> (dsimp only))
      | ((refine swp_region (id := 13) ?_) <;> (first | refine sops_pure (.free rfl rfl) rfl rfl (po_field_bx rfl rfl (tyF rfl)) ?_ | refine sops_pure (.free rfl rfl) rfl rfl (po_field rfl rfl (tyF rfl)) ?_) <;> (first | refine sops_pure (.free rfl rfl) rfl rfl (po_load_bx rfl rfl (tyT rfl) rfl rfl) ?_ | refine sops_pure (.free rfl rfl) rfl rfl (po_load rfl rfl (tyT rfl) rfl) ?_) <;> (first | refine sops_pure (.free rfl rfl) rfl rfl (po_field_bx rfl rfl (tyF rfl)) ?_ | refine sops_pure (.free rfl rfl) rfl rfl (po_field rfl rfl (tyF rfl)) ?_) <;> (first | refine sops_pure (.free rfl rfl) rfl rfl (po_load_bx rfl rfl (tyT rfl) rfl rfl) ?_ | refine sops_pure (.free rfl rfl) rfl rfl (po_load rfl rfl (tyT rfl) rfl) ?_) <;> (first | refine sops_pure (.free rfl rfl) rfl rfl (po_call (c1) rfl (.cons rfl (by first | exact .t _ | exact .own rfl rfl | exact .nil _ | exact .emp _) (.cons rfl (by first | exact .t _ | exact .own rfl rfl | exact .nil _ | exact .emp _) .nil))) ?_ | refine sops_pure (.free rfl rfl) rfl rfl (po_call (c2) rfl (.cons rfl (by first | exact .t _ | exact .own rfl rfl | exact .nil _ | exact .emp _) (.cons rfl (by first | exact .t _ | exact .own rfl rfl | exact .nil _ | exact .emp _) .nil))) ?_ | refine sops_pure (.free rfl rfl) rfl rfl (po_call (c3) rfl (.cons rfl (by first | exact .t _ | exact .own rfl rfl | exact .nil _ | exact .emp _) (.cons rfl (by first | exact .t _ | exact .own rfl rfl | exact .nil _ | exact .emp _) .nil))) ?_) <;> (refine sops_pure (.free rfl rfl) rfl rfl (po_not rfl rfl) ?_) <;> (refine sops_pure (.free rfl rfl) rfl rfl (po_move rfl rfl) ?_) <;> (first | refine sops_pure (.yes rfl rfl rfl (by first | assumption | with_reducible rfl | decide | (simp only [decide_eq_true_eq, decide_eq_false_iff_not]; omega))) rfl rfl (po_field_bx rfl rfl (tyF rfl)) ?_ | refine sops_pure (.yes rfl rfl rfl (by first | assumption | with_reducible rfl | decide | (simp only [decide_eq_true_eq, decide_eq_false_iff_not]; omega))) rfl rfl (po_field rfl rfl (tyF rfl)) ?_ | refine sops_skip (.no0 rfl rfl rfl (by first | assumption | with_reducible rfl | decide | (simp only [decide_eq_true_eq, decide_eq_false_iff_not]; omega))) rfl rfl ?_ | ((refine sops_split rfl rfl rfl (fun hc => ?_) (fun hc => ?_)) <;> (first | refine sops_pure (.yes rfl rfl rfl (by first | assumption | with_reducible rfl | decide | (simp only [decide_eq_true_eq, decide_eq_false_iff_not]; omega))) rfl rfl (po_field_bx rfl rfl (tyF rfl)) ?_ | refine sops_pure (.yes rfl rfl rfl (by first | assumption | with_reducible rfl | decide | (simp only [decide_eq_true_eq, decide_eq_false_iff_not]; omega))) rfl rfl (po_field rfl rfl (tyF rfl)) ?_ | refine sops_skip (.no0 rfl rfl rfl (by first | assumption | with_reducible rfl | decide | (simp only [decide_eq_true_eq, decide_eq_false_iff_not]; omega))) rfl rfl ?_))) <;> (first | refine sops_pure (.yes rfl rfl rfl (by first | assumption | with_reducible rfl | decide | (simp only [decide_eq_true_eq, decide_eq_false_iff_not]; omega))) rfl rfl (po_load_bx rfl rfl (tyT rfl) rfl rfl) ?_ | refine sops_pure (.yes rfl rfl rfl (by first | assumption | with_reducible rfl | decide | (simp only [decide_eq_true_eq, decide_eq_false_iff_not]; omega))) rfl rfl (po_load rfl rfl (tyT rfl) rfl) ?_ | refine sops_skip (.no0 rfl rfl rfl (by first | assumption | with_reducible rfl | decide | (simp only [decide_eq_true_eq, decide_eq_false_iff_not]; omega))) rfl rfl ?_) <;> (first | refine sops_pure (.yes rfl rfl rfl (by first | assumption | with_reducible rfl | decide | (simp only [decide_eq_true_eq, decide_eq_false_iff_not]; omega))) rfl rfl (po_field_bx rfl rfl (tyF rfl)) ?_ | refine sops_pure (.yes rfl rfl rfl (by first | assumption | with_reducible rfl | decide | (simp only [decide_eq_true_eq, decide_eq_false_iff_not]; omega))) rfl rfl (po_field rfl rfl (tyF rfl)) ?_ | refine sops_skip (.no0 rfl rfl rfl (by first | assumption | with_reducible rfl | decide | (simp only [decide_eq_true_eq, decide_eq_false_iff_not]; omega))) rfl rfl ?_) <;> (first | refine sops_pure (.yes rfl rfl rfl (by first | assumption | with_reducible rfl | decide | (simp only [decide_eq_true_eq, decide_eq_false_iff_not]; omega))) rfl rfl (po_load_bx rfl rfl (tyT rfl) rfl rfl) ?_ | refine sops_pure (.yes rfl rfl rfl (by first | assumption | with_reducible rfl | decide | (simp only [decide_eq_true_eq, decide_eq_false_iff_not]; omega))) rfl rfl (po_load rfl rfl (tyT rfl) rfl) ?_ | refine sops_skip (.no0 rfl rfl rfl (by first | assumption | with_reducible rfl | decide | (simp only [decide_eq_true_eq, decide_eq_false_iff_not]; omega))) rfl rfl ?_) <;> (first | refine sops_pure (.yes rfl rfl rfl (by first | assumption | with_reducible rfl | decide | (simp only [decide_eq_true_eq, decide_eq_false_iff_not]; omega))) rfl rfl (po_call (c1) rfl (.cons rfl (by first | exact .t _ | exact .own rfl rfl | exact .nil _ | exact .emp _) (.cons rfl (by first | exact .t _ | exact .own rfl rfl | exact .nil _ | exact .emp _) .nil))) ?_ | refine sops_pure (.yes rfl rfl rfl (by first | assumption | with_reducible rfl | decide | (simp only [decide_eq_true_eq, decide_eq_false_iff_not]; omega))) rfl rfl (po_call (c2) rfl (.cons rfl (by first | exact .t _ | exact .own rfl rfl | exact .nil _ | exact .emp _) (.cons rfl (by first | exact .t _ | exact .own rfl rfl | exact .nil _ | exact .emp _) .nil))) ?_ | refine sops_pure (.yes rfl rfl rfl (by first | assumption | with_reducible rfl | decide | (simp only [decide_eq_true_eq, decide_eq_false_iff_not]; omega))) rfl rfl (po_call (c3) rfl (.cons rfl (by first | exact .t _ | exact .own rfl rfl | exact .nil _ | exact .emp _) (.cons rfl (by first | exact .t _ | exact .own rfl rfl | exact .nil _ | exact .emp _) .nil))) ?_ | refine sops_skip (.no0 rfl rfl rfl (by first | assumption | with_reducible rfl | decide | (simp only [decide_eq_true_eq, decide_eq_false_iff_not]; omega))) rfl rfl ?_) <;> (first | refine sops_pure (.yes rfl rfl rfl (by first | assumption | with_reducible rfl | decide | (simp only [decide_eq_true_eq, decide_eq_false_iff_not]; omega))) rfl rfl (po_not rfl rfl) ?_ | refine sops_skip (.no0 rfl rfl rfl (by first | assumption | with_reducible rfl | decide | (simp only [decide_eq_true_eq, decide_eq_false_iff_not]; omega))) rfl rfl ?_) <;> (first | refine sops_pure (.free rfl rfl) rfl rfl (po_pick_t rfl rfl (by first | assumption | with_reducible rfl | decide | (simp only [decide_eq_true_eq, decide_eq_false_iff_not]; omega)) rfl) ?_ | refine sops_pure (.free rfl rfl) rfl rfl (po_pick_f rfl rfl (by first | assumption | with_reducible rfl | decide | (simp only [decide_eq_true_eq, decide_eq_false_iff_not]; omega)) rfl) ?_) <;> (refine sops_pure (.free rfl rfl) rfl rfl (po_move rfl rfl) ?_) <;> (first | refine sops_pure (.yes rfl rfl rfl (by first | assumption | with_reducible rfl | decide | (simp only [decide_eq_true_eq, decide_eq_false_iff_not]; omega))) rfl rfl (po_field_bx rfl rfl (tyF rfl)) ?_ | refine sops_pure (.yes rfl rfl rfl (by first | assumption | with_reducible rfl | decide | (simp only [decide_eq_true_eq, decide_eq_false_iff_not]; omega))) rfl rfl (po_field rfl rfl (tyF rfl)) ?_ | refine sops_skip (.no0 rfl rfl rfl (by first | assumption | with_reducible rfl | decide | (simp only [decide_eq_true_eq, decide_eq_false_iff_not]; omega))) rfl rfl ?_ | ((refine sops_split rfl rfl rfl (fun hc => ?_) (fun hc => ?_)) <;> (first | refine sops_pure (.yes rfl rfl rfl (by first | assumption | with_reducible rfl | decide | (simp only [decide_eq_true_eq, decide_eq_false_iff_not]; omega))) rfl rfl (po_field_bx rfl rfl (tyF rfl)) ?_ | refine sops_pure (.yes rfl rfl rfl (by first | assumption | with_reducible rfl | decide | (simp only [decide_eq_true_eq, decide_eq_false_iff_not]; omega))) rfl rfl (po_field rfl rfl (tyF rfl)) ?_ | refine sops_skip (.no0 rfl rfl rfl (by first | assumption | with_reducible rfl | decide | (simp only [decide_eq_true_eq, decide_eq_false_iff_not]; omega))) rfl rfl ?_))) <;> (first | refine sops_pure (.yes rfl rfl rfl (by first | assumption | with_reducible rfl | decide | (simp only [decide_eq_true_eq, decide_eq_false_iff_not]; omega))) rfl rfl (po_load_bx rfl rfl (tyT rfl) rfl rfl) ?_ | refine sops_pure (.yes rfl rfl rfl (by first | assumption | with_reducible rfl | decide | (simp only [decide_eq_true_eq, decide_eq_false_iff_not]; omega))) rfl rfl (po_load rfl rfl (tyT rfl) rfl) ?_ | refine sops_skip (.no0 rfl rfl rfl (by first | assumption | with_reducible rfl | decide | (simp only [decide_eq_true_eq, decide_eq_false_iff_not]; omega))) rfl rfl ?_) <;> (first | refine sops_pure (.yes rfl rfl rfl (by first | assumption | with_reducible rfl | decide | (simp only [decide_eq_true_eq, decide_eq_false_iff_not]; omega))) rfl rfl (po_field_bx rfl rfl (tyF rfl)) ?_ | refine sops_pure (.yes rfl rfl rfl (by first | assumption | with_reducible rfl | decide | (simp only [decide_eq_true_eq, decide_eq_false_iff_not]; omega))) rfl rfl (po_field rfl rfl (tyF rfl)) ?_ | refine sops_skip (.no0 rfl rfl rfl (by first | assumption | with_reducible rfl | decide | (simp only [decide_eq_true_eq, decide_eq_false_iff_not]; omega))) rfl rfl ?_) <;> (first | refine sops_pure (.yes rfl rfl rfl (by first | assumption | with_reducible rfl | decide | (simp only [decide_eq_true_eq, decide_eq_false_iff_not]; omega))) rfl rfl (po_load_bx rfl rfl (tyT rfl) rfl rfl) ?_ | refine sops_pure (.yes rfl rfl rfl (by first | assumption | with_reducible rfl | decide | (simp only [decide_eq_true_eq, decide_eq_false_iff_not]; omega))) rfl rfl (po_load rfl rfl (tyT rfl) rfl) ?_ | refine sops_skip (.no0 rfl rfl rfl (by first | assumption | with_reducible rfl | decide | (simp only [decide_eq_true_eq, decide_eq_false_iff_not]; omega))) rfl rfl ?_) <;> (first | refine sops_pure (.yes rfl rfl rfl (by first | assumption | with_reducible rfl | decide | (simp only [decide_eq_true_eq, decide_eq_false_iff_not]; omega))) rfl rfl (po_call (c1) rfl (.cons rfl (by first | exact .t _ | exact .own rfl rfl | exact .nil _ | exact .emp _) (.cons rfl (by first | exact .t _ | exact .own rfl rfl | exact .nil _ | exact .emp _) .nil))) ?_ | refine sops_pure (.yes rfl rfl rfl (by first | assumption | with_reducible rfl | decide | (simp only [decide_eq_true_eq, decide_eq_false_iff_not]; omega))) rfl rfl (po_call (c2) rfl (.cons rfl (by first | exact .t _ | exact .own rfl rfl | exact .nil _ | exact .emp _) (.cons rfl (by first | exact .t _ | exact .own rfl rfl | exact .nil _ | exact .emp _) .nil))) ?_ | refine sops_pure (.yes rfl rfl rfl (by first | assumption | with_reducible rfl | decide | (simp only [decide_eq_true_eq, decide_eq_false_iff_not]; omega))) rfl rfl (po_call (c3) rfl (.cons rfl (by first | exact .t _ | exact .own rfl rfl | exact .nil _ | exact .emp _) (.cons rfl (by first | exact .t _ | exact .own rfl rfl | exact .nil _ | exact .emp _) .nil))) ?_ | refine sops_skip (.no0 rfl rfl rfl (by first | assumption | with_reducible rfl | decide | (simp only [decide_eq_true_eq, decide_eq_false_iff_not]; omega))) rfl rfl ?_) <;> (first | refine sops_pure (.yes rfl rfl rfl (by first | assumption | with_reducible rfl | decide | (simp only [decide_eq_true_eq, decide_eq_false_iff_not]; omega))) rfl rfl (po_not rfl rfl) ?_ | refine sops_skip (.no0 rfl rfl rfl (by first | assumption | with_reducible rfl | decide | (simp only [decide_eq_true_eq, decide_eq_false_iff_not]; omega))) rfl rfl ?_) <;> (first | refine sops_pure (.free rfl rfl) rfl rfl (po_pick_t rfl rfl (by first | assumption | with_reducible rfl | decide | (simp only [decide_eq_true_eq, decide_eq_false_iff_not]; omega)) rfl) ?_ | refine sops_pure (.free rfl rfl) rfl rfl (po_pick_f rfl rfl (by first | assumption | with_reducible rfl | decide | (simp only [decide_eq_true_eq, decide_eq_false_iff_not]; omega)) rfl) ?_) <;> (refine sops_pure (.free rfl rfl) rfl rfl (po_move rfl rfl) ?_) <;> (first | refine sops_pure (.yes rfl rfl rfl (by first | assumption | with_reducible rfl | decide | (simp only [decide_eq_true_eq, decide_eq_false_iff_not]; omega))) rfl rfl (po_field_bx rfl rfl (tyF rfl)) ?_ | refine sops_pure (.yes rfl rfl rfl (by first | assumption | with_reducible rfl | decide | (simp only [decide_eq_true_eq, decide_eq_false_iff_not]; omega))) rfl rfl (po_field rfl rfl (tyF rfl)) ?_ | refine sops_skip (.no0 rfl rfl rfl (by first | assumption | with_reducible rfl | decide | (simp only [decide_eq_true_eq, decide_eq_false_iff_not]; omega))) rfl rfl ?_ | ((refine sops_split rfl rfl rfl (fun hc => ?_) (fun hc => ?_)) <;> (first | refine sops_pure (.yes rfl rfl rfl (by first | assumption | with_reducible rfl | decide | (simp only [decide_eq_true_eq, decide_eq_false_iff_not]; omega))) rfl rfl (po_field_bx rfl rfl (tyF rfl)) ?_ | refine sops_pure (.yes rfl rfl rfl (by first | assumption | with_reducible rfl | decide | (simp only [decide_eq_true_eq, decide_eq_false_iff_not]; omega))) rfl rfl (po_field rfl rfl (tyF rfl)) ?_ | refine sops_skip (.no0 rfl rfl rfl (by first | assumption | with_reducible rfl | decide | (simp only [decide_eq_true_eq, decide_eq_false_iff_not]; omega))) rfl rfl ?_))) <;> (first | refine sops_pure (.yes rfl rfl rfl (by first | assumption | with_reducible rfl | decide | (simp only [decide_eq_true_eq, decide_eq_false_iff_not]; omega))) rfl rfl (po_load_bx rfl rfl (tyT rfl) rfl rfl) ?_ | refine sops_pure (.yes rfl rfl rfl (by first | assumption | with_reducible rfl | decide | (simp only [decide_eq_true_eq, decide_eq_false_iff_not]; omega))) rfl rfl (po_load rfl rfl (tyT rfl) rfl) ?_ | refine sops_skip (.no0 rfl rfl rfl (by first | assumption | with_reducible rfl | decide | (simp only [decide_eq_true_eq, decide_eq_false_iff_not]; omega))) rfl rfl ?_) <;> (first | refine sops_pure (.yes rfl rfl rfl (by first | assumption | with_reducible rfl | decide | (simp only [decide_eq_true_eq, decide_eq_false_iff_not]; omega))) rfl rfl (po_len rfl rfl (by first | exact .t _ | exact .own rfl rfl | exact .nil _ | exact .emp _) (tyS rfl)) ?_ | refine sops_skip (.no0 rfl rfl rfl (by first | assumption | with_reducible rfl | decide | (simp only [decide_eq_true_eq, decide_eq_false_iff_not]; omega))) rfl rfl ?_) <;> (first | refine sops_pure (.yes rfl rfl rfl (by first | assumption | with_reducible rfl | decide | (simp only [decide_eq_true_eq, decide_eq_false_iff_not]; omega))) rfl rfl (po_field_bx rfl rfl (tyF rfl)) ?_ | refine sops_pure (.yes rfl rfl rfl (by first | assumption | with_reducible rfl | decide | (simp only [decide_eq_true_eq, decide_eq_false_iff_not]; omega))) rfl rfl (po_field rfl rfl (tyF rfl)) ?_ | refine sops_skip (.no0 rfl rfl rfl (by first | assumption | with_reducible rfl | decide | (simp only [decide_eq_true_eq, decide_eq_false_iff_not]; omega))) rfl rfl ?_) <;> (first | refine sops_pure (.yes rfl rfl rfl (by first | assumption | with_reducible rfl | decide | (simp only [decide_eq_true_eq, decide_eq_false_iff_not]; omega))) rfl rfl (po_load_bx rfl rfl (tyT rfl) rfl rfl) ?_ | refine sops_pure (.yes rfl rfl rfl (by first | assumption | with_reducible rfl | decide | (simp only [decide_eq_true_eq, decide_eq_false_iff_not]; omega))) rfl rfl (po_load rfl rfl (tyT rfl) rfl) ?_ | refine sops_skip (.no0 rfl rfl rfl (by first | assumption | with_reducible rfl | decide | (simp only [decide_eq_true_eq, decide_eq_false_iff_not]; omega))) rfl rfl ?_) <;> (first | refine sops_pure (.yes rfl rfl rfl (by first | assumption | with_reducible rfl | decide | (simp only [decide_eq_true_eq, decide_eq_false_iff_not]; omega))) rfl rfl (po_len rfl rfl (by first | exact .t _ | exact .own rfl rfl | exact .nil _ | exact .emp _) (tyS rfl)) ?_ | refine sops_skip (.no0 rfl rfl rfl (by first | assumption | with_reducible rfl | decide | (simp only [decide_eq_true_eq, decide_eq_false_iff_not]; omega))) rfl rfl ?_) <;> (first | refine sops_pure (.yes rfl rfl rfl (by first | assumption | with_reducible rfl | decide | (simp only [decide_eq_true_eq, decide_eq_false_iff_not]; omega))) rfl rfl (po_cmp rfl rfl rfl rfl) ?_ | refine sops_skip (.no0 rfl rfl rfl (by first | assumption | with_reducible rfl | decide | (simp only [decide_eq_true_eq, decide_eq_false_iff_not]; omega))) rfl rfl ?_) <;> (first | refine sops_pure (.free rfl rfl) rfl rfl (po_pick_t rfl rfl (by first | assumption | with_reducible rfl | decide | (simp only [decide_eq_true_eq, decide_eq_false_iff_not]; omega)) rfl) ?_ | refine sops_pure (.free rfl rfl) rfl rfl (po_pick_f rfl rfl (by first | assumption | with_reducible rfl | decide | (simp only [decide_eq_true_eq, decide_eq_false_iff_not]; omega)) rfl) ?_) <;> (refine sops_nil ?_))
      | ((refine swp_region (id := 15) ?_) <;> (refine sops_pure (.free rfl rfl) rfl rfl (po_assign rfl rfl) ?_) <;> (refine sops_nil ?_))
      | refine swp_ret ?_
      | refine swp_skip ?_
      | refine swp_block ?_
      | refine swp_exit ?_
      | refine block_go ?_
      | refine block_exit ?_
      | refine block_far rfl ?_
      | refine block_ret ?_
      | refine then_ret ?_
      | refine then_exit ?_
      | refine for_ret ?_
      | refine for_exit ?_
      | refine swp_cond_t rfl (by first | assumption | with_reducible rfl | decide | (simp only [decide_eq_true_eq, Bool.not_eq_true', decide_eq_false_iff_not]; omega)) ?_
      | refine swp_cond_f rfl (by first | assumption | with_reducible rfl | decide | (simp only [decide_eq_false_iff_not, Bool.not_eq_false', decide_eq_true_eq]; omega)) ?_
      | refine swp_cond rfl (fun hc => ?_) (fun hc => ?_)
      | refine retq (by first | exact .inr rfl | exact .inl rfl) rfl (.tmp rfl (by first | exact .t _ | exact .own rfl rfl | exact .nil _ | exact .emp _) .nil) ?_)
    refine swp_for (R2b r k r.to_[k]) (fun _ => True) r.to_[k].ports.length (weak_sub (.cons rfl rfl rfl (.cons rfl rfl rfl (.cons rfl rfl rfl (.cons rfl rfl rfl (.cons rfl rfl rfl (.cons rfl rfl rfl .nil)))))) (.cons rfl rfl rfl (.cons rfl rfl rfl (.cons rfl rfl rfl (.cons rfl rfl rfl .nil)))) .nil) trivial ?_
    intro j hj _
    unfold R2b
    by_cases hjl : j < r.to_[k].ports.length
    · have e5 := ne_self (n := r.to_[k].ports[j])
      repeat' (first
        | refine then_go ?_
        | refine swp_seq ?_
        | refine for_next hjl (weak_sub (.cons rfl rfl rfl (.cons rfl rfl rfl (.cons rfl rfl rfl (.cons rfl rfl rfl (.cons rfl rfl rfl (.cons rfl rfl rfl .nil)))))) (.cons rfl rfl rfl (.cons rfl rfl rfl (.cons rfl rfl rfl (.cons rfl rfl rfl .nil)))) .nil) trivial
        | ((refine swp_region (id := 16) ?_) <;> (refine sops_pure (.free rfl rfl) rfl rfl (po_move rfl rfl) ?_) <;> (first | refine sops_pure (.free rfl rfl) rfl rfl (po_field_bx rfl rfl (tyF rfl)) ?_ | refine sops_pure (.free rfl rfl) rfl rfl (po_field rfl rfl (tyF rfl)) ?_) <;> (first | refine sops_pure (.free rfl rfl) rfl rfl (po_load_bx rfl rfl (tyT rfl) rfl rfl) ?_ | refine sops_pure (.free rfl rfl) rfl rfl (po_load rfl rfl (tyT rfl) rfl) ?_) <;> (refine sops_pure (.free rfl rfl) rfl rfl (po_len rfl rfl (by first | exact .t _ | exact .own rfl rfl | exact .nil _ | exact .emp _) (tyS rfl)) ?_) <;> (refine sops_pure (.free rfl rfl) rfl rfl (po_cmp rfl rfl rfl rfl) ?_) <;> (refine sops_nil ?_))
        | ((refine swp_draw_all (id := 18) mixed (by kernel_rfl) (by kernel_rfl) ?_) <;> (first | refine sdraw_pure (.free rfl rfl) rfl (po_field_bx rfl rfl (tyF rfl)) ?_ | refine sdraw_pure (.free rfl rfl) rfl (po_field rfl rfl (tyF rfl)) ?_) <;> (first | refine sdraw_pure (.free rfl rfl) rfl (po_load_bx rfl rfl (tyT rfl) rfl rfl) ?_ | refine sdraw_pure (.free rfl rfl) rfl (po_load rfl rfl (tyT rfl) rfl) ?_) <;> (refine sdraw_pure (.free rfl rfl) rfl (po_move rfl rfl) ?_) <;> (refine sdraw_pure (.free rfl rfl) rfl (po_index rfl rfl (by first | exact .t _ | exact .own rfl rfl | exact .nil _ | exact .emp _) rfl (tyS rfl) (by first | rfl | omega) (by first | rfl | assumption | exact map_at (by first | assumption | omega))) ?_) <;> (first | refine sdraw_pure (.free rfl rfl) rfl (po_load_bx rfl rfl (tyT rfl) rfl rfl) ?_ | refine sdraw_pure (.free rfl rfl) rfl (po_load rfl rfl (tyT rfl) rfl) ?_) <;> (first | refine sdraw_pure (.free rfl rfl) rfl (po_field_bx rfl rfl (tyF rfl)) ?_ | refine sdraw_pure (.free rfl rfl) rfl (po_field rfl rfl (tyF rfl)) ?_) <;> (first | refine sdraw_pure (.free rfl rfl) rfl (po_load_bx rfl rfl (tyT rfl) rfl rfl) ?_ | refine sdraw_pure (.free rfl rfl) rfl (po_load rfl rfl (tyT rfl) rfl) ?_) <;> (refine sdraw_pure (.free rfl rfl) rfl (po_move rfl rfl) ?_) <;> (refine sdraw_pure (.free rfl rfl) rfl (po_index rfl rfl (by first | exact .t _ | exact .own rfl rfl | exact .nil _ | exact .emp _) rfl (tyS rfl) (by first | rfl | omega) (by first | rfl | assumption | exact map_at (by first | assumption | omega))) ?_) <;> (first | refine sdraw_pure (.free rfl rfl) rfl (po_load_bx rfl rfl (tyT rfl) rfl rfl) ?_ | refine sdraw_pure (.free rfl rfl) rfl (po_load rfl rfl (tyT rfl) rfl) ?_) <;> (refine sdraw_pure (.free rfl rfl) rfl (po_cmp rfl rfl rfl rfl) ?_) <;> (refine sdraw_nil ?_) <;> (refine sops_nil ?_))
        | ((refine swp_region (id := 17) ?_) <;> (refine sops_pure (.free rfl rfl) rfl rfl (po_move rfl rfl) ?_) <;> (first | refine sops_pure (.free rfl rfl) rfl rfl (po_inc rfl rfl rfl (by omega)) ?_ | refine sops_pure (.free rfl rfl) rfl rfl (po_arith rfl rfl rfl (ar_add (by first | rfl | (refine wrap_i64 ?_; omega)) rfl)) ?_) <;> (refine sops_pure (.free rfl rfl) rfl rfl (po_assign rfl rfl) ?_) <;> (refine sops_nil ?_))
        | refine swp_ret ?_
        | refine swp_skip ?_
        | refine swp_block ?_
        | refine swp_exit ?_
        | refine block_go ?_
        | refine block_exit ?_
        | refine block_far rfl ?_
        | refine block_ret ?_
        | refine then_ret ?_
        | refine then_exit ?_
        | refine for_ret ?_
        | refine for_exit ?_
        | refine swp_cond_t rfl (by first | assumption | with_reducible rfl | decide | (simp only [decide_eq_true_eq, Bool.not_eq_true', decide_eq_false_iff_not]; omega)) ?_
        | refine swp_cond_f rfl (by first | assumption | with_reducible rfl | decide | (simp only [decide_eq_false_iff_not, Bool.not_eq_false', decide_eq_true_eq]; omega)) ?_
        | refine swp_cond rfl (fun hc => ?_) (fun hc => ?_)
        | refine retq (by first | exact .inr rfl | exact .inl rfl) rfl (.tmp rfl (by first | exact .t _ | exact .own rfl rfl | exact .nil _ | exact .emp _) .nil) ?_)
    · repeat' (first
      | refine then_go ?_
      | refine swp_seq ?_
      | refine for_next hlt (weak_sub (.cons rfl rfl rfl (.cons rfl rfl rfl (.cons rfl rfl rfl .nil))) (.cons rfl rfl rfl (.cons rfl rfl rfl .nil)) .nil) trivial
      | ((refine swp_region (id := 16) ?_) <;> (refine sops_pure (.free rfl rfl) rfl rfl (po_move rfl rfl) ?_) <;> (first | refine sops_pure (.free rfl rfl) rfl rfl (po_field_bx rfl rfl (tyF rfl)) ?_ | refine sops_pure (.free rfl rfl) rfl rfl (po_field rfl rfl (tyF rfl)) ?_) <;> (first | refine sops_pure (.free rfl rfl) rfl rfl (po_load_bx rfl rfl (tyT rfl) rfl rfl) ?_ | refine sops_pure (.free rfl rfl) rfl rfl (po_load rfl rfl (tyT rfl) rfl) ?_) <;> (refine sops_pure (.free rfl rfl) rfl rfl (po_len rfl rfl (by first | exact .t _ | exact .own rfl rfl | exact .nil _ | exact .emp _) (tyS rfl)) ?_) <;> (refine sops_pure (.free rfl rfl) rfl rfl (po_cmp rfl rfl rfl rfl) ?_) <;> (refine sops_nil ?_))
      | ((refine swp_region (id := 11) ?_) <;> (refine sops_pure (.free rfl rfl) rfl rfl (po_move rfl rfl) ?_) <;> (first | refine sops_pure (.free rfl rfl) rfl rfl (po_inc rfl rfl rfl (by omega)) ?_ | refine sops_pure (.free rfl rfl) rfl rfl (po_arith rfl rfl rfl (ar_add (by first | rfl | (refine wrap_i64 ?_; omega)) rfl)) ?_) <;> (refine sops_pure (.free rfl rfl) rfl rfl (po_assign rfl rfl) ?_) <;> (refine sops_nil ?_))
      | refine swp_ret ?_
      | refine swp_skip ?_
      | refine swp_block ?_
      | refine swp_exit ?_
      | refine block_go ?_
      | refine block_exit ?_
      | refine block_far rfl ?_
      | refine block_ret ?_
      | refine then_ret ?_
      | refine then_exit ?_
      | refine for_ret ?_
      | refine for_exit ?_
      | refine swp_cond_t rfl (by first | assumption | with_reducible rfl | decide | (simp only [decide_eq_true_eq, Bool.not_eq_true', decide_eq_false_iff_not]; omega)) ?_
      | refine swp_cond_f rfl (by first | assumption | with_reducible rfl | decide | (simp only [decide_eq_false_iff_not, Bool.not_eq_false', decide_eq_true_eq]; omega)) ?_
      | refine swp_cond rfl (fun hc => ?_) (fun hc => ?_)
      | refine retq (by first | exact .inr rfl | exact .inl rfl) rfl (.tmp rfl (by first | exact .t _ | exact .own rfl rfl | exact .nil _ | exact .emp _) .nil) ?_)
  obtain rfl : k = r.to_.length := by omega
  repeat' (first
    | refine then_go ?_
    | refine swp_seq ?_
    | ((refine swp_region (id := 10) ?_) <;> (refine sops_pure (.free rfl rfl) rfl rfl (po_move rfl rfl) ?_) <;> (first | refine sops_pure (.free rfl rfl) rfl rfl (po_field_bx rfl rfl (tyF rfl)) ?_ | refine sops_pure (.free rfl rfl) rfl rfl (po_field rfl rfl (tyF rfl)) ?_) <;> (first | refine sops_pure (.free rfl rfl) rfl rfl (po_load_bx rfl rfl (tyT rfl) rfl rfl) ?_ | refine sops_pure (.free rfl rfl) rfl rfl (po_load rfl rfl (tyT rfl) rfl) ?_) <;> (refine sops_pure (.free rfl rfl) rfl rfl (po_len rfl rfl (by first | exact .t _ | exact .own rfl rfl | exact .nil _ | exact .emp _) (tyS rfl)) ?_) <;> (refine sops_pure (.free rfl rfl) rfl rfl (po_cmp rfl rfl rfl rfl) ?_) <;> (refine sops_nil ?_))
    | ((refine swp_region (id := 20) ?_) <;> (refine sops_pure (.free rfl rfl) rfl rfl (po_assign rfl rfl) ?_) <;> (refine sops_nil ?_))
    | refine swp_ret ?_
    | refine swp_skip ?_
    | refine swp_block ?_
    | refine swp_exit ?_
    | refine block_go ?_
    | refine block_exit ?_
    | refine block_far rfl ?_
    | refine block_ret ?_
    | refine then_ret ?_
    | refine then_exit ?_
    | refine for_ret ?_
    | refine for_exit ?_
    | refine swp_cond_t rfl (by first | assumption | with_reducible rfl | decide | (simp only [decide_eq_true_eq, Bool.not_eq_true', decide_eq_false_iff_not]; omega)) ?_
    | refine swp_cond_f rfl (by first | assumption | with_reducible rfl | decide | (simp only [decide_eq_false_iff_not, Bool.not_eq_false', decide_eq_true_eq]; omega)) ?_
    | refine swp_cond rfl (fun hc => ?_) (fun hc => ?_)
    | refine retq (by first | exact .inr rfl | exact .inl rfl) rfl (.tmp rfl (by first | exact .t _ | exact .own rfl rfl | exact .nil _ | exact .emp _) .nil) ?_)
  refine swp_for (R3 r) (fun _ => True) r.when_.length (weak_sub (.cons rfl rfl rfl (.cons rfl rfl rfl (.cons rfl rfl rfl .nil))) (.cons rfl rfl rfl (.cons rfl rfl rfl .nil)) .nil) trivial ?_
  intro k hk _
  unfold R3
  by_cases hlt : k < r.when_.length
  · have b0 := hf.ws _ (List.getElem_mem hlt)
    have c1 := terms_ r.when_[k].terms b0
    have e4 := sne_self (n := r.when_[k].head)
    repeat' (first
      | refine then_go ?_
      | refine swp_seq ?_
      | refine for_next hlt (weak_sub (.cons rfl rfl rfl (.cons rfl rfl rfl (.cons rfl rfl rfl .nil))) (.cons rfl rfl rfl (.cons rfl rfl rfl .nil)) .nil) trivial
      | ((refine swp_region (id := 21) ?_) <;> (refine sops_pure (.free rfl rfl) rfl rfl (po_move rfl rfl) ?_) <;> (first | refine sops_pure (.free rfl rfl) rfl rfl (po_field_bx rfl rfl (tyF rfl)) ?_ | refine sops_pure (.free rfl rfl) rfl rfl (po_field rfl rfl (tyF rfl)) ?_) <;> (first | refine sops_pure (.free rfl rfl) rfl rfl (po_load_bx rfl rfl (tyT rfl) rfl rfl) ?_ | refine sops_pure (.free rfl rfl) rfl rfl (po_load rfl rfl (tyT rfl) rfl) ?_) <;> (refine sops_pure (.free rfl rfl) rfl rfl (po_len rfl rfl (by first | exact .t _ | exact .own rfl rfl | exact .nil _ | exact .emp _) (tyS rfl)) ?_) <;> (refine sops_pure (.free rfl rfl) rfl rfl (po_cmp rfl rfl rfl rfl) ?_) <;> (refine sops_nil ?_))
      | ((refine swp_draw_all (id := 23) mixed (by kernel_rfl) (by kernel_rfl) ?_) <;> (first | refine sdraw_pure (.free rfl rfl) rfl (po_field_bx rfl rfl (tyF rfl)) ?_ | refine sdraw_pure (.free rfl rfl) rfl (po_field rfl rfl (tyF rfl)) ?_) <;> (first | refine sdraw_pure (.free rfl rfl) rfl (po_load_bx rfl rfl (tyT rfl) rfl rfl) ?_ | refine sdraw_pure (.free rfl rfl) rfl (po_load rfl rfl (tyT rfl) rfl) ?_) <;> (refine sdraw_pure (.free rfl rfl) rfl (po_move rfl rfl) ?_) <;> (refine sdraw_pure (.free rfl rfl) rfl (po_index rfl rfl (by first | exact .t _ | exact .own rfl rfl | exact .nil _ | exact .emp _) rfl (tyS rfl) (by first | rfl | omega) (by first | rfl | assumption | exact map_at (by first | assumption | omega))) ?_) <;> (first | refine sdraw_pure (.free rfl rfl) rfl (po_field_bx rfl rfl (tyF rfl)) ?_ | refine sdraw_pure (.free rfl rfl) rfl (po_field rfl rfl (tyF rfl)) ?_) <;> (first | refine sdraw_pure (.free rfl rfl) rfl (po_load_bx rfl rfl (tyT rfl) rfl rfl) ?_ | refine sdraw_pure (.free rfl rfl) rfl (po_load rfl rfl (tyT rfl) rfl) ?_) <;> (first | refine sdraw_pure (.free rfl rfl) rfl (po_field_bx rfl rfl (tyF rfl)) ?_ | refine sdraw_pure (.free rfl rfl) rfl (po_field rfl rfl (tyF rfl)) ?_) <;> (first | refine sdraw_pure (.free rfl rfl) rfl (po_load_bx rfl rfl (tyT rfl) rfl rfl) ?_ | refine sdraw_pure (.free rfl rfl) rfl (po_load rfl rfl (tyT rfl) rfl) ?_) <;> (refine sdraw_pure (.free rfl rfl) rfl (po_move rfl rfl) ?_) <;> (refine sdraw_pure (.free rfl rfl) rfl (po_index rfl rfl (by first | exact .t _ | exact .own rfl rfl | exact .nil _ | exact .emp _) rfl (tyS rfl) (by first | rfl | omega) (by first | rfl | assumption | exact map_at (by first | assumption | omega))) ?_) <;> (first | refine sdraw_pure (.free rfl rfl) rfl (po_field_bx rfl rfl (tyF rfl)) ?_ | refine sdraw_pure (.free rfl rfl) rfl (po_field rfl rfl (tyF rfl)) ?_) <;> (first | refine sdraw_pure (.free rfl rfl) rfl (po_load_bx rfl rfl (tyT rfl) rfl rfl) ?_ | refine sdraw_pure (.free rfl rfl) rfl (po_load rfl rfl (tyT rfl) rfl) ?_) <;> (refine sdraw_pure (.free rfl rfl) rfl (po_str rfl rfl rfl rfl) ?_) <;> (refine sdraw_pure (.free rfl rfl) rfl (po_move rfl rfl) ?_) <;> (first | refine sdraw_pure (.yes rfl rfl rfl (by first | assumption | with_reducible rfl | decide | (simp only [decide_eq_true_eq, decide_eq_false_iff_not]; omega))) rfl (po_field_bx rfl rfl (tyF rfl)) ?_ | refine sdraw_pure (.yes rfl rfl rfl (by first | assumption | with_reducible rfl | decide | (simp only [decide_eq_true_eq, decide_eq_false_iff_not]; omega))) rfl (po_field rfl rfl (tyF rfl)) ?_ | refine sdraw_skip (.no0 rfl rfl rfl (by first | assumption | with_reducible rfl | decide | (simp only [decide_eq_true_eq, decide_eq_false_iff_not]; omega))) rfl ?_ | ((refine sdraw_split rfl rfl rfl (fun hc => ?_) (fun hc => ?_)) <;> (first | refine sdraw_pure (.yes rfl rfl rfl (by first | assumption | with_reducible rfl | decide | (simp only [decide_eq_true_eq, decide_eq_false_iff_not]; omega))) rfl (po_field_bx rfl rfl (tyF rfl)) ?_ | refine sdraw_pure (.yes rfl rfl rfl (by first | assumption | with_reducible rfl | decide | (simp only [decide_eq_true_eq, decide_eq_false_iff_not]; omega))) rfl (po_field rfl rfl (tyF rfl)) ?_ | refine sdraw_skip (.no0 rfl rfl rfl (by first | assumption | with_reducible rfl | decide | (simp only [decide_eq_true_eq, decide_eq_false_iff_not]; omega))) rfl ?_))) <;> (first | refine sdraw_pure (.yes rfl rfl rfl (by first | assumption | with_reducible rfl | decide | (simp only [decide_eq_true_eq, decide_eq_false_iff_not]; omega))) rfl (po_load_bx rfl rfl (tyT rfl) rfl rfl) ?_ | refine sdraw_pure (.yes rfl rfl rfl (by first | assumption | with_reducible rfl | decide | (simp only [decide_eq_true_eq, decide_eq_false_iff_not]; omega))) rfl (po_load rfl rfl (tyT rfl) rfl) ?_ | refine sdraw_skip (.no0 rfl rfl rfl (by first | assumption | with_reducible rfl | decide | (simp only [decide_eq_true_eq, decide_eq_false_iff_not]; omega))) rfl ?_) <;> (first | refine sdraw_pure (.yes rfl rfl rfl (by first | assumption | with_reducible rfl | decide | (simp only [decide_eq_true_eq, decide_eq_false_iff_not]; omega))) rfl (po_move rfl rfl) ?_ | refine sdraw_skip (.no0 rfl rfl rfl (by first | assumption | with_reducible rfl | decide | (simp only [decide_eq_true_eq, decide_eq_false_iff_not]; omega))) rfl ?_) <;> (first | refine sdraw_pure (.yes rfl rfl rfl (by first | assumption | with_reducible rfl | decide | (simp only [decide_eq_true_eq, decide_eq_false_iff_not]; omega))) rfl (po_index rfl rfl (by first | exact .t _ | exact .own rfl rfl | exact .nil _ | exact .emp _) rfl (tyS rfl) (by first | rfl | omega) (by first | rfl | assumption | exact map_at (by first | assumption | omega))) ?_ | refine sdraw_skip (.no0 rfl rfl rfl (by first | assumption | with_reducible rfl | decide | (simp only [decide_eq_true_eq, decide_eq_false_iff_not]; omega))) rfl ?_) <;> (first | refine sdraw_pure (.yes rfl rfl rfl (by first | assumption | with_reducible rfl | decide | (simp only [decide_eq_true_eq, decide_eq_false_iff_not]; omega))) rfl (po_field_bx rfl rfl (tyF rfl)) ?_ | refine sdraw_pure (.yes rfl rfl rfl (by first | assumption | with_reducible rfl | decide | (simp only [decide_eq_true_eq, decide_eq_false_iff_not]; omega))) rfl (po_field rfl rfl (tyF rfl)) ?_ | refine sdraw_skip (.no0 rfl rfl rfl (by first | assumption | with_reducible rfl | decide | (simp only [decide_eq_true_eq, decide_eq_false_iff_not]; omega))) rfl ?_) <;> (first | refine sdraw_pure (.yes rfl rfl rfl (by first | assumption | with_reducible rfl | decide | (simp only [decide_eq_true_eq, decide_eq_false_iff_not]; omega))) rfl (po_load_bx rfl rfl (tyT rfl) rfl rfl) ?_ | refine sdraw_pure (.yes rfl rfl rfl (by first | assumption | with_reducible rfl | decide | (simp only [decide_eq_true_eq, decide_eq_false_iff_not]; omega))) rfl (po_load rfl rfl (tyT rfl) rfl) ?_ | refine sdraw_skip (.no0 rfl rfl rfl (by first | assumption | with_reducible rfl | decide | (simp only [decide_eq_true_eq, decide_eq_false_iff_not]; omega))) rfl ?_) <;> (first | refine sdraw_pure (.yes rfl rfl rfl (by first | assumption | with_reducible rfl | decide | (simp only [decide_eq_true_eq, decide_eq_false_iff_not]; omega))) rfl (po_field_bx rfl rfl (tyF rfl)) ?_ | refine sdraw_pure (.yes rfl rfl rfl (by first | assumption | with_reducible rfl | decide | (simp only [decide_eq_true_eq, decide_eq_false_iff_not]; omega))) rfl (po_field rfl rfl (tyF rfl)) ?_ | refine sdraw_skip (.no0 rfl rfl rfl (by first | assumption | with_reducible rfl | decide | (simp only [decide_eq_true_eq, decide_eq_false_iff_not]; omega))) rfl ?_) <;> (first | refine sdraw_pure (.yes rfl rfl rfl (by first | assumption | with_reducible rfl | decide | (simp only [decide_eq_true_eq, decide_eq_false_iff_not]; omega))) rfl (po_load_bx rfl rfl (tyT rfl) rfl rfl) ?_ | refine sdraw_pure (.yes rfl rfl rfl (by first | assumption | with_reducible rfl | decide | (simp only [decide_eq_true_eq, decide_eq_false_iff_not]; omega))) rfl (po_load rfl rfl (tyT rfl) rfl) ?_ | refine sdraw_skip (.no0 rfl rfl rfl (by first | assumption | with_reducible rfl | decide | (simp only [decide_eq_true_eq, decide_eq_false_iff_not]; omega))) rfl ?_) <;> (first | refine sdraw_pure (.yes rfl rfl rfl (by first | assumption | with_reducible rfl | decide | (simp only [decide_eq_true_eq, decide_eq_false_iff_not]; omega))) rfl (po_move rfl rfl) ?_ | refine sdraw_skip (.no0 rfl rfl rfl (by first | assumption | with_reducible rfl | decide | (simp only [decide_eq_true_eq, decide_eq_false_iff_not]; omega))) rfl ?_) <;> (first | refine sdraw_pure (.yes rfl rfl rfl (by first | assumption | with_reducible rfl | decide | (simp only [decide_eq_true_eq, decide_eq_false_iff_not]; omega))) rfl (po_index rfl rfl (by first | exact .t _ | exact .own rfl rfl | exact .nil _ | exact .emp _) rfl (tyS rfl) (by first | rfl | omega) (by first | rfl | assumption | exact map_at (by first | assumption | omega))) ?_ | refine sdraw_skip (.no0 rfl rfl rfl (by first | assumption | with_reducible rfl | decide | (simp only [decide_eq_true_eq, decide_eq_false_iff_not]; omega))) rfl ?_) <;> (first | refine sdraw_pure (.yes rfl rfl rfl (by first | assumption | with_reducible rfl | decide | (simp only [decide_eq_true_eq, decide_eq_false_iff_not]; omega))) rfl (po_field_bx rfl rfl (tyF rfl)) ?_ | refine sdraw_pure (.yes rfl rfl rfl (by first | assumption | with_reducible rfl | decide | (simp only [decide_eq_true_eq, decide_eq_false_iff_not]; omega))) rfl (po_field rfl rfl (tyF rfl)) ?_ | refine sdraw_skip (.no0 rfl rfl rfl (by first | assumption | with_reducible rfl | decide | (simp only [decide_eq_true_eq, decide_eq_false_iff_not]; omega))) rfl ?_) <;> (first | refine sdraw_pure (.yes rfl rfl rfl (by first | assumption | with_reducible rfl | decide | (simp only [decide_eq_true_eq, decide_eq_false_iff_not]; omega))) rfl (po_load_bx rfl rfl (tyT rfl) rfl rfl) ?_ | refine sdraw_pure (.yes rfl rfl rfl (by first | assumption | with_reducible rfl | decide | (simp only [decide_eq_true_eq, decide_eq_false_iff_not]; omega))) rfl (po_load rfl rfl (tyT rfl) rfl) ?_ | refine sdraw_skip (.no0 rfl rfl rfl (by first | assumption | with_reducible rfl | decide | (simp only [decide_eq_true_eq, decide_eq_false_iff_not]; omega))) rfl ?_) <;> (first | refine sdraw_pure (.yes rfl rfl rfl (by first | assumption | with_reducible rfl | decide | (simp only [decide_eq_true_eq, decide_eq_false_iff_not]; omega))) rfl (po_call (c1) rfl (.cons rfl (by first | exact .t _ | exact .own rfl rfl | exact .nil _ | exact .emp _) (.cons rfl (by first | exact .t _ | exact .own rfl rfl | exact .nil _ | exact .emp _) .nil))) ?_ | refine sdraw_skip (.no0 rfl rfl rfl (by first | assumption | with_reducible rfl | decide | (simp only [decide_eq_true_eq, decide_eq_false_iff_not]; omega))) rfl ?_) <;> (first | refine sdraw_pure (.yes rfl rfl rfl (by first | assumption | with_reducible rfl | decide | (simp only [decide_eq_true_eq, decide_eq_false_iff_not]; omega))) rfl (po_not rfl rfl) ?_ | refine sdraw_skip (.no0 rfl rfl rfl (by first | assumption | with_reducible rfl | decide | (simp only [decide_eq_true_eq, decide_eq_false_iff_not]; omega))) rfl ?_) <;> (first | refine sdraw_pure (.free rfl rfl) rfl (po_pick_t rfl rfl (by first | assumption | with_reducible rfl | decide | (simp only [decide_eq_true_eq, decide_eq_false_iff_not]; omega)) rfl) ?_ | refine sdraw_pure (.free rfl rfl) rfl (po_pick_f rfl rfl (by first | assumption | with_reducible rfl | decide | (simp only [decide_eq_true_eq, decide_eq_false_iff_not]; omega)) rfl) ?_) <;> (refine sdraw_nil ?_) <;> (refine sops_nil ?_))
      | ((refine swp_region (id := 22) ?_) <;> (refine sops_pure (.free rfl rfl) rfl rfl (po_move rfl rfl) ?_) <;> (first | refine sops_pure (.free rfl rfl) rfl rfl (po_inc rfl rfl rfl (by omega)) ?_ | refine sops_pure (.free rfl rfl) rfl rfl (po_arith rfl rfl rfl (ar_add (by first | rfl | (refine wrap_i64 ?_; omega)) rfl)) ?_) <;> (refine sops_pure (.free rfl rfl) rfl rfl (po_assign rfl rfl) ?_) <;> (refine sops_nil ?_))
      | refine swp_ret ?_
      | refine swp_skip ?_
      | refine swp_block ?_
      | refine swp_exit ?_
      | refine block_go ?_
      | refine block_exit ?_
      | refine block_far rfl ?_
      | refine block_ret ?_
      | refine then_ret ?_
      | refine then_exit ?_
      | refine for_ret ?_
      | refine for_exit ?_
      | refine swp_cond_t rfl (by first | assumption | with_reducible rfl | decide | (simp only [decide_eq_true_eq, Bool.not_eq_true', decide_eq_false_iff_not]; omega)) ?_
      | refine swp_cond_f rfl (by first | assumption | with_reducible rfl | decide | (simp only [decide_eq_false_iff_not, Bool.not_eq_false', decide_eq_true_eq]; omega)) ?_
      | refine swp_cond rfl (fun hc => ?_) (fun hc => ?_)
      | refine retq (by first | exact .inr rfl | exact .inl rfl) rfl (.tmp rfl (by first | exact .t _ | exact .own rfl rfl | exact .nil _ | exact .emp _) .nil) ?_)
  · repeat' (first
    | refine then_go ?_
    | refine swp_seq ?_
    | ((refine swp_region (id := 21) ?_) <;> (refine sops_pure (.free rfl rfl) rfl rfl (po_move rfl rfl) ?_) <;> (first | refine sops_pure (.free rfl rfl) rfl rfl (po_field_bx rfl rfl (tyF rfl)) ?_ | refine sops_pure (.free rfl rfl) rfl rfl (po_field rfl rfl (tyF rfl)) ?_) <;> (first | refine sops_pure (.free rfl rfl) rfl rfl (po_load_bx rfl rfl (tyT rfl) rfl rfl) ?_ | refine sops_pure (.free rfl rfl) rfl rfl (po_load rfl rfl (tyT rfl) rfl) ?_) <;> (refine sops_pure (.free rfl rfl) rfl rfl (po_len rfl rfl (by first | exact .t _ | exact .own rfl rfl | exact .nil _ | exact .emp _) (tyS rfl)) ?_) <;> (refine sops_pure (.free rfl rfl) rfl rfl (po_cmp rfl rfl rfl rfl) ?_) <;> (refine sops_nil ?_))
    | ((refine swp_region (id := 25) ?_) <;> (refine sops_pure (.free rfl rfl) rfl rfl (po_assign rfl rfl) ?_) <;> (refine sops_nil ?_))
    | refine swp_ret ?_
    | refine swp_skip ?_
    | refine swp_block ?_
    | refine swp_exit ?_
    | refine block_go ?_
    | refine block_exit ?_
    | refine block_far rfl ?_
    | refine block_ret ?_
    | refine then_ret ?_
    | refine then_exit ?_
    | refine for_ret ?_
    | refine for_exit ?_
    | refine swp_cond_t rfl (by first | assumption | with_reducible rfl | decide | (simp only [decide_eq_true_eq, Bool.not_eq_true', decide_eq_false_iff_not]; omega)) ?_
    | refine swp_cond_f rfl (by first | assumption | with_reducible rfl | decide | (simp only [decide_eq_false_iff_not, Bool.not_eq_false', decide_eq_true_eq]; omega)) ?_
    | refine swp_cond rfl (fun hc => ?_) (fun hc => ?_)
    | refine retq (by first | exact .inr rfl | exact .inl rfl) rfl (.tmp rfl (by first | exact .t _ | exact .own rfl rfl | exact .nil _ | exact .emp _) .nil) ?_)
    rfl
structure FewP (p : Pl.Policy) : Prop where
  n : p.rules.length ≤ 1000
  r : ∀ r ∈ p.rules, FewR r
abbrev pcells (p : Pl.Policy) : List A := [.t (.v (.int .u64 p.id)), .t (.v (.string p.ns)), .t (.v (.int .u64 p.service)), .t (.v (.int .i64 p.deny)), .t (.sl 3 (p.rules.map ruleT))]
set_option maxRecDepth 100000 in
set_option maxHeartbeats 1000000 in
theorem same_ (p : Pl.Policy) (hf : FewP p) : PCalls Try.prog 39 [.agg (polT p), .agg (polT p)] (.v (.bool true)) := by
  have hm1 : (p.rules.map ruleT).length = p.rules.length := List.length_map _
  have n1 := hf.n
  have e1 := ne_self (n := p.id)
  have e2 := sne_self (n := p.ns)
  have e3 := ne_self (n := p.service)
  have e4 := ne_self (n := p.deny)
  have e5 := ne_len (l := p.rules.map ruleT)
  refine pcalls_of Try.func39 rfl rfl Try.ntmps39 rfl ?_
  repeat' (first
    | refine then_go ?_
    | refine swp_seq ?_
    | ((refine swp_region (id := 0) ?_) <;> (refine sops_box (.free rfl rfl) rfl rfl rfl rfl rfl rfl ?_) <;> (refine sops_box (.free rfl rfl) rfl rfl rfl rfl rfl rfl ?_) <;> (refine sops_pure (.free rfl rfl) rfl rfl (po_assign rfl rfl) ?_) <;> (refine sops_nil ?_))
    | ((refine swp_region (id := 1) ?_) <;> (first | refine sops_pure (.free rfl rfl) rfl rfl (po_field_bx rfl rfl (tyF rfl)) ?_ | refine sops_pure (.free rfl rfl) rfl rfl (po_field rfl rfl (tyF rfl)) ?_) <;> (first | refine sops_pure (.free rfl rfl) rfl rfl (po_load_bx rfl rfl (tyT rfl) rfl rfl) ?_ | refine sops_pure (.free rfl rfl) rfl rfl (po_load rfl rfl (tyT rfl) rfl) ?_) <;> (first | refine sops_pure (.free rfl rfl) rfl rfl (po_field_bx rfl rfl (tyF rfl)) ?_ | refine sops_pure (.free rfl rfl) rfl rfl (po_field rfl rfl (tyF rfl)) ?_) <;> (first | refine sops_pure (.free rfl rfl) rfl rfl (po_load_bx rfl rfl (tyT rfl) rfl rfl) ?_ | refine sops_pure (.free rfl rfl) rfl rfl (po_load rfl rfl (tyT rfl) rfl) ?_) <;> (refine sops_pure (.free rfl rfl) rfl rfl (po_cmp rfl rfl rfl rfl) ?_) <;> (refine sops_pure (.free rfl rfl) rfl rfl (po_move rfl rfl) ?_) <;> (first | refine sops_pure (.yes rfl rfl rfl (by first | assumption | with_reducible rfl | decide | (simp only [decide_eq_true_eq, decide_eq_false_iff_not]; omega))) rfl rfl (po_field_bx rfl rfl (tyF rfl)) ?_ | refine sops_pure (.yes rfl rfl rfl (by first | assumption | with_reducible rfl | decide | (simp only [decide_eq_true_eq, decide_eq_false_iff_not]; omega))) rfl rfl (po_field rfl rfl (tyF rfl)) ?_ | refine sops_skip (.no0 rfl rfl rfl (by first | assumption | with_reducible rfl | decide | (simp only [decide_eq_true_eq, decide_eq_false_iff_not]; omega))) rfl rfl ?_ | ((refine sops_split rfl rfl rfl (fun hc => ?_) (fun hc => ?_)) <;> (first | refine sops_pure (.yes rfl rfl rfl (by first | assumption | with_reducible rfl | decide | (simp only [decide_eq_true_eq, decide_eq_false_iff_not]; omega))) rfl rfl (po_field_bx rfl rfl (tyF rfl)) ?_ | refine sops_pure (.yes rfl rfl rfl (by first | assumption | with_reducible rfl | decide | (simp only [decide_eq_true_eq, decide_eq_false_iff_not]; omega))) rfl rfl (po_field rfl rfl (tyF rfl)) ?_ | refine sops_skip (.no0 rfl rfl rfl (by first | assumption | with_reducible rfl | decide | (simp only [decide_eq_true_eq, decide_eq_false_iff_not]; omega))) rfl rfl ?_))) <;> (first | refine sops_pure (.yes rfl rfl rfl (by first | assumption | with_reducible rfl | decide | (simp only [decide_eq_true_eq, decide_eq_false_iff_not]; omega))) rfl rfl (po_load_bx rfl rfl (tyT rfl) rfl rfl) ?_ | refine sops_pure (.yes rfl rfl rfl (by first | assumption | with_reducible rfl | decide | (simp only [decide_eq_true_eq, decide_eq_false_iff_not]; omega))) rfl rfl (po_load rfl rfl (tyT rfl) rfl) ?_ | refine sops_skip (.no0 rfl rfl rfl (by first | assumption | with_reducible rfl | decide | (simp only [decide_eq_true_eq, decide_eq_false_iff_not]; omega))) rfl rfl ?_) <;> (first | refine sops_pure (.yes rfl rfl rfl (by first | assumption | with_reducible rfl | decide | (simp only [decide_eq_true_eq, decide_eq_false_iff_not]; omega))) rfl rfl (po_field_bx rfl rfl (tyF rfl)) ?_ | refine sops_pure (.yes rfl rfl rfl (by first | assumption | with_reducible rfl | decide | (simp only [decide_eq_true_eq, decide_eq_false_iff_not]; omega))) rfl rfl (po_field rfl rfl (tyF rfl)) ?_ | refine sops_skip (.no0 rfl rfl rfl (by first | assumption | with_reducible rfl | decide | (simp only [decide_eq_true_eq, decide_eq_false_iff_not]; omega))) rfl rfl ?_) <;> (first | refine sops_pure (.yes rfl rfl rfl (by first | assumption | with_reducible rfl | decide | (simp only [decide_eq_true_eq, decide_eq_false_iff_not]; omega))) rfl rfl (po_load_bx rfl rfl (tyT rfl) rfl rfl) ?_ | refine sops_pure (.yes rfl rfl rfl (by first | assumption | with_reducible rfl | decide | (simp only [decide_eq_true_eq, decide_eq_false_iff_not]; omega))) rfl rfl (po_load rfl rfl (tyT rfl) rfl) ?_ | refine sops_skip (.no0 rfl rfl rfl (by first | assumption | with_reducible rfl | decide | (simp only [decide_eq_true_eq, decide_eq_false_iff_not]; omega))) rfl rfl ?_) <;> (first | refine sops_pure (.yes rfl rfl rfl (by first | assumption | with_reducible rfl | decide | (simp only [decide_eq_true_eq, decide_eq_false_iff_not]; omega))) rfl rfl (po_str rfl rfl rfl rfl) ?_ | refine sops_skip (.no0 rfl rfl rfl (by first | assumption | with_reducible rfl | decide | (simp only [decide_eq_true_eq, decide_eq_false_iff_not]; omega))) rfl rfl ?_) <;> (first | refine sops_pure (.free rfl rfl) rfl rfl (po_pick_t rfl rfl (by first | assumption | with_reducible rfl | decide | (simp only [decide_eq_true_eq, decide_eq_false_iff_not]; omega)) rfl) ?_ | refine sops_pure (.free rfl rfl) rfl rfl (po_pick_f rfl rfl (by first | assumption | with_reducible rfl | decide | (simp only [decide_eq_true_eq, decide_eq_false_iff_not]; omega)) rfl) ?_) <;> (refine sops_pure (.free rfl rfl) rfl rfl (po_move rfl rfl) ?_) <;> (first | refine sops_pure (.yes rfl rfl rfl (by first | assumption | with_reducible rfl | decide | (simp only [decide_eq_true_eq, decide_eq_false_iff_not]; omega))) rfl rfl (po_field_bx rfl rfl (tyF rfl)) ?_ | refine sops_pure (.yes rfl rfl rfl (by first | assumption | with_reducible rfl | decide | (simp only [decide_eq_true_eq, decide_eq_false_iff_not]; omega))) rfl rfl (po_field rfl rfl (tyF rfl)) ?_ | refine sops_skip (.no0 rfl rfl rfl (by first | assumption | with_reducible rfl | decide | (simp only [decide_eq_true_eq, decide_eq_false_iff_not]; omega))) rfl rfl ?_ | ((refine sops_split rfl rfl rfl (fun hc => ?_) (fun hc => ?_)) <;> (first | refine sops_pure (.yes rfl rfl rfl (by first | assumption | with_reducible rfl | decide | (simp only [decide_eq_true_eq, decide_eq_false_iff_not]; omega))) rfl rfl (po_field_bx rfl rfl (tyF rfl)) ?_ | refine sops_pure (.yes rfl rfl rfl (by first | assumption | with_reducible rfl | decide | (simp only [decide_eq_true_eq, decide_eq_false_iff_not]; omega))) rfl rfl (po_field rfl rfl (tyF rfl)) ?_ | refine sops_skip (.no0 rfl rfl rfl (by first | assumption | with_reducible rfl | decide | (simp only [decide_eq_true_eq, decide_eq_false_iff_not]; omega))) rfl rfl ?_))) <;> (first | refine sops_pure (.yes rfl rfl rfl (by first | assumption | with_reducible rfl | decide | (simp only [decide_eq_true_eq, decide_eq_false_iff_not]; omega))) rfl rfl (po_load_bx rfl rfl (tyT rfl) rfl rfl) ?_ | refine sops_pure (.yes rfl rfl rfl (by first | assumption | with_reducible rfl | decide | (simp only [decide_eq_true_eq, decide_eq_false_iff_not]; omega))) rfl rfl (po_load rfl rfl (tyT rfl) rfl) ?_ | refine sops_skip (.no0 rfl rfl rfl (by first | assumption | with_reducible rfl | decide | (simp only [decide_eq_true_eq, decide_eq_false_iff_not]; omega))) rfl rfl ?_) <;> (first | refine sops_pure (.yes rfl rfl rfl (by first | assumption | with_reducible rfl | decide | (simp only [decide_eq_true_eq, decide_eq_false_iff_not]; omega))) rfl rfl (po_field_bx rfl rfl (tyF rfl)) ?_ | refine sops_pure (.yes rfl rfl rfl (by first | assumption | with_reducible rfl | decide | (simp only [decide_eq_true_eq, decide_eq_false_iff_not]; omega))) rfl rfl (po_field rfl rfl (tyF rfl)) ?_ | refine sops_skip (.no0 rfl rfl rfl (by first | assumption | with_reducible rfl | decide | (simp only [decide_eq_true_eq, decide_eq_false_iff_not]; omega))) rfl rfl ?_) <;> (first | refine sops_pure (.yes rfl rfl rfl (by first | assumption | with_reducible rfl | decide | (simp only [decide_eq_true_eq, decide_eq_false_iff_not]; omega))) rfl rfl (po_load_bx rfl rfl (tyT rfl) rfl rfl) ?_ | refine sops_pure (.yes rfl rfl rfl (by first | assumption | with_reducible rfl | decide | (simp only [decide_eq_true_eq, decide_eq_false_iff_not]; omega))) rfl rfl (po_load rfl rfl (tyT rfl) rfl) ?_ | refine sops_skip (.no0 rfl rfl rfl (by first | assumption | with_reducible rfl | decide | (simp only [decide_eq_true_eq, decide_eq_false_iff_not]; omega))) rfl rfl ?_) <;> (first | refine sops_pure (.yes rfl rfl rfl (by first | assumption | with_reducible rfl | decide | (simp only [decide_eq_true_eq, decide_eq_false_iff_not]; omega))) rfl rfl (po_cmp rfl rfl rfl rfl) ?_ | refine sops_skip (.no0 rfl rfl rfl (by first | assumption | with_reducible rfl | decide | (simp only [decide_eq_true_eq, decide_eq_false_iff_not]; omega))) rfl rfl ?_) <;> (first | refine sops_pure (.free rfl rfl) rfl rfl (po_pick_t rfl rfl (by first | assumption | with_reducible rfl | decide | (simp only [decide_eq_true_eq, decide_eq_false_iff_not]; omega)) rfl) ?_ | refine sops_pure (.free rfl rfl) rfl rfl (po_pick_f rfl rfl (by first | assumption | with_reducible rfl | decide | (simp only [decide_eq_true_eq, decide_eq_false_iff_not]; omega)) rfl) ?_) <;> (refine sops_pure (.free rfl rfl) rfl rfl (po_move rfl rfl) ?_) <;> (first | refine sops_pure (.yes rfl rfl rfl (by first | assumption | with_reducible rfl | decide | (simp only [decide_eq_true_eq, decide_eq_false_iff_not]; omega))) rfl rfl (po_field_bx rfl rfl (tyF rfl)) ?_ | refine sops_pure (.yes rfl rfl rfl (by first | assumption | with_reducible rfl | decide | (simp only [decide_eq_true_eq, decide_eq_false_iff_not]; omega))) rfl rfl (po_field rfl rfl (tyF rfl)) ?_ | refine sops_skip (.no0 rfl rfl rfl (by first | assumption | with_reducible rfl | decide | (simp only [decide_eq_true_eq, decide_eq_false_iff_not]; omega))) rfl rfl ?_ | ((refine sops_split rfl rfl rfl (fun hc => ?_) (fun hc => ?_)) <;> (first | refine sops_pure (.yes rfl rfl rfl (by first | assumption | with_reducible rfl | decide | (simp only [decide_eq_true_eq, decide_eq_false_iff_not]; omega))) rfl rfl (po_field_bx rfl rfl (tyF rfl)) ?_ | refine sops_pure (.yes rfl rfl rfl (by first | assumption | with_reducible rfl | decide | (simp only [decide_eq_true_eq, decide_eq_false_iff_not]; omega))) rfl rfl (po_field rfl rfl (tyF rfl)) ?_ | refine sops_skip (.no0 rfl rfl rfl (by first | assumption | with_reducible rfl | decide | (simp only [decide_eq_true_eq, decide_eq_false_iff_not]; omega))) rfl rfl ?_))) <;> (first | refine sops_pure (.yes rfl rfl rfl (by first | assumption | with_reducible rfl | decide | (simp only [decide_eq_true_eq, decide_eq_false_iff_not]; omega))) rfl rfl (po_load_bx rfl rfl (tyT rfl) rfl rfl) ?_ | refine sops_pure (.yes rfl rfl rfl (by first | assumption | with_reducible rfl | decide | (simp only [decide_eq_true_eq, decide_eq_false_iff_not]; omega))) rfl rfl (po_load rfl rfl (tyT rfl) rfl) ?_ | refine sops_skip (.no0 rfl rfl rfl (by first | assumption | with_reducible rfl | decide | (simp only [decide_eq_true_eq, decide_eq_false_iff_not]; omega))) rfl rfl ?_) <;> (first | refine sops_pure (.yes rfl rfl rfl (by first | assumption | with_reducible rfl | decide | (simp only [decide_eq_true_eq, decide_eq_false_iff_not]; omega))) rfl rfl (po_field_bx rfl rfl (tyF rfl)) ?_ | refine sops_pure (.yes rfl rfl rfl (by first | assumption | with_reducible rfl | decide | (simp only [decide_eq_true_eq, decide_eq_false_iff_not]; omega))) rfl rfl (po_field rfl rfl (tyF rfl)) ?_ | refine sops_skip (.no0 rfl rfl rfl (by first | assumption | with_reducible rfl | decide | (simp only [decide_eq_true_eq, decide_eq_false_iff_not]; omega))) rfl rfl ?_) <;> (first | refine sops_pure (.yes rfl rfl rfl (by first | assumption | with_reducible rfl | decide | (simp only [decide_eq_true_eq, decide_eq_false_iff_not]; omega))) rfl rfl (po_load_bx rfl rfl (tyT rfl) rfl rfl) ?_ | refine sops_pure (.yes rfl rfl rfl (by first | assumption | with_reducible rfl | decide | (simp only [decide_eq_true_eq, decide_eq_false_iff_not]; omega))) rfl rfl (po_load rfl rfl (tyT rfl) rfl) ?_ | refine sops_skip (.no0 rfl rfl rfl (by first | assumption | with_reducible rfl | decide | (simp only [decide_eq_true_eq, decide_eq_false_iff_not]; omega))) rfl rfl ?_) <;> (first | refine sops_pure (.yes rfl rfl rfl (by first | assumption | with_reducible rfl | decide | (simp only [decide_eq_true_eq, decide_eq_false_iff_not]; omega))) rfl rfl (po_cmp rfl rfl rfl rfl) ?_ | refine sops_skip (.no0 rfl rfl rfl (by first | assumption | with_reducible rfl | decide | (simp only [decide_eq_true_eq, decide_eq_false_iff_not]; omega))) rfl rfl ?_) <;> (first | refine sops_pure (.free rfl rfl) rfl rfl (po_pick_t rfl rfl (by first | assumption | with_reducible rfl | decide | (simp only [decide_eq_true_eq, decide_eq_false_iff_not]; omega)) rfl) ?_ | refine sops_pure (.free rfl rfl) rfl rfl (po_pick_f rfl rfl (by first | assumption | with_reducible rfl | decide | (simp only [decide_eq_true_eq, decide_eq_false_iff_not]; omega)) rfl) ?_) <;> (refine sops_pure (.free rfl rfl) rfl rfl (po_move rfl rfl) ?_) <;> (first | refine sops_pure (.yes rfl rfl rfl (by first | assumption | with_reducible rfl | decide | (simp only [decide_eq_true_eq, decide_eq_false_iff_not]; omega))) rfl rfl (po_field_bx rfl rfl (tyF rfl)) ?_ | refine sops_pure (.yes rfl rfl rfl (by first | assumption | with_reducible rfl | decide | (simp only [decide_eq_true_eq, decide_eq_false_iff_not]; omega))) rfl rfl (po_field rfl rfl (tyF rfl)) ?_ | refine sops_skip (.no0 rfl rfl rfl (by first | assumption | with_reducible rfl | decide | (simp only [decide_eq_true_eq, decide_eq_false_iff_not]; omega))) rfl rfl ?_ | ((refine sops_split rfl rfl rfl (fun hc => ?_) (fun hc => ?_)) <;> (first | refine sops_pure (.yes rfl rfl rfl (by first | assumption | with_reducible rfl | decide | (simp only [decide_eq_true_eq, decide_eq_false_iff_not]; omega))) rfl rfl (po_field_bx rfl rfl (tyF rfl)) ?_ | refine sops_pure (.yes rfl rfl rfl (by first | assumption | with_reducible rfl | decide | (simp only [decide_eq_true_eq, decide_eq_false_iff_not]; omega))) rfl rfl (po_field rfl rfl (tyF rfl)) ?_ | refine sops_skip (.no0 rfl rfl rfl (by first | assumption | with_reducible rfl | decide | (simp only [decide_eq_true_eq, decide_eq_false_iff_not]; omega))) rfl rfl ?_))) <;> (first | refine sops_pure (.yes rfl rfl rfl (by first | assumption | with_reducible rfl | decide | (simp only [decide_eq_true_eq, decide_eq_false_iff_not]; omega))) rfl rfl (po_load_bx rfl rfl (tyT rfl) rfl rfl) ?_ | refine sops_pure (.yes rfl rfl rfl (by first | assumption | with_reducible rfl | decide | (simp only [decide_eq_true_eq, decide_eq_false_iff_not]; omega))) rfl rfl (po_load rfl rfl (tyT rfl) rfl) ?_ | refine sops_skip (.no0 rfl rfl rfl (by first | assumption | with_reducible rfl | decide | (simp only [decide_eq_true_eq, decide_eq_false_iff_not]; omega))) rfl rfl ?_) <;> (first | refine sops_pure (.yes rfl rfl rfl (by first | assumption | with_reducible rfl | decide | (simp only [decide_eq_true_eq, decide_eq_false_iff_not]; omega))) rfl rfl (po_len rfl rfl (by first | exact .t _ | exact .own rfl rfl | exact .nil _ | exact .emp _) (tyS rfl)) ?_ | refine sops_skip (.no0 rfl rfl rfl (by first | assumption | with_reducible rfl | decide | (simp only [decide_eq_true_eq, decide_eq_false_iff_not]; omega))) rfl rfl ?_) <;> (first | refine sops_pure (.yes rfl rfl rfl (by first | assumption | with_reducible rfl | decide | (simp only [decide_eq_true_eq, decide_eq_false_iff_not]; omega))) rfl rfl (po_field_bx rfl rfl (tyF rfl)) ?_ | refine sops_pure (.yes rfl rfl rfl (by first | assumption | with_reducible rfl | decide | (simp only [decide_eq_true_eq, decide_eq_false_iff_not]; omega))) rfl rfl (po_field rfl rfl (tyF rfl)) ?_ | refine sops_skip (.no0 rfl rfl rfl (by first | assumption | with_reducible rfl | decide | (simp only [decide_eq_true_eq, decide_eq_false_iff_not]; omega))) rfl rfl ?_) <;> (first | refine sops_pure (.yes rfl rfl rfl (by first | assumption | with_reducible rfl | decide | (simp only [decide_eq_true_eq, decide_eq_false_iff_not]; omega))) rfl rfl (po_load_bx rfl rfl (tyT rfl) rfl rfl) ?_ | refine sops_pure (.yes rfl rfl rfl (by first | assumption | with_reducible rfl | decide | (simp only [decide_eq_true_eq, decide_eq_false_iff_not]; omega))) rfl rfl (po_load rfl rfl (tyT rfl) rfl) ?_ | refine sops_skip (.no0 rfl rfl rfl (by first | assumption | with_reducible rfl | decide | (simp only [decide_eq_true_eq, decide_eq_false_iff_not]; omega))) rfl rfl ?_) <;> (first | refine sops_pure (.yes rfl rfl rfl (by first | assumption | with_reducible rfl | decide | (simp only [decide_eq_true_eq, decide_eq_false_iff_not]; omega))) rfl rfl (po_len rfl rfl (by first | exact .t _ | exact .own rfl rfl | exact .nil _ | exact .emp _) (tyS rfl)) ?_ | refine sops_skip (.no0 rfl rfl rfl (by first | assumption | with_reducible rfl | decide | (simp only [decide_eq_true_eq, decide_eq_false_iff_not]; omega))) rfl rfl ?_) <;> (first | refine sops_pure (.yes rfl rfl rfl (by first | assumption | with_reducible rfl | decide | (simp only [decide_eq_true_eq, decide_eq_false_iff_not]; omega))) rfl rfl (po_cmp rfl rfl rfl rfl) ?_ | refine sops_skip (.no0 rfl rfl rfl (by first | assumption | with_reducible rfl | decide | (simp only [decide_eq_true_eq, decide_eq_false_iff_not]; omega))) rfl rfl ?_) <;> (first | refine sops_pure (.free rfl rfl) rfl rfl (po_pick_t rfl rfl (by first | assumption | with_reducible rfl | decide | (simp only [decide_eq_true_eq, decide_eq_false_iff_not]; omega)) rfl) ?_ | refine sops_pure (.free rfl rfl) rfl rfl (po_pick_f rfl rfl (by first | assumption | with_reducible rfl | decide | (simp only [decide_eq_true_eq, decide_eq_false_iff_not]; omega)) rfl) ?_) <;> (refine sops_nil ?_))
    | ((refine swp_region (id := 3) ?_) <;> (refine sops_pure (.free rfl rfl) rfl rfl (po_assign rfl rfl) ?_) <;> (refine sops_nil ?_))
    | refine swp_ret ?_
    | refine swp_skip ?_
    | refine swp_block ?_
    | refine swp_exit ?_
    | refine block_go ?_
    | refine block_exit ?_
    | refine block_far rfl ?_
    | refine block_ret ?_
    | refine then_ret ?_
    | refine then_exit ?_
    | refine for_ret ?_
    | refine for_exit ?_
    | refine swp_cond_t rfl (by first | assumption | with_reducible rfl | decide | (simp only [decide_eq_true_eq, Bool.not_eq_true', decide_eq_false_iff_not]; omega)) ?_
    | refine swp_cond_f rfl (by first | assumption | with_reducible rfl | decide | (simp only [decide_eq_false_iff_not, Bool.not_eq_false', decide_eq_true_eq]; omega)) ?_
    | refine swp_cond rfl (fun hc => ?_) (fun hc => ?_)
    | refine retq (by first | exact .inr rfl | exact .inl rfl) rfl (.tmp rfl (by first | exact .t _ | exact .own rfl rfl | exact .nil _ | exact .emp _) .nil) ?_)
  refine swp_for (fun k => ⟨[(2, .bp 2 0), (3, .bp 3 0), (5, .t (.v (.int .i64 (k : Int))))], [(2, pcells p), (3, pcells p)], []⟩) (fun k => True) p.rules.length (weak_sub (.cons rfl rfl rfl (.cons rfl rfl rfl (.cons rfl rfl rfl .nil))) (.cons rfl rfl rfl (.cons rfl rfl rfl .nil)) .nil) trivial ?_
  intro k hk _
  by_cases hlt : k < p.rules.length
  · have c1 := sameRule_ p.rules[k] (hf.r _ (List.getElem_mem hlt))
    repeat' (first
      | refine then_go ?_
      | refine swp_seq ?_
      | refine for_next hlt (weak_sub (.cons rfl rfl rfl (.cons rfl rfl rfl (.cons rfl rfl rfl .nil))) (.cons rfl rfl rfl (.cons rfl rfl rfl .nil)) .nil) trivial
      | ((refine swp_region (id := 4) ?_) <;> (refine sops_pure (.free rfl rfl) rfl rfl (po_move rfl rfl) ?_) <;> (first | refine sops_pure (.free rfl rfl) rfl rfl (po_field_bx rfl rfl (tyF rfl)) ?_ | refine sops_pure (.free rfl rfl) rfl rfl (po_field rfl rfl (tyF rfl)) ?_) <;> (first | refine sops_pure (.free rfl rfl) rfl rfl (po_load_bx rfl rfl (tyT rfl) rfl rfl) ?_ | refine sops_pure (.free rfl rfl) rfl rfl (po_load rfl rfl (tyT rfl) rfl) ?_) <;> (refine sops_pure (.free rfl rfl) rfl rfl (po_len rfl rfl (by first | exact .t _ | exact .own rfl rfl | exact .nil _ | exact .emp _) (tyS rfl)) ?_) <;> (refine sops_pure (.free rfl rfl) rfl rfl (po_cmp rfl rfl rfl rfl) ?_) <;> (refine sops_nil ?_))
      | ((refine swp_draw_all (id := 6) mixed (by kernel_rfl) (by kernel_rfl) ?_) <;> (first | refine sdraw_pure (.free rfl rfl) rfl (po_field_bx rfl rfl (tyF rfl)) ?_ | refine sdraw_pure (.free rfl rfl) rfl (po_field rfl rfl (tyF rfl)) ?_) <;> (first | refine sdraw_pure (.free rfl rfl) rfl (po_load_bx rfl rfl (tyT rfl) rfl rfl) ?_ | refine sdraw_pure (.free rfl rfl) rfl (po_load rfl rfl (tyT rfl) rfl) ?_) <;> (refine sdraw_pure (.free rfl rfl) rfl (po_move rfl rfl) ?_) <;> (refine sdraw_pure (.free rfl rfl) rfl (po_index rfl rfl (by first | exact .t _ | exact .own rfl rfl | exact .nil _ | exact .emp _) rfl (tyS rfl) (by first | rfl | omega) (by first | rfl | assumption | exact map_at (by first | assumption | omega))) ?_) <;> (first | refine sdraw_pure (.free rfl rfl) rfl (po_load_bx_agg rfl rfl (tyT rfl) rfl (.cons (by first | exact .t _ | exact .own rfl rfl | exact .nil _ | exact .emp _) (.cons (by first | exact .t _ | exact .own rfl rfl | exact .nil _ | exact .emp _) (.cons (by first | exact .t _ | exact .own rfl rfl | exact .nil _ | exact .emp _) .nil))) rfl) ?_ | refine sdraw_pure (.free rfl rfl) rfl (po_load_agg rfl rfl (tyT rfl) rfl rfl) ?_) <;> (first | refine sdraw_pure (.free rfl rfl) rfl (po_field_bx rfl rfl (tyF rfl)) ?_ | refine sdraw_pure (.free rfl rfl) rfl (po_field rfl rfl (tyF rfl)) ?_) <;> (first | refine sdraw_pure (.free rfl rfl) rfl (po_load_bx rfl rfl (tyT rfl) rfl rfl) ?_ | refine sdraw_pure (.free rfl rfl) rfl (po_load rfl rfl (tyT rfl) rfl) ?_) <;> (refine sdraw_pure (.free rfl rfl) rfl (po_move rfl rfl) ?_) <;> (refine sdraw_pure (.free rfl rfl) rfl (po_index rfl rfl (by first | exact .t _ | exact .own rfl rfl | exact .nil _ | exact .emp _) rfl (tyS rfl) (by first | rfl | omega) (by first | rfl | assumption | exact map_at (by first | assumption | omega))) ?_) <;> (first | refine sdraw_pure (.free rfl rfl) rfl (po_load_bx_agg rfl rfl (tyT rfl) rfl (.cons (by first | exact .t _ | exact .own rfl rfl | exact .nil _ | exact .emp _) (.cons (by first | exact .t _ | exact .own rfl rfl | exact .nil _ | exact .emp _) (.cons (by first | exact .t _ | exact .own rfl rfl | exact .nil _ | exact .emp _) .nil))) rfl) ?_ | refine sdraw_pure (.free rfl rfl) rfl (po_load_agg rfl rfl (tyT rfl) rfl rfl) ?_) <;> (refine sdraw_pure (.free rfl rfl) rfl (po_call (c1) rfl (.cons rfl (by first | exact .t _ | exact .own rfl rfl | exact .nil _ | exact .emp _) (.cons rfl (by first | exact .t _ | exact .own rfl rfl | exact .nil _ | exact .emp _) .nil))) ?_) <;> (refine sdraw_pure (.free rfl rfl) rfl (po_not rfl rfl) ?_) <;> (refine sdraw_nil ?_) <;> (refine sops_nil ?_))
      | ((refine swp_region (id := 5) ?_) <;> (refine sops_pure (.free rfl rfl) rfl rfl (po_move rfl rfl) ?_) <;> (first | refine sops_pure (.free rfl rfl) rfl rfl (po_inc rfl rfl rfl (by omega)) ?_ | refine sops_pure (.free rfl rfl) rfl rfl (po_arith rfl rfl rfl (ar_add (by first | rfl | (refine wrap_i64 ?_; omega)) rfl)) ?_) <;> (refine sops_pure (.free rfl rfl) rfl rfl (po_assign rfl rfl) ?_) <;> (refine sops_nil ?_))
      | refine swp_ret ?_
      | refine swp_skip ?_
      | refine swp_block ?_
      | refine swp_exit ?_
      | refine block_go ?_
      | refine block_exit ?_
      | refine block_far rfl ?_
      | refine block_ret ?_
      | refine then_ret ?_
      | refine then_exit ?_
      | refine for_ret ?_
      | refine for_exit ?_
      | refine swp_cond_t rfl (by first | assumption | with_reducible rfl | decide | (simp only [decide_eq_true_eq, Bool.not_eq_true', decide_eq_false_iff_not]; omega)) ?_
      | refine swp_cond_f rfl (by first | assumption | with_reducible rfl | decide | (simp only [decide_eq_false_iff_not, Bool.not_eq_false', decide_eq_true_eq]; omega)) ?_
      | refine swp_cond rfl (fun hc => ?_) (fun hc => ?_)
      | refine retq (by first | exact .inr rfl | exact .inl rfl) rfl (.tmp rfl (by first | exact .t _ | exact .own rfl rfl | exact .nil _ | exact .emp _) .nil) ?_)
  · repeat' (first
    | refine then_go ?_
    | refine swp_seq ?_
    | ((refine swp_region (id := 4) ?_) <;> (refine sops_pure (.free rfl rfl) rfl rfl (po_move rfl rfl) ?_) <;> (first | refine sops_pure (.free rfl rfl) rfl rfl (po_field_bx rfl rfl (tyF rfl)) ?_ | refine sops_pure (.free rfl rfl) rfl rfl (po_field rfl rfl (tyF rfl)) ?_) <;> (first | refine sops_pure (.free rfl rfl) rfl rfl (po_load_bx rfl rfl (tyT rfl) rfl rfl) ?_ | refine sops_pure (.free rfl rfl) rfl rfl (po_load rfl rfl (tyT rfl) rfl) ?_) <;> (refine sops_pure (.free rfl rfl) rfl rfl (po_len rfl rfl (by first | exact .t _ | exact .own rfl rfl | exact .nil _ | exact .emp _) (tyS rfl)) ?_) <;> (refine sops_pure (.free rfl rfl) rfl rfl (po_cmp rfl rfl rfl rfl) ?_) <;> (refine sops_nil ?_))
    | ((refine swp_region (id := 8) ?_) <;> (refine sops_pure (.free rfl rfl) rfl rfl (po_assign rfl rfl) ?_) <;> (refine sops_nil ?_))
    | refine swp_ret ?_
    | refine swp_skip ?_
    | refine swp_block ?_
    | refine swp_exit ?_
    | refine block_go ?_
    | refine block_exit ?_
    | refine block_far rfl ?_
    | refine block_ret ?_
    | refine then_ret ?_
    | refine then_exit ?_
    | refine for_ret ?_
    | refine for_exit ?_
    | refine swp_cond_t rfl (by first | assumption | with_reducible rfl | decide | (simp only [decide_eq_true_eq, Bool.not_eq_true', decide_eq_false_iff_not]; omega)) ?_
    | refine swp_cond_f rfl (by first | assumption | with_reducible rfl | decide | (simp only [decide_eq_false_iff_not, Bool.not_eq_false', decide_eq_true_eq]; omega)) ?_
    | refine swp_cond rfl (fun hc => ?_) (fun hc => ?_)
    | refine retq (by first | exact .inr rfl | exact .inl rfl) rfl (.tmp rfl (by first | exact .t _ | exact .own rfl rfl | exact .nil _ | exact .emp _) .nil) ?_)
    rfl
def C0 (p : Pl.Policy) (k : Nat) : St := ⟨[(1, .bp 1 0), (2, .bp 2 0), (3, .own 130 ((p.rules.take k).map ruleT).length), (4, .t (.v (.int .i64 (k : Int))))], [(1, pcells p), (2, [.t (.v (.int .u64 0)), .t (.v (.string ⟨#[]⟩)), .t (.v (.int .u64 0)), .t (.v (.int .i64 0)), nil0])], [(130, ⟨71, 3, (p.rules.take k).map ruleT⟩)]⟩
set_option maxRecDepth 100000 in
set_option maxHeartbeats 1000000 in
theorem copy_ (p : Pl.Policy) (hf : FewP p) : PCalls Try.prog 36 [.agg (polT p)] (.agg (polT p)) := by
  have hm1 : (p.rules.map ruleT).length = p.rules.length := List.length_map _
  have n1 := hf.n
  refine pcalls_of Try.func36 rfl rfl Try.ntmps36 rfl ?_
  repeat' (first
    | refine then_go ?_
    | refine swp_seq ?_
    | ((refine swp_region (id := 0) ?_) <;> (refine sops_box (.free rfl rfl) rfl rfl rfl rfl rfl rfl ?_) <;> (refine sops_allocS str61 (.free rfl rfl) rfl rfl rfl rfl ?_) <;> (refine sops_nil ?_))
    | ((refine swp_region (id := 1) ?_) <;> (refine sops_pure (.free rfl rfl) rfl rfl (po_assign rfl rfl) ?_) <;> (refine sops_nil ?_))
    | ((refine swp_region (id := 2) ?_) <;> (refine sops_pure (.free rfl rfl) rfl rfl (po_assign rfl rfl) ?_) <;> (refine sops_nil ?_))
    | refine swp_ret ?_
    | refine swp_skip ?_
    | refine swp_block ?_
    | refine swp_exit ?_
    | refine block_go ?_
    | refine block_exit ?_
    | refine block_far rfl ?_
    | refine block_ret ?_
    | refine then_ret ?_
    | refine then_exit ?_
    | refine for_ret ?_
    | refine for_exit ?_
    | refine swp_cond_t rfl (by first | assumption | with_reducible rfl | decide | (simp only [decide_eq_true_eq, Bool.not_eq_true', decide_eq_false_iff_not]; omega)) ?_
    | refine swp_cond_f rfl (by first | assumption | with_reducible rfl | decide | (simp only [decide_eq_false_iff_not, Bool.not_eq_false', decide_eq_true_eq]; omega)) ?_
    | refine swp_cond rfl (fun hc => ?_) (fun hc => ?_)
    | refine retq (by first | exact .inr rfl | exact .inl rfl) rfl (.cell rfl rfl (tyT rfl) (.cons (by first | exact .t _ | exact .own rfl rfl | exact .nil _ | exact .emp _) (.cons (by first | exact .t _ | exact .own rfl rfl | exact .nil _ | exact .emp _) (.cons (by first | exact .t _ | exact .own rfl rfl | exact .nil _ | exact .emp _) (.cons (by first | exact .t _ | exact .own rfl rfl | exact .nil _ | exact .emp _) (.cons (by first | exact .t _ | exact .own rfl rfl | exact .nil _ | exact .emp _) .nil))))) rfl .nil) ?_)
  refine swp_for (C0 p) (fun _ => True) p.rules.length ?_ trivial ?_
  · refine Weak.trans (weak_own0 (i := 130) 71 3 (s := 3) rfl rfl) ?_
    exact (weak_sub (.cons rfl rfl rfl (.cons rfl rfl rfl (.cons rfl rfl rfl (.cons rfl rfl rfl .nil)))) (.cons rfl rfl rfl (.cons rfl rfl rfl .nil)) (.cons rfl rfl .nil))
  intro k hk _
  unfold C0
  by_cases hlt : k < p.rules.length
  · have c1 := copyRule_ p.rules[k] (hf.r _ (List.getElem_mem hlt))
    have hsn := map_take_succ ruleT hlt
    have g1 : (((p.rules.take k).map ruleT).length + 1) * 72 ≤ 140737488355328 := by rw [List.length_map, List.length_take]; omega
    repeat' (first
      | refine then_go ?_
      | refine swp_seq ?_
      | refine for_next hlt (weak_sub (.cons rfl (by first | rfl | (rw [hsn]; try rfl)) rfl (.cons rfl (by first | rfl | (rw [hsn]; try rfl)) rfl (.cons rfl (by first | rfl | (rw [hsn]; try rfl)) rfl (.cons rfl (by first | rfl | (rw [hsn]; try rfl)) rfl .nil)))) (.cons rfl (by first | rfl | (rw [hsn]; try rfl)) rfl (.cons rfl (by first | rfl | (rw [hsn]; try rfl)) rfl .nil)) (.cons rfl (by first | rfl | (rw [hsn]; try rfl)) .nil)) trivial
      | ((refine swp_region (id := 3) ?_) <;> (refine sops_pure (.free rfl rfl) rfl rfl (po_move rfl rfl) ?_) <;> (first | refine sops_pure (.free rfl rfl) rfl rfl (po_field_bx rfl rfl (tyF rfl)) ?_ | refine sops_pure (.free rfl rfl) rfl rfl (po_field rfl rfl (tyF rfl)) ?_) <;> (first | refine sops_pure (.free rfl rfl) rfl rfl (po_load_bx rfl rfl (tyT rfl) rfl rfl) ?_ | refine sops_pure (.free rfl rfl) rfl rfl (po_load rfl rfl (tyT rfl) rfl) ?_) <;> (refine sops_pure (.free rfl rfl) rfl rfl (po_len rfl rfl (by first | exact .t _ | exact .own rfl rfl | exact .nil _ | exact .emp _) (tyS rfl)) ?_) <;> (refine sops_pure (.free rfl rfl) rfl rfl (po_cmp rfl rfl rfl rfl) ?_) <;> (refine sops_nil ?_))
      | ((refine swp_region (id := 5) ?_) <;> (refine sops_pure (.free rfl rfl) rfl rfl (po_move rfl rfl) ?_) <;> (first | refine sops_pure (.free rfl rfl) rfl rfl (po_field_bx rfl rfl (tyF rfl)) ?_ | refine sops_pure (.free rfl rfl) rfl rfl (po_field rfl rfl (tyF rfl)) ?_) <;> (first | refine sops_pure (.free rfl rfl) rfl rfl (po_load_bx rfl rfl (tyT rfl) rfl rfl) ?_ | refine sops_pure (.free rfl rfl) rfl rfl (po_load rfl rfl (tyT rfl) rfl) ?_) <;> (refine sops_pure (.free rfl rfl) rfl rfl (po_move rfl rfl) ?_) <;> (refine sops_pure (.free rfl rfl) rfl rfl (po_index rfl rfl (by first | exact .t _ | exact .own rfl rfl | exact .nil _ | exact .emp _) rfl (tyS rfl) (by first | rfl | omega) (by first | rfl | assumption | exact map_at (by first | assumption | omega))) ?_) <;> (first | refine sops_pure (.free rfl rfl) rfl rfl (po_load_bx_agg rfl rfl (tyT rfl) rfl (.cons (by first | exact .t _ | exact .own rfl rfl | exact .nil _ | exact .emp _) (.cons (by first | exact .t _ | exact .own rfl rfl | exact .nil _ | exact .emp _) (.cons (by first | exact .t _ | exact .own rfl rfl | exact .nil _ | exact .emp _) .nil))) rfl) ?_ | refine sops_pure (.free rfl rfl) rfl rfl (po_load_agg rfl rfl (tyT rfl) rfl rfl) ?_) <;> (refine sops_pure (.free rfl rfl) rfl rfl (po_call (c1) rfl (.cons rfl (by first | exact .t _ | exact .own rfl rfl | exact .nil _ | exact .emp _) .nil)) ?_) <;> (refine sops_pure (.free rfl rfl) rfl rfl (po_buildSlice rfl (tyE rfl) (.cons rfl (by first | exact .t _ | exact .own rfl rfl | exact .nil _ | exact .emp _) rfl rfl (.nil _)) rfl rfl rfl) ?_) <;> (first | refine sops_append rfl rfl rfl rfl rfl rfl (by first | rfl | simp) rfl (by first | exact .t _ | exact .own rfl rfl | exact .nil _ | exact .emp _) (tyE rfl) (by first | assumption | (simp at *; omega)) (by first | assumption | (simp [maxLen] at *; omega)) ?_ | refine sops_append_nil rfl rfl rfl rfl rfl rfl rfl (by first | exact .t _ | exact .own rfl rfl | exact .nil _ | exact .emp _) (tyE rfl) (by first | assumption | (simp at *; omega)) (by first | assumption | (simp [maxLen] at *; omega)) ?_) <;> (refine sops_pure (.free rfl rfl) rfl rfl (po_assign rfl rfl) ?_) <;> (refine sops_nil ?_))
      | ((refine swp_region (id := 4) ?_) <;> (refine sops_pure (.free rfl rfl) rfl rfl (po_move rfl rfl) ?_) <;> (first | refine sops_pure (.free rfl rfl) rfl rfl (po_inc rfl rfl rfl (by omega)) ?_ | refine sops_pure (.free rfl rfl) rfl rfl (po_arith rfl rfl rfl (ar_add (by first | rfl | (refine wrap_i64 ?_; omega)) rfl)) ?_) <;> (refine sops_pure (.free rfl rfl) rfl rfl (po_assign rfl rfl) ?_) <;> (refine sops_nil ?_))
      | refine swp_ret ?_
      | refine swp_skip ?_
      | refine swp_block ?_
      | refine swp_exit ?_
      | refine block_go ?_
      | refine block_exit ?_
      | refine block_far rfl ?_
      | refine block_ret ?_
      | refine then_ret ?_
      | refine then_exit ?_
      | refine for_ret ?_
      | refine for_exit ?_
      | refine swp_cond_t rfl (by first | assumption | with_reducible rfl | decide | (simp only [decide_eq_true_eq, Bool.not_eq_true', decide_eq_false_iff_not]; omega)) ?_
      | refine swp_cond_f rfl (by first | assumption | with_reducible rfl | decide | (simp only [decide_eq_false_iff_not, Bool.not_eq_false', decide_eq_true_eq]; omega)) ?_
      | refine swp_cond rfl (fun hc => ?_) (fun hc => ?_)
      | refine retq (by first | exact .inr rfl | exact .inl rfl) rfl (.cell rfl rfl (tyT rfl) (.cons (by first | exact .t _ | exact .own rfl rfl | exact .nil _ | exact .emp _) (.cons (by first | exact .t _ | exact .own rfl rfl | exact .nil _ | exact .emp _) (.cons (by first | exact .t _ | exact .own rfl rfl | exact .nil _ | exact .emp _) (.cons (by first | exact .t _ | exact .own rfl rfl | exact .nil _ | exact .emp _) (.cons (by first | exact .t _ | exact .own rfl rfl | exact .nil _ | exact .emp _) .nil))))) rfl .nil) ?_)
  · obtain rfl : k = p.rules.length := by omega
    rw [List.take_length]
    repeat' (first
      | refine then_go ?_
      | refine swp_seq ?_
      | ((refine swp_region (id := 3) ?_) <;> (refine sops_pure (.free rfl rfl) rfl rfl (po_move rfl rfl) ?_) <;> (first | refine sops_pure (.free rfl rfl) rfl rfl (po_field_bx rfl rfl (tyF rfl)) ?_ | refine sops_pure (.free rfl rfl) rfl rfl (po_field rfl rfl (tyF rfl)) ?_) <;> (first | refine sops_pure (.free rfl rfl) rfl rfl (po_load_bx rfl rfl (tyT rfl) rfl rfl) ?_ | refine sops_pure (.free rfl rfl) rfl rfl (po_load rfl rfl (tyT rfl) rfl) ?_) <;> (refine sops_pure (.free rfl rfl) rfl rfl (po_len rfl rfl (by first | exact .t _ | exact .own rfl rfl | exact .nil _ | exact .emp _) (tyS rfl)) ?_) <;> (refine sops_pure (.free rfl rfl) rfl rfl (po_cmp rfl rfl rfl rfl) ?_) <;> (refine sops_nil ?_))
      | ((refine swp_region (id := 6) ?_) <;> (refine sops_pure (.free rfl rfl) rfl rfl (po_move rfl rfl) ?_) <;> (first | refine sops_pure (.free rfl rfl) rfl rfl (po_field_bx rfl rfl (tyF rfl)) ?_ | refine sops_pure (.free rfl rfl) rfl rfl (po_field rfl rfl (tyF rfl)) ?_) <;> (refine sops_store (.free rfl rfl) rfl rfl rfl rfl rfl rfl (tyT rfl) rfl rfl ?_) <;> (refine sops_nil ?_))
      | ((refine swp_region (id := 7) ?_) <;> (first | refine sops_pure (.free rfl rfl) rfl rfl (po_load_bx_agg rfl rfl (tyT rfl) rfl (.cons (by first | exact .t _ | exact .own rfl rfl | exact .nil _ | exact .emp _) (.cons (by first | exact .t _ | exact .own rfl rfl | exact .nil _ | exact .emp _) (.cons (by first | exact .t _ | exact .own rfl rfl | exact .nil _ | exact .emp _) (.cons (by first | exact .t _ | exact .own rfl rfl | exact .nil _ | exact .emp _) (.cons (by first | exact .t _ | exact .own rfl rfl | exact .nil _ | exact .emp _) .nil))))) rfl) ?_ | refine sops_pure (.free rfl rfl) rfl rfl (po_load_agg rfl rfl (tyT rfl) rfl rfl) ?_) <;> (refine sops_store (.free rfl rfl) rfl rfl rfl rfl rfl rfl (tyT rfl) rfl rfl ?_) <;> (refine sops_nil ?_))
      | refine swp_ret ?_
      | refine swp_skip ?_
      | refine swp_block ?_
      | refine swp_exit ?_
      | refine block_go ?_
      | refine block_exit ?_
      | refine block_far rfl ?_
      | refine block_ret ?_
      | refine then_ret ?_
      | refine then_exit ?_
      | refine for_ret ?_
      | refine for_exit ?_
      | refine swp_cond_t rfl (by first | assumption | with_reducible rfl | decide | (simp only [decide_eq_true_eq, Bool.not_eq_true', decide_eq_false_iff_not]; omega)) ?_
      | refine swp_cond_f rfl (by first | assumption | with_reducible rfl | decide | (simp only [decide_eq_false_iff_not, Bool.not_eq_false', decide_eq_true_eq]; omega)) ?_
      | refine swp_cond rfl (fun hc => ?_) (fun hc => ?_)
      | refine retq (by first | exact .inr rfl | exact .inl rfl) rfl (.cell rfl rfl (tyT rfl) (.cons (by first | exact .t _ | exact .own rfl rfl | exact .nil _ | exact .emp _) (.cons (by first | exact .t _ | exact .own rfl rfl | exact .nil _ | exact .emp _) (.cons (by first | exact .t _ | exact .own rfl rfl | exact .nil _ | exact .emp _) (.cons (by first | exact .t _ | exact .own rfl rfl | exact .nil _ | exact .emp _) (.cons (by first | exact .t _ | exact .own rfl rfl | exact .nil _ | exact .emp _) .nil))))) rfl .nil) ?_)
    rfl
end Go.Proofs.Ytlcecabfmemfeaa.Pol

/- auth's functions and the law's own, as the logic of states has them. -/
namespace Go.Proofs.Ytlcecabfmemfeaa.Pol
set_option linter.unusedVariables false
set_option linter.unusedSimpArgs false
open Go.RowKit Mem Sim Opn WAddr WName WMatch WAuth
theorem tr2 {m : Mm} {a b : T} {x y : Value} (ha : TR m a x) (hb : TR m b y) : TR m (.tup [a, b]) (.tuple #[x, y]) := by
  refine .tup [a, b] #[x, y] rfl fun j t v h1 h2 => ?_
  match j, h1, h2 with
  | 0, h1, h2 => simp at h1 h2; subst h1 h2; exact ha
  | 1, h1, h2 => simp at h1 h2; subst h1 h2; exact hb
theorem args4 {m : Mm} {t0 t1 t2 t3 : T} {vals : Array Value} (hl : vals.size = [t0, t1, t2, t3].length) (hv : ∀ (i : Nat) t v, [t0, t1, t2, t3][i]? = some t → vals[i]? = some v → TR m t v) : ∃ x0 x1 x2 x3, vals = #[x0, x1, x2, x3] ∧ TR m t0 x0 ∧ TR m t1 x1 ∧ TR m t2 x2 ∧ TR m t3 x3 := by
  obtain ⟨l⟩ := vals
  match l, hl with
  | [x0, x1, x2, x3], _ => exact ⟨x0, x1, x2, x3, rfl, hv 0 _ _ rfl rfl, hv 1 _ _ rfl rfl, hv 2 _ _ rfl rfl, hv 3 _ _ rfl rfl⟩
theorem agg_inv {m : Mm} {cs : List T} {v : Value} (h : TR m (.agg cs) v) : ∃ vs : List Value, v = .agg vs.toArray ∧ CellsAre m cs vs := by
  cases h with
  | agg cs vs h h1 ht => exact ⟨vs.toList, by simp, by simpa using h, fun j t v h2 h3 => ⟨ht j t v h2 (by simpa using h3), h1 v (List.mem_of_getElem? h3)⟩⟩
theorem agg_bwd {m : Mm} {cs : List T} {vs : List Value} (h : CellsAre m cs vs) : TR m (.agg cs) (.agg vs.toArray) :=
  .agg cs vs.toArray (by simpa using h.1) (fun v hv => by
    obtain ⟨j, hj⟩ := List.getElem?_of_mem hv
    have hj' : vs[j]? = some v := by simpa using hj
    have hlt : j < cs.length := by rw [← h.1]; exact (List.getElem?_eq_some_iff.1 hj').1
    exact (h.2 j _ v (List.getElem?_eq_getElem hlt) hj').2) fun j t v h1 h2 => (h.2 j t v h1 (by simpa using h2)).1
theorem ask_inv {m : Mm} {a : Pl.Asker} {v : Value} (h : TR m (.agg (askT a)) v) : v = .agg #[.string a.ns, .string a.sa, .int .u32 a.addr] := by
  obtain ⟨vs, rfl, hc⟩ := agg_inv h
  rw [cells_ex hc [.string a.ns, .string a.sa, .int .u32 a.addr] rfl]
/-- what of a request fits, however many headers -/
structure OkReq0 (q : Pl.Req) : Prop where
  method : q.method.size ≤ maxLen
  path : q.path.size ≤ maxLen
  host : q.host.size ≤ maxLen
  heads : ∀ h ∈ q.heads, okHead h
theorem req_inv {m : Mm} {w : World} (hs : Sub m w) {q : Pl.Req} {tg qu : ByteArray} {bd v : Value} (hq : OkReq0 q) (h : TR m (.agg (reqT q tg qu bd)) v) : ∃ A cap, v = .agg #[.string q.method, .string tg, .string q.path, .string qu, .string q.host, .slice A q.heads.length cap, bd] ∧ SliceAt HeadR 2 w.heap.size w A q.heads ∧ q.heads.length ≤ maxLen ∧ bd.oneCell' = true := by
  obtain ⟨vs, rfl, hc⟩ := agg_inv h
  obtain ⟨u0, vs, rfl, h0, hc⟩ := cellsAre_inv hc
  obtain ⟨u1, vs, rfl, h1, hc⟩ := cellsAre_inv hc
  obtain ⟨u2, vs, rfl, h2, hc⟩ := cellsAre_inv hc
  obtain ⟨u3, vs, rfl, h3, hc⟩ := cellsAre_inv hc
  obtain ⟨u4, vs, rfl, h4, hc⟩ := cellsAre_inv hc
  obtain ⟨u5, vs, rfl, h5, hc⟩ := cellsAre_inv hc
  have hone : ∀ u ∈ vs, u.oneCell' = true := fun u hu => by
    obtain ⟨j, hj⟩ := List.getElem?_of_mem hu
    have hlt : j < 1 := by have := (List.getElem?_eq_some_iff.1 hj).1; have := hc.1; simp at this; omega
    have : j = 0 := by omega
    subst this
    exact (hc.2 0 _ u rfl hj).2
  obtain ⟨u6, vs, rfl, h6, hc⟩ := cellsAre_inv hc
  obtain rfl := cellsAre_inv0 hc
  obtain ⟨A, cap, e, hA, hc1, hc2⟩ := sl_fwd hs (by omega) (head_fwd hs) hq.heads h5
  injection e with e; subst e
  rw [tr_v h6] at hone
  rw [tr_v h0, tr_v h1, tr_v h2, tr_v h3, tr_v h4, tr_v h6]
  exact ⟨A, cap, rfl, hA, Nat.le_trans hc1 hc2, hone bd (by simp)⟩
theorem pols_inv {m : Mm} {w : World} (hs : Sub m w) {l : List Pl.Policy} {v : Value} (hl : ∀ p ∈ l, okPolicy p) (h : TR m (.sl 5 (l.map polT)) v) : ∃ A cap, v = .slice A l.length cap ∧ SliceAt PolicyR 5 w.heap.size w A l ∧ l.length ≤ maxLen := by
  obtain ⟨A, cap, e, hA, hc1, hc2⟩ := sl_fwd hs (by omega) (policy_fwd hs) hl h
  injection e with e; subst e
  exact ⟨A, cap, rfl, hA, Nat.le_trans hc1 hc2⟩
theorem p_judge (l : List Pl.Policy) (hl : ∀ p ∈ l, okPolicy p) (a : Pl.Asker) (ha : OkAsk a) (port : Int) (q : Pl.Req) (hq : OkReq0 q) (hf : q.heads.length ≤ 1000) (tg qu : ByteArray) (bd : Value) :
    PCalls Try.prog 37 [.sl 5 (l.map polT), .agg (askT a), .v (.int .i64 port), .agg (reqT q tg qu bd)] (.tup [.v (.bool (Pl.judgeP (matchP a port q) l).1), .v (.int .u64 (Pl.judgeP (matchP a port q) l).2)]) where
  ent := ent_of Try.func37 rfl rfl
  run := fun m w vals hm hvl hv => by
    obtain ⟨x0, x1, x2, x3, rfl, h0, h1, h2, h3⟩ := args4 hvl hv
    obtain ⟨A0, cap0, rfl, hA0, hn⟩ := pols_inv hm hl h0
    obtain rfl := ask_inv h1
    rw [tr_v h2]
    obtain ⟨A, cap, rfl, hA, _, _⟩ := req_inv hm hq h3
    refine (judge l A0 cap0 a port q A cap tg qu bd w (Nat.le_refl _) hA0 hn ⟨ha.ns, ha.sa, hq.method, hq.path, hq.host, hA, hf⟩).mono fun e w' ⟨he, hlo⟩ => ?_
    rw [he]
    exact post_ex hm hlo (tr2 (.v _) (.v _))
theorem p_long (l : List Pl.Policy) (hl : ∀ p ∈ l, okPolicy p) (a : Pl.Asker) (ha : OkAsk a) (q : Pl.Req) (hq : OkReq0 q) (tg qu : ByteArray) (bd : Value) :
    PCalls Try.prog 34 [.sl 5 (l.map polT), .agg (askT a), .agg (reqT q tg qu bd)] (.v (.bool (long13 l a q))) where
  ent := ent_of Try.func34 rfl rfl
  run := fun m w vals hm hvl hv => by
    obtain ⟨x0, x1, x3, rfl, h0, h1, h3⟩ := args3 hvl hv
    obtain ⟨A0, cap0, rfl, hA0, hn⟩ := pols_inv hm hl h0
    obtain rfl := ask_inv h1
    obtain ⟨A, cap, rfl, hA, hn2, hbd⟩ := req_inv hm hq h3
    refine (long13_ l A0 cap0 a q A cap (.string tg) (.string qu) bd w (Nat.le_refl _) hA0 hn ⟨ha.ns, ha.sa, hq.method, hq.path, hq.host, hA, hn2⟩ rfl rfl hbd).mono fun e w' ⟨he, hlo⟩ => ?_
    rw [he]
    exact post_ex hm hlo (.v _)
theorem p_awake13 : PCalls Try.prog 35 [] (.v (.bool true)) where
  ent := ent_of Try.func35 rfl rfl
  run := fun m w vals hs hvl hv => by
    have : vals = #[] := Array.eq_empty_of_size_eq_zero hvl
    subst this
    refine (awake13 w).mono fun e w' ⟨he, hlo⟩ => ?_
    rw [he]
    exact post_ex hs hlo (.v _)
theorem few_rule {r : Pl.Rule} (h : longRule r = false) : FewR r := by
  unfold longRule at h
  simp only [Bool.or_eq_false_iff, decide_eq_false_iff_not, List.any_eq_false] at h
  obtain ⟨⟨⟨⟨⟨h1, h2⟩, h3⟩, h4⟩, h5⟩, h6⟩ := h
  refine ⟨by omega, by omega, by omega, fun s hs => ?_, fun s hs => ?_, fun s hs => ?_⟩
  · have := h4 s hs
    simp [srcLong, termsB, rowLong] at this
    omega
  · have := h5 s hs
    simp [tgtLong, termsB, rowLong] at this
    omega
  · have := h6 s hs
    simp [whenLong, termsB, rowLong] at this
    omega
theorem few_pol {p : Pl.Policy} (h : longPol p = false) : FewP p := by
  unfold longPol at h
  simp only [Bool.or_eq_false_iff, decide_eq_false_iff_not, List.any_eq_false] at h
  exact ⟨by omega, fun r hr => few_rule (by simpa using h.2 r hr)⟩
theorem few_long {l : List Pl.Policy} {a : Pl.Asker} {q : Pl.Req} (h : long13 l a q = false) : FewL l ∧ l.length ≤ 30 ∧ q.heads.length ≤ 100 ∧ ∀ p ∈ l, FewP p := by
  unfold long13 longHeads at h
  simp only [Bool.or_eq_false_iff, decide_eq_false_iff_not, List.any_eq_false] at h
  have hp : ∀ p ∈ l, FewP p := fun p hp => few_pol (by simpa using h.2 p hp)
  exact ⟨⟨by omega, fun p h => ⟨(hp p h).n, (hp p h).r⟩⟩, by omega, by omega, hp⟩
end Go.Proofs.Ytlcecabfmemfeaa.Pol

/- Words for what is made anew. -/
namespace Go.Proofs.Ytlcecabfmemfeaa.Mem
set_option linter.unusedVariables false
set_option linter.unusedSimpArgs false
open Go.RowKit
theorem RowF.flat {α : Type} {T T' : Nat → Prop} {R : Rel α} (hR : Flat R) {e : TypeId} {sz base : Nat} {w : World} {v : Value} {xs : List α} (h : RowF T R e sz base w v xs) : RowF T' R e sz base w v xs := by
  obtain ⟨cells, ho, hf⟩ := h
  exact ⟨cells, ho, fun k x hx => Foot.flat hR ((hf k x hx).at (B := w.heap.size) fun b hb => hb.1)⟩
theorem RowF.fresh {α : Type} {R : Rel α} {e : TypeId} {sz base : Nat} {w : World} {v : Value} {xs : List α} (h : RowF (fun b => base ≤ b) R e sz base w v xs) :
    ∃ A cap, v = .slice A xs.length cap ∧ Foot (fun b => base ≤ b ∧ b < w.heap.size) (SliceC R sz) w xs [.slice A xs.length cap] := by
  have hge := h.own_ge
  obtain ⟨A, cap, rfl, h1, h2, hf⟩ := h.slice
  refine ⟨A, cap, rfl, fun w' B hw hB => ?_⟩
  have := hf w' B (fun p hp => hw p ⟨?_, hp.1⟩) (fun b hb => hB b ⟨?_, hb.1⟩)
  · exact ⟨A, cap, rfl, this.2, h1, h2⟩
  · rcases hp.2 with h | h
    · exact h
    · exact (hge _ h.symm).1
  · rcases hb.2 with h | h
    · exact h
    · exact (hge _ h.symm).1
theorem setCell_far (w : World) (a p : Addr) (v : Value) (h : a.block ≠ p.block) : (w.setCell a v).cell? p = w.cell? p := World.cell?_setCell_other w a p v (fun e => h (by rw [e]))
theorem setCell_other (w : World) (b o b' o' : Nat) (v : Value) (h : (b, o) ≠ (b', o')) : (w.setCell ⟨b, o, none⟩ v).cell? ⟨b', o', none⟩ = w.cell? ⟨b', o', none⟩ := World.cell?_setCell_other w _ _ v (fun e => h (by injection e with e1 e2; rw [e1, e2]))
/-- made since base -/
abbrev New {α : Type} (base : Nat) (R : Rel α) (w : World) (x : α) (cs : List Value) : Prop := Foot (fun b => base ≤ b ∧ b < w.heap.size) R w x cs
theorem New.lo {α : Type} {base : Nat} {R : Rel α} {w w' : World} {x : α} {cs : List Value} (h : New base R w x cs) (hl : Lo w w') : New base R w' x cs :=
  (h.keep fun p hp => hl.cell p hp.2).mono fun b hb => ⟨hb.1, Nat.lt_of_lt_of_le hb.2 hl.size⟩
theorem New.base {α : Type} {base base' : Nat} {R : Rel α} {w : World} {x : α} {cs : List Value} (h : New base R w x cs) (hb : base' ≤ base) : New base' R w x cs := h.mono fun b hb2 => ⟨Nat.le_trans hb hb2.1, hb2.2⟩
theorem TermR.flat : Flat WMatch.TermR := fun _ _ _ _ _ _ h => h
theorem CidrR.flat : Flat Opn.CidrR := fun _ _ _ _ _ _ h => h
theorem IntC.flat (k : IntKind) : Flat (IntC k) := fun _ _ _ _ _ _ h => h
theorem TermR.one {B : Nat} {w : World} {t : Pl.Term} {cs : List Value} (h : WMatch.TermR B w t cs) : ∀ u ∈ cs, u.oneCell' = true := by
  obtain ⟨rfl, _⟩ := h
  intro u hu; simp at hu; rcases hu with rfl | rfl <;> rfl
theorem CidrR.one {B : Nat} {w : World} {t : Pl.Cidr} {cs : List Value} (h : Opn.CidrR B w t cs) : ∀ u ∈ cs, u.oneCell' = true := by
  obtain ⟨c0, c1, rfl, ⟨e0, _⟩, ⟨e1, _⟩⟩ := h
  injection e0 with e0; injection e1 with e1; subst e0 e1
  intro u hu; simp at hu; rcases hu with rfl | rfl <;> rfl
theorem IntC.one {k : IntKind} {B : Nat} {w : World} {t : Int} {cs : List Value} (h : IntC k B w t cs) : ∀ u ∈ cs, u.oneCell' = true := by
  obtain ⟨rfl, _⟩ := h
  intro u hu; simp at hu; subst hu; rfl
theorem StrC.one {B : Nat} {w : World} {t : ByteArray} {cs : List Value} (h : StrC B w t cs) : ∀ u ∈ cs, u.oneCell' = true := by
  obtain ⟨rfl, _⟩ := h
  intro u hu; simp at hu; subst hu; rfl
end Go.Proofs.Ytlcecabfmemfeaa.Mem

/- The walks of policy.Own and of what it calls. (Written by mk_own.py.) -/
namespace Go.Proofs.Ytlcecabfmemfeaa.WAuth
set_option linter.unusedVariables false
set_option linter.unusedSimpArgs false
open Go.RowKit Mem BigFrame WMatch WAddr WName Opn
theorem row_bound {r : List Pl.Term} (h : rowLong r = false) : r.length ≤ 20 := by
  unfold rowLong at h
  simp only [Bool.or_eq_false_iff, decide_eq_false_iff_not] at h
  omega
set_option maxRecDepth 100000 in
set_option maxHeartbeats 8000000 in
theorem ownSource (s : Pl.Source) (c0 c1 c2 : Value) {B : Nat} (w : World) (hB : B ≤ w.heap.size) (hs : SourceR B w s [c0, c1, c2]) (hlong : srcLong s = false) :
    Calls Try.prog 144 #[.agg #[c0, c1, c2]] w fun e w' => ∃ ya0 ya1 ya2 yk0 yk1 yk2, e = .returned (.agg #[.slice ya0 s.names.length yk0, .slice ya1 s.spaces.length yk1, .slice ya2 s.nets.length yk2]) ∧ Lo w w' ∧ New w.heap.size SourceR w' s [.slice ya0 s.names.length yk0, .slice ya1 s.spaces.length yk1, .slice ya2 s.nets.length yk2] := by
  obtain ⟨d0, d1, d2, he, ⟨A0, p0, e0, h0, l0, m0⟩, ⟨A1, p1, e1, h1, l1, m1⟩, ⟨A2, p2, e2, h2, l2, m2⟩⟩ := hs
  injection he with q0 he; injection he with q1 he; injection he with q2 he
  subst q0 q1 q2
  injection e0 with e0; injection e1 with e1; injection e2 with e2
  subst e0 e1 e2
  simp only [srcLong, termsB, List.any_cons, List.any_nil, Bool.or_eq_false_iff, decide_eq_false_iff_not] at hlong; have b0 := row_bound hlong.1.1; have b1 := row_bound hlong.1.2.1; have b2 := hlong.2
  have C0 : Hid (∀ W, Lo w W → Calls Try.prog 153 #[.slice A0 s.names.length p0] W fun e w' => ∃ A cap, e = .returned (.slice A s.names.length cap) ∧ Lo W w' ∧ New W.heap.size (SliceC TermR 2) w' s.names [.slice A s.names.length cap]) := Lib.hid fun W hW => by
    refine (WCloneTerm.clone TermR.kept A0 p0 s.names W (Nat.le_trans hB hW.size) (SliceAt.lo TermR.kept h0 hW hB) (fun x cs h => TermR.one h) (by omega)).mono ?_
    rintro e w' ⟨v, rfl, hl, hrow⟩
    obtain ⟨A, cap, rfl, hft⟩ := (hrow.flat (T' := fun b => W.heap.size ≤ b) TermR.flat).fresh
    exact ⟨A, cap, rfl, hl, hft⟩
  have C1 : Hid (∀ W, Lo w W → Calls Try.prog 153 #[.slice A1 s.spaces.length p1] W fun e w' => ∃ A cap, e = .returned (.slice A s.spaces.length cap) ∧ Lo W w' ∧ New W.heap.size (SliceC TermR 2) w' s.spaces [.slice A s.spaces.length cap]) := Lib.hid fun W hW => by
    refine (WCloneTerm.clone TermR.kept A1 p1 s.spaces W (Nat.le_trans hB hW.size) (SliceAt.lo TermR.kept h1 hW hB) (fun x cs h => TermR.one h) (by omega)).mono ?_
    rintro e w' ⟨v, rfl, hl, hrow⟩
    obtain ⟨A, cap, rfl, hft⟩ := (hrow.flat (T' := fun b => W.heap.size ≤ b) TermR.flat).fresh
    exact ⟨A, cap, rfl, hl, hft⟩
  have C2 : Hid (∀ W, Lo w W → Calls Try.prog 154 #[.slice A2 s.nets.length p2] W fun e w' => ∃ A cap, e = .returned (.slice A s.nets.length cap) ∧ Lo W w' ∧ New W.heap.size (SliceC CidrR 2) w' s.nets [.slice A s.nets.length cap]) := Lib.hid fun W hW => by
    refine (WCloneCidr.clone CidrR.kept A2 p2 s.nets W (Nat.le_trans hB hW.size) (SliceAt.lo CidrR.kept h2 hW hB) (fun x cs h => CidrR.one h) (by omega)).mono ?_
    rintro e w' ⟨v, rfl, hl, hrow⟩
    obtain ⟨A, cap, rfl, hft⟩ := (hrow.flat (T' := fun b => W.heap.size ≤ b) CidrR.flat).fresh
    exact ⟨A, cap, rfl, hl, hft⟩
  clear h0 h1 h2
  obtain ⟨n0, hn0⟩ : ∃ n, s.names.length = n := ⟨_, rfl⟩
  obtain ⟨n1, hn1⟩ : ∃ n, s.spaces.length = n := ⟨_, rfl⟩
  obtain ⟨n2, hn2⟩ : ∃ n, s.nets.length = n := ⟨_, rfl⟩
  have HE : Hid (∀ (bs : Nat) (W : World) (ya0 : Option Addr) (yk0 : Nat) (ya1 : Option Addr) (yk1 : Nat) (ya2 : Option Addr) (yk2 : Nat), New bs (SliceC TermR 2) W s.names [.slice ya0 s.names.length yk0] → New bs (SliceC TermR 2) W s.spaces [.slice ya1 s.spaces.length yk1] → New bs (SliceC CidrR 2) W s.nets [.slice ya2 s.nets.length yk2] → New bs SourceR W s [.slice ya0 s.names.length yk0, .slice ya1 s.spaces.length yk1, .slice ya2 s.nets.length yk2]) := Lib.hid fun bs W ya0 yk0 ya1 yk1 ya2 yk2 g0 g1 g2 w' B hw hB => ⟨_, _, _, rfl, g0 w' B hw hB, g1 w' B hw hB, g2 w' B hw hB⟩
  simp only [hn0, hn1, hn2] at C0 C1 C2 HE ⊢
  clear hn0 hn1 hn2
  go_enter Try.func144, Try.ntmps144
  go_wp2_with fail
  obtain ⟨wz, hw⟩ : ∃ wz, (w.alloc (.cells #[.slice A0 n0 p0, .slice A1 n1 p1, .slice A2 n2 p2] 80)).alloc (.cells #[.slice none 0 0, .slice none 0 0, .slice none 0 0] 80) = wz := ⟨_, rfl⟩
  rw [hw]
  have hlz : Lo w wz := by rw [← hw]; exact (by repeat (first | exact Lo.refl _ | assumption | refine Lo.drew ?_ | refine Lo.alloc ?_ _ | refine Lo.setCell ?_ (by first | (dsimp only; omega) | (simp; omega) | (simp; done)) _ | refine Lo.trans ?_ (by assumption)))
  have a0 : wz.cell? ⟨w.heap.size, 0, none⟩ = some (.slice A0 n0 p0) := by rw [← hw]; simp
  have r0 : wz.cell? ⟨w.heap.size + 1, 0, none⟩ = some (.slice none 0 0) := by rw [← hw]; simp
  have u0 : wz.frozen? ⟨w.heap.size, 0, none⟩ = false := by rw [← hw]; simp
  have s0 : wz.frozen? ⟨w.heap.size + 1, 0, none⟩ = false := by rw [← hw]; simp
  have a1 : wz.cell? ⟨w.heap.size, 1, none⟩ = some (.slice A1 n1 p1) := by rw [← hw]; simp
  have r1 : wz.cell? ⟨w.heap.size + 1, 1, none⟩ = some (.slice none 0 0) := by rw [← hw]; simp
  have u1 : wz.frozen? ⟨w.heap.size, 1, none⟩ = false := by rw [← hw]; simp
  have s1 : wz.frozen? ⟨w.heap.size + 1, 1, none⟩ = false := by rw [← hw]; simp
  have a2 : wz.cell? ⟨w.heap.size, 2, none⟩ = some (.slice A2 n2 p2) := by rw [← hw]; simp
  have r2 : wz.cell? ⟨w.heap.size + 1, 2, none⟩ = some (.slice none 0 0) := by rw [← hw]; simp
  have u2 : wz.frozen? ⟨w.heap.size, 2, none⟩ = false := by rw [← hw]; simp
  have s2 : wz.frozen? ⟨w.heap.size + 1, 2, none⟩ = false := by rw [← hw]; simp
  have hz1 : w.heap.size + 1 < wz.heap.size := World.block_lt_of_cell? _ _ r0
  clear hw
  refine wp_region_mix 10 16 (fun i v w' => match i with
        | 0 => v = .pointer (some ⟨w.heap.size, 0, none⟩)
        | 1 => v = .slice A0 n0 p0
        | 2 => ∃ A cap, v = .slice A n0 cap ∧ New wz.heap.size (SliceC TermR 2) w' s.names [.slice A n0 cap]
        | 3 => v = .pointer (some ⟨w.heap.size, 1, none⟩)
        | 4 => v = .slice A1 n1 p1
        | 5 => ∃ A cap, v = .slice A n1 cap ∧ New wz.heap.size (SliceC TermR 2) w' s.spaces [.slice A n1 cap]
        | 6 => v = .pointer (some ⟨w.heap.size, 2, none⟩)
        | 7 => v = .slice A2 n2 p2
        | 8 => ∃ A cap, v = .slice A n2 cap ∧ New wz.heap.size (SliceC CidrR 2) w' s.nets [.slice A n2 cap]
        | 9 => v = .pointer (some ⟨w.heap.size, 0, none⟩)
        | _ => True) (by kernel_rfl) rfl (by kernel_rfl) ?_ ?_ ?_
  · intro i v w1 w2 h hl12
    match i, h with
    | 0, h => exact h
    | 1, h => exact h
    | 2, ⟨A, cap, hv, hft⟩ => exact ⟨A, cap, hv, hft.lo hl12⟩
    | 3, h => exact h
    | 4, h => exact h
    | 5, ⟨A, cap, hv, hft⟩ => exact ⟨A, cap, hv, hft.lo hl12⟩
    | 6, h => exact h
    | 7, h => exact h
    | 8, ⟨A, cap, hv, hft⟩ => exact ⟨A, cap, hv, hft.lo hl12⟩
    | 9, h => exact h
    | _ + 10, _ => trivial
  · intro i o hiN ho a w' hl hd hold
    match i, hiN with
    | 0, _ =>
      injection ho with ho; subst ho
      have h1 : a.eval (.tmp 1) = .pointer (some ⟨w.heap.size, 0, none⟩) := hold 1 (by kernel_rfl)
      simp [Act.eval] at h1
      exact ⟨fun _ => wp_of_run (v := .pointer (some ⟨w.heap.size, 0, none⟩)) (w' := w') (by simp [go_sem, h1]) ⟨_, rfl, Lo.refl _, rfl⟩, fun h => by rw [wanted_free rfl] at h; cases h⟩
    | 1, _ =>
      injection ho with ho; subst ho
      have h3 : a.eval (.tmp 3) = .pointer (some ⟨w.heap.size, 0, none⟩) := hd 0 (by kernel_rfl) 3 (by kernel_rfl)
      have hc0 := lo_keep hl a0
      simp [Act.eval] at h3
      exact ⟨fun _ => wp_of_run (v := .slice A0 n0 p0) (w' := w') (by simp [go_sem, h3, hc0]) ⟨_, rfl, Lo.refl _, rfl⟩, fun h => by rw [wanted_free rfl] at h; cases h⟩
    | 2, _ =>
      injection ho with ho; subst ho
      have h4 : a.eval (.tmp 4) = .slice A0 n0 p0 := hd 1 (by kernel_rfl) 4 (by kernel_rfl)
      simp [Act.eval] at h4
      refine ⟨fun _ => ?_, fun h => by rw [wanted_free rfl] at h; cases h⟩
      refine wp_call_of (f := 153) (args := #[.slice A0 n0 p0]) (by simp [go_sem, h4]) (C0.out w' (hlz.trans hl)) ?_
      rintro e w2 ⟨A, cap, rfl, hb, hft⟩
      exact ⟨_, rfl, _, rfl, hb, A, cap, rfl, New.base hft hl.size⟩
    | 3, _ =>
      injection ho with ho; subst ho
      have h1 : a.eval (.tmp 1) = .pointer (some ⟨w.heap.size, 0, none⟩) := hold 1 (by kernel_rfl)
      simp [Act.eval] at h1
      exact ⟨fun _ => wp_of_run (v := .pointer (some ⟨w.heap.size, 1, none⟩)) (w' := w') (by simp [go_sem, h1]) ⟨_, rfl, Lo.refl _, rfl⟩, fun h => by rw [wanted_free rfl] at h; cases h⟩
    | 4, _ =>
      injection ho with ho; subst ho
      have h6 : a.eval (.tmp 6) = .pointer (some ⟨w.heap.size, 1, none⟩) := hd 3 (by kernel_rfl) 6 (by kernel_rfl)
      have hc0 := lo_keep hl a1
      simp [Act.eval] at h6
      exact ⟨fun _ => wp_of_run (v := .slice A1 n1 p1) (w' := w') (by simp [go_sem, h6, hc0]) ⟨_, rfl, Lo.refl _, rfl⟩, fun h => by rw [wanted_free rfl] at h; cases h⟩
    | 5, _ =>
      injection ho with ho; subst ho
      have h7 : a.eval (.tmp 7) = .slice A1 n1 p1 := hd 4 (by kernel_rfl) 7 (by kernel_rfl)
      simp [Act.eval] at h7
      refine ⟨fun _ => ?_, fun h => by rw [wanted_free rfl] at h; cases h⟩
      refine wp_call_of (f := 153) (args := #[.slice A1 n1 p1]) (by simp [go_sem, h7]) (C1.out w' (hlz.trans hl)) ?_
      rintro e w2 ⟨A, cap, rfl, hb, hft⟩
      exact ⟨_, rfl, _, rfl, hb, A, cap, rfl, New.base hft hl.size⟩
    | 6, _ =>
      injection ho with ho; subst ho
      have h1 : a.eval (.tmp 1) = .pointer (some ⟨w.heap.size, 0, none⟩) := hold 1 (by kernel_rfl)
      simp [Act.eval] at h1
      exact ⟨fun _ => wp_of_run (v := .pointer (some ⟨w.heap.size, 2, none⟩)) (w' := w') (by simp [go_sem, h1]) ⟨_, rfl, Lo.refl _, rfl⟩, fun h => by rw [wanted_free rfl] at h; cases h⟩
    | 7, _ =>
      injection ho with ho; subst ho
      have h9 : a.eval (.tmp 9) = .pointer (some ⟨w.heap.size, 2, none⟩) := hd 6 (by kernel_rfl) 9 (by kernel_rfl)
      have hc0 := lo_keep hl a2
      simp [Act.eval] at h9
      exact ⟨fun _ => wp_of_run (v := .slice A2 n2 p2) (w' := w') (by simp [go_sem, h9, hc0]) ⟨_, rfl, Lo.refl _, rfl⟩, fun h => by rw [wanted_free rfl] at h; cases h⟩
    | 8, _ =>
      injection ho with ho; subst ho
      have h10 : a.eval (.tmp 10) = .slice A2 n2 p2 := hd 7 (by kernel_rfl) 10 (by kernel_rfl)
      simp [Act.eval] at h10
      refine ⟨fun _ => ?_, fun h => by rw [wanted_free rfl] at h; cases h⟩
      refine wp_call_of (f := 154) (args := #[.slice A2 n2 p2]) (by simp [go_sem, h10]) (C2.out w' (hlz.trans hl)) ?_
      rintro e w2 ⟨A, cap, rfl, hb, hft⟩
      exact ⟨_, rfl, _, rfl, hb, A, cap, rfl, New.base hft hl.size⟩
    | 9, _ =>
      injection ho with ho; subst ho
      have h1 : a.eval (.tmp 1) = .pointer (some ⟨w.heap.size, 0, none⟩) := hold 1 (by kernel_rfl)
      simp [Act.eval] at h1
      exact ⟨fun _ => wp_of_run (v := .pointer (some ⟨w.heap.size, 0, none⟩)) (w' := w') (by simp [go_sem, h1]) ⟨_, rfl, Lo.refl _, rfl⟩, fun h => by rw [wanted_free rfl] at h; cases h⟩
  · intro v w2 hq hp
    have p_0 := hp 0 (by omega)
    have p_1 := hp 1 (by omega)
    have p_2 := hp 2 (by omega)
    have p_3 := hp 3 (by omega)
    have p_4 := hp 4 (by omega)
    have p_5 := hp 5 (by omega)
    have p_6 := hp 6 (by omega)
    have p_7 := hp 7 (by omega)
    have p_8 := hp 8 (by omega)
    have p_9 := hp 9 (by omega)
    clear hp
    simp only [List.range_succ, List.range_zero, List.nil_append, List.cons_append, List.foldl_cons, List.foldl_nil, List.drop_succ_cons, List.drop_zero, dstOf, List.getElem?_toArray, List.getElem?_cons_zero, List.getElem?_cons_succ, Option.bind_some, Act.put, List.setIfInBounds_toArray, List.set_cons_zero, List.set_cons_succ]
    generalize v 0 = v0 at *
    generalize v 1 = v1 at *
    generalize v 2 = v2 at *
    generalize v 3 = v3 at *
    generalize v 4 = v4 at *
    generalize v 5 = v5 at *
    generalize v 6 = v6 at *
    generalize v 7 = v7 at *
    generalize v 8 = v8 at *
    generalize v 9 = v9 at *
    subst p_0
    subst p_1
    obtain ⟨ya0, yk0, rfl, g0⟩ := p_2
    subst p_3
    subst p_4
    obtain ⟨ya1, yk1, rfl, g1⟩ := p_5
    subst p_6
    subst p_7
    obtain ⟨ya2, yk2, rfl, g2⟩ := p_8
    subst p_9
    replace u0 := (hq.facts.2.1 _ 0 (by omega)).trans u0
    replace s0 := (hq.facts.2.1 _ 0 hz1).trans s0
    replace a0 := lo_keep hq a0
    replace r0 := lo_keep hq r0
    replace u1 := (hq.facts.2.1 _ 1 (by omega)).trans u1
    replace s1 := (hq.facts.2.1 _ 1 hz1).trans s1
    replace a1 := lo_keep hq a1
    replace r1 := lo_keep hq r1
    replace u2 := (hq.facts.2.1 _ 2 (by omega)).trans u2
    replace s2 := (hq.facts.2.1 _ 2 hz1).trans s2
    replace a2 := lo_keep hq a2
    replace r2 := lo_keep hq r2
    have hzw := hq.size
    have hl2 := hlz.trans hq
    clear hq hlz
    go_wp2
    obtain ⟨w9, h9⟩ : ∃ w9, ((((((w2.setCell ⟨w.heap.size, 0, none⟩ (.slice ya0 n0 yk0)).setCell ⟨w.heap.size, 1, none⟩ (.slice ya1 n1 yk1)).setCell ⟨w.heap.size, 2, none⟩ (.slice ya2 n2 yk2)).setCell ⟨w.heap.size + 1, 0, none⟩ (.slice ya0 n0 yk0)).setCell ⟨w.heap.size + 1, 1, none⟩ (.slice ya1 n1 yk1)).setCell ⟨w.heap.size + 1, 2, none⟩ (.slice ya2 n2 yk2)) = w9 := ⟨_, rfl⟩
    rw [h9]
    have q0 : w9.cell? ⟨w.heap.size + 1, 0, none⟩ = some (.slice ya0 n0 yk0) := by
      rw [← h9]
      rw [setCell_other _ _ _ _ _ _ (by simp)]
      rw [setCell_other _ _ _ _ _ _ (by simp)]
      refine World.cell?_setCell_same _ _ _ (u := .slice none 0 0) ?_
      rw [setCell_other _ _ _ _ _ _ (by simp), setCell_other _ _ _ _ _ _ (by simp), setCell_other _ _ _ _ _ _ (by simp)]
      exact r0
    have q1 : w9.cell? ⟨w.heap.size + 1, 1, none⟩ = some (.slice ya1 n1 yk1) := by
      rw [← h9]
      rw [setCell_other _ _ _ _ _ _ (by simp)]
      refine World.cell?_setCell_same _ _ _ (u := .slice none 0 0) ?_
      rw [setCell_other _ _ _ _ _ _ (by simp), setCell_other _ _ _ _ _ _ (by simp), setCell_other _ _ _ _ _ _ (by simp), setCell_other _ _ _ _ _ _ (by simp)]
      exact r1
    have q2 : w9.cell? ⟨w.heap.size + 1, 2, none⟩ = some (.slice ya2 n2 yk2) := by
      rw [← h9]
      refine World.cell?_setCell_same _ _ _ (u := .slice none 0 0) ?_
      rw [setCell_other _ _ _ _ _ _ (by simp), setCell_other _ _ _ _ _ _ (by simp), setCell_other _ _ _ _ _ _ (by simp), setCell_other _ _ _ _ _ _ (by simp), setCell_other _ _ _ _ _ _ (by simp)]
      exact r2
    have hl9 : Lo w w9 := by rw [← h9]; exact (Lo.setCell (Lo.setCell (Lo.setCell (Lo.setCell (Lo.setCell (Lo.setCell hl2 (by simp) _) (by simp) _) (by simp) _) (by simp) _) (by simp) _) (by simp) _)
    have hs9 : w9.heap.size = w2.heap.size := by rw [← h9]; simp
    have hfar : ∀ p : Addr, wz.heap.size ≤ p.block → w9.cell? p = w2.cell? p := fun p hp => by
      rw [← h9]
      rw [setCell_far _ _ _ _ (by simp; omega), setCell_far _ _ _ _ (by simp; omega), setCell_far _ _ _ _ (by simp; omega), setCell_far _ _ _ _ (by simp; omega), setCell_far _ _ _ _ (by simp; omega), setCell_far _ _ _ _ (by simp; omega)]
    have hN := ((HE.out wz.heap.size w2 ya0 yk0 ya1 yk1 ya2 yk2 g0 g1 g2).keep (w1 := w9) fun p hp => hfar p hp.1).mono (S' := fun b => w.heap.size ≤ b ∧ b < w9.heap.size) fun b hb => ⟨by omega, by omega⟩
    clear h9
    exact bodyPost_ret (v := .agg #[.slice ya0 n0 yk0, .slice ya1 n1 yk1, .slice ya2 n2 yk2]) (by simp [results, Try.results144, go_sem, q0, q1, q2]) rfl ⟨ya0, ya1, ya2, yk0, yk1, yk2, rfl, hl9, hN⟩
set_option maxRecDepth 100000 in
set_option maxHeartbeats 8000000 in
theorem ownTarget (s : Pl.Target) (c0 c1 c2 c3 : Value) {B : Nat} (w : World) (hB : B ≤ w.heap.size) (hs : TargetR B w s [c0, c1, c2, c3]) (hlong : tgtLong s = false) :
    Calls Try.prog 146 #[.agg #[c0, c1, c2, c3]] w fun e w' => ∃ ya0 ya1 ya2 ya3 yk0 yk1 yk2 yk3, e = .returned (.agg #[.slice ya0 s.ports.length yk0, .slice ya1 s.methods.length yk1, .slice ya2 s.paths.length yk2, .slice ya3 s.hosts.length yk3]) ∧ Lo w w' ∧ New w.heap.size TargetR w' s [.slice ya0 s.ports.length yk0, .slice ya1 s.methods.length yk1, .slice ya2 s.paths.length yk2, .slice ya3 s.hosts.length yk3] := by
  obtain ⟨d0, d1, d2, d3, he, ⟨A0, p0, e0, h0, l0, m0⟩, ⟨A1, p1, e1, h1, l1, m1⟩, ⟨A2, p2, e2, h2, l2, m2⟩, ⟨A3, p3, e3, h3, l3, m3⟩⟩ := hs
  injection he with q0 he; injection he with q1 he; injection he with q2 he; injection he with q3 he
  subst q0 q1 q2 q3
  injection e0 with e0; injection e1 with e1; injection e2 with e2; injection e3 with e3
  subst e0 e1 e2 e3
  simp only [tgtLong, termsB, List.any_cons, List.any_nil, Bool.or_eq_false_iff, decide_eq_false_iff_not] at hlong; have b0 := row_bound hlong.1.1; have b1 := row_bound hlong.1.2.1; have b2 := row_bound hlong.1.2.2.1; have b3 := hlong.2
  have C0 : Hid (∀ W, Lo w W → Calls Try.prog 155 #[.slice A0 s.ports.length p0] W fun e w' => ∃ A cap, e = .returned (.slice A s.ports.length cap) ∧ Lo W w' ∧ New W.heap.size (SliceC (IntC .i64) 1) w' s.ports [.slice A s.ports.length cap]) := Lib.hid fun W hW => by
    refine (WCloneInt.clone (IntC.kept .i64) A0 p0 s.ports W (Nat.le_trans hB hW.size) (SliceAt.lo (IntC.kept .i64) h0 hW hB) (fun x cs h => IntC.one h) (by omega)).mono ?_
    rintro e w' ⟨v, rfl, hl, hrow⟩
    obtain ⟨A, cap, rfl, hft⟩ := (hrow.flat (T' := fun b => W.heap.size ≤ b) (IntC.flat .i64)).fresh
    exact ⟨A, cap, rfl, hl, hft⟩
  have C1 : Hid (∀ W, Lo w W → Calls Try.prog 153 #[.slice A1 s.methods.length p1] W fun e w' => ∃ A cap, e = .returned (.slice A s.methods.length cap) ∧ Lo W w' ∧ New W.heap.size (SliceC TermR 2) w' s.methods [.slice A s.methods.length cap]) := Lib.hid fun W hW => by
    refine (WCloneTerm.clone TermR.kept A1 p1 s.methods W (Nat.le_trans hB hW.size) (SliceAt.lo TermR.kept h1 hW hB) (fun x cs h => TermR.one h) (by omega)).mono ?_
    rintro e w' ⟨v, rfl, hl, hrow⟩
    obtain ⟨A, cap, rfl, hft⟩ := (hrow.flat (T' := fun b => W.heap.size ≤ b) TermR.flat).fresh
    exact ⟨A, cap, rfl, hl, hft⟩
  have C2 : Hid (∀ W, Lo w W → Calls Try.prog 153 #[.slice A2 s.paths.length p2] W fun e w' => ∃ A cap, e = .returned (.slice A s.paths.length cap) ∧ Lo W w' ∧ New W.heap.size (SliceC TermR 2) w' s.paths [.slice A s.paths.length cap]) := Lib.hid fun W hW => by
    refine (WCloneTerm.clone TermR.kept A2 p2 s.paths W (Nat.le_trans hB hW.size) (SliceAt.lo TermR.kept h2 hW hB) (fun x cs h => TermR.one h) (by omega)).mono ?_
    rintro e w' ⟨v, rfl, hl, hrow⟩
    obtain ⟨A, cap, rfl, hft⟩ := (hrow.flat (T' := fun b => W.heap.size ≤ b) TermR.flat).fresh
    exact ⟨A, cap, rfl, hl, hft⟩
  have C3 : Hid (∀ W, Lo w W → Calls Try.prog 153 #[.slice A3 s.hosts.length p3] W fun e w' => ∃ A cap, e = .returned (.slice A s.hosts.length cap) ∧ Lo W w' ∧ New W.heap.size (SliceC TermR 2) w' s.hosts [.slice A s.hosts.length cap]) := Lib.hid fun W hW => by
    refine (WCloneTerm.clone TermR.kept A3 p3 s.hosts W (Nat.le_trans hB hW.size) (SliceAt.lo TermR.kept h3 hW hB) (fun x cs h => TermR.one h) (by omega)).mono ?_
    rintro e w' ⟨v, rfl, hl, hrow⟩
    obtain ⟨A, cap, rfl, hft⟩ := (hrow.flat (T' := fun b => W.heap.size ≤ b) TermR.flat).fresh
    exact ⟨A, cap, rfl, hl, hft⟩
  clear h0 h1 h2 h3
  obtain ⟨n0, hn0⟩ : ∃ n, s.ports.length = n := ⟨_, rfl⟩
  obtain ⟨n1, hn1⟩ : ∃ n, s.methods.length = n := ⟨_, rfl⟩
  obtain ⟨n2, hn2⟩ : ∃ n, s.paths.length = n := ⟨_, rfl⟩
  obtain ⟨n3, hn3⟩ : ∃ n, s.hosts.length = n := ⟨_, rfl⟩
  have HE : Hid (∀ (bs : Nat) (W : World) (ya0 : Option Addr) (yk0 : Nat) (ya1 : Option Addr) (yk1 : Nat) (ya2 : Option Addr) (yk2 : Nat) (ya3 : Option Addr) (yk3 : Nat), New bs (SliceC (IntC .i64) 1) W s.ports [.slice ya0 s.ports.length yk0] → New bs (SliceC TermR 2) W s.methods [.slice ya1 s.methods.length yk1] → New bs (SliceC TermR 2) W s.paths [.slice ya2 s.paths.length yk2] → New bs (SliceC TermR 2) W s.hosts [.slice ya3 s.hosts.length yk3] → New bs TargetR W s [.slice ya0 s.ports.length yk0, .slice ya1 s.methods.length yk1, .slice ya2 s.paths.length yk2, .slice ya3 s.hosts.length yk3]) := Lib.hid fun bs W ya0 yk0 ya1 yk1 ya2 yk2 ya3 yk3 g0 g1 g2 g3 w' B hw hB => ⟨_, _, _, _, rfl, g0 w' B hw hB, g1 w' B hw hB, g2 w' B hw hB, g3 w' B hw hB⟩
  simp only [hn0, hn1, hn2, hn3] at C0 C1 C2 C3 HE ⊢
  clear hn0 hn1 hn2 hn3
  go_enter Try.func146, Try.ntmps146
  go_wp2_with fail
  obtain ⟨wz, hw⟩ : ∃ wz, (w.alloc (.cells #[.slice A0 n0 p0, .slice A1 n1 p1, .slice A2 n2 p2, .slice A3 n3 p3] 84)).alloc (.cells #[.slice none 0 0, .slice none 0 0, .slice none 0 0, .slice none 0 0] 84) = wz := ⟨_, rfl⟩
  rw [hw]
  have hlz : Lo w wz := by rw [← hw]; exact (by repeat (first | exact Lo.refl _ | assumption | refine Lo.drew ?_ | refine Lo.alloc ?_ _ | refine Lo.setCell ?_ (by first | (dsimp only; omega) | (simp; omega) | (simp; done)) _ | refine Lo.trans ?_ (by assumption)))
  have a0 : wz.cell? ⟨w.heap.size, 0, none⟩ = some (.slice A0 n0 p0) := by rw [← hw]; simp
  have r0 : wz.cell? ⟨w.heap.size + 1, 0, none⟩ = some (.slice none 0 0) := by rw [← hw]; simp
  have u0 : wz.frozen? ⟨w.heap.size, 0, none⟩ = false := by rw [← hw]; simp
  have s0 : wz.frozen? ⟨w.heap.size + 1, 0, none⟩ = false := by rw [← hw]; simp
  have a1 : wz.cell? ⟨w.heap.size, 1, none⟩ = some (.slice A1 n1 p1) := by rw [← hw]; simp
  have r1 : wz.cell? ⟨w.heap.size + 1, 1, none⟩ = some (.slice none 0 0) := by rw [← hw]; simp
  have u1 : wz.frozen? ⟨w.heap.size, 1, none⟩ = false := by rw [← hw]; simp
  have s1 : wz.frozen? ⟨w.heap.size + 1, 1, none⟩ = false := by rw [← hw]; simp
  have a2 : wz.cell? ⟨w.heap.size, 2, none⟩ = some (.slice A2 n2 p2) := by rw [← hw]; simp
  have r2 : wz.cell? ⟨w.heap.size + 1, 2, none⟩ = some (.slice none 0 0) := by rw [← hw]; simp
  have u2 : wz.frozen? ⟨w.heap.size, 2, none⟩ = false := by rw [← hw]; simp
  have s2 : wz.frozen? ⟨w.heap.size + 1, 2, none⟩ = false := by rw [← hw]; simp
  have a3 : wz.cell? ⟨w.heap.size, 3, none⟩ = some (.slice A3 n3 p3) := by rw [← hw]; simp
  have r3 : wz.cell? ⟨w.heap.size + 1, 3, none⟩ = some (.slice none 0 0) := by rw [← hw]; simp
  have u3 : wz.frozen? ⟨w.heap.size, 3, none⟩ = false := by rw [← hw]; simp
  have s3 : wz.frozen? ⟨w.heap.size + 1, 3, none⟩ = false := by rw [← hw]; simp
  have hz1 : w.heap.size + 1 < wz.heap.size := World.block_lt_of_cell? _ _ r0
  clear hw
  refine wp_region_mix 13 20 (fun i v w' => match i with
        | 0 => v = .pointer (some ⟨w.heap.size, 0, none⟩)
        | 1 => v = .slice A0 n0 p0
        | 2 => ∃ A cap, v = .slice A n0 cap ∧ New wz.heap.size (SliceC (IntC .i64) 1) w' s.ports [.slice A n0 cap]
        | 3 => v = .pointer (some ⟨w.heap.size, 1, none⟩)
        | 4 => v = .slice A1 n1 p1
        | 5 => ∃ A cap, v = .slice A n1 cap ∧ New wz.heap.size (SliceC TermR 2) w' s.methods [.slice A n1 cap]
        | 6 => v = .pointer (some ⟨w.heap.size, 2, none⟩)
        | 7 => v = .slice A2 n2 p2
        | 8 => ∃ A cap, v = .slice A n2 cap ∧ New wz.heap.size (SliceC TermR 2) w' s.paths [.slice A n2 cap]
        | 9 => v = .pointer (some ⟨w.heap.size, 3, none⟩)
        | 10 => v = .slice A3 n3 p3
        | 11 => ∃ A cap, v = .slice A n3 cap ∧ New wz.heap.size (SliceC TermR 2) w' s.hosts [.slice A n3 cap]
        | 12 => v = .pointer (some ⟨w.heap.size, 0, none⟩)
        | _ => True) (by kernel_rfl) rfl (by kernel_rfl) ?_ ?_ ?_
  · intro i v w1 w2 h hl12
    match i, h with
    | 0, h => exact h
    | 1, h => exact h
    | 2, ⟨A, cap, hv, hft⟩ => exact ⟨A, cap, hv, hft.lo hl12⟩
    | 3, h => exact h
    | 4, h => exact h
    | 5, ⟨A, cap, hv, hft⟩ => exact ⟨A, cap, hv, hft.lo hl12⟩
    | 6, h => exact h
    | 7, h => exact h
    | 8, ⟨A, cap, hv, hft⟩ => exact ⟨A, cap, hv, hft.lo hl12⟩
    | 9, h => exact h
    | 10, h => exact h
    | 11, ⟨A, cap, hv, hft⟩ => exact ⟨A, cap, hv, hft.lo hl12⟩
    | 12, h => exact h
    | _ + 13, _ => trivial
  · intro i o hiN ho a w' hl hd hold
    match i, hiN with
    | 0, _ =>
      injection ho with ho; subst ho
      have h1 : a.eval (.tmp 1) = .pointer (some ⟨w.heap.size, 0, none⟩) := hold 1 (by kernel_rfl)
      simp [Act.eval] at h1
      exact ⟨fun _ => wp_of_run (v := .pointer (some ⟨w.heap.size, 0, none⟩)) (w' := w') (by simp [go_sem, h1]) ⟨_, rfl, Lo.refl _, rfl⟩, fun h => by rw [wanted_free rfl] at h; cases h⟩
    | 1, _ =>
      injection ho with ho; subst ho
      have h3 : a.eval (.tmp 3) = .pointer (some ⟨w.heap.size, 0, none⟩) := hd 0 (by kernel_rfl) 3 (by kernel_rfl)
      have hc0 := lo_keep hl a0
      simp [Act.eval] at h3
      exact ⟨fun _ => wp_of_run (v := .slice A0 n0 p0) (w' := w') (by simp [go_sem, h3, hc0]) ⟨_, rfl, Lo.refl _, rfl⟩, fun h => by rw [wanted_free rfl] at h; cases h⟩
    | 2, _ =>
      injection ho with ho; subst ho
      have h4 : a.eval (.tmp 4) = .slice A0 n0 p0 := hd 1 (by kernel_rfl) 4 (by kernel_rfl)
      simp [Act.eval] at h4
      refine ⟨fun _ => ?_, fun h => by rw [wanted_free rfl] at h; cases h⟩
      refine wp_call_of (f := 155) (args := #[.slice A0 n0 p0]) (by simp [go_sem, h4]) (C0.out w' (hlz.trans hl)) ?_
      rintro e w2 ⟨A, cap, rfl, hb, hft⟩
      exact ⟨_, rfl, _, rfl, hb, A, cap, rfl, New.base hft hl.size⟩
    | 3, _ =>
      injection ho with ho; subst ho
      have h1 : a.eval (.tmp 1) = .pointer (some ⟨w.heap.size, 0, none⟩) := hold 1 (by kernel_rfl)
      simp [Act.eval] at h1
      exact ⟨fun _ => wp_of_run (v := .pointer (some ⟨w.heap.size, 1, none⟩)) (w' := w') (by simp [go_sem, h1]) ⟨_, rfl, Lo.refl _, rfl⟩, fun h => by rw [wanted_free rfl] at h; cases h⟩
    | 4, _ =>
      injection ho with ho; subst ho
      have h6 : a.eval (.tmp 6) = .pointer (some ⟨w.heap.size, 1, none⟩) := hd 3 (by kernel_rfl) 6 (by kernel_rfl)
      have hc0 := lo_keep hl a1
      simp [Act.eval] at h6
      exact ⟨fun _ => wp_of_run (v := .slice A1 n1 p1) (w' := w') (by simp [go_sem, h6, hc0]) ⟨_, rfl, Lo.refl _, rfl⟩, fun h => by rw [wanted_free rfl] at h; cases h⟩
    | 5, _ =>
      injection ho with ho; subst ho
      have h7 : a.eval (.tmp 7) = .slice A1 n1 p1 := hd 4 (by kernel_rfl) 7 (by kernel_rfl)
      simp [Act.eval] at h7
      refine ⟨fun _ => ?_, fun h => by rw [wanted_free rfl] at h; cases h⟩
      refine wp_call_of (f := 153) (args := #[.slice A1 n1 p1]) (by simp [go_sem, h7]) (C1.out w' (hlz.trans hl)) ?_
      rintro e w2 ⟨A, cap, rfl, hb, hft⟩
      exact ⟨_, rfl, _, rfl, hb, A, cap, rfl, New.base hft hl.size⟩
    | 6, _ =>
      injection ho with ho; subst ho
      have h1 : a.eval (.tmp 1) = .pointer (some ⟨w.heap.size, 0, none⟩) := hold 1 (by kernel_rfl)
      simp [Act.eval] at h1
      exact ⟨fun _ => wp_of_run (v := .pointer (some ⟨w.heap.size, 2, none⟩)) (w' := w') (by simp [go_sem, h1]) ⟨_, rfl, Lo.refl _, rfl⟩, fun h => by rw [wanted_free rfl] at h; cases h⟩
    | 7, _ =>
      injection ho with ho; subst ho
      have h9 : a.eval (.tmp 9) = .pointer (some ⟨w.heap.size, 2, none⟩) := hd 6 (by kernel_rfl) 9 (by kernel_rfl)
      have hc0 := lo_keep hl a2
      simp [Act.eval] at h9
      exact ⟨fun _ => wp_of_run (v := .slice A2 n2 p2) (w' := w') (by simp [go_sem, h9, hc0]) ⟨_, rfl, Lo.refl _, rfl⟩, fun h => by rw [wanted_free rfl] at h; cases h⟩
    | 8, _ =>
      injection ho with ho; subst ho
      have h10 : a.eval (.tmp 10) = .slice A2 n2 p2 := hd 7 (by kernel_rfl) 10 (by kernel_rfl)
      simp [Act.eval] at h10
      refine ⟨fun _ => ?_, fun h => by rw [wanted_free rfl] at h; cases h⟩
      refine wp_call_of (f := 153) (args := #[.slice A2 n2 p2]) (by simp [go_sem, h10]) (C2.out w' (hlz.trans hl)) ?_
      rintro e w2 ⟨A, cap, rfl, hb, hft⟩
      exact ⟨_, rfl, _, rfl, hb, A, cap, rfl, New.base hft hl.size⟩
    | 9, _ =>
      injection ho with ho; subst ho
      have h1 : a.eval (.tmp 1) = .pointer (some ⟨w.heap.size, 0, none⟩) := hold 1 (by kernel_rfl)
      simp [Act.eval] at h1
      exact ⟨fun _ => wp_of_run (v := .pointer (some ⟨w.heap.size, 3, none⟩)) (w' := w') (by simp [go_sem, h1]) ⟨_, rfl, Lo.refl _, rfl⟩, fun h => by rw [wanted_free rfl] at h; cases h⟩
    | 10, _ =>
      injection ho with ho; subst ho
      have h12 : a.eval (.tmp 12) = .pointer (some ⟨w.heap.size, 3, none⟩) := hd 9 (by kernel_rfl) 12 (by kernel_rfl)
      have hc0 := lo_keep hl a3
      simp [Act.eval] at h12
      exact ⟨fun _ => wp_of_run (v := .slice A3 n3 p3) (w' := w') (by simp [go_sem, h12, hc0]) ⟨_, rfl, Lo.refl _, rfl⟩, fun h => by rw [wanted_free rfl] at h; cases h⟩
    | 11, _ =>
      injection ho with ho; subst ho
      have h13 : a.eval (.tmp 13) = .slice A3 n3 p3 := hd 10 (by kernel_rfl) 13 (by kernel_rfl)
      simp [Act.eval] at h13
      refine ⟨fun _ => ?_, fun h => by rw [wanted_free rfl] at h; cases h⟩
      refine wp_call_of (f := 153) (args := #[.slice A3 n3 p3]) (by simp [go_sem, h13]) (C3.out w' (hlz.trans hl)) ?_
      rintro e w2 ⟨A, cap, rfl, hb, hft⟩
      exact ⟨_, rfl, _, rfl, hb, A, cap, rfl, New.base hft hl.size⟩
    | 12, _ =>
      injection ho with ho; subst ho
      have h1 : a.eval (.tmp 1) = .pointer (some ⟨w.heap.size, 0, none⟩) := hold 1 (by kernel_rfl)
      simp [Act.eval] at h1
      exact ⟨fun _ => wp_of_run (v := .pointer (some ⟨w.heap.size, 0, none⟩)) (w' := w') (by simp [go_sem, h1]) ⟨_, rfl, Lo.refl _, rfl⟩, fun h => by rw [wanted_free rfl] at h; cases h⟩
  · intro v w2 hq hp
    have p_0 := hp 0 (by omega)
    have p_1 := hp 1 (by omega)
    have p_2 := hp 2 (by omega)
    have p_3 := hp 3 (by omega)
    have p_4 := hp 4 (by omega)
    have p_5 := hp 5 (by omega)
    have p_6 := hp 6 (by omega)
    have p_7 := hp 7 (by omega)
    have p_8 := hp 8 (by omega)
    have p_9 := hp 9 (by omega)
    have p_10 := hp 10 (by omega)
    have p_11 := hp 11 (by omega)
    have p_12 := hp 12 (by omega)
    clear hp
    simp only [List.range_succ, List.range_zero, List.nil_append, List.cons_append, List.foldl_cons, List.foldl_nil, List.drop_succ_cons, List.drop_zero, dstOf, List.getElem?_toArray, List.getElem?_cons_zero, List.getElem?_cons_succ, Option.bind_some, Act.put, List.setIfInBounds_toArray, List.set_cons_zero, List.set_cons_succ]
    generalize v 0 = v0 at *
    generalize v 1 = v1 at *
    generalize v 2 = v2 at *
    generalize v 3 = v3 at *
    generalize v 4 = v4 at *
    generalize v 5 = v5 at *
    generalize v 6 = v6 at *
    generalize v 7 = v7 at *
    generalize v 8 = v8 at *
    generalize v 9 = v9 at *
    generalize v 10 = v10 at *
    generalize v 11 = v11 at *
    generalize v 12 = v12 at *
    subst p_0
    subst p_1
    obtain ⟨ya0, yk0, rfl, g0⟩ := p_2
    subst p_3
    subst p_4
    obtain ⟨ya1, yk1, rfl, g1⟩ := p_5
    subst p_6
    subst p_7
    obtain ⟨ya2, yk2, rfl, g2⟩ := p_8
    subst p_9
    subst p_10
    obtain ⟨ya3, yk3, rfl, g3⟩ := p_11
    subst p_12
    replace u0 := (hq.facts.2.1 _ 0 (by omega)).trans u0
    replace s0 := (hq.facts.2.1 _ 0 hz1).trans s0
    replace a0 := lo_keep hq a0
    replace r0 := lo_keep hq r0
    replace u1 := (hq.facts.2.1 _ 1 (by omega)).trans u1
    replace s1 := (hq.facts.2.1 _ 1 hz1).trans s1
    replace a1 := lo_keep hq a1
    replace r1 := lo_keep hq r1
    replace u2 := (hq.facts.2.1 _ 2 (by omega)).trans u2
    replace s2 := (hq.facts.2.1 _ 2 hz1).trans s2
    replace a2 := lo_keep hq a2
    replace r2 := lo_keep hq r2
    replace u3 := (hq.facts.2.1 _ 3 (by omega)).trans u3
    replace s3 := (hq.facts.2.1 _ 3 hz1).trans s3
    replace a3 := lo_keep hq a3
    replace r3 := lo_keep hq r3
    have hzw := hq.size
    have hl2 := hlz.trans hq
    clear hq hlz
    go_wp2
    obtain ⟨w9, h9⟩ : ∃ w9, ((((((((w2.setCell ⟨w.heap.size, 0, none⟩ (.slice ya0 n0 yk0)).setCell ⟨w.heap.size, 1, none⟩ (.slice ya1 n1 yk1)).setCell ⟨w.heap.size, 2, none⟩ (.slice ya2 n2 yk2)).setCell ⟨w.heap.size, 3, none⟩ (.slice ya3 n3 yk3)).setCell ⟨w.heap.size + 1, 0, none⟩ (.slice ya0 n0 yk0)).setCell ⟨w.heap.size + 1, 1, none⟩ (.slice ya1 n1 yk1)).setCell ⟨w.heap.size + 1, 2, none⟩ (.slice ya2 n2 yk2)).setCell ⟨w.heap.size + 1, 3, none⟩ (.slice ya3 n3 yk3)) = w9 := ⟨_, rfl⟩
    rw [h9]
    have q0 : w9.cell? ⟨w.heap.size + 1, 0, none⟩ = some (.slice ya0 n0 yk0) := by
      rw [← h9]
      rw [setCell_other _ _ _ _ _ _ (by simp)]
      rw [setCell_other _ _ _ _ _ _ (by simp)]
      rw [setCell_other _ _ _ _ _ _ (by simp)]
      refine World.cell?_setCell_same _ _ _ (u := .slice none 0 0) ?_
      rw [setCell_other _ _ _ _ _ _ (by simp), setCell_other _ _ _ _ _ _ (by simp), setCell_other _ _ _ _ _ _ (by simp), setCell_other _ _ _ _ _ _ (by simp)]
      exact r0
    have q1 : w9.cell? ⟨w.heap.size + 1, 1, none⟩ = some (.slice ya1 n1 yk1) := by
      rw [← h9]
      rw [setCell_other _ _ _ _ _ _ (by simp)]
      rw [setCell_other _ _ _ _ _ _ (by simp)]
      refine World.cell?_setCell_same _ _ _ (u := .slice none 0 0) ?_
      rw [setCell_other _ _ _ _ _ _ (by simp), setCell_other _ _ _ _ _ _ (by simp), setCell_other _ _ _ _ _ _ (by simp), setCell_other _ _ _ _ _ _ (by simp), setCell_other _ _ _ _ _ _ (by simp)]
      exact r1
    have q2 : w9.cell? ⟨w.heap.size + 1, 2, none⟩ = some (.slice ya2 n2 yk2) := by
      rw [← h9]
      rw [setCell_other _ _ _ _ _ _ (by simp)]
      refine World.cell?_setCell_same _ _ _ (u := .slice none 0 0) ?_
      rw [setCell_other _ _ _ _ _ _ (by simp), setCell_other _ _ _ _ _ _ (by simp), setCell_other _ _ _ _ _ _ (by simp), setCell_other _ _ _ _ _ _ (by simp), setCell_other _ _ _ _ _ _ (by simp), setCell_other _ _ _ _ _ _ (by simp)]
      exact r2
    have q3 : w9.cell? ⟨w.heap.size + 1, 3, none⟩ = some (.slice ya3 n3 yk3) := by
      rw [← h9]
      refine World.cell?_setCell_same _ _ _ (u := .slice none 0 0) ?_
      rw [setCell_other _ _ _ _ _ _ (by simp), setCell_other _ _ _ _ _ _ (by simp), setCell_other _ _ _ _ _ _ (by simp), setCell_other _ _ _ _ _ _ (by simp), setCell_other _ _ _ _ _ _ (by simp), setCell_other _ _ _ _ _ _ (by simp), setCell_other _ _ _ _ _ _ (by simp)]
      exact r3
    have hl9 : Lo w w9 := by rw [← h9]; exact (Lo.setCell (Lo.setCell (Lo.setCell (Lo.setCell (Lo.setCell (Lo.setCell (Lo.setCell (Lo.setCell hl2 (by simp) _) (by simp) _) (by simp) _) (by simp) _) (by simp) _) (by simp) _) (by simp) _) (by simp) _)
    have hs9 : w9.heap.size = w2.heap.size := by rw [← h9]; simp
    have hfar : ∀ p : Addr, wz.heap.size ≤ p.block → w9.cell? p = w2.cell? p := fun p hp => by
      rw [← h9]
      rw [setCell_far _ _ _ _ (by simp; omega), setCell_far _ _ _ _ (by simp; omega), setCell_far _ _ _ _ (by simp; omega), setCell_far _ _ _ _ (by simp; omega), setCell_far _ _ _ _ (by simp; omega), setCell_far _ _ _ _ (by simp; omega), setCell_far _ _ _ _ (by simp; omega), setCell_far _ _ _ _ (by simp; omega)]
    have hN := ((HE.out wz.heap.size w2 ya0 yk0 ya1 yk1 ya2 yk2 ya3 yk3 g0 g1 g2 g3).keep (w1 := w9) fun p hp => hfar p hp.1).mono (S' := fun b => w.heap.size ≤ b ∧ b < w9.heap.size) fun b hb => ⟨by omega, by omega⟩
    clear h9
    exact bodyPost_ret (v := .agg #[.slice ya0 n0 yk0, .slice ya1 n1 yk1, .slice ya2 n2 yk2, .slice ya3 n3 yk3]) (by simp [results, Try.results146, go_sem, q0, q1, q2, q3]) rfl ⟨ya0, ya1, ya2, ya3, yk0, yk1, yk2, yk3, rfl, hl9, hN⟩
end Go.Proofs.Ytlcecabfmemfeaa.WAuth

/- The walks of policy.ownWhen, ownRule, Own. (Written by mk_own.py.) -/
namespace Go.Proofs.Ytlcecabfmemfeaa.WAuth
set_option linter.unusedVariables false
set_option linter.unusedSimpArgs false
open Go.RowKit Mem BigFrame WMatch WAddr WName Opn
theorem any_no {α : Type} {p : α → Bool} {xs : List α} (h : xs.any p = false) {x : α} (hx : x ∈ xs) : p x = false := by
  rw [List.any_eq_false] at h
  simpa using h x hx
theorem sourceShape (B : Nat) (w : World) (x : Pl.Source) (cs : List Value) (h : SourceR B w x cs) : ∃ (xa0 : Option Addr) (xn0 xk0 : Nat) (xa1 : Option Addr) (xn1 xk1 : Nat) (xa2 : Option Addr) (xn2 xk2 : Nat), cs = [.slice xa0 xn0 xk0, .slice xa1 xn1 xk1, .slice xa2 xn2 xk2] := by
  obtain ⟨_, _, _, rfl, ⟨_, _, e0, -⟩, ⟨_, _, e1, -⟩, ⟨_, _, e2, -⟩⟩ := h
  injection e0 with e0; injection e1 with e1; injection e2 with e2; subst e0 e1 e2
  exact ⟨_, _, _, _, _, _, _, _, _, rfl⟩
theorem targetShape (B : Nat) (w : World) (x : Pl.Target) (cs : List Value) (h : TargetR B w x cs) : ∃ (xa0 : Option Addr) (xn0 xk0 : Nat) (xa1 : Option Addr) (xn1 xk1 : Nat) (xa2 : Option Addr) (xn2 xk2 : Nat) (xa3 : Option Addr) (xn3 xk3 : Nat), cs = [.slice xa0 xn0 xk0, .slice xa1 xn1 xk1, .slice xa2 xn2 xk2, .slice xa3 xn3 xk3] := by
  obtain ⟨_, _, _, _, rfl, ⟨_, _, e0, -⟩, ⟨_, _, e1, -⟩, ⟨_, _, e2, -⟩, ⟨_, _, e3, -⟩⟩ := h
  injection e0 with e0; injection e1 with e1; injection e2 with e2; injection e3 with e3; subst e0 e1 e2 e3
  exact ⟨_, _, _, _, _, _, _, _, _, _, _, _, rfl⟩
theorem whenShape (B : Nat) (w : World) (x : Pl.When) (cs : List Value) (h : WhenR B w x cs) : ∃ (xt0 : ByteArray) (xa1 : Option Addr) (xn1 xk1 : Nat), cs = [.string xt0, .slice xa1 xn1 xk1] := by
  obtain ⟨_, _, rfl, ⟨e0, -⟩, ⟨_, _, e1, -⟩⟩ := h
  injection e0 with e0; injection e1 with e1; subst e0 e1
  exact ⟨_, _, _, _, rfl⟩
theorem ruleShape (B : Nat) (w : World) (x : Pl.Rule) (cs : List Value) (h : RuleR B w x cs) : ∃ (xa0 : Option Addr) (xn0 xk0 : Nat) (xa1 : Option Addr) (xn1 xk1 : Nat) (xa2 : Option Addr) (xn2 xk2 : Nat), cs = [.slice xa0 xn0 xk0, .slice xa1 xn1 xk1, .slice xa2 xn2 xk2] := by
  obtain ⟨_, _, _, rfl, ⟨_, _, e0, -⟩, ⟨_, _, e1, -⟩, ⟨_, _, e2, -⟩⟩ := h
  injection e0 with e0; injection e1 with e1; injection e2 with e2; subst e0 e1 e2
  exact ⟨_, _, _, _, _, _, _, _, _, rfl⟩
theorem ownSource_out {x : Pl.Source} {W w' : World} {e : Ending} (h : ∃ ya0 ya1 ya2 yk0 yk1 yk2, e = .returned (.agg #[.slice ya0 x.names.length yk0, .slice ya1 x.spaces.length yk1, .slice ya2 x.nets.length yk2]) ∧ Lo W w' ∧ New W.heap.size SourceR w' x [.slice ya0 x.names.length yk0, .slice ya1 x.spaces.length yk1, .slice ya2 x.nets.length yk2]) :
    ∃ (ya0 : Option Addr) (yn0 yk0 : Nat) (ya1 : Option Addr) (yn1 yk1 : Nat) (ya2 : Option Addr) (yn2 yk2 : Nat), e = .returned (.agg #[.slice ya0 yn0 yk0, .slice ya1 yn1 yk1, .slice ya2 yn2 yk2]) ∧ Lo W w' ∧ Foot (fun b => W.heap.size ≤ b ∧ b < w'.heap.size) SourceR w' x [.slice ya0 yn0 yk0, .slice ya1 yn1 yk1, .slice ya2 yn2 yk2] := by
  obtain ⟨a0, a1, a2, k0, k1, k2, h1, h2, h3⟩ := h
  exact ⟨_, _, _, _, _, _, _, _, _, h1, h2, h3⟩
theorem ownTarget_out {x : Pl.Target} {W w' : World} {e : Ending} (h : ∃ ya0 ya1 ya2 ya3 yk0 yk1 yk2 yk3, e = .returned (.agg #[.slice ya0 x.ports.length yk0, .slice ya1 x.methods.length yk1, .slice ya2 x.paths.length yk2, .slice ya3 x.hosts.length yk3]) ∧ Lo W w' ∧ New W.heap.size TargetR w' x [.slice ya0 x.ports.length yk0, .slice ya1 x.methods.length yk1, .slice ya2 x.paths.length yk2, .slice ya3 x.hosts.length yk3]) :
    ∃ (ya0 : Option Addr) (yn0 yk0 : Nat) (ya1 : Option Addr) (yn1 yk1 : Nat) (ya2 : Option Addr) (yn2 yk2 : Nat) (ya3 : Option Addr) (yn3 yk3 : Nat), e = .returned (.agg #[.slice ya0 yn0 yk0, .slice ya1 yn1 yk1, .slice ya2 yn2 yk2, .slice ya3 yn3 yk3]) ∧ Lo W w' ∧ Foot (fun b => W.heap.size ≤ b ∧ b < w'.heap.size) TargetR w' x [.slice ya0 yn0 yk0, .slice ya1 yn1 yk1, .slice ya2 yn2 yk2, .slice ya3 yn3 yk3] := by
  obtain ⟨a0, a1, a2, a3, k0, k1, k2, k3, h1, h2, h3⟩ := h
  exact ⟨_, _, _, _, _, _, _, _, _, _, _, _, h1, h2, h3⟩
theorem ownRule_out {x : Pl.Rule} {W w' : World} {e : Ending} (h : ∃ ya0 ya1 ya2 yk0 yk1 yk2, e = .returned (.agg #[.slice ya0 x.from_.length yk0, .slice ya1 x.to_.length yk1, .slice ya2 x.when_.length yk2]) ∧ Lo W w' ∧ New W.heap.size RuleR w' x [.slice ya0 x.from_.length yk0, .slice ya1 x.to_.length yk1, .slice ya2 x.when_.length yk2]) :
    ∃ (ya0 : Option Addr) (yn0 yk0 : Nat) (ya1 : Option Addr) (yn1 yk1 : Nat) (ya2 : Option Addr) (yn2 yk2 : Nat), e = .returned (.agg #[.slice ya0 yn0 yk0, .slice ya1 yn1 yk1, .slice ya2 yn2 yk2]) ∧ Lo W w' ∧ Foot (fun b => W.heap.size ≤ b ∧ b < w'.heap.size) RuleR w' x [.slice ya0 yn0 yk0, .slice ya1 yn1 yk1, .slice ya2 yn2 yk2] := by
  obtain ⟨a0, a1, a2, k0, k1, k2, h1, h2, h3⟩ := h
  exact ⟨_, _, _, _, _, _, _, _, _, h1, h2, h3⟩

set_option maxRecDepth 100000 in
set_option maxHeartbeats 8000000 in
theorem ownWhen (s : Pl.When) (c0 c1 : Value) {B : Nat} (w : World) (hB : B ≤ w.heap.size) (hs : WhenR B w s [c0, c1]) (hlong : whenLong s = false) :
    Calls Try.prog 148 #[.agg #[c0, c1]] w fun e w' => ∃ ya1 yk1, e = .returned (.agg #[.string s.head, .slice ya1 s.terms.length yk1]) ∧ Lo w w' ∧ New w.heap.size WhenR w' s [.string s.head, .slice ya1 s.terms.length yk1] := by
  obtain ⟨d0, d1, he, ⟨e0, z0⟩, ⟨A1, p1, e1, h1, l1, m1⟩⟩ := hs
  injection he with q0 he; injection he with q1 he
  subst q0 q1
  injection e0 with e0; injection e1 with e1
  subst e0 e1
  simp only [whenLong, termsB, List.any_cons, List.any_nil, Bool.or_eq_false_iff, decide_eq_false_iff_not] at hlong
  have b1 := row_bound hlong.1.1
  have C1 : Hid (∀ W, Lo w W → Calls Try.prog 153 #[.slice A1 s.terms.length p1] W fun e w' => ∃ A cap, e = .returned (.slice A s.terms.length cap) ∧ Lo W w' ∧ New W.heap.size (SliceC TermR 2) w' s.terms [.slice A s.terms.length cap]) := Lib.hid fun W hW => by
    refine (WCloneTerm.clone TermR.kept A1 p1 s.terms W (Nat.le_trans hB hW.size) (SliceAt.lo TermR.kept h1 hW hB) (fun x cs h => TermR.one h) (by omega)).mono ?_
    rintro e w' ⟨v, rfl, hl, hrow⟩
    obtain ⟨A, cap, rfl, hft⟩ := (hrow.flat (T' := fun b => W.heap.size ≤ b) TermR.flat).fresh
    exact ⟨A, cap, rfl, hl, hft⟩
  clear h1
  have HE : Hid (∀ (bs : Nat) (W : World) (ya1 : Option Addr) (yk1 : Nat), New bs (SliceC TermR 2) W s.terms [.slice ya1 s.terms.length yk1] → New bs WhenR W s [.string s.head, .slice ya1 s.terms.length yk1]) := Lib.hid fun bs W ya1 yk1 g1 w' B hw hB => ⟨_, _, rfl, ⟨rfl, z0⟩, g1 w' B hw hB⟩
  obtain ⟨n1, hn1⟩ : ∃ n, s.terms.length = n := ⟨_, rfl⟩
  obtain ⟨t0, ht0⟩ : ∃ t, s.head = t := ⟨_, rfl⟩
  simp only [hn1, ht0] at C1 HE ⊢
  clear hn1 ht0 z0
  go_enter Try.func148, Try.ntmps148
  go_wp2_with fail
  refine (C1.out _ ?_).mono ?_
  · exact (by repeat (first | exact Lo.refl _ | assumption | refine Lo.drew ?_ | refine Lo.alloc ?_ _ | refine Lo.setCell ?_ (by first | (dsimp only; omega) | (simp; omega) | (simp; done)) _ | refine Lo.trans ?_ (by assumption)))
  rintro e w2 ⟨ya1, yk1, rfl, hb, g1⟩
  have hlw2 : Lo w w2 := (((Lo.refl w).alloc _).alloc _).trans hb
  have hz2 : w.heap.size + 1 < w2.heap.size := hb.facts.2.2 _ (by simp)
  have a0 : w2.cell? ⟨w.heap.size, 0, none⟩ = some (.string t0) := lo_keep hb (by simp)
  have a1 : w2.cell? ⟨w.heap.size, 1, none⟩ = some (.slice A1 n1 p1) := lo_keep hb (by simp)
  have r0 : w2.cell? ⟨w.heap.size + 1, 0, none⟩ = some (.string ⟨#[]⟩) := lo_keep hb (by simp)
  have r1 : w2.cell? ⟨w.heap.size + 1, 1, none⟩ = some (.slice none 0 0) := lo_keep hb (by simp)
  have u0 : w2.frozen? ⟨w.heap.size, 0, none⟩ = false := (hb.facts.2.1 _ 0 (by simp; omega)).trans (by simp)
  have u1 : w2.frozen? ⟨w.heap.size, 1, none⟩ = false := (hb.facts.2.1 _ 1 (by simp; omega)).trans (by simp)
  have s0 : w2.frozen? ⟨w.heap.size + 1, 0, none⟩ = false := (hb.facts.2.1 _ 0 (by simp)).trans (by simp)
  have s1 : w2.frozen? ⟨w.heap.size + 1, 1, none⟩ = false := (hb.facts.2.1 _ 1 (by simp)).trans (by simp)
  have hsb : w.heap.size + 2 ≤ w2.heap.size := by omega
  have g1 := New.base (base' := w.heap.size + 2) g1 (by simp)
  clear hb
  go_wp2
  obtain ⟨w9, h9⟩ : ∃ w9, (((w2.setCell ⟨w.heap.size, 1, none⟩ (.slice ya1 n1 yk1)).setCell ⟨w.heap.size + 1, 0, none⟩ (.string t0)).setCell ⟨w.heap.size + 1, 1, none⟩ (.slice ya1 n1 yk1)) = w9 := ⟨_, rfl⟩
  rw [h9]
  have q0 : w9.cell? ⟨w.heap.size + 1, 0, none⟩ = some (.string t0) := by
    rw [← h9, setCell_other _ _ _ _ _ _ (by simp)]
    refine World.cell?_setCell_same _ _ _ (u := .string ⟨#[]⟩) ?_
    rw [setCell_other _ _ _ _ _ _ (by simp)]
    exact r0
  have q1 : w9.cell? ⟨w.heap.size + 1, 1, none⟩ = some (.slice ya1 n1 yk1) := by
    rw [← h9]
    refine World.cell?_setCell_same _ _ _ (u := .slice none 0 0) ?_
    rw [setCell_other _ _ _ _ _ _ (by simp), setCell_other _ _ _ _ _ _ (by simp)]
    exact r1
  have hl9 : Lo w w9 := by rw [← h9]; exact Lo.setCell (Lo.setCell (Lo.setCell hlw2 (by simp) _) (by simp) _) (by simp) _
  have hs9 : w9.heap.size = w2.heap.size := by rw [← h9]; simp
  have hfar : ∀ p : Addr, w.heap.size + 2 ≤ p.block → w9.cell? p = w2.cell? p := fun p hp => by
    rw [← h9]
    rw [setCell_far _ _ _ _ (by simp; omega), setCell_far _ _ _ _ (by simp; omega), setCell_far _ _ _ _ (by simp; omega)]
  have hN := ((HE.out (w.heap.size + 2) w2 ya1 yk1 g1).keep (w1 := w9) fun p hp => hfar p hp.1).mono (S' := fun b => w.heap.size ≤ b ∧ b < w9.heap.size) fun b hb => ⟨by omega, by omega⟩
  clear h9
  exact bodyPost_ret (v := .agg #[.string t0, .slice ya1 n1 yk1]) (by simp [results, Try.results148, go_sem, q0, q1]) rfl ⟨ya1, yk1, rfl, hl9, hN⟩
theorem ownWhen_out {x : Pl.When} {W w' : World} {e : Ending} (h : ∃ ya1 yk1, e = .returned (.agg #[.string x.head, .slice ya1 x.terms.length yk1]) ∧ Lo W w' ∧ New W.heap.size WhenR w' x [.string x.head, .slice ya1 x.terms.length yk1]) :
    ∃ (yt0 : ByteArray) (ya1 : Option Addr) (yn1 yk1 : Nat), e = .returned (.agg #[.string yt0, .slice ya1 yn1 yk1]) ∧ Lo W w' ∧ Foot (fun b => W.heap.size ≤ b ∧ b < w'.heap.size) WhenR w' x [.string yt0, .slice ya1 yn1 yk1] := by
  obtain ⟨a1, k1, h1, h2, h3⟩ := h
  exact ⟨_, _, _, _, h1, h2, h3⟩
theorem enters_ownSource : Enters Try.prog 144 := enters_of Try.func144 (by kernel_rfl) rfl
theorem enters_ownTarget : Enters Try.prog 146 := enters_of Try.func146 (by kernel_rfl) rfl
theorem enters_ownWhen : Enters Try.prog 148 := enters_of Try.func148 (by kernel_rfl) rfl
set_option maxRecDepth 100000 in
set_option maxHeartbeats 8000000 in
theorem ownRule (s : Pl.Rule) (c0 c1 c2 : Value) {B : Nat} (w : World) (hB : B ≤ w.heap.size) (hs : RuleR B w s [c0, c1, c2]) (hlong : longRule s = false) :
    Calls Try.prog 128 #[.agg #[c0, c1, c2]] w fun e w' => ∃ ya0 ya1 ya2 yk0 yk1 yk2, e = .returned (.agg #[.slice ya0 s.from_.length yk0, .slice ya1 s.to_.length yk1, .slice ya2 s.when_.length yk2]) ∧ Lo w w' ∧ New w.heap.size RuleR w' s [.slice ya0 s.from_.length yk0, .slice ya1 s.to_.length yk1, .slice ya2 s.when_.length yk2] := by
  obtain ⟨d0, d1, d2, he, ⟨A0, p0, e0, h0, l0, m0⟩, ⟨A1, p1, e1, h1, l1, m1⟩, ⟨A2, p2, e2, h2, l2, m2⟩⟩ := hs
  injection he with q0 he; injection he with q1 he; injection he with q2 he
  subst q0 q1 q2
  injection e0 with e0; injection e1 with e1; injection e2 with e2
  subst e0 e1 e2
  simp only [longRule, Bool.or_eq_false_iff, decide_eq_false_iff_not] at hlong; have b0 := hlong.1.1.1.1.1; have b1 := hlong.1.1.1.1.2; have b2 := hlong.1.1.1.2; have hlong0 := hlong.1.1.2; have hlong1 := hlong.1.2; have hlong2 := hlong.2
  have C0 : Hid (∀ W, Lo w W → Calls Try.prog 143 #[.slice A0 s.from_.length p0, .func (.func 144) #[] #[]] W fun e w' => ∃ A cap, e = .returned (.slice A s.from_.length cap) ∧ Lo W w' ∧ New W.heap.size (SliceC SourceR 3) w' s.from_ [.slice A s.from_.length cap]) := Lib.hid fun W hW => by
    refine (MPolicySource.mapped SourceR.kept (fun x => x) A0 p0 s.from_ W (Nat.le_trans hB hW.size) (SliceAt.lo SourceR.kept h0 hW hB) (by omega) enters_ownSource sourceShape ?_).mono ?_
    · intro W' x xa0 xn0 xk0 xa1 xn1 xk1 xa2 xn2 xk2 hx hlo hr
      refine (ownSource x _ _ _ W' (Nat.le_trans hB (hW.trans hlo).size) hr (any_no hlong0 hx)).mono ?_
      rintro e w' h
      exact ownSource_out h
    · rintro e w' ⟨v, rfl, hl, hrow⟩
      rw [List.map_id'] at hrow
      obtain ⟨A, cap, rfl, hft⟩ := hrow.fresh
      exact ⟨A, cap, rfl, hl, hft⟩
  have C1 : Hid (∀ W, Lo w W → Calls Try.prog 145 #[.slice A1 s.to_.length p1, .func (.func 146) #[] #[]] W fun e w' => ∃ A cap, e = .returned (.slice A s.to_.length cap) ∧ Lo W w' ∧ New W.heap.size (SliceC TargetR 4) w' s.to_ [.slice A s.to_.length cap]) := Lib.hid fun W hW => by
    refine (MPolicyTarget.mapped TargetR.kept (fun x => x) A1 p1 s.to_ W (Nat.le_trans hB hW.size) (SliceAt.lo TargetR.kept h1 hW hB) (by omega) enters_ownTarget targetShape ?_).mono ?_
    · intro W' x xa0 xn0 xk0 xa1 xn1 xk1 xa2 xn2 xk2 xa3 xn3 xk3 hx hlo hr
      refine (ownTarget x _ _ _ _ W' (Nat.le_trans hB (hW.trans hlo).size) hr (any_no hlong1 hx)).mono ?_
      rintro e w' h
      exact ownTarget_out h
    · rintro e w' ⟨v, rfl, hl, hrow⟩
      rw [List.map_id'] at hrow
      obtain ⟨A, cap, rfl, hft⟩ := hrow.fresh
      exact ⟨A, cap, rfl, hl, hft⟩
  have C2 : Hid (∀ W, Lo w W → Calls Try.prog 147 #[.slice A2 s.when_.length p2, .func (.func 148) #[] #[]] W fun e w' => ∃ A cap, e = .returned (.slice A s.when_.length cap) ∧ Lo W w' ∧ New W.heap.size (SliceC WhenR 2) w' s.when_ [.slice A s.when_.length cap]) := Lib.hid fun W hW => by
    refine (MPolicyWhen.mapped WhenR.kept (fun x => x) A2 p2 s.when_ W (Nat.le_trans hB hW.size) (SliceAt.lo WhenR.kept h2 hW hB) (by omega) enters_ownWhen whenShape ?_).mono ?_
    · intro W' x xt0 xa1 xn1 xk1 hx hlo hr
      refine (ownWhen x _ _ W' (Nat.le_trans hB (hW.trans hlo).size) hr (any_no hlong2 hx)).mono ?_
      rintro e w' h
      exact ownWhen_out h
    · rintro e w' ⟨v, rfl, hl, hrow⟩
      rw [List.map_id'] at hrow
      obtain ⟨A, cap, rfl, hft⟩ := hrow.fresh
      exact ⟨A, cap, rfl, hl, hft⟩
  clear h0 h1 h2
  obtain ⟨n0, hn0⟩ : ∃ n, s.from_.length = n := ⟨_, rfl⟩
  obtain ⟨n1, hn1⟩ : ∃ n, s.to_.length = n := ⟨_, rfl⟩
  obtain ⟨n2, hn2⟩ : ∃ n, s.when_.length = n := ⟨_, rfl⟩
  have HE : Hid (∀ (bs : Nat) (W : World) (ya0 : Option Addr) (yk0 : Nat) (ya1 : Option Addr) (yk1 : Nat) (ya2 : Option Addr) (yk2 : Nat), New bs (SliceC SourceR 3) W s.from_ [.slice ya0 s.from_.length yk0] → New bs (SliceC TargetR 4) W s.to_ [.slice ya1 s.to_.length yk1] → New bs (SliceC WhenR 2) W s.when_ [.slice ya2 s.when_.length yk2] → New bs RuleR W s [.slice ya0 s.from_.length yk0, .slice ya1 s.to_.length yk1, .slice ya2 s.when_.length yk2]) := Lib.hid fun bs W ya0 yk0 ya1 yk1 ya2 yk2 g0 g1 g2 w' B hw hB => ⟨_, _, _, rfl, g0 w' B hw hB, g1 w' B hw hB, g2 w' B hw hB⟩
  simp only [hn0, hn1, hn2] at C0 C1 C2 HE ⊢
  clear hn0 hn1 hn2
  go_enter Try.func128, Try.ntmps128
  go_wp2_with fail
  obtain ⟨wz, hw⟩ : ∃ wz, (w.alloc (.cells #[.slice A0 n0 p0, .slice A1 n1 p1, .slice A2 n2 p2] 71)).alloc (.cells #[.slice none 0 0, .slice none 0 0, .slice none 0 0] 71) = wz := ⟨_, rfl⟩
  rw [hw]
  have hlz : Lo w wz := by rw [← hw]; exact (by repeat (first | exact Lo.refl _ | assumption | refine Lo.drew ?_ | refine Lo.alloc ?_ _ | refine Lo.setCell ?_ (by first | (dsimp only; omega) | (simp; omega) | (simp; done)) _ | refine Lo.trans ?_ (by assumption)))
  have a0 : wz.cell? ⟨w.heap.size, 0, none⟩ = some (.slice A0 n0 p0) := by rw [← hw]; simp
  have r0 : wz.cell? ⟨w.heap.size + 1, 0, none⟩ = some (.slice none 0 0) := by rw [← hw]; simp
  have u0 : wz.frozen? ⟨w.heap.size, 0, none⟩ = false := by rw [← hw]; simp
  have s0 : wz.frozen? ⟨w.heap.size + 1, 0, none⟩ = false := by rw [← hw]; simp
  have a1 : wz.cell? ⟨w.heap.size, 1, none⟩ = some (.slice A1 n1 p1) := by rw [← hw]; simp
  have r1 : wz.cell? ⟨w.heap.size + 1, 1, none⟩ = some (.slice none 0 0) := by rw [← hw]; simp
  have u1 : wz.frozen? ⟨w.heap.size, 1, none⟩ = false := by rw [← hw]; simp
  have s1 : wz.frozen? ⟨w.heap.size + 1, 1, none⟩ = false := by rw [← hw]; simp
  have a2 : wz.cell? ⟨w.heap.size, 2, none⟩ = some (.slice A2 n2 p2) := by rw [← hw]; simp
  have r2 : wz.cell? ⟨w.heap.size + 1, 2, none⟩ = some (.slice none 0 0) := by rw [← hw]; simp
  have u2 : wz.frozen? ⟨w.heap.size, 2, none⟩ = false := by rw [← hw]; simp
  have s2 : wz.frozen? ⟨w.heap.size + 1, 2, none⟩ = false := by rw [← hw]; simp
  have hz1 : w.heap.size + 1 < wz.heap.size := World.block_lt_of_cell? _ _ r0
  clear hw
  refine wp_region_mix 10 16 (fun i v w' => match i with
        | 0 => v = .pointer (some ⟨w.heap.size, 0, none⟩)
        | 1 => v = .slice A0 n0 p0
        | 2 => ∃ A cap, v = .slice A n0 cap ∧ New wz.heap.size (SliceC SourceR 3) w' s.from_ [.slice A n0 cap]
        | 3 => v = .pointer (some ⟨w.heap.size, 1, none⟩)
        | 4 => v = .slice A1 n1 p1
        | 5 => ∃ A cap, v = .slice A n1 cap ∧ New wz.heap.size (SliceC TargetR 4) w' s.to_ [.slice A n1 cap]
        | 6 => v = .pointer (some ⟨w.heap.size, 2, none⟩)
        | 7 => v = .slice A2 n2 p2
        | 8 => ∃ A cap, v = .slice A n2 cap ∧ New wz.heap.size (SliceC WhenR 2) w' s.when_ [.slice A n2 cap]
        | 9 => v = .pointer (some ⟨w.heap.size, 0, none⟩)
        | _ => True) (by kernel_rfl) rfl (by kernel_rfl) ?_ ?_ ?_
  · intro i v w1 w2 h hl12
    match i, h with
    | 0, h => exact h
    | 1, h => exact h
    | 2, ⟨A, cap, hv, hft⟩ => exact ⟨A, cap, hv, hft.lo hl12⟩
    | 3, h => exact h
    | 4, h => exact h
    | 5, ⟨A, cap, hv, hft⟩ => exact ⟨A, cap, hv, hft.lo hl12⟩
    | 6, h => exact h
    | 7, h => exact h
    | 8, ⟨A, cap, hv, hft⟩ => exact ⟨A, cap, hv, hft.lo hl12⟩
    | 9, h => exact h
    | _ + 10, _ => trivial
  · intro i o hiN ho a w' hl hd hold
    match i, hiN with
    | 0, _ =>
      injection ho with ho; subst ho
      have h1 : a.eval (.tmp 1) = .pointer (some ⟨w.heap.size, 0, none⟩) := hold 1 (by kernel_rfl)
      simp [Act.eval] at h1
      exact ⟨fun _ => wp_of_run (v := .pointer (some ⟨w.heap.size, 0, none⟩)) (w' := w') (by simp [go_sem, h1]) ⟨_, rfl, Lo.refl _, rfl⟩, fun h => by rw [wanted_free rfl] at h; cases h⟩
    | 1, _ =>
      injection ho with ho; subst ho
      have h3 : a.eval (.tmp 3) = .pointer (some ⟨w.heap.size, 0, none⟩) := hd 0 (by kernel_rfl) 3 (by kernel_rfl)
      have hc0 := lo_keep hl a0
      simp [Act.eval] at h3
      exact ⟨fun _ => wp_of_run (v := .slice A0 n0 p0) (w' := w') (by simp [go_sem, h3, hc0]) ⟨_, rfl, Lo.refl _, rfl⟩, fun h => by rw [wanted_free rfl] at h; cases h⟩
    | 2, _ =>
      injection ho with ho; subst ho
      have h4 : a.eval (.tmp 4) = .slice A0 n0 p0 := hd 1 (by kernel_rfl) 4 (by kernel_rfl)
      simp [Act.eval] at h4
      refine ⟨fun _ => ?_, fun h => by rw [wanted_free rfl] at h; cases h⟩
      refine wp_call_of (f := 143) (args := #[.slice A0 n0 p0, .func (.func 144) #[] #[]]) (by simp [go_sem, h4]) (C0.out w' (hlz.trans hl)) ?_
      rintro e w2 ⟨A, cap, rfl, hb, hft⟩
      exact ⟨_, rfl, _, rfl, hb, A, cap, rfl, New.base hft hl.size⟩
    | 3, _ =>
      injection ho with ho; subst ho
      have h1 : a.eval (.tmp 1) = .pointer (some ⟨w.heap.size, 0, none⟩) := hold 1 (by kernel_rfl)
      simp [Act.eval] at h1
      exact ⟨fun _ => wp_of_run (v := .pointer (some ⟨w.heap.size, 1, none⟩)) (w' := w') (by simp [go_sem, h1]) ⟨_, rfl, Lo.refl _, rfl⟩, fun h => by rw [wanted_free rfl] at h; cases h⟩
    | 4, _ =>
      injection ho with ho; subst ho
      have h6 : a.eval (.tmp 6) = .pointer (some ⟨w.heap.size, 1, none⟩) := hd 3 (by kernel_rfl) 6 (by kernel_rfl)
      have hc0 := lo_keep hl a1
      simp [Act.eval] at h6
      exact ⟨fun _ => wp_of_run (v := .slice A1 n1 p1) (w' := w') (by simp [go_sem, h6, hc0]) ⟨_, rfl, Lo.refl _, rfl⟩, fun h => by rw [wanted_free rfl] at h; cases h⟩
    | 5, _ =>
      injection ho with ho; subst ho
      have h7 : a.eval (.tmp 7) = .slice A1 n1 p1 := hd 4 (by kernel_rfl) 7 (by kernel_rfl)
      simp [Act.eval] at h7
      refine ⟨fun _ => ?_, fun h => by rw [wanted_free rfl] at h; cases h⟩
      refine wp_call_of (f := 145) (args := #[.slice A1 n1 p1, .func (.func 146) #[] #[]]) (by simp [go_sem, h7]) (C1.out w' (hlz.trans hl)) ?_
      rintro e w2 ⟨A, cap, rfl, hb, hft⟩
      exact ⟨_, rfl, _, rfl, hb, A, cap, rfl, New.base hft hl.size⟩
    | 6, _ =>
      injection ho with ho; subst ho
      have h1 : a.eval (.tmp 1) = .pointer (some ⟨w.heap.size, 0, none⟩) := hold 1 (by kernel_rfl)
      simp [Act.eval] at h1
      exact ⟨fun _ => wp_of_run (v := .pointer (some ⟨w.heap.size, 2, none⟩)) (w' := w') (by simp [go_sem, h1]) ⟨_, rfl, Lo.refl _, rfl⟩, fun h => by rw [wanted_free rfl] at h; cases h⟩
    | 7, _ =>
      injection ho with ho; subst ho
      have h9 : a.eval (.tmp 9) = .pointer (some ⟨w.heap.size, 2, none⟩) := hd 6 (by kernel_rfl) 9 (by kernel_rfl)
      have hc0 := lo_keep hl a2
      simp [Act.eval] at h9
      exact ⟨fun _ => wp_of_run (v := .slice A2 n2 p2) (w' := w') (by simp [go_sem, h9, hc0]) ⟨_, rfl, Lo.refl _, rfl⟩, fun h => by rw [wanted_free rfl] at h; cases h⟩
    | 8, _ =>
      injection ho with ho; subst ho
      have h10 : a.eval (.tmp 10) = .slice A2 n2 p2 := hd 7 (by kernel_rfl) 10 (by kernel_rfl)
      simp [Act.eval] at h10
      refine ⟨fun _ => ?_, fun h => by rw [wanted_free rfl] at h; cases h⟩
      refine wp_call_of (f := 147) (args := #[.slice A2 n2 p2, .func (.func 148) #[] #[]]) (by simp [go_sem, h10]) (C2.out w' (hlz.trans hl)) ?_
      rintro e w2 ⟨A, cap, rfl, hb, hft⟩
      exact ⟨_, rfl, _, rfl, hb, A, cap, rfl, New.base hft hl.size⟩
    | 9, _ =>
      injection ho with ho; subst ho
      have h1 : a.eval (.tmp 1) = .pointer (some ⟨w.heap.size, 0, none⟩) := hold 1 (by kernel_rfl)
      simp [Act.eval] at h1
      exact ⟨fun _ => wp_of_run (v := .pointer (some ⟨w.heap.size, 0, none⟩)) (w' := w') (by simp [go_sem, h1]) ⟨_, rfl, Lo.refl _, rfl⟩, fun h => by rw [wanted_free rfl] at h; cases h⟩
  · intro v w2 hq hp
    have p_0 := hp 0 (by omega)
    have p_1 := hp 1 (by omega)
    have p_2 := hp 2 (by omega)
    have p_3 := hp 3 (by omega)
    have p_4 := hp 4 (by omega)
    have p_5 := hp 5 (by omega)
    have p_6 := hp 6 (by omega)
    have p_7 := hp 7 (by omega)
    have p_8 := hp 8 (by omega)
    have p_9 := hp 9 (by omega)
    clear hp
    simp only [List.range_succ, List.range_zero, List.nil_append, List.cons_append, List.foldl_cons, List.foldl_nil, List.drop_succ_cons, List.drop_zero, dstOf, List.getElem?_toArray, List.getElem?_cons_zero, List.getElem?_cons_succ, Option.bind_some, Act.put, List.setIfInBounds_toArray, List.set_cons_zero, List.set_cons_succ]
    generalize v 0 = v0 at *
    generalize v 1 = v1 at *
    generalize v 2 = v2 at *
    generalize v 3 = v3 at *
    generalize v 4 = v4 at *
    generalize v 5 = v5 at *
    generalize v 6 = v6 at *
    generalize v 7 = v7 at *
    generalize v 8 = v8 at *
    generalize v 9 = v9 at *
    subst p_0
    subst p_1
    obtain ⟨ya0, yk0, rfl, g0⟩ := p_2
    subst p_3
    subst p_4
    obtain ⟨ya1, yk1, rfl, g1⟩ := p_5
    subst p_6
    subst p_7
    obtain ⟨ya2, yk2, rfl, g2⟩ := p_8
    subst p_9
    replace u0 := (hq.facts.2.1 _ 0 (by omega)).trans u0
    replace s0 := (hq.facts.2.1 _ 0 hz1).trans s0
    replace a0 := lo_keep hq a0
    replace r0 := lo_keep hq r0
    replace u1 := (hq.facts.2.1 _ 1 (by omega)).trans u1
    replace s1 := (hq.facts.2.1 _ 1 hz1).trans s1
    replace a1 := lo_keep hq a1
    replace r1 := lo_keep hq r1
    replace u2 := (hq.facts.2.1 _ 2 (by omega)).trans u2
    replace s2 := (hq.facts.2.1 _ 2 hz1).trans s2
    replace a2 := lo_keep hq a2
    replace r2 := lo_keep hq r2
    have hzw := hq.size
    have hl2 := hlz.trans hq
    clear hq hlz
    go_wp2
    obtain ⟨w9, h9⟩ : ∃ w9, ((((((w2.setCell ⟨w.heap.size, 0, none⟩ (.slice ya0 n0 yk0)).setCell ⟨w.heap.size, 1, none⟩ (.slice ya1 n1 yk1)).setCell ⟨w.heap.size, 2, none⟩ (.slice ya2 n2 yk2)).setCell ⟨w.heap.size + 1, 0, none⟩ (.slice ya0 n0 yk0)).setCell ⟨w.heap.size + 1, 1, none⟩ (.slice ya1 n1 yk1)).setCell ⟨w.heap.size + 1, 2, none⟩ (.slice ya2 n2 yk2)) = w9 := ⟨_, rfl⟩
    rw [h9]
    have q0 : w9.cell? ⟨w.heap.size + 1, 0, none⟩ = some (.slice ya0 n0 yk0) := by
      rw [← h9]
      rw [setCell_other _ _ _ _ _ _ (by simp)]
      rw [setCell_other _ _ _ _ _ _ (by simp)]
      refine World.cell?_setCell_same _ _ _ (u := .slice none 0 0) ?_
      rw [setCell_other _ _ _ _ _ _ (by simp), setCell_other _ _ _ _ _ _ (by simp), setCell_other _ _ _ _ _ _ (by simp)]
      exact r0
    have q1 : w9.cell? ⟨w.heap.size + 1, 1, none⟩ = some (.slice ya1 n1 yk1) := by
      rw [← h9]
      rw [setCell_other _ _ _ _ _ _ (by simp)]
      refine World.cell?_setCell_same _ _ _ (u := .slice none 0 0) ?_
      rw [setCell_other _ _ _ _ _ _ (by simp), setCell_other _ _ _ _ _ _ (by simp), setCell_other _ _ _ _ _ _ (by simp), setCell_other _ _ _ _ _ _ (by simp)]
      exact r1
    have q2 : w9.cell? ⟨w.heap.size + 1, 2, none⟩ = some (.slice ya2 n2 yk2) := by
      rw [← h9]
      refine World.cell?_setCell_same _ _ _ (u := .slice none 0 0) ?_
      rw [setCell_other _ _ _ _ _ _ (by simp), setCell_other _ _ _ _ _ _ (by simp), setCell_other _ _ _ _ _ _ (by simp), setCell_other _ _ _ _ _ _ (by simp), setCell_other _ _ _ _ _ _ (by simp)]
      exact r2
    have hl9 : Lo w w9 := by rw [← h9]; exact (Lo.setCell (Lo.setCell (Lo.setCell (Lo.setCell (Lo.setCell (Lo.setCell hl2 (by simp) _) (by simp) _) (by simp) _) (by simp) _) (by simp) _) (by simp) _)
    have hs9 : w9.heap.size = w2.heap.size := by rw [← h9]; simp
    have hfar : ∀ p : Addr, wz.heap.size ≤ p.block → w9.cell? p = w2.cell? p := fun p hp => by
      rw [← h9]
      rw [setCell_far _ _ _ _ (by simp; omega), setCell_far _ _ _ _ (by simp; omega), setCell_far _ _ _ _ (by simp; omega), setCell_far _ _ _ _ (by simp; omega), setCell_far _ _ _ _ (by simp; omega), setCell_far _ _ _ _ (by simp; omega)]
    have hN := ((HE.out wz.heap.size w2 ya0 yk0 ya1 yk1 ya2 yk2 g0 g1 g2).keep (w1 := w9) fun p hp => hfar p hp.1).mono (S' := fun b => w.heap.size ≤ b ∧ b < w9.heap.size) fun b hb => ⟨by omega, by omega⟩
    clear h9
    exact bodyPost_ret (v := .agg #[.slice ya0 n0 yk0, .slice ya1 n1 yk1, .slice ya2 n2 yk2]) (by simp [results, Try.results128, go_sem, q0, q1, q2]) rfl ⟨ya0, ya1, ya2, yk0, yk1, yk2, rfl, hl9, hN⟩
end Go.Proofs.Ytlcecabfmemfeaa.WAuth

/- The walks of policy.Own. (Written by mk_own.py.) -/
namespace Go.Proofs.Ytlcecabfmemfeaa.WAuth
set_option linter.unusedVariables false
set_option linter.unusedSimpArgs false
open Go.RowKit Mem BigFrame WMatch WAddr WName Opn
theorem enters_ownRule : Enters Try.prog 128 := enters_of Try.func128 (by kernel_rfl) rfl
set_option maxRecDepth 100000 in
set_option maxHeartbeats 8000000 in
theorem ownPolicy (s : Pl.Policy) (c0 c1 c2 c3 c4 : Value) {B : Nat} (w : World) (hB : B ≤ w.heap.size) (hs : PolicyR B w s [c0, c1, c2, c3, c4]) (hlong : longPol s = false) :
    Calls Try.prog 94 #[.agg #[c0, c1, c2, c3, c4]] w fun e w' => ∃ ya4 yk4, e = .returned (.agg #[.int .u64 s.id, .string s.ns, .int .u64 s.service, .int .i64 s.deny, .slice ya4 s.rules.length yk4]) ∧ Lo w w' ∧ New w.heap.size PolicyR w' s [.int .u64 s.id, .string s.ns, .int .u64 s.service, .int .i64 s.deny, .slice ya4 s.rules.length yk4] := by
  obtain ⟨d0, d1, d2, d3, d4, he, ⟨e0, z0⟩, ⟨e1, z1⟩, ⟨e2, z2⟩, ⟨e3, z3⟩, ⟨A4, p4, e4, h4, l4, m4⟩⟩ := hs
  injection he with q0 he; injection he with q1 he; injection he with q2 he; injection he with q3 he; injection he with q4 he
  subst q0 q1 q2 q3 q4
  injection e0 with e0; injection e1 with e1; injection e2 with e2; injection e3 with e3; injection e4 with e4
  subst e0 e1 e2 e3 e4
  simp only [longPol, Bool.or_eq_false_iff, decide_eq_false_iff_not] at hlong
  have b4 := hlong.1.1
  have hrl := hlong.2
  have C4 : Hid (∀ W, Lo w W → Calls Try.prog 127 #[.slice A4 s.rules.length p4, .func (.func 128) #[] #[]] W fun e w' => ∃ A cap, e = .returned (.slice A s.rules.length cap) ∧ Lo W w' ∧ New W.heap.size (SliceC RuleR 3) w' s.rules [.slice A s.rules.length cap]) := Lib.hid fun W hW => by
    refine (MPolicyRule.mapped RuleR.kept (fun x => x) A4 p4 s.rules W (Nat.le_trans hB hW.size) (SliceAt.lo RuleR.kept h4 hW hB) (by omega) enters_ownRule ruleShape ?_).mono ?_
    · intro W' x xa0 xn0 xk0 xa1 xn1 xk1 xa2 xn2 xk2 hx hlo hr
      refine (ownRule x _ _ _ W' (Nat.le_trans hB (hW.trans hlo).size) hr (any_no hrl hx)).mono ?_
      rintro e w' h
      exact ownRule_out h
    · rintro e w' ⟨v, rfl, hl, hrow⟩
      rw [List.map_id'] at hrow
      obtain ⟨A, cap, rfl, hft⟩ := hrow.fresh
      exact ⟨A, cap, rfl, hl, hft⟩
  clear h4
  have HE : Hid (∀ (bs : Nat) (W : World) (ya4 : Option Addr) (yk4 : Nat), New bs (SliceC RuleR 3) W s.rules [.slice ya4 s.rules.length yk4] → New bs PolicyR W s [.int .u64 s.id, .string s.ns, .int .u64 s.service, .int .i64 s.deny, .slice ya4 s.rules.length yk4]) := Lib.hid fun bs W ya4 yk4 g4 w' B hw hB => ⟨_, _, _, _, _, rfl, ⟨rfl, z0⟩, ⟨rfl, z1⟩, ⟨rfl, z2⟩, ⟨rfl, z3⟩, g4 w' B hw hB⟩
  obtain ⟨n4, hn4⟩ : ∃ n, s.rules.length = n := ⟨_, rfl⟩
  obtain ⟨x0, hx0⟩ : ∃ t, s.id = t := ⟨_, rfl⟩
  obtain ⟨x1, hx1⟩ : ∃ t, s.ns = t := ⟨_, rfl⟩
  obtain ⟨x2, hx2⟩ : ∃ t, s.service = t := ⟨_, rfl⟩
  obtain ⟨x3, hx3⟩ : ∃ t, s.deny = t := ⟨_, rfl⟩
  simp only [hn4, hx0, hx1, hx2, hx3] at C4 HE ⊢
  clear hn4 hx0 hx1 hx2 hx3 z0 z1 z2 z3 hrl hlong
  go_enter Try.func94, Try.ntmps94
  go_wp2_with fail
  refine (C4.out _ ?_).mono ?_
  · exact (by repeat (first | exact Lo.refl _ | assumption | refine Lo.drew ?_ | refine Lo.alloc ?_ _ | refine Lo.setCell ?_ (by first | (dsimp only; omega) | (simp; omega) | (simp; done)) _ | refine Lo.trans ?_ (by assumption)))
  rintro e w2 ⟨ya4, yk4, rfl, hb, g4⟩
  have hlw2 : Lo w w2 := (((Lo.refl w).alloc _).alloc _).trans hb
  have hz2 : w.heap.size + 1 < w2.heap.size := hb.facts.2.2 _ (by simp)
  have a0 : w2.cell? ⟨w.heap.size, 0, none⟩ = some (.int .u64 x0) := lo_keep hb (by simp)
  have a1 : w2.cell? ⟨w.heap.size, 1, none⟩ = some (.string x1) := lo_keep hb (by simp)
  have a2 : w2.cell? ⟨w.heap.size, 2, none⟩ = some (.int .u64 x2) := lo_keep hb (by simp)
  have a3 : w2.cell? ⟨w.heap.size, 3, none⟩ = some (.int .i64 x3) := lo_keep hb (by simp)
  have a4 : w2.cell? ⟨w.heap.size, 4, none⟩ = some (.slice A4 n4 p4) := lo_keep hb (by simp)
  have r0 : w2.cell? ⟨w.heap.size + 1, 0, none⟩ = some (.int .u64 0) := lo_keep hb (by simp)
  have r1 : w2.cell? ⟨w.heap.size + 1, 1, none⟩ = some (.string ⟨#[]⟩) := lo_keep hb (by simp)
  have r2 : w2.cell? ⟨w.heap.size + 1, 2, none⟩ = some (.int .u64 0) := lo_keep hb (by simp)
  have r3 : w2.cell? ⟨w.heap.size + 1, 3, none⟩ = some (.int .i64 0) := lo_keep hb (by simp)
  have r4 : w2.cell? ⟨w.heap.size + 1, 4, none⟩ = some (.slice none 0 0) := lo_keep hb (by simp)
  have u4 : w2.frozen? ⟨w.heap.size, 4, none⟩ = false := (hb.facts.2.1 _ 4 (by simp; omega)).trans (by simp)
  have s0 : w2.frozen? ⟨w.heap.size + 1, 0, none⟩ = false := (hb.facts.2.1 _ 0 (by simp)).trans (by simp)
  have s1 : w2.frozen? ⟨w.heap.size + 1, 1, none⟩ = false := (hb.facts.2.1 _ 1 (by simp)).trans (by simp)
  have s2 : w2.frozen? ⟨w.heap.size + 1, 2, none⟩ = false := (hb.facts.2.1 _ 2 (by simp)).trans (by simp)
  have s3 : w2.frozen? ⟨w.heap.size + 1, 3, none⟩ = false := (hb.facts.2.1 _ 3 (by simp)).trans (by simp)
  have s4 : w2.frozen? ⟨w.heap.size + 1, 4, none⟩ = false := (hb.facts.2.1 _ 4 (by simp)).trans (by simp)
  have hsb : w.heap.size + 2 ≤ w2.heap.size := by omega
  have g4 := New.base (base' := w.heap.size + 2) g4 (by simp)
  clear hb
  go_wp2
  obtain ⟨w9, h9⟩ : ∃ w9, ((((((w2.setCell ⟨w.heap.size, 4, none⟩ (.slice ya4 n4 yk4)).setCell ⟨w.heap.size + 1, 0, none⟩ (.int .u64 x0)).setCell ⟨w.heap.size + 1, 1, none⟩ (.string x1)).setCell ⟨w.heap.size + 1, 2, none⟩ (.int .u64 x2)).setCell ⟨w.heap.size + 1, 3, none⟩ (.int .i64 x3)).setCell ⟨w.heap.size + 1, 4, none⟩ (.slice ya4 n4 yk4)) = w9 := ⟨_, rfl⟩
  rw [h9]
  have q0 : w9.cell? ⟨w.heap.size + 1, 0, none⟩ = some (.int .u64 x0) := by
    rw [← h9, setCell_other _ _ _ _ _ _ (by simp), setCell_other _ _ _ _ _ _ (by simp), setCell_other _ _ _ _ _ _ (by simp), setCell_other _ _ _ _ _ _ (by simp)]
    refine World.cell?_setCell_same _ _ _ (u := .int .u64 0) ?_
    rw [setCell_other _ _ _ _ _ _ (by simp)]
    exact r0
  have q1 : w9.cell? ⟨w.heap.size + 1, 1, none⟩ = some (.string x1) := by
    rw [← h9, setCell_other _ _ _ _ _ _ (by simp), setCell_other _ _ _ _ _ _ (by simp), setCell_other _ _ _ _ _ _ (by simp)]
    refine World.cell?_setCell_same _ _ _ (u := .string ⟨#[]⟩) ?_
    rw [setCell_other _ _ _ _ _ _ (by simp), setCell_other _ _ _ _ _ _ (by simp)]
    exact r1
  have q2 : w9.cell? ⟨w.heap.size + 1, 2, none⟩ = some (.int .u64 x2) := by
    rw [← h9, setCell_other _ _ _ _ _ _ (by simp), setCell_other _ _ _ _ _ _ (by simp)]
    refine World.cell?_setCell_same _ _ _ (u := .int .u64 0) ?_
    rw [setCell_other _ _ _ _ _ _ (by simp), setCell_other _ _ _ _ _ _ (by simp), setCell_other _ _ _ _ _ _ (by simp)]
    exact r2
  have q3 : w9.cell? ⟨w.heap.size + 1, 3, none⟩ = some (.int .i64 x3) := by
    rw [← h9, setCell_other _ _ _ _ _ _ (by simp)]
    refine World.cell?_setCell_same _ _ _ (u := .int .i64 0) ?_
    rw [setCell_other _ _ _ _ _ _ (by simp), setCell_other _ _ _ _ _ _ (by simp), setCell_other _ _ _ _ _ _ (by simp), setCell_other _ _ _ _ _ _ (by simp)]
    exact r3
  have q4 : w9.cell? ⟨w.heap.size + 1, 4, none⟩ = some (.slice ya4 n4 yk4) := by
    rw [← h9]
    refine World.cell?_setCell_same _ _ _ (u := .slice none 0 0) ?_
    rw [setCell_other _ _ _ _ _ _ (by simp), setCell_other _ _ _ _ _ _ (by simp), setCell_other _ _ _ _ _ _ (by simp), setCell_other _ _ _ _ _ _ (by simp), setCell_other _ _ _ _ _ _ (by simp)]
    exact r4
  have hl9 : Lo w w9 := by rw [← h9]; exact Lo.setCell (Lo.setCell (Lo.setCell (Lo.setCell (Lo.setCell (Lo.setCell hlw2 (by simp) _) (by simp) _) (by simp) _) (by simp) _) (by simp) _) (by simp) _
  have hs9 : w9.heap.size = w2.heap.size := by rw [← h9]; simp
  have hfar : ∀ p : Addr, w.heap.size + 2 ≤ p.block → w9.cell? p = w2.cell? p := fun p hp => by
    rw [← h9]
    rw [setCell_far _ _ _ _ (by simp; omega), setCell_far _ _ _ _ (by simp; omega), setCell_far _ _ _ _ (by simp; omega), setCell_far _ _ _ _ (by simp; omega), setCell_far _ _ _ _ (by simp; omega), setCell_far _ _ _ _ (by simp; omega)]
  have hN := ((HE.out (w.heap.size + 2) w2 ya4 yk4 g4).keep (w1 := w9) fun p hp => hfar p hp.1).mono (S' := fun b => w.heap.size ≤ b ∧ b < w9.heap.size) fun b hb => ⟨by omega, by omega⟩
  clear h9
  exact bodyPost_ret (v := .agg #[.int .u64 x0, .string x1, .int .u64 x2, .int .i64 x3, .slice ya4 n4 yk4]) (by simp [results, Try.results94, go_sem, q0, q1, q2, q3, q4]) rfl ⟨ya4, yk4, rfl, hl9, hN⟩
end Go.Proofs.Ytlcecabfmemfeaa.WAuth
