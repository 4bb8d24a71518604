/- Merged by bundle.py: SimRefD, SimRefE, SimL. -/
import Derived.Test.YtlcecabfmemfeaaAuthJudgeB1
import Derived.Test.YtlcecabfmemfeaaPlAuth
import Derived.Test.YtlcecabfmemfeaaAuthJudgeB0
/- The document's answer for auth: Matches, Says, Judge. -/
namespace Go.Proofs.Ytlcecabfmemfeaa.Pol
set_option linter.unusedVariables false
set_option linter.unusedSimpArgs false
open Go.RowKit Mem Sim Opn WAddr WName WMatch WAuth
theorem all_snoc {α : Type} {p : α → Bool} {l : List α} {k : Nat} (hk : k < l.length) : (l.take (k + 1)).all p = ((l.take k).all p && p l[k]) := by
  rw [List.take_succ_eq_append_getElem hk, List.all_append]; simp
abbrev ruleA (r : Pl.Rule) : List A := [.t (.sl 3 (r.from_.map sourceT)), .t (.sl 4 (r.to_.map targetT)), .t (.sl 2 (r.when_.map whenT))]
def M1 (r : Pl.Rule) (a : Pl.Asker) (port : Int) (q : Pl.Req) (tg qu : ByteArray) (bd : Value) (k : Nat) : St := ⟨[(2, .t (.v (.int .i64 port))), (4, .bp 4 0), (5, .bp 5 0), (7, .bp 7 0), (9, .t (.v (.bool (inSo (srcP a) r.from_ k)))), (10, .t (.v (.int .i64 (k : Int))))], [(4, ruleA r), (5, askA a), (7, reqA q tg qu bd)], []⟩
def M2 (r : Pl.Rule) (a : Pl.Asker) (port : Int) (q : Pl.Req) (tg qu : ByteArray) (bd : Value) (k : Nat) : St := ⟨[(2, .t (.v (.int .i64 port))), (4, .bp 4 0), (7, .bp 7 0), (9, .t (.v (.bool (inSo (srcP a) r.from_ r.from_.length)))), (11, .t (.v (.bool (inSo (tgtP port q) r.to_ k)))), (12, .t (.v (.int .i64 (k : Int))))], [(4, ruleA r), (7, reqA q tg qu bd)], []⟩
def M3 (r : Pl.Rule) (a : Pl.Asker) (port : Int) (q : Pl.Req) (tg qu : ByteArray) (bd : Value) (k : Nat) : St := ⟨[(4, .bp 4 0), (7, .bp 7 0), (9, .t (.v (.bool (inSo (srcP a) r.from_ r.from_.length)))), (11, .t (.v (.bool (inSo (tgtP port q) r.to_ r.to_.length)))), (13, .t (.v (.int .i64 (k : Int))))], [(4, ruleA r), (7, reqA q tg qu bd)], []⟩
set_option maxRecDepth 100000 in
set_option maxHeartbeats 1000000 in
theorem matches__ (r : Pl.Rule) (hr : okRule r) (hf : FewR r) (a : Pl.Asker) (ha : OkAsk a) (port : Int) (q : Pl.Req) (hq : OkReq q) (tg qu : ByteArray) (bd : Value) : PCalls Try.prog 43 [.agg (ruleT r), .agg (askT a), .v (.int .i64 port), .agg (reqT q tg qu bd)] (.v (.bool (matchP a port q r))) := by
  obtain ⟨k0, k1, k2⟩ := hr
  have hm1 : (r.from_.map sourceT).length = r.from_.length := List.length_map _
  have hm2 : (r.to_.map targetT).length = r.to_.length := List.length_map _
  have hm3 : (r.when_.map whenT).length = r.when_.length := List.length_map _
  have n1 := hf.f
  have n2 := hf.t
  have n3 := hf.w
  refine pcalls_of Try.func43 rfl rfl Try.ntmps43 rfl ?_
  repeat' (first
    | refine then_go ?_
    | refine swp_seq ?_
    | ((refine swp_region (id := 0) ?_) <;> (refine sops_box (.free rfl rfl) rfl rfl rfl rfl rfl rfl ?_) <;> (refine sops_box (.free rfl rfl) rfl rfl rfl rfl rfl rfl ?_) <;> (refine sops_box (.free rfl rfl) rfl rfl rfl rfl rfl rfl ?_) <;> (refine sops_pure (.free rfl rfl) rfl rfl (po_assign rfl rfl) ?_) <;> (refine sops_nil ?_))
    | ((refine swp_region (id := 1) ?_) <;> (first | refine sops_pure (.free rfl rfl) rfl rfl (po_field_bx rfl rfl (tyF rfl)) ?_ | refine sops_pure (.free rfl rfl) rfl rfl (po_field rfl rfl (tyF rfl)) ?_) <;> (first | refine sops_pure (.free rfl rfl) rfl rfl (po_load_bx rfl rfl (tyT rfl) rfl rfl) ?_ | refine sops_pure (.free rfl rfl) rfl rfl (po_load rfl rfl (tyT rfl) rfl) ?_) <;> (refine sops_pure (.free rfl rfl) rfl rfl (po_len rfl rfl (by first | exact .t _ | exact .own rfl rfl | exact .nil _ | exact .emp _) (tyS rfl)) ?_) <;> (refine sops_pure (.free rfl rfl) rfl rfl (po_cmp rfl rfl rfl rfl) ?_) <;> (refine sops_pure (.free rfl rfl) rfl rfl (po_assign rfl rfl) ?_) <;> (refine sops_nil ?_))
    | ((refine swp_region (id := 2) ?_) <;> (refine sops_pure (.free rfl rfl) rfl rfl (po_assign rfl rfl) ?_) <;> (refine sops_nil ?_))
    | refine swp_ret ?_
    | refine swp_skip ?_
    | refine swp_block ?_
    | refine swp_exit ?_
    | refine block_go ?_
    | refine block_exit ?_
    | refine block_far rfl ?_
    | refine block_ret ?_
    | refine then_ret ?_
    | refine then_exit ?_
    | refine for_ret ?_
    | refine for_exit ?_
    | refine swp_cond_t rfl (by first | assumption | with_reducible rfl | decide | (simp only [decide_eq_true_eq, Bool.not_eq_true', decide_eq_false_iff_not]; omega)) ?_
    | refine swp_cond_f rfl (by first | assumption | with_reducible rfl | decide | (simp only [decide_eq_false_iff_not, Bool.not_eq_false', decide_eq_true_eq]; omega)) ?_
    | refine swp_cond rfl (fun hc => ?_) (fun hc => ?_)
    | refine retq (by first | exact .inr rfl | exact .inl rfl) rfl (.tmp rfl (by first | exact .t _ | exact .own rfl rfl | exact .nil _ | exact .emp _) .nil) ?_)
  refine swp_for (M1 r a port q tg qu bd) (fun _ => True) r.from_.length (weak_sub (.cons rfl (by first | rfl | (rw [inSo_zero, hm1])) rfl (.cons rfl (by first | rfl | (rw [inSo_zero, hm1])) rfl (.cons rfl (by first | rfl | (rw [inSo_zero, hm1])) rfl (.cons rfl (by first | rfl | (rw [inSo_zero, hm1])) rfl (.cons rfl (by first | rfl | (rw [inSo_zero, hm1])) rfl (.cons rfl (by first | rfl | (rw [inSo_zero, hm1])) rfl .nil)))))) (.cons rfl (by first | rfl | (rw [inSo_zero, hm1])) rfl (.cons rfl (by first | rfl | (rw [inSo_zero, hm1])) rfl (.cons rfl (by first | rfl | (rw [inSo_zero, hm1])) rfl .nil))) .nil) trivial ?_
  intro k hk _
  unfold M1
  by_cases hlt : k < r.from_.length
  · have hc := source_ r.from_[k] (k0 _ (List.getElem_mem hlt)) (hf.fs _ (List.getElem_mem hlt)) a ha
    cases hb : inSo (srcP a) r.from_ k with
    | true =>
      have hs1 := inSo_yes hlt hb
      repeat' (first
        | refine then_go ?_
        | refine swp_seq ?_
        | refine for_next hlt (weak_sub (.cons rfl (by first | rfl | (rw [hs1])) rfl (.cons rfl (by first | rfl | (rw [hs1])) rfl (.cons rfl (by first | rfl | (rw [hs1])) rfl (.cons rfl (by first | rfl | (rw [hs1])) rfl (.cons rfl (by first | rfl | (rw [hs1])) rfl (.cons rfl (by first | rfl | (rw [hs1])) rfl .nil)))))) (.cons rfl (by first | rfl | (rw [hs1])) rfl (.cons rfl (by first | rfl | (rw [hs1])) rfl (.cons rfl (by first | rfl | (rw [hs1])) rfl .nil))) .nil) trivial
        | ((refine swp_region (id := 3) ?_) <;> (refine sops_pure (.free rfl rfl) rfl rfl (po_move rfl rfl) ?_) <;> (first | refine sops_pure (.free rfl rfl) rfl rfl (po_field_bx rfl rfl (tyF rfl)) ?_ | refine sops_pure (.free rfl rfl) rfl rfl (po_field rfl rfl (tyF rfl)) ?_) <;> (first | refine sops_pure (.free rfl rfl) rfl rfl (po_load_bx rfl rfl (tyT rfl) rfl rfl) ?_ | refine sops_pure (.free rfl rfl) rfl rfl (po_load rfl rfl (tyT rfl) rfl) ?_) <;> (refine sops_pure (.free rfl rfl) rfl rfl (po_len rfl rfl (by first | exact .t _ | exact .own rfl rfl | exact .nil _ | exact .emp _) (tyS rfl)) ?_) <;> (refine sops_pure (.free rfl rfl) rfl rfl (po_cmp rfl rfl rfl rfl) ?_) <;> (refine sops_nil ?_))
        | ((refine swp_draw (id := 5) 10 mixed (by kernel_rfl) (by kernel_rfl) ?_) <;> (refine sdraw_pure (.free rfl rfl) rfl (po_move rfl rfl) ?_) <;> (refine sdraw_pure (.free rfl rfl) rfl (po_move rfl rfl) ?_) <;> (first | refine sdraw_pure (.yes rfl rfl rfl (by first | assumption | with_reducible rfl | decide | (simp only [decide_eq_true_eq, decide_eq_false_iff_not]; omega))) rfl (po_field_bx rfl rfl (tyF rfl)) ?_ | refine sdraw_pure (.yes rfl rfl rfl (by first | assumption | with_reducible rfl | decide | (simp only [decide_eq_true_eq, decide_eq_false_iff_not]; omega))) rfl (po_field rfl rfl (tyF rfl)) ?_ | refine sdraw_skip (.no0 rfl rfl rfl (by first | assumption | with_reducible rfl | decide | (simp only [decide_eq_true_eq, decide_eq_false_iff_not]; omega))) rfl ?_ | ((refine sdraw_split rfl rfl rfl (fun hc => ?_) (fun hc => ?_)) <;> (first | refine sdraw_pure (.yes rfl rfl rfl (by first | assumption | with_reducible rfl | decide | (simp only [decide_eq_true_eq, decide_eq_false_iff_not]; omega))) rfl (po_field_bx rfl rfl (tyF rfl)) ?_ | refine sdraw_pure (.yes rfl rfl rfl (by first | assumption | with_reducible rfl | decide | (simp only [decide_eq_true_eq, decide_eq_false_iff_not]; omega))) rfl (po_field rfl rfl (tyF rfl)) ?_ | refine sdraw_skip (.no0 rfl rfl rfl (by first | assumption | with_reducible rfl | decide | (simp only [decide_eq_true_eq, decide_eq_false_iff_not]; omega))) rfl ?_))) <;> (first | refine sdraw_pure (.yes rfl rfl rfl (by first | assumption | with_reducible rfl | decide | (simp only [decide_eq_true_eq, decide_eq_false_iff_not]; omega))) rfl (po_load_bx rfl rfl (tyT rfl) rfl rfl) ?_ | refine sdraw_pure (.yes rfl rfl rfl (by first | assumption | with_reducible rfl | decide | (simp only [decide_eq_true_eq, decide_eq_false_iff_not]; omega))) rfl (po_load rfl rfl (tyT rfl) rfl) ?_ | refine sdraw_skip (.no0 rfl rfl rfl (by first | assumption | with_reducible rfl | decide | (simp only [decide_eq_true_eq, decide_eq_false_iff_not]; omega))) rfl ?_) <;> (first | refine sdraw_pure (.yes rfl rfl rfl (by first | assumption | with_reducible rfl | decide | (simp only [decide_eq_true_eq, decide_eq_false_iff_not]; omega))) rfl (po_move rfl rfl) ?_ | refine sdraw_skip (.no0 rfl rfl rfl (by first | assumption | with_reducible rfl | decide | (simp only [decide_eq_true_eq, decide_eq_false_iff_not]; omega))) rfl ?_) <;> (first | refine sdraw_pure (.yes rfl rfl rfl (by first | assumption | with_reducible rfl | decide | (simp only [decide_eq_true_eq, decide_eq_false_iff_not]; omega))) rfl (po_index rfl rfl (by first | exact .t _ | exact .own rfl rfl | exact .nil _ | exact .emp _) rfl (tyS rfl) (by first | rfl | omega) (by first | rfl | assumption | exact map_at (by first | assumption | omega))) ?_ | refine sdraw_skip (.no0 rfl rfl rfl (by first | assumption | with_reducible rfl | decide | (simp only [decide_eq_true_eq, decide_eq_false_iff_not]; omega))) rfl ?_) <;> (first | refine sdraw_pure (.yes rfl rfl rfl (by first | assumption | with_reducible rfl | decide | (simp only [decide_eq_true_eq, decide_eq_false_iff_not]; omega))) rfl (po_load_bx_agg rfl rfl (tyT rfl) rfl (.cons (by first | exact .t _ | exact .own rfl rfl | exact .nil _ | exact .emp _) (.cons (by first | exact .t _ | exact .own rfl rfl | exact .nil _ | exact .emp _) (.cons (by first | exact .t _ | exact .own rfl rfl | exact .nil _ | exact .emp _) .nil))) rfl) ?_ | refine sdraw_pure (.yes rfl rfl rfl (by first | assumption | with_reducible rfl | decide | (simp only [decide_eq_true_eq, decide_eq_false_iff_not]; omega))) rfl (po_load_agg rfl rfl (tyT rfl) rfl rfl) ?_ | refine sdraw_skip (.no0 rfl rfl rfl (by first | assumption | with_reducible rfl | decide | (simp only [decide_eq_true_eq, decide_eq_false_iff_not]; omega))) rfl ?_) <;> (first | refine sdraw_pure (.yes rfl rfl rfl (by first | assumption | with_reducible rfl | decide | (simp only [decide_eq_true_eq, decide_eq_false_iff_not]; omega))) rfl (po_load_bx_agg rfl rfl (tyT rfl) rfl (.cons (by first | exact .t _ | exact .own rfl rfl | exact .nil _ | exact .emp _) (.cons (by first | exact .t _ | exact .own rfl rfl | exact .nil _ | exact .emp _) (.cons (by first | exact .t _ | exact .own rfl rfl | exact .nil _ | exact .emp _) .nil))) rfl) ?_ | refine sdraw_pure (.yes rfl rfl rfl (by first | assumption | with_reducible rfl | decide | (simp only [decide_eq_true_eq, decide_eq_false_iff_not]; omega))) rfl (po_load_agg rfl rfl (tyT rfl) rfl rfl) ?_ | refine sdraw_skip (.no0 rfl rfl rfl (by first | assumption | with_reducible rfl | decide | (simp only [decide_eq_true_eq, decide_eq_false_iff_not]; omega))) rfl ?_) <;> (first | refine sdraw_pure (.yes rfl rfl rfl (by first | assumption | with_reducible rfl | decide | (simp only [decide_eq_true_eq, decide_eq_false_iff_not]; omega))) rfl (po_call (hc) rfl (.cons rfl (by first | exact .t _ | exact .own rfl rfl | exact .nil _ | exact .emp _) (.cons rfl (by first | exact .t _ | exact .own rfl rfl | exact .nil _ | exact .emp _) .nil))) ?_ | refine sdraw_skip (.no0 rfl rfl rfl (by first | assumption | with_reducible rfl | decide | (simp only [decide_eq_true_eq, decide_eq_false_iff_not]; omega))) rfl ?_) <;> (first | refine sdraw_pure (.free rfl rfl) rfl (po_pick_t rfl rfl (by first | assumption | with_reducible rfl | decide | (simp only [decide_eq_true_eq, decide_eq_false_iff_not]; omega)) rfl) ?_ | refine sdraw_pure (.free rfl rfl) rfl (po_pick_f rfl rfl (by first | assumption | with_reducible rfl | decide | (simp only [decide_eq_true_eq, decide_eq_false_iff_not]; omega)) rfl) ?_) <;> (refine sdraw_nil ?_) <;> (refine sops_pure (.free rfl rfl) rfl rfl (po_assign rfl rfl) ?_) <;> (refine sops_nil ?_))
        | ((refine swp_region (id := 4) ?_) <;> (refine sops_pure (.free rfl rfl) rfl rfl (po_move rfl rfl) ?_) <;> (first | refine sops_pure (.free rfl rfl) rfl rfl (po_inc rfl rfl rfl (by omega)) ?_ | refine sops_pure (.free rfl rfl) rfl rfl (po_arith rfl rfl rfl (ar_add (by first | rfl | (refine wrap_i64 ?_; omega)) rfl)) ?_) <;> (refine sops_pure (.free rfl rfl) rfl rfl (po_assign rfl rfl) ?_) <;> (refine sops_nil ?_))
        | refine swp_ret ?_
        | refine swp_skip ?_
        | refine swp_block ?_
        | refine swp_exit ?_
        | refine block_go ?_
        | refine block_exit ?_
        | refine block_far rfl ?_
        | refine block_ret ?_
        | refine then_ret ?_
        | refine then_exit ?_
        | refine for_ret ?_
        | refine for_exit ?_
        | refine swp_cond_t rfl (by first | assumption | with_reducible rfl | decide | (simp only [decide_eq_true_eq, Bool.not_eq_true', decide_eq_false_iff_not]; omega)) ?_
        | refine swp_cond_f rfl (by first | assumption | with_reducible rfl | decide | (simp only [decide_eq_false_iff_not, Bool.not_eq_false', decide_eq_true_eq]; omega)) ?_
        | refine swp_cond rfl (fun hc => ?_) (fun hc => ?_)
        | refine retq (by first | exact .inr rfl | exact .inl rfl) rfl (.tmp rfl (by first | exact .t _ | exact .own rfl rfl | exact .nil _ | exact .emp _) .nil) ?_)
    | false =>
      have hs1 := inSo_no hlt hb
      repeat' (first
        | refine then_go ?_
        | refine swp_seq ?_
        | refine for_next hlt (weak_sub (.cons rfl (by first | rfl | (rw [hs1])) rfl (.cons rfl (by first | rfl | (rw [hs1])) rfl (.cons rfl (by first | rfl | (rw [hs1])) rfl (.cons rfl (by first | rfl | (rw [hs1])) rfl (.cons rfl (by first | rfl | (rw [hs1])) rfl (.cons rfl (by first | rfl | (rw [hs1])) rfl .nil)))))) (.cons rfl (by first | rfl | (rw [hs1])) rfl (.cons rfl (by first | rfl | (rw [hs1])) rfl (.cons rfl (by first | rfl | (rw [hs1])) rfl .nil))) .nil) trivial
        | ((refine swp_region (id := 3) ?_) <;> (refine sops_pure (.free rfl rfl) rfl rfl (po_move rfl rfl) ?_) <;> (first | refine sops_pure (.free rfl rfl) rfl rfl (po_field_bx rfl rfl (tyF rfl)) ?_ | refine sops_pure (.free rfl rfl) rfl rfl (po_field rfl rfl (tyF rfl)) ?_) <;> (first | refine sops_pure (.free rfl rfl) rfl rfl (po_load_bx rfl rfl (tyT rfl) rfl rfl) ?_ | refine sops_pure (.free rfl rfl) rfl rfl (po_load rfl rfl (tyT rfl) rfl) ?_) <;> (refine sops_pure (.free rfl rfl) rfl rfl (po_len rfl rfl (by first | exact .t _ | exact .own rfl rfl | exact .nil _ | exact .emp _) (tyS rfl)) ?_) <;> (refine sops_pure (.free rfl rfl) rfl rfl (po_cmp rfl rfl rfl rfl) ?_) <;> (refine sops_nil ?_))
        | ((refine swp_draw (id := 5) 10 mixed (by kernel_rfl) (by kernel_rfl) ?_) <;> (refine sdraw_pure (.free rfl rfl) rfl (po_move rfl rfl) ?_) <;> (refine sdraw_pure (.free rfl rfl) rfl (po_move rfl rfl) ?_) <;> (first | refine sdraw_pure (.yes rfl rfl rfl (by first | assumption | with_reducible rfl | decide | (simp only [decide_eq_true_eq, decide_eq_false_iff_not]; omega))) rfl (po_field_bx rfl rfl (tyF rfl)) ?_ | refine sdraw_pure (.yes rfl rfl rfl (by first | assumption | with_reducible rfl | decide | (simp only [decide_eq_true_eq, decide_eq_false_iff_not]; omega))) rfl (po_field rfl rfl (tyF rfl)) ?_ | refine sdraw_skip (.no0 rfl rfl rfl (by first | assumption | with_reducible rfl | decide | (simp only [decide_eq_true_eq, decide_eq_false_iff_not]; omega))) rfl ?_ | ((refine sdraw_split rfl rfl rfl (fun hc => ?_) (fun hc => ?_)) <;> (first | refine sdraw_pure (.yes rfl rfl rfl (by first | assumption | with_reducible rfl | decide | (simp only [decide_eq_true_eq, decide_eq_false_iff_not]; omega))) rfl (po_field_bx rfl rfl (tyF rfl)) ?_ | refine sdraw_pure (.yes rfl rfl rfl (by first | assumption | with_reducible rfl | decide | (simp only [decide_eq_true_eq, decide_eq_false_iff_not]; omega))) rfl (po_field rfl rfl (tyF rfl)) ?_ | refine sdraw_skip (.no0 rfl rfl rfl (by first | assumption | with_reducible rfl | decide | (simp only [decide_eq_true_eq, decide_eq_false_iff_not]; omega))) rfl ?_))) <;> (first | refine sdraw_pure (.yes rfl rfl rfl (by first | assumption | with_reducible rfl | decide | (simp only [decide_eq_true_eq, decide_eq_false_iff_not]; omega))) rfl (po_load_bx rfl rfl (tyT rfl) rfl rfl) ?_ | refine sdraw_pure (.yes rfl rfl rfl (by first | assumption | with_reducible rfl | decide | (simp only [decide_eq_true_eq, decide_eq_false_iff_not]; omega))) rfl (po_load rfl rfl (tyT rfl) rfl) ?_ | refine sdraw_skip (.no0 rfl rfl rfl (by first | assumption | with_reducible rfl | decide | (simp only [decide_eq_true_eq, decide_eq_false_iff_not]; omega))) rfl ?_) <;> (first | refine sdraw_pure (.yes rfl rfl rfl (by first | assumption | with_reducible rfl | decide | (simp only [decide_eq_true_eq, decide_eq_false_iff_not]; omega))) rfl (po_move rfl rfl) ?_ | refine sdraw_skip (.no0 rfl rfl rfl (by first | assumption | with_reducible rfl | decide | (simp only [decide_eq_true_eq, decide_eq_false_iff_not]; omega))) rfl ?_) <;> (first | refine sdraw_pure (.yes rfl rfl rfl (by first | assumption | with_reducible rfl | decide | (simp only [decide_eq_true_eq, decide_eq_false_iff_not]; omega))) rfl (po_index rfl rfl (by first | exact .t _ | exact .own rfl rfl | exact .nil _ | exact .emp _) rfl (tyS rfl) (by first | rfl | omega) (by first | rfl | assumption | exact map_at (by first | assumption | omega))) ?_ | refine sdraw_skip (.no0 rfl rfl rfl (by first | assumption | with_reducible rfl | decide | (simp only [decide_eq_true_eq, decide_eq_false_iff_not]; omega))) rfl ?_) <;> (first | refine sdraw_pure (.yes rfl rfl rfl (by first | assumption | with_reducible rfl | decide | (simp only [decide_eq_true_eq, decide_eq_false_iff_not]; omega))) rfl (po_load_bx_agg rfl rfl (tyT rfl) rfl (.cons (by first | exact .t _ | exact .own rfl rfl | exact .nil _ | exact .emp _) (.cons (by first | exact .t _ | exact .own rfl rfl | exact .nil _ | exact .emp _) (.cons (by first | exact .t _ | exact .own rfl rfl | exact .nil _ | exact .emp _) .nil))) rfl) ?_ | refine sdraw_pure (.yes rfl rfl rfl (by first | assumption | with_reducible rfl | decide | (simp only [decide_eq_true_eq, decide_eq_false_iff_not]; omega))) rfl (po_load_agg rfl rfl (tyT rfl) rfl rfl) ?_ | refine sdraw_skip (.no0 rfl rfl rfl (by first | assumption | with_reducible rfl | decide | (simp only [decide_eq_true_eq, decide_eq_false_iff_not]; omega))) rfl ?_) <;> (first | refine sdraw_pure (.yes rfl rfl rfl (by first | assumption | with_reducible rfl | decide | (simp only [decide_eq_true_eq, decide_eq_false_iff_not]; omega))) rfl (po_load_bx_agg rfl rfl (tyT rfl) rfl (.cons (by first | exact .t _ | exact .own rfl rfl | exact .nil _ | exact .emp _) (.cons (by first | exact .t _ | exact .own rfl rfl | exact .nil _ | exact .emp _) (.cons (by first | exact .t _ | exact .own rfl rfl | exact .nil _ | exact .emp _) .nil))) rfl) ?_ | refine sdraw_pure (.yes rfl rfl rfl (by first | assumption | with_reducible rfl | decide | (simp only [decide_eq_true_eq, decide_eq_false_iff_not]; omega))) rfl (po_load_agg rfl rfl (tyT rfl) rfl rfl) ?_ | refine sdraw_skip (.no0 rfl rfl rfl (by first | assumption | with_reducible rfl | decide | (simp only [decide_eq_true_eq, decide_eq_false_iff_not]; omega))) rfl ?_) <;> (first | refine sdraw_pure (.yes rfl rfl rfl (by first | assumption | with_reducible rfl | decide | (simp only [decide_eq_true_eq, decide_eq_false_iff_not]; omega))) rfl (po_call (hc) rfl (.cons rfl (by first | exact .t _ | exact .own rfl rfl | exact .nil _ | exact .emp _) (.cons rfl (by first | exact .t _ | exact .own rfl rfl | exact .nil _ | exact .emp _) .nil))) ?_ | refine sdraw_skip (.no0 rfl rfl rfl (by first | assumption | with_reducible rfl | decide | (simp only [decide_eq_true_eq, decide_eq_false_iff_not]; omega))) rfl ?_) <;> (first | refine sdraw_pure (.free rfl rfl) rfl (po_pick_t rfl rfl (by first | assumption | with_reducible rfl | decide | (simp only [decide_eq_true_eq, decide_eq_false_iff_not]; omega)) rfl) ?_ | refine sdraw_pure (.free rfl rfl) rfl (po_pick_f rfl rfl (by first | assumption | with_reducible rfl | decide | (simp only [decide_eq_true_eq, decide_eq_false_iff_not]; omega)) rfl) ?_) <;> (refine sdraw_nil ?_) <;> (refine sops_pure (.free rfl rfl) rfl rfl (po_assign rfl rfl) ?_) <;> (refine sops_nil ?_))
        | ((refine swp_region (id := 4) ?_) <;> (refine sops_pure (.free rfl rfl) rfl rfl (po_move rfl rfl) ?_) <;> (first | refine sops_pure (.free rfl rfl) rfl rfl (po_inc rfl rfl rfl (by omega)) ?_ | refine sops_pure (.free rfl rfl) rfl rfl (po_arith rfl rfl rfl (ar_add (by first | rfl | (refine wrap_i64 ?_; omega)) rfl)) ?_) <;> (refine sops_pure (.free rfl rfl) rfl rfl (po_assign rfl rfl) ?_) <;> (refine sops_nil ?_))
        | refine swp_ret ?_
        | refine swp_skip ?_
        | refine swp_block ?_
        | refine swp_exit ?_
        | refine block_go ?_
        | refine block_exit ?_
        | refine block_far rfl ?_
        | refine block_ret ?_
        | refine then_ret ?_
        | refine then_exit ?_
        | refine for_ret ?_
        | refine for_exit ?_
        | refine swp_cond_t rfl (by first | assumption | with_reducible rfl | decide | (simp only [decide_eq_true_eq, Bool.not_eq_true', decide_eq_false_iff_not]; omega)) ?_
        | refine swp_cond_f rfl (by first | assumption | with_reducible rfl | decide | (simp only [decide_eq_false_iff_not, Bool.not_eq_false', decide_eq_true_eq]; omega)) ?_
        | refine swp_cond rfl (fun hc => ?_) (fun hc => ?_)
        | refine retq (by first | exact .inr rfl | exact .inl rfl) rfl (.tmp rfl (by first | exact .t _ | exact .own rfl rfl | exact .nil _ | exact .emp _) .nil) ?_)
  obtain rfl : k = r.from_.length := by omega
  repeat' (first
    | refine then_go ?_
    | refine swp_seq ?_
    | ((refine swp_region (id := 3) ?_) <;> (refine sops_pure (.free rfl rfl) rfl rfl (po_move rfl rfl) ?_) <;> (first | refine sops_pure (.free rfl rfl) rfl rfl (po_field_bx rfl rfl (tyF rfl)) ?_ | refine sops_pure (.free rfl rfl) rfl rfl (po_field rfl rfl (tyF rfl)) ?_) <;> (first | refine sops_pure (.free rfl rfl) rfl rfl (po_load_bx rfl rfl (tyT rfl) rfl rfl) ?_ | refine sops_pure (.free rfl rfl) rfl rfl (po_load rfl rfl (tyT rfl) rfl) ?_) <;> (refine sops_pure (.free rfl rfl) rfl rfl (po_len rfl rfl (by first | exact .t _ | exact .own rfl rfl | exact .nil _ | exact .emp _) (tyS rfl)) ?_) <;> (refine sops_pure (.free rfl rfl) rfl rfl (po_cmp rfl rfl rfl rfl) ?_) <;> (refine sops_nil ?_))
    | ((refine swp_region (id := 6) ?_) <;> (first | refine sops_pure (.free rfl rfl) rfl rfl (po_field_bx rfl rfl (tyF rfl)) ?_ | refine sops_pure (.free rfl rfl) rfl rfl (po_field rfl rfl (tyF rfl)) ?_) <;> (first | refine sops_pure (.free rfl rfl) rfl rfl (po_load_bx rfl rfl (tyT rfl) rfl rfl) ?_ | refine sops_pure (.free rfl rfl) rfl rfl (po_load rfl rfl (tyT rfl) rfl) ?_) <;> (refine sops_pure (.free rfl rfl) rfl rfl (po_len rfl rfl (by first | exact .t _ | exact .own rfl rfl | exact .nil _ | exact .emp _) (tyS rfl)) ?_) <;> (refine sops_pure (.free rfl rfl) rfl rfl (po_cmp rfl rfl rfl rfl) ?_) <;> (refine sops_pure (.free rfl rfl) rfl rfl (po_assign rfl rfl) ?_) <;> (refine sops_nil ?_))
    | ((refine swp_region (id := 7) ?_) <;> (refine sops_pure (.free rfl rfl) rfl rfl (po_assign rfl rfl) ?_) <;> (refine sops_nil ?_))
    | refine swp_ret ?_
    | refine swp_skip ?_
    | refine swp_block ?_
    | refine swp_exit ?_
    | refine block_go ?_
    | refine block_exit ?_
    | refine block_far rfl ?_
    | refine block_ret ?_
    | refine then_ret ?_
    | refine then_exit ?_
    | refine for_ret ?_
    | refine for_exit ?_
    | refine swp_cond_t rfl (by first | assumption | with_reducible rfl | decide | (simp only [decide_eq_true_eq, Bool.not_eq_true', decide_eq_false_iff_not]; omega)) ?_
    | refine swp_cond_f rfl (by first | assumption | with_reducible rfl | decide | (simp only [decide_eq_false_iff_not, Bool.not_eq_false', decide_eq_true_eq]; omega)) ?_
    | refine swp_cond rfl (fun hc => ?_) (fun hc => ?_)
    | refine retq (by first | exact .inr rfl | exact .inl rfl) rfl (.tmp rfl (by first | exact .t _ | exact .own rfl rfl | exact .nil _ | exact .emp _) .nil) ?_)
  refine swp_for (M2 r a port q tg qu bd) (fun _ => True) r.to_.length (weak_sub (.cons rfl (by first | rfl | (rw [inSo_zero, hm2])) rfl (.cons rfl (by first | rfl | (rw [inSo_zero, hm2])) rfl (.cons rfl (by first | rfl | (rw [inSo_zero, hm2])) rfl (.cons rfl (by first | rfl | (rw [inSo_zero, hm2])) rfl (.cons rfl (by first | rfl | (rw [inSo_zero, hm2])) rfl (.cons rfl (by first | rfl | (rw [inSo_zero, hm2])) rfl .nil)))))) (.cons rfl (by first | rfl | (rw [inSo_zero, hm2])) rfl (.cons rfl (by first | rfl | (rw [inSo_zero, hm2])) rfl .nil)) .nil) trivial ?_
  intro k hk _
  unfold M2
  by_cases hlt : k < r.to_.length
  · have hc := target_ r.to_[k] (k1 _ (List.getElem_mem hlt)) (hf.ts _ (List.getElem_mem hlt)) port q hq tg qu bd
    cases hb : inSo (tgtP port q) r.to_ k with
    | true =>
      have hs1 := inSo_yes hlt hb
      repeat' (first
        | refine then_go ?_
        | refine swp_seq ?_
        | refine for_next hlt (weak_sub (.cons rfl (by first | rfl | (rw [hs1])) rfl (.cons rfl (by first | rfl | (rw [hs1])) rfl (.cons rfl (by first | rfl | (rw [hs1])) rfl (.cons rfl (by first | rfl | (rw [hs1])) rfl (.cons rfl (by first | rfl | (rw [hs1])) rfl (.cons rfl (by first | rfl | (rw [hs1])) rfl .nil)))))) (.cons rfl (by first | rfl | (rw [hs1])) rfl (.cons rfl (by first | rfl | (rw [hs1])) rfl .nil)) .nil) trivial
        | ((refine swp_region (id := 8) ?_) <;> (refine sops_pure (.free rfl rfl) rfl rfl (po_move rfl rfl) ?_) <;> (first | refine sops_pure (.free rfl rfl) rfl rfl (po_field_bx rfl rfl (tyF rfl)) ?_ | refine sops_pure (.free rfl rfl) rfl rfl (po_field rfl rfl (tyF rfl)) ?_) <;> (first | refine sops_pure (.free rfl rfl) rfl rfl (po_load_bx rfl rfl (tyT rfl) rfl rfl) ?_ | refine sops_pure (.free rfl rfl) rfl rfl (po_load rfl rfl (tyT rfl) rfl) ?_) <;> (refine sops_pure (.free rfl rfl) rfl rfl (po_len rfl rfl (by first | exact .t _ | exact .own rfl rfl | exact .nil _ | exact .emp _) (tyS rfl)) ?_) <;> (refine sops_pure (.free rfl rfl) rfl rfl (po_cmp rfl rfl rfl rfl) ?_) <;> (refine sops_nil ?_))
        | ((refine swp_draw (id := 10) 11 mixed (by kernel_rfl) (by kernel_rfl) ?_) <;> (refine sdraw_pure (.free rfl rfl) rfl (po_move rfl rfl) ?_) <;> (refine sdraw_pure (.free rfl rfl) rfl (po_move rfl rfl) ?_) <;> (first | refine sdraw_pure (.yes rfl rfl rfl (by first | assumption | with_reducible rfl | decide | (simp only [decide_eq_true_eq, decide_eq_false_iff_not]; omega))) rfl (po_field_bx rfl rfl (tyF rfl)) ?_ | refine sdraw_pure (.yes rfl rfl rfl (by first | assumption | with_reducible rfl | decide | (simp only [decide_eq_true_eq, decide_eq_false_iff_not]; omega))) rfl (po_field rfl rfl (tyF rfl)) ?_ | refine sdraw_skip (.no0 rfl rfl rfl (by first | assumption | with_reducible rfl | decide | (simp only [decide_eq_true_eq, decide_eq_false_iff_not]; omega))) rfl ?_ | ((refine sdraw_split rfl rfl rfl (fun hc => ?_) (fun hc => ?_)) <;> (first | refine sdraw_pure (.yes rfl rfl rfl (by first | assumption | with_reducible rfl | decide | (simp only [decide_eq_true_eq, decide_eq_false_iff_not]; omega))) rfl (po_field_bx rfl rfl (tyF rfl)) ?_ | refine sdraw_pure (.yes rfl rfl rfl (by first | assumption | with_reducible rfl | decide | (simp only [decide_eq_true_eq, decide_eq_false_iff_not]; omega))) rfl (po_field rfl rfl (tyF rfl)) ?_ | refine sdraw_skip (.no0 rfl rfl rfl (by first | assumption | with_reducible rfl | decide | (simp only [decide_eq_true_eq, decide_eq_false_iff_not]; omega))) rfl ?_))) <;> (first | refine sdraw_pure (.yes rfl rfl rfl (by first | assumption | with_reducible rfl | decide | (simp only [decide_eq_true_eq, decide_eq_false_iff_not]; omega))) rfl (po_load_bx rfl rfl (tyT rfl) rfl rfl) ?_ | refine sdraw_pure (.yes rfl rfl rfl (by first | assumption | with_reducible rfl | decide | (simp only [decide_eq_true_eq, decide_eq_false_iff_not]; omega))) rfl (po_load rfl rfl (tyT rfl) rfl) ?_ | refine sdraw_skip (.no0 rfl rfl rfl (by first | assumption | with_reducible rfl | decide | (simp only [decide_eq_true_eq, decide_eq_false_iff_not]; omega))) rfl ?_) <;> (first | refine sdraw_pure (.yes rfl rfl rfl (by first | assumption | with_reducible rfl | decide | (simp only [decide_eq_true_eq, decide_eq_false_iff_not]; omega))) rfl (po_move rfl rfl) ?_ | refine sdraw_skip (.no0 rfl rfl rfl (by first | assumption | with_reducible rfl | decide | (simp only [decide_eq_true_eq, decide_eq_false_iff_not]; omega))) rfl ?_) <;> (first | refine sdraw_pure (.yes rfl rfl rfl (by first | assumption | with_reducible rfl | decide | (simp only [decide_eq_true_eq, decide_eq_false_iff_not]; omega))) rfl (po_index rfl rfl (by first | exact .t _ | exact .own rfl rfl | exact .nil _ | exact .emp _) rfl (tyS rfl) (by first | rfl | omega) (by first | rfl | assumption | exact map_at (by first | assumption | omega))) ?_ | refine sdraw_skip (.no0 rfl rfl rfl (by first | assumption | with_reducible rfl | decide | (simp only [decide_eq_true_eq, decide_eq_false_iff_not]; omega))) rfl ?_) <;> (first | refine sdraw_pure (.yes rfl rfl rfl (by first | assumption | with_reducible rfl | decide | (simp only [decide_eq_true_eq, decide_eq_false_iff_not]; omega))) rfl (po_load_bx_agg rfl rfl (tyT rfl) rfl (.cons (by first | exact .t _ | exact .own rfl rfl | exact .nil _ | exact .emp _) (.cons (by first | exact .t _ | exact .own rfl rfl | exact .nil _ | exact .emp _) (.cons (by first | exact .t _ | exact .own rfl rfl | exact .nil _ | exact .emp _) (.cons (by first | exact .t _ | exact .own rfl rfl | exact .nil _ | exact .emp _) .nil)))) rfl) ?_ | refine sdraw_pure (.yes rfl rfl rfl (by first | assumption | with_reducible rfl | decide | (simp only [decide_eq_true_eq, decide_eq_false_iff_not]; omega))) rfl (po_load_agg rfl rfl (tyT rfl) rfl rfl) ?_ | refine sdraw_skip (.no0 rfl rfl rfl (by first | assumption | with_reducible rfl | decide | (simp only [decide_eq_true_eq, decide_eq_false_iff_not]; omega))) rfl ?_) <;> (first | refine sdraw_pure (.yes rfl rfl rfl (by first | assumption | with_reducible rfl | decide | (simp only [decide_eq_true_eq, decide_eq_false_iff_not]; omega))) rfl (po_move rfl rfl) ?_ | refine sdraw_skip (.no0 rfl rfl rfl (by first | assumption | with_reducible rfl | decide | (simp only [decide_eq_true_eq, decide_eq_false_iff_not]; omega))) rfl ?_) <;> (first | refine sdraw_pure (.yes rfl rfl rfl (by first | assumption | with_reducible rfl | decide | (simp only [decide_eq_true_eq, decide_eq_false_iff_not]; omega))) rfl (po_load_bx_agg rfl rfl (tyT rfl) rfl (.cons (by first | exact .t _ | exact .own rfl rfl | exact .nil _ | exact .emp _) (.cons (by first | exact .t _ | exact .own rfl rfl | exact .nil _ | exact .emp _) (.cons (by first | exact .t _ | exact .own rfl rfl | exact .nil _ | exact .emp _) (.cons (by first | exact .t _ | exact .own rfl rfl | exact .nil _ | exact .emp _) (.cons (by first | exact .t _ | exact .own rfl rfl | exact .nil _ | exact .emp _) (.cons (by first | exact .t _ | exact .own rfl rfl | exact .nil _ | exact .emp _) (.cons (by first | exact .t _ | exact .own rfl rfl | exact .nil _ | exact .emp _) .nil))))))) rfl) ?_ | refine sdraw_pure (.yes rfl rfl rfl (by first | assumption | with_reducible rfl | decide | (simp only [decide_eq_true_eq, decide_eq_false_iff_not]; omega))) rfl (po_load_agg rfl rfl (tyT rfl) rfl rfl) ?_ | refine sdraw_skip (.no0 rfl rfl rfl (by first | assumption | with_reducible rfl | decide | (simp only [decide_eq_true_eq, decide_eq_false_iff_not]; omega))) rfl ?_) <;> (first | refine sdraw_pure (.yes rfl rfl rfl (by first | assumption | with_reducible rfl | decide | (simp only [decide_eq_true_eq, decide_eq_false_iff_not]; omega))) rfl (po_call (hc) rfl (.cons rfl (by first | exact .t _ | exact .own rfl rfl | exact .nil _ | exact .emp _) (.cons rfl (by first | exact .t _ | exact .own rfl rfl | exact .nil _ | exact .emp _) (.cons rfl (by first | exact .t _ | exact .own rfl rfl | exact .nil _ | exact .emp _) .nil)))) ?_ | refine sdraw_skip (.no0 rfl rfl rfl (by first | assumption | with_reducible rfl | decide | (simp only [decide_eq_true_eq, decide_eq_false_iff_not]; omega))) rfl ?_) <;> (first | refine sdraw_pure (.free rfl rfl) rfl (po_pick_t rfl rfl (by first | assumption | with_reducible rfl | decide | (simp only [decide_eq_true_eq, decide_eq_false_iff_not]; omega)) rfl) ?_ | refine sdraw_pure (.free rfl rfl) rfl (po_pick_f rfl rfl (by first | assumption | with_reducible rfl | decide | (simp only [decide_eq_true_eq, decide_eq_false_iff_not]; omega)) rfl) ?_) <;> (refine sdraw_nil ?_) <;> (refine sops_pure (.free rfl rfl) rfl rfl (po_assign rfl rfl) ?_) <;> (refine sops_nil ?_))
        | ((refine swp_region (id := 9) ?_) <;> (refine sops_pure (.free rfl rfl) rfl rfl (po_move rfl rfl) ?_) <;> (first | refine sops_pure (.free rfl rfl) rfl rfl (po_inc rfl rfl rfl (by omega)) ?_ | refine sops_pure (.free rfl rfl) rfl rfl (po_arith rfl rfl rfl (ar_add (by first | rfl | (refine wrap_i64 ?_; omega)) rfl)) ?_) <;> (refine sops_pure (.free rfl rfl) rfl rfl (po_assign rfl rfl) ?_) <;> (refine sops_nil ?_))
        | refine swp_ret ?_
        | refine swp_skip ?_
        | refine swp_block ?_
        | refine swp_exit ?_
        | refine block_go ?_
        | refine block_exit ?_
        | refine block_far rfl ?_
        | refine block_ret ?_
        | refine then_ret ?_
        | refine then_exit ?_
        | refine for_ret ?_
        | refine for_exit ?_
        | refine swp_cond_t rfl (by first | assumption | with_reducible rfl | decide | (simp only [decide_eq_true_eq, Bool.not_eq_true', decide_eq_false_iff_not]; omega)) ?_
        | refine swp_cond_f rfl (by first | assumption | with_reducible rfl | decide | (simp only [decide_eq_false_iff_not, Bool.not_eq_false', decide_eq_true_eq]; omega)) ?_
        | refine swp_cond rfl (fun hc => ?_) (fun hc => ?_)
        | refine retq (by first | exact .inr rfl | exact .inl rfl) rfl (.tmp rfl (by first | exact .t _ | exact .own rfl rfl | exact .nil _ | exact .emp _) .nil) ?_)
    | false =>
      have hs1 := inSo_no hlt hb
      repeat' (first
        | refine then_go ?_
        | refine swp_seq ?_
        | refine for_next hlt (weak_sub (.cons rfl (by first | rfl | (rw [hs1])) rfl (.cons rfl (by first | rfl | (rw [hs1])) rfl (.cons rfl (by first | rfl | (rw [hs1])) rfl (.cons rfl (by first | rfl | (rw [hs1])) rfl (.cons rfl (by first | rfl | (rw [hs1])) rfl (.cons rfl (by first | rfl | (rw [hs1])) rfl .nil)))))) (.cons rfl (by first | rfl | (rw [hs1])) rfl (.cons rfl (by first | rfl | (rw [hs1])) rfl .nil)) .nil) trivial
        | ((refine swp_region (id := 8) ?_) <;> (refine sops_pure (.free rfl rfl) rfl rfl (po_move rfl rfl) ?_) <;> (first | refine sops_pure (.free rfl rfl) rfl rfl (po_field_bx rfl rfl (tyF rfl)) ?_ | refine sops_pure (.free rfl rfl) rfl rfl (po_field rfl rfl (tyF rfl)) ?_) <;> (first | refine sops_pure (.free rfl rfl) rfl rfl (po_load_bx rfl rfl (tyT rfl) rfl rfl) ?_ | refine sops_pure (.free rfl rfl) rfl rfl (po_load rfl rfl (tyT rfl) rfl) ?_) <;> (refine sops_pure (.free rfl rfl) rfl rfl (po_len rfl rfl (by first | exact .t _ | exact .own rfl rfl | exact .nil _ | exact .emp _) (tyS rfl)) ?_) <;> (refine sops_pure (.free rfl rfl) rfl rfl (po_cmp rfl rfl rfl rfl) ?_) <;> (refine sops_nil ?_))
        | ((refine swp_draw (id := 10) 11 mixed (by kernel_rfl) (by kernel_rfl) ?_) <;> (refine sdraw_pure (.free rfl rfl) rfl (po_move rfl rfl) ?_) <;> (refine sdraw_pure (.free rfl rfl) rfl (po_move rfl rfl) ?_) <;> (first | refine sdraw_pure (.yes rfl rfl rfl (by first | assumption | with_reducible rfl | decide | (simp only [decide_eq_true_eq, decide_eq_false_iff_not]; omega))) rfl (po_field_bx rfl rfl (tyF rfl)) ?_ | refine sdraw_pure (.yes rfl rfl rfl (by first | assumption | with_reducible rfl | decide | (simp only [decide_eq_true_eq, decide_eq_false_iff_not]; omega))) rfl (po_field rfl rfl (tyF rfl)) ?_ | refine sdraw_skip (.no0 rfl rfl rfl (by first | assumption | with_reducible rfl | decide | (simp only [decide_eq_true_eq, decide_eq_false_iff_not]; omega))) rfl ?_ | ((refine sdraw_split rfl rfl rfl (fun hc => ?_) (fun hc => ?_)) <;> (first | refine sdraw_pure (.yes rfl rfl rfl (by first | assumption | with_reducible rfl | decide | (simp only [decide_eq_true_eq, decide_eq_false_iff_not]; omega))) rfl (po_field_bx rfl rfl (tyF rfl)) ?_ | refine sdraw_pure (.yes rfl rfl rfl (by first | assumption | with_reducible rfl | decide | (simp only [decide_eq_true_eq, decide_eq_false_iff_not]; omega))) rfl (po_field rfl rfl (tyF rfl)) ?_ | refine sdraw_skip (.no0 rfl rfl rfl (by first | assumption | with_reducible rfl | decide | (simp only [decide_eq_true_eq, decide_eq_false_iff_not]; omega))) rfl ?_))) <;> (first | refine sdraw_pure (.yes rfl rfl rfl (by first | assumption | with_reducible rfl | decide | (simp only [decide_eq_true_eq, decide_eq_false_iff_not]; omega))) rfl (po_load_bx rfl rfl (tyT rfl) rfl rfl) ?_ | refine sdraw_pure (.yes rfl rfl rfl (by first | assumption | with_reducible rfl | decide | (simp only [decide_eq_true_eq, decide_eq_false_iff_not]; omega))) rfl (po_load rfl rfl (tyT rfl) rfl) ?_ | refine sdraw_skip (.no0 rfl rfl rfl (by first | assumption | with_reducible rfl | decide | (simp only [decide_eq_true_eq, decide_eq_false_iff_not]; omega))) rfl ?_) <;> (first | refine sdraw_pure (.yes rfl rfl rfl (by first | assumption | with_reducible rfl | decide | (simp only [decide_eq_true_eq, decide_eq_false_iff_not]; omega))) rfl (po_move rfl rfl) ?_ | refine sdraw_skip (.no0 rfl rfl rfl (by first | assumption | with_reducible rfl | decide | (simp only [decide_eq_true_eq, decide_eq_false_iff_not]; omega))) rfl ?_) <;> (first | refine sdraw_pure (.yes rfl rfl rfl (by first | assumption | with_reducible rfl | decide | (simp only [decide_eq_true_eq, decide_eq_false_iff_not]; omega))) rfl (po_index rfl rfl (by first | exact .t _ | exact .own rfl rfl | exact .nil _ | exact .emp _) rfl (tyS rfl) (by first | rfl | omega) (by first | rfl | assumption | exact map_at (by first | assumption | omega))) ?_ | refine sdraw_skip (.no0 rfl rfl rfl (by first | assumption | with_reducible rfl | decide | (simp only [decide_eq_true_eq, decide_eq_false_iff_not]; omega))) rfl ?_) <;> (first | refine sdraw_pure (.yes rfl rfl rfl (by first | assumption | with_reducible rfl | decide | (simp only [decide_eq_true_eq, decide_eq_false_iff_not]; omega))) rfl (po_load_bx_agg rfl rfl (tyT rfl) rfl (.cons (by first | exact .t _ | exact .own rfl rfl | exact .nil _ | exact .emp _) (.cons (by first | exact .t _ | exact .own rfl rfl | exact .nil _ | exact .emp _) (.cons (by first | exact .t _ | exact .own rfl rfl | exact .nil _ | exact .emp _) (.cons (by first | exact .t _ | exact .own rfl rfl | exact .nil _ | exact .emp _) .nil)))) rfl) ?_ | refine sdraw_pure (.yes rfl rfl rfl (by first | assumption | with_reducible rfl | decide | (simp only [decide_eq_true_eq, decide_eq_false_iff_not]; omega))) rfl (po_load_agg rfl rfl (tyT rfl) rfl rfl) ?_ | refine sdraw_skip (.no0 rfl rfl rfl (by first | assumption | with_reducible rfl | decide | (simp only [decide_eq_true_eq, decide_eq_false_iff_not]; omega))) rfl ?_) <;> (first | refine sdraw_pure (.yes rfl rfl rfl (by first | assumption | with_reducible rfl | decide | (simp only [decide_eq_true_eq, decide_eq_false_iff_not]; omega))) rfl (po_move rfl rfl) ?_ | refine sdraw_skip (.no0 rfl rfl rfl (by first | assumption | with_reducible rfl | decide | (simp only [decide_eq_true_eq, decide_eq_false_iff_not]; omega))) rfl ?_) <;> (first | refine sdraw_pure (.yes rfl rfl rfl (by first | assumption | with_reducible rfl | decide | (simp only [decide_eq_true_eq, decide_eq_false_iff_not]; omega))) rfl (po_load_bx_agg rfl rfl (tyT rfl) rfl (.cons (by first | exact .t _ | exact .own rfl rfl | exact .nil _ | exact .emp _) (.cons (by first | exact .t _ | exact .own rfl rfl | exact .nil _ | exact .emp _) (.cons (by first | exact .t _ | exact .own rfl rfl | exact .nil _ | exact .emp _) (.cons (by first | exact .t _ | exact .own rfl rfl | exact .nil _ | exact .emp _) (.cons (by first | exact .t _ | exact .own rfl rfl | exact .nil _ | exact .emp _) (.cons (by first | exact .t _ | exact .own rfl rfl | exact .nil _ | exact .emp _) (.cons (by first | exact .t _ | exact .own rfl rfl | exact .nil _ | exact .emp _) .nil))))))) rfl) ?_ | refine sdraw_pure (.yes rfl rfl rfl (by first | assumption | with_reducible rfl | decide | (simp only [decide_eq_true_eq, decide_eq_false_iff_not]; omega))) rfl (po_load_agg rfl rfl (tyT rfl) rfl rfl) ?_ | refine sdraw_skip (.no0 rfl rfl rfl (by first | assumption | with_reducible rfl | decide | (simp only [decide_eq_true_eq, decide_eq_false_iff_not]; omega))) rfl ?_) <;> (first | refine sdraw_pure (.yes rfl rfl rfl (by first | assumption | with_reducible rfl | decide | (simp only [decide_eq_true_eq, decide_eq_false_iff_not]; omega))) rfl (po_call (hc) rfl (.cons rfl (by first | exact .t _ | exact .own rfl rfl | exact .nil _ | exact .emp _) (.cons rfl (by first | exact .t _ | exact .own rfl rfl | exact .nil _ | exact .emp _) (.cons rfl (by first | exact .t _ | exact .own rfl rfl | exact .nil _ | exact .emp _) .nil)))) ?_ | refine sdraw_skip (.no0 rfl rfl rfl (by first | assumption | with_reducible rfl | decide | (simp only [decide_eq_true_eq, decide_eq_false_iff_not]; omega))) rfl ?_) <;> (first | refine sdraw_pure (.free rfl rfl) rfl (po_pick_t rfl rfl (by first | assumption | with_reducible rfl | decide | (simp only [decide_eq_true_eq, decide_eq_false_iff_not]; omega)) rfl) ?_ | refine sdraw_pure (.free rfl rfl) rfl (po_pick_f rfl rfl (by first | assumption | with_reducible rfl | decide | (simp only [decide_eq_true_eq, decide_eq_false_iff_not]; omega)) rfl) ?_) <;> (refine sdraw_nil ?_) <;> (refine sops_pure (.free rfl rfl) rfl rfl (po_assign rfl rfl) ?_) <;> (refine sops_nil ?_))
        | ((refine swp_region (id := 9) ?_) <;> (refine sops_pure (.free rfl rfl) rfl rfl (po_move rfl rfl) ?_) <;> (first | refine sops_pure (.free rfl rfl) rfl rfl (po_inc rfl rfl rfl (by omega)) ?_ | refine sops_pure (.free rfl rfl) rfl rfl (po_arith rfl rfl rfl (ar_add (by first | rfl | (refine wrap_i64 ?_; omega)) rfl)) ?_) <;> (refine sops_pure (.free rfl rfl) rfl rfl (po_assign rfl rfl) ?_) <;> (refine sops_nil ?_))
        | refine swp_ret ?_
        | refine swp_skip ?_
        | refine swp_block ?_
        | refine swp_exit ?_
        | refine block_go ?_
        | refine block_exit ?_
        | refine block_far rfl ?_
        | refine block_ret ?_
        | refine then_ret ?_
        | refine then_exit ?_
        | refine for_ret ?_
        | refine for_exit ?_
        | refine swp_cond_t rfl (by first | assumption | with_reducible rfl | decide | (simp only [decide_eq_true_eq, Bool.not_eq_true', decide_eq_false_iff_not]; omega)) ?_
        | refine swp_cond_f rfl (by first | assumption | with_reducible rfl | decide | (simp only [decide_eq_false_iff_not, Bool.not_eq_false', decide_eq_true_eq]; omega)) ?_
        | refine swp_cond rfl (fun hc => ?_) (fun hc => ?_)
        | refine retq (by first | exact .inr rfl | exact .inl rfl) rfl (.tmp rfl (by first | exact .t _ | exact .own rfl rfl | exact .nil _ | exact .emp _) .nil) ?_)
  obtain rfl : k = r.to_.length := by omega
  repeat' (first
    | refine then_go ?_
    | refine swp_seq ?_
    | ((refine swp_region (id := 8) ?_) <;> (refine sops_pure (.free rfl rfl) rfl rfl (po_move rfl rfl) ?_) <;> (first | refine sops_pure (.free rfl rfl) rfl rfl (po_field_bx rfl rfl (tyF rfl)) ?_ | refine sops_pure (.free rfl rfl) rfl rfl (po_field rfl rfl (tyF rfl)) ?_) <;> (first | refine sops_pure (.free rfl rfl) rfl rfl (po_load_bx rfl rfl (tyT rfl) rfl rfl) ?_ | refine sops_pure (.free rfl rfl) rfl rfl (po_load rfl rfl (tyT rfl) rfl) ?_) <;> (refine sops_pure (.free rfl rfl) rfl rfl (po_len rfl rfl (by first | exact .t _ | exact .own rfl rfl | exact .nil _ | exact .emp _) (tyS rfl)) ?_) <;> (refine sops_pure (.free rfl rfl) rfl rfl (po_cmp rfl rfl rfl rfl) ?_) <;> (refine sops_nil ?_))
    | ((refine swp_region (id := 11) ?_) <;> (refine sops_pure (.free rfl rfl) rfl rfl (po_assign rfl rfl) ?_) <;> (refine sops_nil ?_))
    | refine swp_ret ?_
    | refine swp_skip ?_
    | refine swp_block ?_
    | refine swp_exit ?_
    | refine block_go ?_
    | refine block_exit ?_
    | refine block_far rfl ?_
    | refine block_ret ?_
    | refine then_ret ?_
    | refine then_exit ?_
    | refine for_ret ?_
    | refine for_exit ?_
    | refine swp_cond_t rfl (by first | assumption | with_reducible rfl | decide | (simp only [decide_eq_true_eq, Bool.not_eq_true', decide_eq_false_iff_not]; omega)) ?_
    | refine swp_cond_f rfl (by first | assumption | with_reducible rfl | decide | (simp only [decide_eq_false_iff_not, Bool.not_eq_false', decide_eq_true_eq]; omega)) ?_
    | refine swp_cond rfl (fun hc => ?_) (fun hc => ?_)
    | refine retq (by first | exact .inr rfl | exact .inl rfl) rfl (.tmp rfl (by first | exact .t _ | exact .own rfl rfl | exact .nil _ | exact .emp _) .nil) ?_)
  refine swp_for (M3 r a port q tg qu bd) (fun k => (r.when_.take k).all (whenP q.heads) = true) r.when_.length (weak_sub (.cons rfl rfl rfl (.cons rfl rfl rfl (.cons rfl rfl rfl (.cons rfl rfl rfl (.cons rfl rfl rfl .nil))))) (.cons rfl rfl rfl (.cons rfl rfl rfl .nil)) .nil) rfl ?_
  intro k hk hI
  unfold M3
  by_cases hlt : k < r.when_.length
  · have hc := when__ r.when_[k] (k2 _ (List.getElem_mem hlt)) (hf.ws _ (List.getElem_mem hlt)) q hq tg qu bd
    have hs1 := all_snoc (p := whenP q.heads) hlt
    rw [hI, Bool.true_and] at hs1
    repeat' (first
      | refine then_go ?_
      | refine swp_seq ?_
      | refine for_next hlt (weak_sub (.cons rfl rfl rfl (.cons rfl rfl rfl (.cons rfl rfl rfl (.cons rfl rfl rfl (.cons rfl rfl rfl .nil))))) (.cons rfl rfl rfl (.cons rfl rfl rfl .nil)) .nil) ?_
      | ((refine swp_region (id := 12) ?_) <;> (refine sops_pure (.free rfl rfl) rfl rfl (po_move rfl rfl) ?_) <;> (first | refine sops_pure (.free rfl rfl) rfl rfl (po_field_bx rfl rfl (tyF rfl)) ?_ | refine sops_pure (.free rfl rfl) rfl rfl (po_field rfl rfl (tyF rfl)) ?_) <;> (first | refine sops_pure (.free rfl rfl) rfl rfl (po_load_bx rfl rfl (tyT rfl) rfl rfl) ?_ | refine sops_pure (.free rfl rfl) rfl rfl (po_load rfl rfl (tyT rfl) rfl) ?_) <;> (refine sops_pure (.free rfl rfl) rfl rfl (po_len rfl rfl (by first | exact .t _ | exact .own rfl rfl | exact .nil _ | exact .emp _) (tyS rfl)) ?_) <;> (refine sops_pure (.free rfl rfl) rfl rfl (po_cmp rfl rfl rfl rfl) ?_) <;> (refine sops_nil ?_))
      | ((refine swp_draw_all (id := 14) mixed (by kernel_rfl) (by kernel_rfl) ?_) <;> (first | refine sdraw_pure (.free rfl rfl) rfl (po_field_bx rfl rfl (tyF rfl)) ?_ | refine sdraw_pure (.free rfl rfl) rfl (po_field rfl rfl (tyF rfl)) ?_) <;> (first | refine sdraw_pure (.free rfl rfl) rfl (po_load_bx rfl rfl (tyT rfl) rfl rfl) ?_ | refine sdraw_pure (.free rfl rfl) rfl (po_load rfl rfl (tyT rfl) rfl) ?_) <;> (refine sdraw_pure (.free rfl rfl) rfl (po_move rfl rfl) ?_) <;> (refine sdraw_pure (.free rfl rfl) rfl (po_index rfl rfl (by first | exact .t _ | exact .own rfl rfl | exact .nil _ | exact .emp _) rfl (tyS rfl) (by first | rfl | omega) (by first | rfl | assumption | exact map_at (by first | assumption | omega))) ?_) <;> (first | refine sdraw_pure (.free rfl rfl) rfl (po_load_bx_agg rfl rfl (tyT rfl) rfl (.cons (by first | exact .t _ | exact .own rfl rfl | exact .nil _ | exact .emp _) (.cons (by first | exact .t _ | exact .own rfl rfl | exact .nil _ | exact .emp _) .nil)) rfl) ?_ | refine sdraw_pure (.free rfl rfl) rfl (po_load_agg rfl rfl (tyT rfl) rfl rfl) ?_) <;> (first | refine sdraw_pure (.free rfl rfl) rfl (po_load_bx_agg rfl rfl (tyT rfl) rfl (.cons (by first | exact .t _ | exact .own rfl rfl | exact .nil _ | exact .emp _) (.cons (by first | exact .t _ | exact .own rfl rfl | exact .nil _ | exact .emp _) (.cons (by first | exact .t _ | exact .own rfl rfl | exact .nil _ | exact .emp _) (.cons (by first | exact .t _ | exact .own rfl rfl | exact .nil _ | exact .emp _) (.cons (by first | exact .t _ | exact .own rfl rfl | exact .nil _ | exact .emp _) (.cons (by first | exact .t _ | exact .own rfl rfl | exact .nil _ | exact .emp _) (.cons (by first | exact .t _ | exact .own rfl rfl | exact .nil _ | exact .emp _) .nil))))))) rfl) ?_ | refine sdraw_pure (.free rfl rfl) rfl (po_load_agg rfl rfl (tyT rfl) rfl rfl) ?_) <;> (refine sdraw_pure (.free rfl rfl) rfl (po_call (hc) rfl (.cons rfl (by first | exact .t _ | exact .own rfl rfl | exact .nil _ | exact .emp _) (.cons rfl (by first | exact .t _ | exact .own rfl rfl | exact .nil _ | exact .emp _) .nil))) ?_) <;> (refine sdraw_pure (.free rfl rfl) rfl (po_not rfl rfl) ?_) <;> (refine sdraw_nil ?_) <;> (refine sops_nil ?_))
      | ((refine swp_region (id := 15) ?_) <;> (refine sops_pure (.free rfl rfl) rfl rfl (po_assign rfl rfl) ?_) <;> (refine sops_nil ?_))
      | ((refine swp_region (id := 13) ?_) <;> (refine sops_pure (.free rfl rfl) rfl rfl (po_move rfl rfl) ?_) <;> (first | refine sops_pure (.free rfl rfl) rfl rfl (po_inc rfl rfl rfl (by omega)) ?_ | refine sops_pure (.free rfl rfl) rfl rfl (po_arith rfl rfl rfl (ar_add (by first | rfl | (refine wrap_i64 ?_; omega)) rfl)) ?_) <;> (refine sops_pure (.free rfl rfl) rfl rfl (po_assign rfl rfl) ?_) <;> (refine sops_nil ?_))
      | refine swp_ret ?_
      | refine swp_skip ?_
      | refine swp_block ?_
      | refine swp_exit ?_
      | refine block_go ?_
      | refine block_exit ?_
      | refine block_far rfl ?_
      | refine block_ret ?_
      | refine then_ret ?_
      | refine then_exit ?_
      | refine for_ret ?_
      | refine for_exit ?_
      | refine swp_cond_t rfl (by first | assumption | with_reducible rfl | decide | (simp only [decide_eq_true_eq, Bool.not_eq_true', decide_eq_false_iff_not]; omega)) ?_
      | refine swp_cond_f rfl (by first | assumption | with_reducible rfl | decide | (simp only [decide_eq_false_iff_not, Bool.not_eq_false', decide_eq_true_eq]; omega)) ?_
      | refine swp_cond rfl (fun hc => ?_) (fun hc => ?_)
      | refine retq (by first | exact .inr rfl | exact .inl rfl) rfl (.tmp rfl (by first | exact .t _ | exact .own rfl rfl | exact .nil _ | exact .emp _) .nil) ?_)
    · refine eq_b ?_
      have : r.when_.all (whenP q.heads) = false := by
        rw [List.all_eq_false]
        exact ⟨_, List.getElem_mem hlt, by simp_all⟩
      unfold matchP
      rw [this, Bool.and_false]
    · rw [hs1]; simp_all
  · obtain rfl : k = r.when_.length := by omega
    rw [List.take_length] at hI
    unfold matchP
    rw [hI, Bool.and_true, inSo_all, inSo_all]
    cases hb : (r.from_.isEmpty || r.from_.any (srcP a))
    all_goals
      repeat' (first
        | refine then_go ?_
        | refine swp_seq ?_
        | ((refine swp_region (id := 12) ?_) <;> (refine sops_pure (.free rfl rfl) rfl rfl (po_move rfl rfl) ?_) <;> (first | refine sops_pure (.free rfl rfl) rfl rfl (po_field_bx rfl rfl (tyF rfl)) ?_ | refine sops_pure (.free rfl rfl) rfl rfl (po_field rfl rfl (tyF rfl)) ?_) <;> (first | refine sops_pure (.free rfl rfl) rfl rfl (po_load_bx rfl rfl (tyT rfl) rfl rfl) ?_ | refine sops_pure (.free rfl rfl) rfl rfl (po_load rfl rfl (tyT rfl) rfl) ?_) <;> (refine sops_pure (.free rfl rfl) rfl rfl (po_len rfl rfl (by first | exact .t _ | exact .own rfl rfl | exact .nil _ | exact .emp _) (tyS rfl)) ?_) <;> (refine sops_pure (.free rfl rfl) rfl rfl (po_cmp rfl rfl rfl rfl) ?_) <;> (refine sops_nil ?_))
        | ((refine swp_region (id := 16) ?_) <;> (refine sops_pure (.free rfl rfl) rfl rfl (po_move rfl rfl) ?_) <;> (refine sops_pure (.free rfl rfl) rfl rfl (po_move rfl rfl) ?_) <;> (first | refine sops_pure (.yes rfl rfl rfl (by first | assumption | with_reducible rfl | decide | (simp only [decide_eq_true_eq, decide_eq_false_iff_not]; omega))) rfl rfl (po_move rfl rfl) ?_ | refine sops_skip (.no1 rfl rfl rfl (by first | assumption | with_reducible rfl | decide | (simp only [decide_eq_true_eq, decide_eq_false_iff_not]; omega))) rfl rfl ?_ | ((refine sops_split rfl rfl rfl (fun hc => ?_) (fun hc => ?_)) <;> (first | refine sops_pure (.yes rfl rfl rfl (by first | assumption | with_reducible rfl | decide | (simp only [decide_eq_true_eq, decide_eq_false_iff_not]; omega))) rfl rfl (po_move rfl rfl) ?_ | refine sops_skip (.no1 rfl rfl rfl (by first | assumption | with_reducible rfl | decide | (simp only [decide_eq_true_eq, decide_eq_false_iff_not]; omega))) rfl rfl ?_))) <;> (first | refine sops_pure (.free rfl rfl) rfl rfl (po_pick_t rfl rfl (by first | assumption | with_reducible rfl | decide | (simp only [decide_eq_true_eq, decide_eq_false_iff_not]; omega)) rfl) ?_ | refine sops_pure (.free rfl rfl) rfl rfl (po_pick_f rfl rfl (by first | assumption | with_reducible rfl | decide | (simp only [decide_eq_true_eq, decide_eq_false_iff_not]; omega)) rfl) ?_) <;> (refine sops_pure (.free rfl rfl) rfl rfl (po_assign rfl rfl) ?_) <;> (refine sops_nil ?_))
        | refine swp_ret ?_
        | refine swp_skip ?_
        | refine swp_block ?_
        | refine swp_exit ?_
        | refine block_go ?_
        | refine block_exit ?_
        | refine block_far rfl ?_
        | refine block_ret ?_
        | refine then_ret ?_
        | refine then_exit ?_
        | refine for_ret ?_
        | refine for_exit ?_
        | refine swp_cond_t rfl (by first | assumption | with_reducible rfl | decide | (simp only [decide_eq_true_eq, Bool.not_eq_true', decide_eq_false_iff_not]; omega)) ?_
        | refine swp_cond_f rfl (by first | assumption | with_reducible rfl | decide | (simp only [decide_eq_false_iff_not, Bool.not_eq_false', decide_eq_true_eq]; omega)) ?_
        | refine swp_cond rfl (fun hc => ?_) (fun hc => ?_)
        | refine retq (by first | exact .inr rfl | exact .inl rfl) rfl (.tmp rfl (by first | exact .t _ | exact .own rfl rfl | exact .nil _ | exact .emp _) .nil) ?_)
    all_goals
      refine eq_b ?_
      simp
theorem eq_bi {a b : Bool} {x y : Int} (h : a = b) (h' : x = y) : T.tup [.v (.bool a), .v (.int .u64 x)] = resT [.v (.bool b), .v (.int .u64 y)] := by rw [h, h']; rfl
section
open Pl
variable (M : Pl.Rule → Bool)
def byP (d : Bool) (A : List Pl.Policy) : Option Int := (firstP M d A).map (·.id)
def bySt (A : List Pl.Policy) (p : Pl.Policy) (j : Nat) : Option Int := (byP M false A).or (if kindP false p && (p.rules.take j).any M then some p.id else none)
theorem first_snoc (d : Bool) (A : List Pl.Policy) (p : Pl.Policy) : firstP M d (A ++ [p]) = (firstP M d A).or (if kindP d p && p.rules.any M then some p else none) := by
  unfold firstP
  rw [List.find?_append, List.find?_cons]
  cases kindP d p && p.rules.any M <;> simp
theorem byP_snoc (A : List Pl.Policy) (p : Pl.Policy) : byP M false (A ++ [p]) = bySt M A p p.rules.length := by
  unfold bySt byP
  rw [first_snoc, List.take_length]
  cases firstP M false A <;> simp
  try (cases kindP false p && p.rules.any M <;> simp)
theorem bySt_zero (A : List Pl.Policy) (p : Pl.Policy) : bySt M A p 0 = byP M false A := by unfold bySt; simp
theorem any_snoc {p : Pl.Policy} {j : Nat} (hj : j < p.rules.length) : (p.rules.take (j + 1)).any M = ((p.rules.take j).any M || M p.rules[j]) := by
  rw [List.take_succ_eq_append_getElem hj, List.any_append]; simp
theorem bySt_no {A : List Pl.Policy} {p : Pl.Policy} {j : Nat} (hj : j < p.rules.length) (h : M p.rules[j] = false) : bySt M A p (j + 1) = bySt M A p j := by
  unfold bySt; rw [any_snoc M hj, h, Bool.or_false]
theorem bySt_new {A : List Pl.Policy} {p : Pl.Policy} {j : Nat} (hj : j < p.rules.length) (hk : kindP false p = true) (h : M p.rules[j] = true) (ho : bySt M A p j = none) : bySt M A p (j + 1) = some p.id := by
  unfold bySt at *; rw [any_snoc M hj, h, Bool.or_true, hk]
  cases e : byP M false A with
  | none => rfl
  | some x => rw [e] at ho; simp at ho
theorem bySt_old {A : List Pl.Policy} {p : Pl.Policy} {j : Nat} {x : Int} (hj : j < p.rules.length) (h : bySt M A p j = some x) : bySt M A p (j + 1) = some x := by
  unfold bySt at *; rw [any_snoc M hj]
  cases e : byP M false A with
  | some y => rw [e] at h; simpa using h
  | none =>
    rw [e] at h
    cases hk : kindP false p
    · rw [hk] at h; simp at h
    · cases ha : (p.rules.take j).any M
      · rw [ha, hk] at h; simp at h
      · rw [ha, hk] at h; simpa using h
theorem deny_yes {l : List Pl.Policy} {i j : Nat} (hi : i < l.length) (hj : j < l[i].rules.length) (h0 : firstP M true (l.take i) = none) (hd : l[i].deny = 1) (h : M l[i].rules[j] = true) : judgeP M l = (false, l[i].id) := by
  have e : l = l.take i ++ (l[i] :: l.drop (i + 1)) := by rw [← List.drop_eq_getElem_cons hi, List.take_append_drop]
  have hf : firstP M true l = some l[i] := by
    have ha : l[i].rules.any M = true := List.any_eq_true.2 ⟨_, List.getElem_mem hj, h⟩
    have hk : kindP true l[i] = true := by simp [kindP, hd]
    unfold firstP at *
    conv => lhs; rw [e]
    rw [List.find?_append, h0, List.find?_cons, hk, ha]; rfl
  unfold judgeP; rw [hf]
theorem judge_end {l : List Pl.Policy} (h : firstP M true l = none) : judgeP M l = ((byP M false l).isSome || !someP false l, (byP M false l).getD 0) := by
  unfold judgeP byP; rw [h]
  cases firstP M false l <;> simp
end
def hitR (M : Pl.Rule → Bool) (r : Pl.Rule) : List T := [.v (.int .i64 (if M r = true then 1 else 0))]
def hitP (M : Pl.Rule → Bool) (p : Pl.Policy) : List T := [.sl 1 (p.rules.map (hitR M))]
def Y1 (M : Pl.Rule → Bool) (l : List Pl.Policy) (k : Nat) : St := ⟨[(0, .t (.sl 5 (l.map polT))), (1, .t (.sl 1 (l.map (hitP M)))), (6, .t (.v (.bool (Pl.someP false (l.take k))))), (7, .t (.v (.bool (byP M false (l.take k)).isSome))), (8, .t (.v (.int .u64 ((byP M false (l.take k)).getD 0)))), (9, .t (.v (.int .i64 (k : Int))))], [], []⟩
def Y2 (M : Pl.Rule → Bool) (l : List Pl.Policy) (i : Nat) (p : Pl.Policy) (j : Nat) : St := ⟨[(0, .t (.sl 5 (l.map polT))), (1, .t (.sl 1 (l.map (hitP M)))), (6, .t (.v (.bool (Pl.someP false (l.take (i + 1)))))), (7, .t (.v (.bool (bySt M (l.take i) p j).isSome))), (8, .t (.v (.int .u64 ((bySt M (l.take i) p j).getD 0)))), (9, .t (.v (.int .i64 (i : Int)))), (10, .t (.v (.int .i64 (j : Int))))], [], []⟩
set_option maxRecDepth 100000 in
set_option maxHeartbeats 1000000 in
theorem says_ (M : Pl.Rule → Bool) (l : List Pl.Policy) (hn : l.length ≤ 1000) (hr : ∀ p ∈ l, p.rules.length ≤ 1000) : PCalls Try.prog 72 [.sl 5 (l.map polT), .sl 1 (l.map (hitP M))] (.tup [.v (.bool (Pl.judgeP M l).1), .v (.int .u64 (Pl.judgeP M l).2)]) := by
  have hm1 : (l.map polT).length = l.length := List.length_map _
  refine pcalls_of Try.func72 rfl rfl Try.ntmps72 rfl ?_
  repeat' (first
    | refine then_go ?_
    | refine swp_seq ?_
    | ((refine swp_region (id := 0) ?_) <;> (refine sops_pure (.free rfl rfl) rfl rfl (po_assign rfl rfl) ?_) <;> (refine sops_pure (.free rfl rfl) rfl rfl (po_assign rfl rfl) ?_) <;> (refine sops_nil ?_))
    | ((refine swp_region (id := 1) ?_) <;> (refine sops_pure (.free rfl rfl) rfl rfl (po_assign rfl rfl) ?_) <;> (refine sops_nil ?_))
    | ((refine swp_region (id := 2) ?_) <;> (refine sops_pure (.free rfl rfl) rfl rfl (po_assign rfl rfl) ?_) <;> (refine sops_nil ?_))
    | ((refine swp_region (id := 3) ?_) <;> (refine sops_pure (.free rfl rfl) rfl rfl (po_assign rfl rfl) ?_) <;> (refine sops_nil ?_))
    | ((refine swp_region (id := 4) ?_) <;> (refine sops_pure (.free rfl rfl) rfl rfl (po_assign rfl rfl) ?_) <;> (refine sops_nil ?_))
    | refine swp_ret ?_
    | refine swp_skip ?_
    | refine swp_block ?_
    | refine swp_exit ?_
    | refine block_go ?_
    | refine block_exit ?_
    | refine block_far rfl ?_
    | refine block_ret ?_
    | refine then_ret ?_
    | refine then_exit ?_
    | refine for_ret ?_
    | refine for_exit ?_
    | refine swp_cond_t rfl (by first | assumption | with_reducible rfl | decide | (simp only [decide_eq_true_eq, Bool.not_eq_true', decide_eq_false_iff_not]; omega)) ?_
    | refine swp_cond_f rfl (by first | assumption | with_reducible rfl | decide | (simp only [decide_eq_false_iff_not, Bool.not_eq_false', decide_eq_true_eq]; omega)) ?_
    | refine swp_cond rfl (fun hc => ?_) (fun hc => ?_)
    | refine retq (by first | exact .inr rfl | exact .inl rfl) rfl (.tmp rfl (by first | exact .t _ | exact .own rfl rfl | exact .nil _ | exact .emp _) (.tmp rfl (by first | exact .t _ | exact .own rfl rfl | exact .nil _ | exact .emp _) .nil)) ?_)
  refine swp_for (Y1 M l) (fun k => Pl.firstP M true (l.take k) = none) l.length (weak_sub (.cons rfl rfl rfl (.cons rfl rfl rfl (.cons rfl rfl rfl (.cons rfl rfl rfl (.cons rfl rfl rfl (.cons rfl rfl rfl .nil)))))) .nil .nil) rfl ?_
  intro k hk hI
  unfold Y1
  by_cases hlt : k < l.length
  · have hnr := hr _ (List.getElem_mem hlt)
    have hm2 : (l[k].rules.map ruleT).length = l[k].rules.length := List.length_map _
    have hsn : l.take (k + 1) = l.take k ++ [l[k]] := List.take_succ_eq_append_getElem hlt
    have hso : Pl.someP false (l.take (k + 1)) = (Pl.someP false (l.take k) || !decide (l[k].deny = 1)) := by
      rw [hsn, Pl.some_append]; congr 1; unfold Pl.someP Pl.kindP; by_cases e : l[k].deny = 1 <;> simp [e]
    have hfi : (Pl.firstP M true (l.take (k + 1))) = if Pl.kindP true l[k] && l[k].rules.any M then some l[k] else none := by rw [hsn, first_snoc, hI]; rfl
    have hby := byP_snoc M (l.take k) l[k]
    rw [← hsn] at hby
    have hz := bySt_zero M (l.take k) l[k]
    by_cases hd : l[k].deny = 1
    · rw [decide_eq_true hd, Bool.not_true, Bool.or_false] at hso
      have hkt : Pl.kindP true l[k] = true := by simp [Pl.kindP, hd]
      have hkf : Pl.kindP false l[k] = false := by simp [Pl.kindP, hd]
      repeat' (first
        | refine then_go ?_
        | refine swp_seq ?_
        | ((refine swp_region (id := 5) ?_) <;> (refine sops_pure (.free rfl rfl) rfl rfl (po_move rfl rfl) ?_) <;> (refine sops_pure (.free rfl rfl) rfl rfl (po_move rfl rfl) ?_) <;> (refine sops_pure (.free rfl rfl) rfl rfl (po_len rfl rfl (by first | exact .t _ | exact .own rfl rfl | exact .nil _ | exact .emp _) (tyS rfl)) ?_) <;> (refine sops_pure (.free rfl rfl) rfl rfl (po_cmp rfl rfl rfl rfl) ?_) <;> (refine sops_nil ?_))
        | ((refine swp_region (id := 7) ?_) <;> (refine sops_pure (.free rfl rfl) rfl rfl (po_move rfl rfl) ?_) <;> (refine sops_pure (.free rfl rfl) rfl rfl (po_move rfl rfl) ?_) <;> (refine sops_pure (.free rfl rfl) rfl rfl (po_index rfl rfl (by first | exact .t _ | exact .own rfl rfl | exact .nil _ | exact .emp _) rfl (tyS rfl) (by first | rfl | omega) (by first | rfl | assumption | exact map_at (by first | assumption | omega))) ?_) <;> (first | refine sops_pure (.free rfl rfl) rfl rfl (po_field_bx rfl rfl (tyF rfl)) ?_ | refine sops_pure (.free rfl rfl) rfl rfl (po_field rfl rfl (tyF rfl)) ?_) <;> (first | refine sops_pure (.free rfl rfl) rfl rfl (po_load_bx rfl rfl (tyT rfl) rfl rfl) ?_ | refine sops_pure (.free rfl rfl) rfl rfl (po_load rfl rfl (tyT rfl) rfl) ?_) <;> (refine sops_pure (.free rfl rfl) rfl rfl (po_cmp rfl rfl rfl rfl) ?_) <;> (refine sops_nil ?_))
        | ((refine swp_region (id := 8) ?_) <;> (refine sops_pure (.free rfl rfl) rfl rfl (po_assign rfl rfl) ?_) <;> (refine sops_nil ?_))
        | ((refine swp_region (id := 9) ?_) <;> (refine sops_pure (.free rfl rfl) rfl rfl (po_assign rfl rfl) ?_) <;> (refine sops_nil ?_))
        | refine swp_ret ?_
        | refine swp_skip ?_
        | refine swp_block ?_
        | refine swp_exit ?_
        | refine block_go ?_
        | refine block_exit ?_
        | refine block_far rfl ?_
        | refine block_ret ?_
        | refine then_ret ?_
        | refine then_exit ?_
        | refine for_ret ?_
        | refine for_exit ?_
        | refine swp_cond_t rfl (by first | assumption | with_reducible rfl | decide | (simp only [decide_eq_true_eq, Bool.not_eq_true', decide_eq_false_iff_not]; omega)) ?_
        | refine swp_cond_f rfl (by first | assumption | with_reducible rfl | decide | (simp only [decide_eq_false_iff_not, Bool.not_eq_false', decide_eq_true_eq]; omega)) ?_
        | refine swp_cond rfl (fun hc => ?_) (fun hc => ?_)
        | refine retq (by first | exact .inr rfl | exact .inl rfl) rfl (.tmp rfl (by first | exact .t _ | exact .own rfl rfl | exact .nil _ | exact .emp _) (.tmp rfl (by first | exact .t _ | exact .own rfl rfl | exact .nil _ | exact .emp _) .nil)) ?_)
      refine swp_for (Y2 M l k l[k]) (fun j => (l[k].rules.take j).any M = false) l[k].rules.length (weak_sub (.cons rfl (by first | rfl | (first | rw [hso] | rw [hz])) rfl (.cons rfl (by first | rfl | (first | rw [hso] | rw [hz])) rfl (.cons rfl (by first | rfl | (first | rw [hso] | rw [hz])) rfl (.cons rfl (by first | rfl | (first | rw [hso] | rw [hz])) rfl (.cons rfl (by first | rfl | (first | rw [hso] | rw [hz])) rfl (.cons rfl (by first | rfl | (first | rw [hso] | rw [hz])) rfl (.cons rfl (by first | rfl | (first | rw [hso] | rw [hz])) rfl .nil))))))) .nil .nil) rfl ?_
      intro j hj hJ
      unfold Y2
      by_cases hjl : j < l[k].rules.length
      · cases hM : M l[k].rules[j] with
        | true =>
          have hz2 : decide ((if M l[k].rules[j] = true then (1 : Int) else 0) = 0) = false := by rw [hM]; rfl
          repeat' (first
            | refine then_go ?_
            | refine swp_seq ?_
            | ((refine swp_region (id := 10) ?_) <;> (refine sops_pure (.free rfl rfl) rfl rfl (po_move rfl rfl) ?_) <;> (refine sops_pure (.free rfl rfl) rfl rfl (po_move rfl rfl) ?_) <;> (refine sops_pure (.free rfl rfl) rfl rfl (po_move rfl rfl) ?_) <;> (refine sops_pure (.free rfl rfl) rfl rfl (po_index rfl rfl (by first | exact .t _ | exact .own rfl rfl | exact .nil _ | exact .emp _) rfl (tyS rfl) (by first | rfl | omega) (by first | rfl | assumption | exact map_at (by first | assumption | omega))) ?_) <;> (first | refine sops_pure (.free rfl rfl) rfl rfl (po_field_bx rfl rfl (tyF rfl)) ?_ | refine sops_pure (.free rfl rfl) rfl rfl (po_field rfl rfl (tyF rfl)) ?_) <;> (first | refine sops_pure (.free rfl rfl) rfl rfl (po_load_bx rfl rfl (tyT rfl) rfl rfl) ?_ | refine sops_pure (.free rfl rfl) rfl rfl (po_load rfl rfl (tyT rfl) rfl) ?_) <;> (refine sops_pure (.free rfl rfl) rfl rfl (po_len rfl rfl (by first | exact .t _ | exact .own rfl rfl | exact .nil _ | exact .emp _) (tyS rfl)) ?_) <;> (refine sops_pure (.free rfl rfl) rfl rfl (po_cmp rfl rfl rfl rfl) ?_) <;> (refine sops_nil ?_))
            | ((refine swp_region (id := 12) ?_) <;> (refine sops_pure (.free rfl rfl) rfl rfl (po_move rfl rfl) ?_) <;> (refine sops_pure (.free rfl rfl) rfl rfl (po_move rfl rfl) ?_) <;> (refine sops_pure (.free rfl rfl) rfl rfl (po_index rfl rfl (by first | exact .t _ | exact .own rfl rfl | exact .nil _ | exact .emp _) rfl (tyS rfl) (by first | rfl | omega) (by first | rfl | assumption | exact map_at (by first | assumption | omega))) ?_) <;> (first | refine sops_pure (.free rfl rfl) rfl rfl (po_load_bx rfl rfl (tyT rfl) rfl rfl) ?_ | refine sops_pure (.free rfl rfl) rfl rfl (po_load rfl rfl (tyT rfl) rfl) ?_) <;> (refine sops_pure (.free rfl rfl) rfl rfl (po_move rfl rfl) ?_) <;> (refine sops_pure (.free rfl rfl) rfl rfl (po_index rfl rfl (by first | exact .t _ | exact .own rfl rfl | exact .nil _ | exact .emp _) rfl (tyS rfl) (by first | rfl | omega) (by first | rfl | assumption | exact map_at (by first | assumption | omega))) ?_) <;> (first | refine sops_pure (.free rfl rfl) rfl rfl (po_load_bx rfl rfl (tyT rfl) rfl rfl) ?_ | refine sops_pure (.free rfl rfl) rfl rfl (po_load rfl rfl (tyT rfl) rfl) ?_) <;> (refine sops_pure (.free rfl rfl) rfl rfl (po_cmp rfl rfl rfl rfl) ?_) <;> (refine sops_nil ?_))
            | ((refine swp_region (id := 13) ?_) <;> (refine sops_pure (.free rfl rfl) rfl rfl (po_move rfl rfl) ?_) <;> (refine sops_pure (.free rfl rfl) rfl rfl (po_move rfl rfl) ?_) <;> (refine sops_pure (.free rfl rfl) rfl rfl (po_index rfl rfl (by first | exact .t _ | exact .own rfl rfl | exact .nil _ | exact .emp _) rfl (tyS rfl) (by first | rfl | omega) (by first | rfl | assumption | exact map_at (by first | assumption | omega))) ?_) <;> (first | refine sops_pure (.free rfl rfl) rfl rfl (po_field_bx rfl rfl (tyF rfl)) ?_ | refine sops_pure (.free rfl rfl) rfl rfl (po_field rfl rfl (tyF rfl)) ?_) <;> (first | refine sops_pure (.free rfl rfl) rfl rfl (po_load_bx rfl rfl (tyT rfl) rfl rfl) ?_ | refine sops_pure (.free rfl rfl) rfl rfl (po_load rfl rfl (tyT rfl) rfl) ?_) <;> (refine sops_pure (.free rfl rfl) rfl rfl (po_cmp rfl rfl rfl rfl) ?_) <;> (refine sops_nil ?_))
            | ((refine swp_draw_all (id := 14) mixed (by kernel_rfl) (by kernel_rfl) ?_) <;> (refine sdraw_pure (.free rfl rfl) rfl (po_move rfl rfl) ?_) <;> (refine sdraw_pure (.free rfl rfl) rfl (po_move rfl rfl) ?_) <;> (refine sdraw_pure (.free rfl rfl) rfl (po_index rfl rfl (by first | exact .t _ | exact .own rfl rfl | exact .nil _ | exact .emp _) rfl (tyS rfl) (by first | rfl | omega) (by first | rfl | assumption | exact map_at (by first | assumption | omega))) ?_) <;> (first | refine sdraw_pure (.free rfl rfl) rfl (po_field_bx rfl rfl (tyF rfl)) ?_ | refine sdraw_pure (.free rfl rfl) rfl (po_field rfl rfl (tyF rfl)) ?_) <;> (first | refine sdraw_pure (.free rfl rfl) rfl (po_load_bx rfl rfl (tyT rfl) rfl rfl) ?_ | refine sdraw_pure (.free rfl rfl) rfl (po_load rfl rfl (tyT rfl) rfl) ?_) <;> (refine sdraw_pure (.free rfl rfl) rfl (po_assign rfl rfl) ?_) <;> (refine sdraw_pure (.free rfl rfl) rfl (po_assign rfl rfl) ?_) <;> (refine sdraw_nil ?_) <;> (refine sops_nil ?_))
            | refine swp_ret ?_
            | refine swp_skip ?_
            | refine swp_block ?_
            | refine swp_exit ?_
            | refine block_go ?_
            | refine block_exit ?_
            | refine block_far rfl ?_
            | refine block_ret ?_
            | refine then_ret ?_
            | refine then_exit ?_
            | refine for_ret ?_
            | refine for_exit ?_
            | refine swp_cond_t rfl (by first | assumption | with_reducible rfl | decide | (simp only [decide_eq_true_eq, Bool.not_eq_true', decide_eq_false_iff_not]; omega)) ?_
            | refine swp_cond_f rfl (by first | assumption | with_reducible rfl | decide | (simp only [decide_eq_false_iff_not, Bool.not_eq_false', decide_eq_true_eq]; omega)) ?_
            | refine swp_cond rfl (fun hc => ?_) (fun hc => ?_)
            | refine retq (by first | exact .inr rfl | exact .inl rfl) rfl (.tmp rfl (by first | exact .t _ | exact .own rfl rfl | exact .nil _ | exact .emp _) (.tmp rfl (by first | exact .t _ | exact .own rfl rfl | exact .nil _ | exact .emp _) .nil)) ?_)
          refine eq_bi ?_ ?_
          · rw [deny_yes M hlt hjl hI hd hM]
          · rw [deny_yes M hlt hjl hI hd hM]
        | false =>
          have hz2 : decide ((if M l[k].rules[j] = true then (1 : Int) else 0) = 0) = true := by rw [hM]; rfl
          have hs := bySt_no M (A := l.take k) hjl hM
          repeat' (first
            | refine then_go ?_
            | refine swp_seq ?_
            | refine for_next hjl (weak_sub (.cons rfl (by first | rfl | (rw [hs]; try rfl)) rfl (.cons rfl (by first | rfl | (rw [hs]; try rfl)) rfl (.cons rfl (by first | rfl | (rw [hs]; try rfl)) rfl (.cons rfl (by first | rfl | (rw [hs]; try rfl)) rfl (.cons rfl (by first | rfl | (rw [hs]; try rfl)) rfl (.cons rfl (by first | rfl | (rw [hs]; try rfl)) rfl (.cons rfl (by first | rfl | (rw [hs]; try rfl)) rfl .nil))))))) .nil .nil) ?_
            | ((refine swp_region (id := 10) ?_) <;> (refine sops_pure (.free rfl rfl) rfl rfl (po_move rfl rfl) ?_) <;> (refine sops_pure (.free rfl rfl) rfl rfl (po_move rfl rfl) ?_) <;> (refine sops_pure (.free rfl rfl) rfl rfl (po_move rfl rfl) ?_) <;> (refine sops_pure (.free rfl rfl) rfl rfl (po_index rfl rfl (by first | exact .t _ | exact .own rfl rfl | exact .nil _ | exact .emp _) rfl (tyS rfl) (by first | rfl | omega) (by first | rfl | assumption | exact map_at (by first | assumption | omega))) ?_) <;> (first | refine sops_pure (.free rfl rfl) rfl rfl (po_field_bx rfl rfl (tyF rfl)) ?_ | refine sops_pure (.free rfl rfl) rfl rfl (po_field rfl rfl (tyF rfl)) ?_) <;> (first | refine sops_pure (.free rfl rfl) rfl rfl (po_load_bx rfl rfl (tyT rfl) rfl rfl) ?_ | refine sops_pure (.free rfl rfl) rfl rfl (po_load rfl rfl (tyT rfl) rfl) ?_) <;> (refine sops_pure (.free rfl rfl) rfl rfl (po_len rfl rfl (by first | exact .t _ | exact .own rfl rfl | exact .nil _ | exact .emp _) (tyS rfl)) ?_) <;> (refine sops_pure (.free rfl rfl) rfl rfl (po_cmp rfl rfl rfl rfl) ?_) <;> (refine sops_nil ?_))
            | ((refine swp_region (id := 12) ?_) <;> (refine sops_pure (.free rfl rfl) rfl rfl (po_move rfl rfl) ?_) <;> (refine sops_pure (.free rfl rfl) rfl rfl (po_move rfl rfl) ?_) <;> (refine sops_pure (.free rfl rfl) rfl rfl (po_index rfl rfl (by first | exact .t _ | exact .own rfl rfl | exact .nil _ | exact .emp _) rfl (tyS rfl) (by first | rfl | omega) (by first | rfl | assumption | exact map_at (by first | assumption | omega))) ?_) <;> (first | refine sops_pure (.free rfl rfl) rfl rfl (po_load_bx rfl rfl (tyT rfl) rfl rfl) ?_ | refine sops_pure (.free rfl rfl) rfl rfl (po_load rfl rfl (tyT rfl) rfl) ?_) <;> (refine sops_pure (.free rfl rfl) rfl rfl (po_move rfl rfl) ?_) <;> (refine sops_pure (.free rfl rfl) rfl rfl (po_index rfl rfl (by first | exact .t _ | exact .own rfl rfl | exact .nil _ | exact .emp _) rfl (tyS rfl) (by first | rfl | omega) (by first | rfl | assumption | exact map_at (by first | assumption | omega))) ?_) <;> (first | refine sops_pure (.free rfl rfl) rfl rfl (po_load_bx rfl rfl (tyT rfl) rfl rfl) ?_ | refine sops_pure (.free rfl rfl) rfl rfl (po_load rfl rfl (tyT rfl) rfl) ?_) <;> (refine sops_pure (.free rfl rfl) rfl rfl (po_cmp rfl rfl rfl rfl) ?_) <;> (refine sops_nil ?_))
            | ((refine swp_region (id := 11) ?_) <;> (refine sops_pure (.free rfl rfl) rfl rfl (po_move rfl rfl) ?_) <;> (first | refine sops_pure (.free rfl rfl) rfl rfl (po_inc rfl rfl rfl (by omega)) ?_ | refine sops_pure (.free rfl rfl) rfl rfl (po_arith rfl rfl rfl (ar_add (by first | rfl | (refine wrap_i64 ?_; omega)) rfl)) ?_) <;> (refine sops_pure (.free rfl rfl) rfl rfl (po_assign rfl rfl) ?_) <;> (refine sops_nil ?_))
            | refine swp_ret ?_
            | refine swp_skip ?_
            | refine swp_block ?_
            | refine swp_exit ?_
            | refine block_go ?_
            | refine block_exit ?_
            | refine block_far rfl ?_
            | refine block_ret ?_
            | refine then_ret ?_
            | refine then_exit ?_
            | refine for_ret ?_
            | refine for_exit ?_
            | refine swp_cond_t rfl (by first | assumption | with_reducible rfl | decide | (simp only [decide_eq_true_eq, Bool.not_eq_true', decide_eq_false_iff_not]; omega)) ?_
            | refine swp_cond_f rfl (by first | assumption | with_reducible rfl | decide | (simp only [decide_eq_false_iff_not, Bool.not_eq_false', decide_eq_true_eq]; omega)) ?_
            | refine swp_cond rfl (fun hc => ?_) (fun hc => ?_)
            | refine retq (by first | exact .inr rfl | exact .inl rfl) rfl (.tmp rfl (by first | exact .t _ | exact .own rfl rfl | exact .nil _ | exact .emp _) (.tmp rfl (by first | exact .t _ | exact .own rfl rfl | exact .nil _ | exact .emp _) .nil)) ?_)
          rw [any_snoc M hjl, hJ, hM]; rfl
      · obtain rfl : j = l[k].rules.length := by omega
        rw [List.take_length] at hJ
        rw [hkt, hJ] at hfi
        repeat' (first
          | refine then_go ?_
          | refine swp_seq ?_
          | refine for_next hlt (weak_sub (.cons rfl (by first | rfl | (rw [hby])) rfl (.cons rfl (by first | rfl | (rw [hby])) rfl (.cons rfl (by first | rfl | (rw [hby])) rfl (.cons rfl (by first | rfl | (rw [hby])) rfl (.cons rfl (by first | rfl | (rw [hby])) rfl (.cons rfl (by first | rfl | (rw [hby])) rfl .nil)))))) .nil .nil) hfi
          | ((refine swp_region (id := 10) ?_) <;> (refine sops_pure (.free rfl rfl) rfl rfl (po_move rfl rfl) ?_) <;> (refine sops_pure (.free rfl rfl) rfl rfl (po_move rfl rfl) ?_) <;> (refine sops_pure (.free rfl rfl) rfl rfl (po_move rfl rfl) ?_) <;> (refine sops_pure (.free rfl rfl) rfl rfl (po_index rfl rfl (by first | exact .t _ | exact .own rfl rfl | exact .nil _ | exact .emp _) rfl (tyS rfl) (by first | rfl | omega) (by first | rfl | assumption | exact map_at (by first | assumption | omega))) ?_) <;> (first | refine sops_pure (.free rfl rfl) rfl rfl (po_field_bx rfl rfl (tyF rfl)) ?_ | refine sops_pure (.free rfl rfl) rfl rfl (po_field rfl rfl (tyF rfl)) ?_) <;> (first | refine sops_pure (.free rfl rfl) rfl rfl (po_load_bx rfl rfl (tyT rfl) rfl rfl) ?_ | refine sops_pure (.free rfl rfl) rfl rfl (po_load rfl rfl (tyT rfl) rfl) ?_) <;> (refine sops_pure (.free rfl rfl) rfl rfl (po_len rfl rfl (by first | exact .t _ | exact .own rfl rfl | exact .nil _ | exact .emp _) (tyS rfl)) ?_) <;> (refine sops_pure (.free rfl rfl) rfl rfl (po_cmp rfl rfl rfl rfl) ?_) <;> (refine sops_nil ?_))
          | ((refine swp_region (id := 6) ?_) <;> (refine sops_pure (.free rfl rfl) rfl rfl (po_move rfl rfl) ?_) <;> (first | refine sops_pure (.free rfl rfl) rfl rfl (po_inc rfl rfl rfl (by omega)) ?_ | refine sops_pure (.free rfl rfl) rfl rfl (po_arith rfl rfl rfl (ar_add (by first | rfl | (refine wrap_i64 ?_; omega)) rfl)) ?_) <;> (refine sops_pure (.free rfl rfl) rfl rfl (po_assign rfl rfl) ?_) <;> (refine sops_nil ?_))
          | refine swp_ret ?_
          | refine swp_skip ?_
          | refine swp_block ?_
          | refine swp_exit ?_
          | refine block_go ?_
          | refine block_exit ?_
          | refine block_far rfl ?_
          | refine block_ret ?_
          | refine then_ret ?_
          | refine then_exit ?_
          | refine for_ret ?_
          | refine for_exit ?_
          | refine swp_cond_t rfl (by first | assumption | with_reducible rfl | decide | (simp only [decide_eq_true_eq, Bool.not_eq_true', decide_eq_false_iff_not]; omega)) ?_
          | refine swp_cond_f rfl (by first | assumption | with_reducible rfl | decide | (simp only [decide_eq_false_iff_not, Bool.not_eq_false', decide_eq_true_eq]; omega)) ?_
          | refine swp_cond rfl (fun hc => ?_) (fun hc => ?_)
          | refine retq (by first | exact .inr rfl | exact .inl rfl) rfl (.tmp rfl (by first | exact .t _ | exact .own rfl rfl | exact .nil _ | exact .emp _) (.tmp rfl (by first | exact .t _ | exact .own rfl rfl | exact .nil _ | exact .emp _) .nil)) ?_)
    · rw [decide_eq_false hd, Bool.not_false, Bool.or_true] at hso
      have hkt : Pl.kindP true l[k] = false := by simp [Pl.kindP, hd]
      have hkf : Pl.kindP false l[k] = true := by simp [Pl.kindP, hd]
      rw [hkt] at hfi
      repeat' (first
        | refine then_go ?_
        | refine swp_seq ?_
        | ((refine swp_region (id := 5) ?_) <;> (refine sops_pure (.free rfl rfl) rfl rfl (po_move rfl rfl) ?_) <;> (refine sops_pure (.free rfl rfl) rfl rfl (po_move rfl rfl) ?_) <;> (refine sops_pure (.free rfl rfl) rfl rfl (po_len rfl rfl (by first | exact .t _ | exact .own rfl rfl | exact .nil _ | exact .emp _) (tyS rfl)) ?_) <;> (refine sops_pure (.free rfl rfl) rfl rfl (po_cmp rfl rfl rfl rfl) ?_) <;> (refine sops_nil ?_))
        | ((refine swp_region (id := 7) ?_) <;> (refine sops_pure (.free rfl rfl) rfl rfl (po_move rfl rfl) ?_) <;> (refine sops_pure (.free rfl rfl) rfl rfl (po_move rfl rfl) ?_) <;> (refine sops_pure (.free rfl rfl) rfl rfl (po_index rfl rfl (by first | exact .t _ | exact .own rfl rfl | exact .nil _ | exact .emp _) rfl (tyS rfl) (by first | rfl | omega) (by first | rfl | assumption | exact map_at (by first | assumption | omega))) ?_) <;> (first | refine sops_pure (.free rfl rfl) rfl rfl (po_field_bx rfl rfl (tyF rfl)) ?_ | refine sops_pure (.free rfl rfl) rfl rfl (po_field rfl rfl (tyF rfl)) ?_) <;> (first | refine sops_pure (.free rfl rfl) rfl rfl (po_load_bx rfl rfl (tyT rfl) rfl rfl) ?_ | refine sops_pure (.free rfl rfl) rfl rfl (po_load rfl rfl (tyT rfl) rfl) ?_) <;> (refine sops_pure (.free rfl rfl) rfl rfl (po_cmp rfl rfl rfl rfl) ?_) <;> (refine sops_nil ?_))
        | ((refine swp_region (id := 8) ?_) <;> (refine sops_pure (.free rfl rfl) rfl rfl (po_assign rfl rfl) ?_) <;> (refine sops_nil ?_))
        | ((refine swp_region (id := 9) ?_) <;> (refine sops_pure (.free rfl rfl) rfl rfl (po_assign rfl rfl) ?_) <;> (refine sops_nil ?_))
        | refine swp_ret ?_
        | refine swp_skip ?_
        | refine swp_block ?_
        | refine swp_exit ?_
        | refine block_go ?_
        | refine block_exit ?_
        | refine block_far rfl ?_
        | refine block_ret ?_
        | refine then_ret ?_
        | refine then_exit ?_
        | refine for_ret ?_
        | refine for_exit ?_
        | refine swp_cond_t rfl (by first | assumption | with_reducible rfl | decide | (simp only [decide_eq_true_eq, Bool.not_eq_true', decide_eq_false_iff_not]; omega)) ?_
        | refine swp_cond_f rfl (by first | assumption | with_reducible rfl | decide | (simp only [decide_eq_false_iff_not, Bool.not_eq_false', decide_eq_true_eq]; omega)) ?_
        | refine swp_cond rfl (fun hc => ?_) (fun hc => ?_)
        | refine retq (by first | exact .inr rfl | exact .inl rfl) rfl (.tmp rfl (by first | exact .t _ | exact .own rfl rfl | exact .nil _ | exact .emp _) (.tmp rfl (by first | exact .t _ | exact .own rfl rfl | exact .nil _ | exact .emp _) .nil)) ?_)
      refine swp_for (Y2 M l k l[k]) (fun j => True) l[k].rules.length (weak_sub (.cons rfl (by first | rfl | (first | rw [hso] | rw [hz])) rfl (.cons rfl (by first | rfl | (first | rw [hso] | rw [hz])) rfl (.cons rfl (by first | rfl | (first | rw [hso] | rw [hz])) rfl (.cons rfl (by first | rfl | (first | rw [hso] | rw [hz])) rfl (.cons rfl (by first | rfl | (first | rw [hso] | rw [hz])) rfl (.cons rfl (by first | rfl | (first | rw [hso] | rw [hz])) rfl (.cons rfl (by first | rfl | (first | rw [hso] | rw [hz])) rfl .nil))))))) .nil .nil) trivial ?_
      intro j hj hJ
      unfold Y2
      by_cases hjl : j < l[k].rules.length
      · cases hM : M l[k].rules[j] with
        | true =>
          have hz2 : decide ((if M l[k].rules[j] = true then (1 : Int) else 0) = 0) = false := by rw [hM]; rfl
          cases ho : bySt M (l.take k) l[k] j with
          | none =>
            have hs := bySt_new M hjl hkf hM ho
            have hq : (!(none : Option Int).isSome) = true := rfl
            repeat' (first
              | refine then_go ?_
              | refine swp_seq ?_
              | refine for_next hjl (weak_sub (.cons rfl (by first | rfl | (rw [hs]; try rfl)) rfl (.cons rfl (by first | rfl | (rw [hs]; try rfl)) rfl (.cons rfl (by first | rfl | (rw [hs]; try rfl)) rfl (.cons rfl (by first | rfl | (rw [hs]; try rfl)) rfl (.cons rfl (by first | rfl | (rw [hs]; try rfl)) rfl (.cons rfl (by first | rfl | (rw [hs]; try rfl)) rfl (.cons rfl (by first | rfl | (rw [hs]; try rfl)) rfl .nil))))))) .nil .nil) trivial
              | ((refine swp_region (id := 10) ?_) <;> (refine sops_pure (.free rfl rfl) rfl rfl (po_move rfl rfl) ?_) <;> (refine sops_pure (.free rfl rfl) rfl rfl (po_move rfl rfl) ?_) <;> (refine sops_pure (.free rfl rfl) rfl rfl (po_move rfl rfl) ?_) <;> (refine sops_pure (.free rfl rfl) rfl rfl (po_index rfl rfl (by first | exact .t _ | exact .own rfl rfl | exact .nil _ | exact .emp _) rfl (tyS rfl) (by first | rfl | omega) (by first | rfl | assumption | exact map_at (by first | assumption | omega))) ?_) <;> (first | refine sops_pure (.free rfl rfl) rfl rfl (po_field_bx rfl rfl (tyF rfl)) ?_ | refine sops_pure (.free rfl rfl) rfl rfl (po_field rfl rfl (tyF rfl)) ?_) <;> (first | refine sops_pure (.free rfl rfl) rfl rfl (po_load_bx rfl rfl (tyT rfl) rfl rfl) ?_ | refine sops_pure (.free rfl rfl) rfl rfl (po_load rfl rfl (tyT rfl) rfl) ?_) <;> (refine sops_pure (.free rfl rfl) rfl rfl (po_len rfl rfl (by first | exact .t _ | exact .own rfl rfl | exact .nil _ | exact .emp _) (tyS rfl)) ?_) <;> (refine sops_pure (.free rfl rfl) rfl rfl (po_cmp rfl rfl rfl rfl) ?_) <;> (refine sops_nil ?_))
              | ((refine swp_region (id := 12) ?_) <;> (refine sops_pure (.free rfl rfl) rfl rfl (po_move rfl rfl) ?_) <;> (refine sops_pure (.free rfl rfl) rfl rfl (po_move rfl rfl) ?_) <;> (refine sops_pure (.free rfl rfl) rfl rfl (po_index rfl rfl (by first | exact .t _ | exact .own rfl rfl | exact .nil _ | exact .emp _) rfl (tyS rfl) (by first | rfl | omega) (by first | rfl | assumption | exact map_at (by first | assumption | omega))) ?_) <;> (first | refine sops_pure (.free rfl rfl) rfl rfl (po_load_bx rfl rfl (tyT rfl) rfl rfl) ?_ | refine sops_pure (.free rfl rfl) rfl rfl (po_load rfl rfl (tyT rfl) rfl) ?_) <;> (refine sops_pure (.free rfl rfl) rfl rfl (po_move rfl rfl) ?_) <;> (refine sops_pure (.free rfl rfl) rfl rfl (po_index rfl rfl (by first | exact .t _ | exact .own rfl rfl | exact .nil _ | exact .emp _) rfl (tyS rfl) (by first | rfl | omega) (by first | rfl | assumption | exact map_at (by first | assumption | omega))) ?_) <;> (first | refine sops_pure (.free rfl rfl) rfl rfl (po_load_bx rfl rfl (tyT rfl) rfl rfl) ?_ | refine sops_pure (.free rfl rfl) rfl rfl (po_load rfl rfl (tyT rfl) rfl) ?_) <;> (refine sops_pure (.free rfl rfl) rfl rfl (po_cmp rfl rfl rfl rfl) ?_) <;> (refine sops_nil ?_))
              | ((refine swp_region (id := 13) ?_) <;> (refine sops_pure (.free rfl rfl) rfl rfl (po_move rfl rfl) ?_) <;> (refine sops_pure (.free rfl rfl) rfl rfl (po_move rfl rfl) ?_) <;> (refine sops_pure (.free rfl rfl) rfl rfl (po_index rfl rfl (by first | exact .t _ | exact .own rfl rfl | exact .nil _ | exact .emp _) rfl (tyS rfl) (by first | rfl | omega) (by first | rfl | assumption | exact map_at (by first | assumption | omega))) ?_) <;> (first | refine sops_pure (.free rfl rfl) rfl rfl (po_field_bx rfl rfl (tyF rfl)) ?_ | refine sops_pure (.free rfl rfl) rfl rfl (po_field rfl rfl (tyF rfl)) ?_) <;> (first | refine sops_pure (.free rfl rfl) rfl rfl (po_load_bx rfl rfl (tyT rfl) rfl rfl) ?_ | refine sops_pure (.free rfl rfl) rfl rfl (po_load rfl rfl (tyT rfl) rfl) ?_) <;> (refine sops_pure (.free rfl rfl) rfl rfl (po_cmp rfl rfl rfl rfl) ?_) <;> (refine sops_nil ?_))
              | ((refine swp_region (id := 15) ?_) <;> (refine sops_pure (.free rfl rfl) rfl rfl (po_move rfl rfl) ?_) <;> (refine sops_pure (.free rfl rfl) rfl rfl (po_not rfl rfl) ?_) <;> (refine sops_nil ?_))
              | ((refine swp_region (id := 16) ?_) <;> (refine sops_pure (.free rfl rfl) rfl rfl (po_assign rfl rfl) ?_) <;> (refine sops_nil ?_))
              | ((refine swp_region (id := 17) ?_) <;> (refine sops_pure (.free rfl rfl) rfl rfl (po_move rfl rfl) ?_) <;> (refine sops_pure (.free rfl rfl) rfl rfl (po_move rfl rfl) ?_) <;> (refine sops_pure (.free rfl rfl) rfl rfl (po_index rfl rfl (by first | exact .t _ | exact .own rfl rfl | exact .nil _ | exact .emp _) rfl (tyS rfl) (by first | rfl | omega) (by first | rfl | assumption | exact map_at (by first | assumption | omega))) ?_) <;> (first | refine sops_pure (.free rfl rfl) rfl rfl (po_field_bx rfl rfl (tyF rfl)) ?_ | refine sops_pure (.free rfl rfl) rfl rfl (po_field rfl rfl (tyF rfl)) ?_) <;> (first | refine sops_pure (.free rfl rfl) rfl rfl (po_load_bx rfl rfl (tyT rfl) rfl rfl) ?_ | refine sops_pure (.free rfl rfl) rfl rfl (po_load rfl rfl (tyT rfl) rfl) ?_) <;> (refine sops_pure (.free rfl rfl) rfl rfl (po_assign rfl rfl) ?_) <;> (refine sops_nil ?_))
              | ((refine swp_region (id := 11) ?_) <;> (refine sops_pure (.free rfl rfl) rfl rfl (po_move rfl rfl) ?_) <;> (first | refine sops_pure (.free rfl rfl) rfl rfl (po_inc rfl rfl rfl (by omega)) ?_ | refine sops_pure (.free rfl rfl) rfl rfl (po_arith rfl rfl rfl (ar_add (by first | rfl | (refine wrap_i64 ?_; omega)) rfl)) ?_) <;> (refine sops_pure (.free rfl rfl) rfl rfl (po_assign rfl rfl) ?_) <;> (refine sops_nil ?_))
              | refine swp_ret ?_
              | refine swp_skip ?_
              | refine swp_block ?_
              | refine swp_exit ?_
              | refine block_go ?_
              | refine block_exit ?_
              | refine block_far rfl ?_
              | refine block_ret ?_
              | refine then_ret ?_
              | refine then_exit ?_
              | refine for_ret ?_
              | refine for_exit ?_
              | refine swp_cond_t rfl (by first | assumption | with_reducible rfl | decide | (simp only [decide_eq_true_eq, Bool.not_eq_true', decide_eq_false_iff_not]; omega)) ?_
              | refine swp_cond_f rfl (by first | assumption | with_reducible rfl | decide | (simp only [decide_eq_false_iff_not, Bool.not_eq_false', decide_eq_true_eq]; omega)) ?_
              | refine swp_cond rfl (fun hc => ?_) (fun hc => ?_)
              | refine retq (by first | exact .inr rfl | exact .inl rfl) rfl (.tmp rfl (by first | exact .t _ | exact .own rfl rfl | exact .nil _ | exact .emp _) (.tmp rfl (by first | exact .t _ | exact .own rfl rfl | exact .nil _ | exact .emp _) .nil)) ?_)
          | some x =>
            have hs := bySt_old M hjl ho
            have hq : (!(some x).isSome) = false := rfl
            repeat' (first
              | refine then_go ?_
              | refine swp_seq ?_
              | refine for_next hjl (weak_sub (.cons rfl (by first | rfl | (rw [hs]; try rfl)) rfl (.cons rfl (by first | rfl | (rw [hs]; try rfl)) rfl (.cons rfl (by first | rfl | (rw [hs]; try rfl)) rfl (.cons rfl (by first | rfl | (rw [hs]; try rfl)) rfl (.cons rfl (by first | rfl | (rw [hs]; try rfl)) rfl (.cons rfl (by first | rfl | (rw [hs]; try rfl)) rfl (.cons rfl (by first | rfl | (rw [hs]; try rfl)) rfl .nil))))))) .nil .nil) trivial
              | ((refine swp_region (id := 10) ?_) <;> (refine sops_pure (.free rfl rfl) rfl rfl (po_move rfl rfl) ?_) <;> (refine sops_pure (.free rfl rfl) rfl rfl (po_move rfl rfl) ?_) <;> (refine sops_pure (.free rfl rfl) rfl rfl (po_move rfl rfl) ?_) <;> (refine sops_pure (.free rfl rfl) rfl rfl (po_index rfl rfl (by first | exact .t _ | exact .own rfl rfl | exact .nil _ | exact .emp _) rfl (tyS rfl) (by first | rfl | omega) (by first | rfl | assumption | exact map_at (by first | assumption | omega))) ?_) <;> (first | refine sops_pure (.free rfl rfl) rfl rfl (po_field_bx rfl rfl (tyF rfl)) ?_ | refine sops_pure (.free rfl rfl) rfl rfl (po_field rfl rfl (tyF rfl)) ?_) <;> (first | refine sops_pure (.free rfl rfl) rfl rfl (po_load_bx rfl rfl (tyT rfl) rfl rfl) ?_ | refine sops_pure (.free rfl rfl) rfl rfl (po_load rfl rfl (tyT rfl) rfl) ?_) <;> (refine sops_pure (.free rfl rfl) rfl rfl (po_len rfl rfl (by first | exact .t _ | exact .own rfl rfl | exact .nil _ | exact .emp _) (tyS rfl)) ?_) <;> (refine sops_pure (.free rfl rfl) rfl rfl (po_cmp rfl rfl rfl rfl) ?_) <;> (refine sops_nil ?_))
              | ((refine swp_region (id := 12) ?_) <;> (refine sops_pure (.free rfl rfl) rfl rfl (po_move rfl rfl) ?_) <;> (refine sops_pure (.free rfl rfl) rfl rfl (po_move rfl rfl) ?_) <;> (refine sops_pure (.free rfl rfl) rfl rfl (po_index rfl rfl (by first | exact .t _ | exact .own rfl rfl | exact .nil _ | exact .emp _) rfl (tyS rfl) (by first | rfl | omega) (by first | rfl | assumption | exact map_at (by first | assumption | omega))) ?_) <;> (first | refine sops_pure (.free rfl rfl) rfl rfl (po_load_bx rfl rfl (tyT rfl) rfl rfl) ?_ | refine sops_pure (.free rfl rfl) rfl rfl (po_load rfl rfl (tyT rfl) rfl) ?_) <;> (refine sops_pure (.free rfl rfl) rfl rfl (po_move rfl rfl) ?_) <;> (refine sops_pure (.free rfl rfl) rfl rfl (po_index rfl rfl (by first | exact .t _ | exact .own rfl rfl | exact .nil _ | exact .emp _) rfl (tyS rfl) (by first | rfl | omega) (by first | rfl | assumption | exact map_at (by first | assumption | omega))) ?_) <;> (first | refine sops_pure (.free rfl rfl) rfl rfl (po_load_bx rfl rfl (tyT rfl) rfl rfl) ?_ | refine sops_pure (.free rfl rfl) rfl rfl (po_load rfl rfl (tyT rfl) rfl) ?_) <;> (refine sops_pure (.free rfl rfl) rfl rfl (po_cmp rfl rfl rfl rfl) ?_) <;> (refine sops_nil ?_))
              | ((refine swp_region (id := 13) ?_) <;> (refine sops_pure (.free rfl rfl) rfl rfl (po_move rfl rfl) ?_) <;> (refine sops_pure (.free rfl rfl) rfl rfl (po_move rfl rfl) ?_) <;> (refine sops_pure (.free rfl rfl) rfl rfl (po_index rfl rfl (by first | exact .t _ | exact .own rfl rfl | exact .nil _ | exact .emp _) rfl (tyS rfl) (by first | rfl | omega) (by first | rfl | assumption | exact map_at (by first | assumption | omega))) ?_) <;> (first | refine sops_pure (.free rfl rfl) rfl rfl (po_field_bx rfl rfl (tyF rfl)) ?_ | refine sops_pure (.free rfl rfl) rfl rfl (po_field rfl rfl (tyF rfl)) ?_) <;> (first | refine sops_pure (.free rfl rfl) rfl rfl (po_load_bx rfl rfl (tyT rfl) rfl rfl) ?_ | refine sops_pure (.free rfl rfl) rfl rfl (po_load rfl rfl (tyT rfl) rfl) ?_) <;> (refine sops_pure (.free rfl rfl) rfl rfl (po_cmp rfl rfl rfl rfl) ?_) <;> (refine sops_nil ?_))
              | ((refine swp_region (id := 15) ?_) <;> (refine sops_pure (.free rfl rfl) rfl rfl (po_move rfl rfl) ?_) <;> (refine sops_pure (.free rfl rfl) rfl rfl (po_not rfl rfl) ?_) <;> (refine sops_nil ?_))
              | ((refine swp_region (id := 11) ?_) <;> (refine sops_pure (.free rfl rfl) rfl rfl (po_move rfl rfl) ?_) <;> (first | refine sops_pure (.free rfl rfl) rfl rfl (po_inc rfl rfl rfl (by omega)) ?_ | refine sops_pure (.free rfl rfl) rfl rfl (po_arith rfl rfl rfl (ar_add (by first | rfl | (refine wrap_i64 ?_; omega)) rfl)) ?_) <;> (refine sops_pure (.free rfl rfl) rfl rfl (po_assign rfl rfl) ?_) <;> (refine sops_nil ?_))
              | refine swp_ret ?_
              | refine swp_skip ?_
              | refine swp_block ?_
              | refine swp_exit ?_
              | refine block_go ?_
              | refine block_exit ?_
              | refine block_far rfl ?_
              | refine block_ret ?_
              | refine then_ret ?_
              | refine then_exit ?_
              | refine for_ret ?_
              | refine for_exit ?_
              | refine swp_cond_t rfl (by first | assumption | with_reducible rfl | decide | (simp only [decide_eq_true_eq, Bool.not_eq_true', decide_eq_false_iff_not]; omega)) ?_
              | refine swp_cond_f rfl (by first | assumption | with_reducible rfl | decide | (simp only [decide_eq_false_iff_not, Bool.not_eq_false', decide_eq_true_eq]; omega)) ?_
              | refine swp_cond rfl (fun hc => ?_) (fun hc => ?_)
              | refine retq (by first | exact .inr rfl | exact .inl rfl) rfl (.tmp rfl (by first | exact .t _ | exact .own rfl rfl | exact .nil _ | exact .emp _) (.tmp rfl (by first | exact .t _ | exact .own rfl rfl | exact .nil _ | exact .emp _) .nil)) ?_)
        | false =>
          have hz2 : decide ((if M l[k].rules[j] = true then (1 : Int) else 0) = 0) = true := by rw [hM]; rfl
          have hs := bySt_no M (A := l.take k) hjl hM
          repeat' (first
            | refine then_go ?_
            | refine swp_seq ?_
            | refine for_next hjl (weak_sub (.cons rfl (by first | rfl | (rw [hs]; try rfl)) rfl (.cons rfl (by first | rfl | (rw [hs]; try rfl)) rfl (.cons rfl (by first | rfl | (rw [hs]; try rfl)) rfl (.cons rfl (by first | rfl | (rw [hs]; try rfl)) rfl (.cons rfl (by first | rfl | (rw [hs]; try rfl)) rfl (.cons rfl (by first | rfl | (rw [hs]; try rfl)) rfl (.cons rfl (by first | rfl | (rw [hs]; try rfl)) rfl .nil))))))) .nil .nil) trivial
            | ((refine swp_region (id := 10) ?_) <;> (refine sops_pure (.free rfl rfl) rfl rfl (po_move rfl rfl) ?_) <;> (refine sops_pure (.free rfl rfl) rfl rfl (po_move rfl rfl) ?_) <;> (refine sops_pure (.free rfl rfl) rfl rfl (po_move rfl rfl) ?_) <;> (refine sops_pure (.free rfl rfl) rfl rfl (po_index rfl rfl (by first | exact .t _ | exact .own rfl rfl | exact .nil _ | exact .emp _) rfl (tyS rfl) (by first | rfl | omega) (by first | rfl | assumption | exact map_at (by first | assumption | omega))) ?_) <;> (first | refine sops_pure (.free rfl rfl) rfl rfl (po_field_bx rfl rfl (tyF rfl)) ?_ | refine sops_pure (.free rfl rfl) rfl rfl (po_field rfl rfl (tyF rfl)) ?_) <;> (first | refine sops_pure (.free rfl rfl) rfl rfl (po_load_bx rfl rfl (tyT rfl) rfl rfl) ?_ | refine sops_pure (.free rfl rfl) rfl rfl (po_load rfl rfl (tyT rfl) rfl) ?_) <;> (refine sops_pure (.free rfl rfl) rfl rfl (po_len rfl rfl (by first | exact .t _ | exact .own rfl rfl | exact .nil _ | exact .emp _) (tyS rfl)) ?_) <;> (refine sops_pure (.free rfl rfl) rfl rfl (po_cmp rfl rfl rfl rfl) ?_) <;> (refine sops_nil ?_))
            | ((refine swp_region (id := 12) ?_) <;> (refine sops_pure (.free rfl rfl) rfl rfl (po_move rfl rfl) ?_) <;> (refine sops_pure (.free rfl rfl) rfl rfl (po_move rfl rfl) ?_) <;> (refine sops_pure (.free rfl rfl) rfl rfl (po_index rfl rfl (by first | exact .t _ | exact .own rfl rfl | exact .nil _ | exact .emp _) rfl (tyS rfl) (by first | rfl | omega) (by first | rfl | assumption | exact map_at (by first | assumption | omega))) ?_) <;> (first | refine sops_pure (.free rfl rfl) rfl rfl (po_load_bx rfl rfl (tyT rfl) rfl rfl) ?_ | refine sops_pure (.free rfl rfl) rfl rfl (po_load rfl rfl (tyT rfl) rfl) ?_) <;> (refine sops_pure (.free rfl rfl) rfl rfl (po_move rfl rfl) ?_) <;> (refine sops_pure (.free rfl rfl) rfl rfl (po_index rfl rfl (by first | exact .t _ | exact .own rfl rfl | exact .nil _ | exact .emp _) rfl (tyS rfl) (by first | rfl | omega) (by first | rfl | assumption | exact map_at (by first | assumption | omega))) ?_) <;> (first | refine sops_pure (.free rfl rfl) rfl rfl (po_load_bx rfl rfl (tyT rfl) rfl rfl) ?_ | refine sops_pure (.free rfl rfl) rfl rfl (po_load rfl rfl (tyT rfl) rfl) ?_) <;> (refine sops_pure (.free rfl rfl) rfl rfl (po_cmp rfl rfl rfl rfl) ?_) <;> (refine sops_nil ?_))
            | ((refine swp_region (id := 11) ?_) <;> (refine sops_pure (.free rfl rfl) rfl rfl (po_move rfl rfl) ?_) <;> (first | refine sops_pure (.free rfl rfl) rfl rfl (po_inc rfl rfl rfl (by omega)) ?_ | refine sops_pure (.free rfl rfl) rfl rfl (po_arith rfl rfl rfl (ar_add (by first | rfl | (refine wrap_i64 ?_; omega)) rfl)) ?_) <;> (refine sops_pure (.free rfl rfl) rfl rfl (po_assign rfl rfl) ?_) <;> (refine sops_nil ?_))
            | refine swp_ret ?_
            | refine swp_skip ?_
            | refine swp_block ?_
            | refine swp_exit ?_
            | refine block_go ?_
            | refine block_exit ?_
            | refine block_far rfl ?_
            | refine block_ret ?_
            | refine then_ret ?_
            | refine then_exit ?_
            | refine for_ret ?_
            | refine for_exit ?_
            | refine swp_cond_t rfl (by first | assumption | with_reducible rfl | decide | (simp only [decide_eq_true_eq, Bool.not_eq_true', decide_eq_false_iff_not]; omega)) ?_
            | refine swp_cond_f rfl (by first | assumption | with_reducible rfl | decide | (simp only [decide_eq_false_iff_not, Bool.not_eq_false', decide_eq_true_eq]; omega)) ?_
            | refine swp_cond rfl (fun hc => ?_) (fun hc => ?_)
            | refine retq (by first | exact .inr rfl | exact .inl rfl) rfl (.tmp rfl (by first | exact .t _ | exact .own rfl rfl | exact .nil _ | exact .emp _) (.tmp rfl (by first | exact .t _ | exact .own rfl rfl | exact .nil _ | exact .emp _) .nil)) ?_)
      · obtain rfl : j = l[k].rules.length := by omega
        repeat' (first
          | refine then_go ?_
          | refine swp_seq ?_
          | refine for_next hlt (weak_sub (.cons rfl (by first | rfl | (rw [hby])) rfl (.cons rfl (by first | rfl | (rw [hby])) rfl (.cons rfl (by first | rfl | (rw [hby])) rfl (.cons rfl (by first | rfl | (rw [hby])) rfl (.cons rfl (by first | rfl | (rw [hby])) rfl (.cons rfl (by first | rfl | (rw [hby])) rfl .nil)))))) .nil .nil) hfi
          | ((refine swp_region (id := 10) ?_) <;> (refine sops_pure (.free rfl rfl) rfl rfl (po_move rfl rfl) ?_) <;> (refine sops_pure (.free rfl rfl) rfl rfl (po_move rfl rfl) ?_) <;> (refine sops_pure (.free rfl rfl) rfl rfl (po_move rfl rfl) ?_) <;> (refine sops_pure (.free rfl rfl) rfl rfl (po_index rfl rfl (by first | exact .t _ | exact .own rfl rfl | exact .nil _ | exact .emp _) rfl (tyS rfl) (by first | rfl | omega) (by first | rfl | assumption | exact map_at (by first | assumption | omega))) ?_) <;> (first | refine sops_pure (.free rfl rfl) rfl rfl (po_field_bx rfl rfl (tyF rfl)) ?_ | refine sops_pure (.free rfl rfl) rfl rfl (po_field rfl rfl (tyF rfl)) ?_) <;> (first | refine sops_pure (.free rfl rfl) rfl rfl (po_load_bx rfl rfl (tyT rfl) rfl rfl) ?_ | refine sops_pure (.free rfl rfl) rfl rfl (po_load rfl rfl (tyT rfl) rfl) ?_) <;> (refine sops_pure (.free rfl rfl) rfl rfl (po_len rfl rfl (by first | exact .t _ | exact .own rfl rfl | exact .nil _ | exact .emp _) (tyS rfl)) ?_) <;> (refine sops_pure (.free rfl rfl) rfl rfl (po_cmp rfl rfl rfl rfl) ?_) <;> (refine sops_nil ?_))
          | ((refine swp_region (id := 6) ?_) <;> (refine sops_pure (.free rfl rfl) rfl rfl (po_move rfl rfl) ?_) <;> (first | refine sops_pure (.free rfl rfl) rfl rfl (po_inc rfl rfl rfl (by omega)) ?_ | refine sops_pure (.free rfl rfl) rfl rfl (po_arith rfl rfl rfl (ar_add (by first | rfl | (refine wrap_i64 ?_; omega)) rfl)) ?_) <;> (refine sops_pure (.free rfl rfl) rfl rfl (po_assign rfl rfl) ?_) <;> (refine sops_nil ?_))
          | refine swp_ret ?_
          | refine swp_skip ?_
          | refine swp_block ?_
          | refine swp_exit ?_
          | refine block_go ?_
          | refine block_exit ?_
          | refine block_far rfl ?_
          | refine block_ret ?_
          | refine then_ret ?_
          | refine then_exit ?_
          | refine for_ret ?_
          | refine for_exit ?_
          | refine swp_cond_t rfl (by first | assumption | with_reducible rfl | decide | (simp only [decide_eq_true_eq, Bool.not_eq_true', decide_eq_false_iff_not]; omega)) ?_
          | refine swp_cond_f rfl (by first | assumption | with_reducible rfl | decide | (simp only [decide_eq_false_iff_not, Bool.not_eq_false', decide_eq_true_eq]; omega)) ?_
          | refine swp_cond rfl (fun hc => ?_) (fun hc => ?_)
          | refine retq (by first | exact .inr rfl | exact .inl rfl) rfl (.tmp rfl (by first | exact .t _ | exact .own rfl rfl | exact .nil _ | exact .emp _) (.tmp rfl (by first | exact .t _ | exact .own rfl rfl | exact .nil _ | exact .emp _) .nil)) ?_)
  · obtain rfl : k = l.length := by omega
    rw [List.take_length] at *
    rw [judge_end M hI]
    cases ho : byP M false l
    all_goals
      repeat' (first
        | refine then_go ?_
        | refine swp_seq ?_
        | ((refine swp_region (id := 5) ?_) <;> (refine sops_pure (.free rfl rfl) rfl rfl (po_move rfl rfl) ?_) <;> (refine sops_pure (.free rfl rfl) rfl rfl (po_move rfl rfl) ?_) <;> (refine sops_pure (.free rfl rfl) rfl rfl (po_len rfl rfl (by first | exact .t _ | exact .own rfl rfl | exact .nil _ | exact .emp _) (tyS rfl)) ?_) <;> (refine sops_pure (.free rfl rfl) rfl rfl (po_cmp rfl rfl rfl rfl) ?_) <;> (refine sops_nil ?_))
        | ((refine swp_region (id := 18) ?_) <;> (refine sops_pure (.free rfl rfl) rfl rfl (po_move rfl rfl) ?_) <;> (refine sops_pure (.free rfl rfl) rfl rfl (po_move rfl rfl) ?_) <;> (first | refine sops_pure (.yes rfl rfl rfl (by first | assumption | with_reducible rfl | decide | (simp only [decide_eq_true_eq, decide_eq_false_iff_not]; omega))) rfl rfl (po_move rfl rfl) ?_ | refine sops_skip (.no0 rfl rfl rfl (by first | assumption | with_reducible rfl | decide | (simp only [decide_eq_true_eq, decide_eq_false_iff_not]; omega))) rfl rfl ?_ | ((refine sops_split rfl rfl rfl (fun hc => ?_) (fun hc => ?_)) <;> (first | refine sops_pure (.yes rfl rfl rfl (by first | assumption | with_reducible rfl | decide | (simp only [decide_eq_true_eq, decide_eq_false_iff_not]; omega))) rfl rfl (po_move rfl rfl) ?_ | refine sops_skip (.no0 rfl rfl rfl (by first | assumption | with_reducible rfl | decide | (simp only [decide_eq_true_eq, decide_eq_false_iff_not]; omega))) rfl rfl ?_))) <;> (first | refine sops_pure (.yes rfl rfl rfl (by first | assumption | with_reducible rfl | decide | (simp only [decide_eq_true_eq, decide_eq_false_iff_not]; omega))) rfl rfl (po_not rfl rfl) ?_ | refine sops_skip (.no0 rfl rfl rfl (by first | assumption | with_reducible rfl | decide | (simp only [decide_eq_true_eq, decide_eq_false_iff_not]; omega))) rfl rfl ?_) <;> (first | refine sops_pure (.free rfl rfl) rfl rfl (po_pick_t rfl rfl (by first | assumption | with_reducible rfl | decide | (simp only [decide_eq_true_eq, decide_eq_false_iff_not]; omega)) rfl) ?_ | refine sops_pure (.free rfl rfl) rfl rfl (po_pick_f rfl rfl (by first | assumption | with_reducible rfl | decide | (simp only [decide_eq_true_eq, decide_eq_false_iff_not]; omega)) rfl) ?_) <;> (refine sops_pure (.free rfl rfl) rfl rfl (po_move rfl rfl) ?_) <;> (refine sops_pure (.free rfl rfl) rfl rfl (po_assign rfl rfl) ?_) <;> (refine sops_pure (.free rfl rfl) rfl rfl (po_assign rfl rfl) ?_) <;> (refine sops_nil ?_))
        | refine swp_ret ?_
        | refine swp_skip ?_
        | refine swp_block ?_
        | refine swp_exit ?_
        | refine block_go ?_
        | refine block_exit ?_
        | refine block_far rfl ?_
        | refine block_ret ?_
        | refine then_ret ?_
        | refine then_exit ?_
        | refine for_ret ?_
        | refine for_exit ?_
        | refine swp_cond_t rfl (by first | assumption | with_reducible rfl | decide | (simp only [decide_eq_true_eq, Bool.not_eq_true', decide_eq_false_iff_not]; omega)) ?_
        | refine swp_cond_f rfl (by first | assumption | with_reducible rfl | decide | (simp only [decide_eq_false_iff_not, Bool.not_eq_false', decide_eq_true_eq]; omega)) ?_
        | refine swp_cond rfl (fun hc => ?_) (fun hc => ?_)
        | refine retq (by first | exact .inr rfl | exact .inl rfl) rfl (.tmp rfl (by first | exact .t _ | exact .own rfl rfl | exact .nil _ | exact .emp _) (.tmp rfl (by first | exact .t _ | exact .own rfl rfl | exact .nil _ | exact .emp _) .nil)) ?_)
    all_goals
      refine eq_bi ?_ ?_ <;> simp_all
end Go.Proofs.Ytlcecabfmemfeaa.Pol

/- The document's answer for auth: Judge. -/
namespace Go.Proofs.Ytlcecabfmemfeaa.Pol
set_option linter.unusedVariables false
set_option linter.unusedSimpArgs false
open Go.RowKit Mem Sim Opn WAddr WName WMatch WAuth
section
variable (M : Pl.Rule → Bool) (l : List Pl.Policy) (a : Pl.Asker) (port : Int) (q : Pl.Req) (tg qu : ByteArray) (bd : Value)
def J1 (k : Nat) : St := ⟨[(0, .t (.sl 5 (l.map polT))), (2, .t (.v (.int .i64 port))), (5, .bp 5 0), (7, .bp 7 0), (10, .own 110 ((l.take k).map (hitP M)).length), (11, .t (.v (.int .i64 (k : Int))))], [(5, askA a), (7, reqA q tg qu bd)], [(110, ⟨82, 1, (l.take k).map (hitP M)⟩)]⟩
def J2 (k : Nat) (p : Pl.Policy) (j : Nat) : St := ⟨[(0, .t (.sl 5 (l.map polT))), (2, .t (.v (.int .i64 port))), (5, .bp 5 0), (7, .bp 7 0), (10, .own 110 ((l.take k).map (hitP M)).length), (11, .t (.v (.int .i64 (k : Int)))), (12, .own 112 ((p.rules.take j).map (hitR M)).length), (13, .t (.v (.int .i64 (j : Int))))], [(5, askA a), (7, reqA q tg qu bd)], [(110, ⟨82, 1, (l.take k).map (hitP M)⟩), (112, ⟨3, 1, (p.rules.take j).map (hitR M)⟩)]⟩
end
theorem few_p {α : Type} {f : α → List T} {l : List α} (k n : Nat) (h : l.length ≤ 1000) (hn : n ≤ 100) : (((l.take k).map f).length + 1) * n ≤ 140737488355328 := by
  rw [List.length_map, List.length_take]
  have h1 : min k l.length + 1 ≤ 1001 := by omega
  have := Nat.mul_le_mul h1 hn
  omega
structure FewL (l : List Pl.Policy) : Prop where
  n : l.length ≤ 1000
  r : ∀ p ∈ l, p.rules.length ≤ 1000 ∧ ∀ r ∈ p.rules, FewR r
set_option maxRecDepth 100000 in
set_option maxHeartbeats 2000000 in
theorem judge_ (l : List Pl.Policy) (hl : ∀ p ∈ l, okPolicy p) (hf : FewL l) (a : Pl.Asker) (ha : OkAsk a) (port : Int) (q : Pl.Req) (hq : OkReq q) (tg qu : ByteArray) (bd : Value) :
    PCalls Try.prog 38 [.sl 5 (l.map polT), .agg (askT a), .v (.int .i64 port), .agg (reqT q tg qu bd)] (.tup [.v (.bool (Pl.judgeP (matchP a port q) l).1), .v (.int .u64 (Pl.judgeP (matchP a port q) l).2)]) := by
  have hm1 : (l.map polT).length = l.length := List.length_map _
  have hn := hf.n
  have hsays := says_ (matchP a port q) l hn fun p hp => (hf.r p hp).1
  generalize hMM : matchP a port q = M at *
  refine pcalls_of Try.func38 rfl rfl Try.ntmps38 rfl ?_
  repeat' (first
    | refine then_go ?_
    | refine swp_seq ?_
    | ((refine swp_region (id := 0) ?_) <;> (refine sops_box (.free rfl rfl) rfl rfl rfl rfl rfl rfl ?_) <;> (refine sops_box (.free rfl rfl) rfl rfl rfl rfl rfl rfl ?_) <;> (refine sops_pure (.free rfl rfl) rfl rfl (po_assign rfl rfl) ?_) <;> (refine sops_pure (.free rfl rfl) rfl rfl (po_assign rfl rfl) ?_) <;> (refine sops_nil ?_))
    | ((refine swp_region (id := 1) ?_) <;> (refine sops_pure (.free rfl rfl) rfl rfl (po_assign rfl rfl) ?_) <;> (refine sops_nil ?_))
    | ((refine swp_region (id := 2) ?_) <;> (refine sops_pure (.free rfl rfl) rfl rfl (po_assign rfl rfl) ?_) <;> (refine sops_nil ?_))
    | refine swp_ret ?_
    | refine swp_skip ?_
    | refine swp_block ?_
    | refine swp_exit ?_
    | refine block_go ?_
    | refine block_exit ?_
    | refine block_far rfl ?_
    | refine block_ret ?_
    | refine then_ret ?_
    | refine then_exit ?_
    | refine for_ret ?_
    | refine for_exit ?_
    | refine swp_cond_t rfl (by first | assumption | with_reducible rfl | decide | (simp only [decide_eq_true_eq, Bool.not_eq_true', decide_eq_false_iff_not]; omega)) ?_
    | refine swp_cond_f rfl (by first | assumption | with_reducible rfl | decide | (simp only [decide_eq_false_iff_not, Bool.not_eq_false', decide_eq_true_eq]; omega)) ?_
    | refine swp_cond rfl (fun hc => ?_) (fun hc => ?_)
    | refine retq (by first | exact .inr rfl | exact .inl rfl) rfl (.tmp rfl (by first | exact .t _ | exact .own rfl rfl | exact .nil _ | exact .emp _) (.tmp rfl (by first | exact .t _ | exact .own rfl rfl | exact .nil _ | exact .emp _) .nil)) ?_)
  refine swp_for (J1 M l a port q tg qu bd) (fun k => True) l.length ?_ trivial ?_
  · refine Weak.trans (weak_own0 (i := 110) 82 1 (s := 10) rfl rfl) ?_
    exact (weak_sub (.cons rfl rfl rfl (.cons rfl rfl rfl (.cons rfl rfl rfl (.cons rfl rfl rfl (.cons rfl rfl rfl (.cons rfl rfl rfl .nil)))))) (.cons rfl rfl rfl (.cons rfl rfl rfl .nil)) (.cons rfl rfl .nil))
  intro k hk _
  unfold J1
  by_cases hlt : k < l.length
  · have hnr := (hf.r _ (List.getElem_mem hlt)).1
    have hm2 : (l[k].rules.map ruleT).length = l[k].rules.length := List.length_map _
    have hsn := map_take_succ (hitP M) hlt
    have g1 := few_p (f := hitP M) (l := l) k 24 hn (by omega)
    repeat' (first
      | refine then_go ?_
      | refine swp_seq ?_
      | ((refine swp_region (id := 3) ?_) <;> (refine sops_pure (.free rfl rfl) rfl rfl (po_move rfl rfl) ?_) <;> (refine sops_pure (.free rfl rfl) rfl rfl (po_move rfl rfl) ?_) <;> (refine sops_pure (.free rfl rfl) rfl rfl (po_len rfl rfl (by first | exact .t _ | exact .own rfl rfl | exact .nil _ | exact .emp _) (tyS rfl)) ?_) <;> (refine sops_pure (.free rfl rfl) rfl rfl (po_cmp rfl rfl rfl rfl) ?_) <;> (refine sops_nil ?_))
      | ((refine swp_region (id := 5) ?_) <;> (refine sops_pure (.free rfl rfl) rfl rfl (po_assign rfl rfl) ?_) <;> (refine sops_nil ?_))
      | ((refine swp_region (id := 6) ?_) <;> (refine sops_pure (.free rfl rfl) rfl rfl (po_assign rfl rfl) ?_) <;> (refine sops_nil ?_))
      | refine swp_ret ?_
      | refine swp_skip ?_
      | refine swp_block ?_
      | refine swp_exit ?_
      | refine block_go ?_
      | refine block_exit ?_
      | refine block_far rfl ?_
      | refine block_ret ?_
      | refine then_ret ?_
      | refine then_exit ?_
      | refine for_ret ?_
      | refine for_exit ?_
      | refine swp_cond_t rfl (by first | assumption | with_reducible rfl | decide | (simp only [decide_eq_true_eq, Bool.not_eq_true', decide_eq_false_iff_not]; omega)) ?_
      | refine swp_cond_f rfl (by first | assumption | with_reducible rfl | decide | (simp only [decide_eq_false_iff_not, Bool.not_eq_false', decide_eq_true_eq]; omega)) ?_
      | refine swp_cond rfl (fun hc => ?_) (fun hc => ?_)
      | refine retq (by first | exact .inr rfl | exact .inl rfl) rfl (.tmp rfl (by first | exact .t _ | exact .own rfl rfl | exact .nil _ | exact .emp _) (.tmp rfl (by first | exact .t _ | exact .own rfl rfl | exact .nil _ | exact .emp _) .nil)) ?_)
    refine swp_for (J2 M l a port q tg qu bd k l[k]) (fun j => True) l[k].rules.length ?_ trivial ?_
    · refine Weak.trans (weak_own0 (i := 112) 3 1 (s := 12) rfl rfl) ?_
      exact (weak_sub (.cons rfl rfl rfl (.cons rfl rfl rfl (.cons rfl rfl rfl (.cons rfl rfl rfl (.cons rfl rfl rfl (.cons rfl rfl rfl (.cons rfl rfl rfl (.cons rfl rfl rfl .nil)))))))) (.cons rfl rfl rfl (.cons rfl rfl rfl .nil)) (.cons rfl rfl (.cons rfl rfl .nil)))
    intro j hj _
    unfold J2
    by_cases hjl : j < l[k].rules.length
    · have hmatch := matches__ l[k].rules[j] ((hl _ (List.getElem_mem hlt)).2.2.2.2 _ (List.getElem_mem hjl)) ((hf.r _ (List.getElem_mem hlt)).2 _ (List.getElem_mem hjl)) a ha port q hq tg qu bd
      rw [hMM] at hmatch
      have g2 := few_p (f := hitR M) (l := l[k].rules) j 8 hnr (by omega)
      cases hM : M l[k].rules[j] with
      | true =>
        rw [hM] at hmatch
        have hsn2 : (l[k].rules.take (j + 1)).map (hitR M) = (l[k].rules.take j).map (hitR M) ++ [[.v (.int .i64 1)]] := by rw [map_take_succ (hitR M) hjl, hitR, hM]; rfl
        repeat' (first
          | refine then_go ?_
          | refine swp_seq ?_
          | refine for_next hjl (weak_sub (.cons rfl (by first | rfl | (rw [hsn2]; try rfl)) rfl (.cons rfl (by first | rfl | (rw [hsn2]; try rfl)) rfl (.cons rfl (by first | rfl | (rw [hsn2]; try rfl)) rfl (.cons rfl (by first | rfl | (rw [hsn2]; try rfl)) rfl (.cons rfl (by first | rfl | (rw [hsn2]; try rfl)) rfl (.cons rfl (by first | rfl | (rw [hsn2]; try rfl)) rfl (.cons rfl (by first | rfl | (rw [hsn2]; try rfl)) rfl (.cons rfl (by first | rfl | (rw [hsn2]; try rfl)) rfl .nil)))))))) (.cons rfl (by first | rfl | (rw [hsn2]; try rfl)) rfl (.cons rfl (by first | rfl | (rw [hsn2]; try rfl)) rfl .nil)) (.cons rfl (by first | rfl | (rw [hsn2]; try rfl)) (.cons rfl (by first | rfl | (rw [hsn2]; try rfl)) .nil))) trivial
          | ((refine swp_region (id := 7) ?_) <;> (refine sops_pure (.free rfl rfl) rfl rfl (po_move rfl rfl) ?_) <;> (refine sops_pure (.free rfl rfl) rfl rfl (po_move rfl rfl) ?_) <;> (refine sops_pure (.free rfl rfl) rfl rfl (po_move rfl rfl) ?_) <;> (refine sops_pure (.free rfl rfl) rfl rfl (po_index rfl rfl (by first | exact .t _ | exact .own rfl rfl | exact .nil _ | exact .emp _) rfl (tyS rfl) (by first | rfl | omega) (by first | rfl | assumption | exact map_at (by first | assumption | omega))) ?_) <;> (first | refine sops_pure (.free rfl rfl) rfl rfl (po_field_bx rfl rfl (tyF rfl)) ?_ | refine sops_pure (.free rfl rfl) rfl rfl (po_field rfl rfl (tyF rfl)) ?_) <;> (first | refine sops_pure (.free rfl rfl) rfl rfl (po_load_bx rfl rfl (tyT rfl) rfl rfl) ?_ | refine sops_pure (.free rfl rfl) rfl rfl (po_load rfl rfl (tyT rfl) rfl) ?_) <;> (refine sops_pure (.free rfl rfl) rfl rfl (po_len rfl rfl (by first | exact .t _ | exact .own rfl rfl | exact .nil _ | exact .emp _) (tyS rfl)) ?_) <;> (refine sops_pure (.free rfl rfl) rfl rfl (po_cmp rfl rfl rfl rfl) ?_) <;> (refine sops_nil ?_))
          | ((refine swp_draw_all (id := 9) mixed (by kernel_rfl) (by kernel_rfl) ?_) <;> (refine sdraw_pure (.free rfl rfl) rfl (po_move rfl rfl) ?_) <;> (refine sdraw_pure (.free rfl rfl) rfl (po_move rfl rfl) ?_) <;> (refine sdraw_pure (.free rfl rfl) rfl (po_index rfl rfl (by first | exact .t _ | exact .own rfl rfl | exact .nil _ | exact .emp _) rfl (tyS rfl) (by first | rfl | omega) (by first | rfl | assumption | exact map_at (by first | assumption | omega))) ?_) <;> (first | refine sdraw_pure (.free rfl rfl) rfl (po_field_bx rfl rfl (tyF rfl)) ?_ | refine sdraw_pure (.free rfl rfl) rfl (po_field rfl rfl (tyF rfl)) ?_) <;> (first | refine sdraw_pure (.free rfl rfl) rfl (po_load_bx rfl rfl (tyT rfl) rfl rfl) ?_ | refine sdraw_pure (.free rfl rfl) rfl (po_load rfl rfl (tyT rfl) rfl) ?_) <;> (refine sdraw_pure (.free rfl rfl) rfl (po_move rfl rfl) ?_) <;> (refine sdraw_pure (.free rfl rfl) rfl (po_index rfl rfl (by first | exact .t _ | exact .own rfl rfl | exact .nil _ | exact .emp _) rfl (tyS rfl) (by first | rfl | omega) (by first | rfl | assumption | exact map_at (by first | assumption | omega))) ?_) <;> (first | refine sdraw_pure (.free rfl rfl) rfl (po_load_bx_agg rfl rfl (tyT rfl) rfl (.cons (by first | exact .t _ | exact .own rfl rfl | exact .nil _ | exact .emp _) (.cons (by first | exact .t _ | exact .own rfl rfl | exact .nil _ | exact .emp _) (.cons (by first | exact .t _ | exact .own rfl rfl | exact .nil _ | exact .emp _) .nil))) rfl) ?_ | refine sdraw_pure (.free rfl rfl) rfl (po_load_agg rfl rfl (tyT rfl) rfl rfl) ?_) <;> (first | refine sdraw_pure (.free rfl rfl) rfl (po_load_bx_agg rfl rfl (tyT rfl) rfl (.cons (by first | exact .t _ | exact .own rfl rfl | exact .nil _ | exact .emp _) (.cons (by first | exact .t _ | exact .own rfl rfl | exact .nil _ | exact .emp _) (.cons (by first | exact .t _ | exact .own rfl rfl | exact .nil _ | exact .emp _) .nil))) rfl) ?_ | refine sdraw_pure (.free rfl rfl) rfl (po_load_agg rfl rfl (tyT rfl) rfl rfl) ?_) <;> (refine sdraw_pure (.free rfl rfl) rfl (po_move rfl rfl) ?_) <;> (first | refine sdraw_pure (.free rfl rfl) rfl (po_load_bx_agg rfl rfl (tyT rfl) rfl (.cons (by first | exact .t _ | exact .own rfl rfl | exact .nil _ | exact .emp _) (.cons (by first | exact .t _ | exact .own rfl rfl | exact .nil _ | exact .emp _) (.cons (by first | exact .t _ | exact .own rfl rfl | exact .nil _ | exact .emp _) (.cons (by first | exact .t _ | exact .own rfl rfl | exact .nil _ | exact .emp _) (.cons (by first | exact .t _ | exact .own rfl rfl | exact .nil _ | exact .emp _) (.cons (by first | exact .t _ | exact .own rfl rfl | exact .nil _ | exact .emp _) (.cons (by first | exact .t _ | exact .own rfl rfl | exact .nil _ | exact .emp _) .nil))))))) rfl) ?_ | refine sdraw_pure (.free rfl rfl) rfl (po_load_agg rfl rfl (tyT rfl) rfl rfl) ?_) <;> (refine sdraw_pure (.free rfl rfl) rfl (po_call (hmatch) rfl (.cons rfl (by first | exact .t _ | exact .own rfl rfl | exact .nil _ | exact .emp _) (.cons rfl (by first | exact .t _ | exact .own rfl rfl | exact .nil _ | exact .emp _) (.cons rfl (by first | exact .t _ | exact .own rfl rfl | exact .nil _ | exact .emp _) (.cons rfl (by first | exact .t _ | exact .own rfl rfl | exact .nil _ | exact .emp _) .nil))))) ?_) <;> (refine sdraw_nil ?_) <;> (refine sops_nil ?_))
          | ((refine swp_region (id := 10) ?_) <;> (refine sops_pure (.free rfl rfl) rfl rfl (po_move rfl rfl) ?_) <;> (refine sops_pure (.free rfl rfl) rfl rfl (po_buildSlice rfl (tyE rfl) (.cons rfl (by first | exact .t _ | exact .own rfl rfl | exact .nil _ | exact .emp _) rfl rfl (.nil _)) rfl rfl rfl) ?_) <;> (first | refine sops_append rfl rfl rfl rfl rfl rfl (by first | rfl | simp) rfl (by first | exact .t _ | exact .own rfl rfl | exact .nil _ | exact .emp _) (tyE rfl) (by first | assumption | (simp at *; omega)) (by first | assumption | (simp [maxLen] at *; omega)) ?_ | refine sops_append_nil rfl rfl rfl rfl rfl rfl rfl (by first | exact .t _ | exact .own rfl rfl | exact .nil _ | exact .emp _) (tyE rfl) (by first | assumption | (simp at *; omega)) (by first | assumption | (simp [maxLen] at *; omega)) ?_) <;> (refine sops_pure (.free rfl rfl) rfl rfl (po_assign rfl rfl) ?_) <;> (refine sops_nil ?_))
          | ((refine swp_region (id := 8) ?_) <;> (refine sops_pure (.free rfl rfl) rfl rfl (po_move rfl rfl) ?_) <;> (first | refine sops_pure (.free rfl rfl) rfl rfl (po_inc rfl rfl rfl (by omega)) ?_ | refine sops_pure (.free rfl rfl) rfl rfl (po_arith rfl rfl rfl (ar_add (by first | rfl | (refine wrap_i64 ?_; omega)) rfl)) ?_) <;> (refine sops_pure (.free rfl rfl) rfl rfl (po_assign rfl rfl) ?_) <;> (refine sops_nil ?_))
          | refine swp_ret ?_
          | refine swp_skip ?_
          | refine swp_block ?_
          | refine swp_exit ?_
          | refine block_go ?_
          | refine block_exit ?_
          | refine block_far rfl ?_
          | refine block_ret ?_
          | refine then_ret ?_
          | refine then_exit ?_
          | refine for_ret ?_
          | refine for_exit ?_
          | refine swp_cond_t rfl (by first | assumption | with_reducible rfl | decide | (simp only [decide_eq_true_eq, Bool.not_eq_true', decide_eq_false_iff_not]; omega)) ?_
          | refine swp_cond_f rfl (by first | assumption | with_reducible rfl | decide | (simp only [decide_eq_false_iff_not, Bool.not_eq_false', decide_eq_true_eq]; omega)) ?_
          | refine swp_cond rfl (fun hc => ?_) (fun hc => ?_)
          | refine retq (by first | exact .inr rfl | exact .inl rfl) rfl (.tmp rfl (by first | exact .t _ | exact .own rfl rfl | exact .nil _ | exact .emp _) (.tmp rfl (by first | exact .t _ | exact .own rfl rfl | exact .nil _ | exact .emp _) .nil)) ?_)
      | false =>
        rw [hM] at hmatch
        have hsn2 : (l[k].rules.take (j + 1)).map (hitR M) = (l[k].rules.take j).map (hitR M) ++ [[.v (.int .i64 0)]] := by rw [map_take_succ (hitR M) hjl, hitR, hM]; rfl
        repeat' (first
          | refine then_go ?_
          | refine swp_seq ?_
          | refine for_next hjl (weak_sub (.cons rfl (by first | rfl | (rw [hsn2]; try rfl)) rfl (.cons rfl (by first | rfl | (rw [hsn2]; try rfl)) rfl (.cons rfl (by first | rfl | (rw [hsn2]; try rfl)) rfl (.cons rfl (by first | rfl | (rw [hsn2]; try rfl)) rfl (.cons rfl (by first | rfl | (rw [hsn2]; try rfl)) rfl (.cons rfl (by first | rfl | (rw [hsn2]; try rfl)) rfl (.cons rfl (by first | rfl | (rw [hsn2]; try rfl)) rfl (.cons rfl (by first | rfl | (rw [hsn2]; try rfl)) rfl .nil)))))))) (.cons rfl (by first | rfl | (rw [hsn2]; try rfl)) rfl (.cons rfl (by first | rfl | (rw [hsn2]; try rfl)) rfl .nil)) (.cons rfl (by first | rfl | (rw [hsn2]; try rfl)) (.cons rfl (by first | rfl | (rw [hsn2]; try rfl)) .nil))) trivial
          | ((refine swp_region (id := 7) ?_) <;> (refine sops_pure (.free rfl rfl) rfl rfl (po_move rfl rfl) ?_) <;> (refine sops_pure (.free rfl rfl) rfl rfl (po_move rfl rfl) ?_) <;> (refine sops_pure (.free rfl rfl) rfl rfl (po_move rfl rfl) ?_) <;> (refine sops_pure (.free rfl rfl) rfl rfl (po_index rfl rfl (by first | exact .t _ | exact .own rfl rfl | exact .nil _ | exact .emp _) rfl (tyS rfl) (by first | rfl | omega) (by first | rfl | assumption | exact map_at (by first | assumption | omega))) ?_) <;> (first | refine sops_pure (.free rfl rfl) rfl rfl (po_field_bx rfl rfl (tyF rfl)) ?_ | refine sops_pure (.free rfl rfl) rfl rfl (po_field rfl rfl (tyF rfl)) ?_) <;> (first | refine sops_pure (.free rfl rfl) rfl rfl (po_load_bx rfl rfl (tyT rfl) rfl rfl) ?_ | refine sops_pure (.free rfl rfl) rfl rfl (po_load rfl rfl (tyT rfl) rfl) ?_) <;> (refine sops_pure (.free rfl rfl) rfl rfl (po_len rfl rfl (by first | exact .t _ | exact .own rfl rfl | exact .nil _ | exact .emp _) (tyS rfl)) ?_) <;> (refine sops_pure (.free rfl rfl) rfl rfl (po_cmp rfl rfl rfl rfl) ?_) <;> (refine sops_nil ?_))
          | ((refine swp_draw_all (id := 9) mixed (by kernel_rfl) (by kernel_rfl) ?_) <;> (refine sdraw_pure (.free rfl rfl) rfl (po_move rfl rfl) ?_) <;> (refine sdraw_pure (.free rfl rfl) rfl (po_move rfl rfl) ?_) <;> (refine sdraw_pure (.free rfl rfl) rfl (po_index rfl rfl (by first | exact .t _ | exact .own rfl rfl | exact .nil _ | exact .emp _) rfl (tyS rfl) (by first | rfl | omega) (by first | rfl | assumption | exact map_at (by first | assumption | omega))) ?_) <;> (first | refine sdraw_pure (.free rfl rfl) rfl (po_field_bx rfl rfl (tyF rfl)) ?_ | refine sdraw_pure (.free rfl rfl) rfl (po_field rfl rfl (tyF rfl)) ?_) <;> (first | refine sdraw_pure (.free rfl rfl) rfl (po_load_bx rfl rfl (tyT rfl) rfl rfl) ?_ | refine sdraw_pure (.free rfl rfl) rfl (po_load rfl rfl (tyT rfl) rfl) ?_) <;> (refine sdraw_pure (.free rfl rfl) rfl (po_move rfl rfl) ?_) <;> (refine sdraw_pure (.free rfl rfl) rfl (po_index rfl rfl (by first | exact .t _ | exact .own rfl rfl | exact .nil _ | exact .emp _) rfl (tyS rfl) (by first | rfl | omega) (by first | rfl | assumption | exact map_at (by first | assumption | omega))) ?_) <;> (first | refine sdraw_pure (.free rfl rfl) rfl (po_load_bx_agg rfl rfl (tyT rfl) rfl (.cons (by first | exact .t _ | exact .own rfl rfl | exact .nil _ | exact .emp _) (.cons (by first | exact .t _ | exact .own rfl rfl | exact .nil _ | exact .emp _) (.cons (by first | exact .t _ | exact .own rfl rfl | exact .nil _ | exact .emp _) .nil))) rfl) ?_ | refine sdraw_pure (.free rfl rfl) rfl (po_load_agg rfl rfl (tyT rfl) rfl rfl) ?_) <;> (first | refine sdraw_pure (.free rfl rfl) rfl (po_load_bx_agg rfl rfl (tyT rfl) rfl (.cons (by first | exact .t _ | exact .own rfl rfl | exact .nil _ | exact .emp _) (.cons (by first | exact .t _ | exact .own rfl rfl | exact .nil _ | exact .emp _) (.cons (by first | exact .t _ | exact .own rfl rfl | exact .nil _ | exact .emp _) .nil))) rfl) ?_ | refine sdraw_pure (.free rfl rfl) rfl (po_load_agg rfl rfl (tyT rfl) rfl rfl) ?_) <;> (refine sdraw_pure (.free rfl rfl) rfl (po_move rfl rfl) ?_) <;> (first | refine sdraw_pure (.free rfl rfl) rfl (po_load_bx_agg rfl rfl (tyT rfl) rfl (.cons (by first | exact .t _ | exact .own rfl rfl | exact .nil _ | exact .emp _) (.cons (by first | exact .t _ | exact .own rfl rfl | exact .nil _ | exact .emp _) (.cons (by first | exact .t _ | exact .own rfl rfl | exact .nil _ | exact .emp _) (.cons (by first | exact .t _ | exact .own rfl rfl | exact .nil _ | exact .emp _) (.cons (by first | exact .t _ | exact .own rfl rfl | exact .nil _ | exact .emp _) (.cons (by first | exact .t _ | exact .own rfl rfl | exact .nil _ | exact .emp _) (.cons (by first | exact .t _ | exact .own rfl rfl | exact .nil _ | exact .emp _) .nil))))))) rfl) ?_ | refine sdraw_pure (.free rfl rfl) rfl (po_load_agg rfl rfl (tyT rfl) rfl rfl) ?_) <;> (refine sdraw_pure (.free rfl rfl) rfl (po_call (hmatch) rfl (.cons rfl (by first | exact .t _ | exact .own rfl rfl | exact .nil _ | exact .emp _) (.cons rfl (by first | exact .t _ | exact .own rfl rfl | exact .nil _ | exact .emp _) (.cons rfl (by first | exact .t _ | exact .own rfl rfl | exact .nil _ | exact .emp _) (.cons rfl (by first | exact .t _ | exact .own rfl rfl | exact .nil _ | exact .emp _) .nil))))) ?_) <;> (refine sdraw_nil ?_) <;> (refine sops_nil ?_))
          | ((refine swp_region (id := 11) ?_) <;> (refine sops_pure (.free rfl rfl) rfl rfl (po_move rfl rfl) ?_) <;> (refine sops_pure (.free rfl rfl) rfl rfl (po_buildSlice rfl (tyE rfl) (.cons rfl (by first | exact .t _ | exact .own rfl rfl | exact .nil _ | exact .emp _) rfl rfl (.nil _)) rfl rfl rfl) ?_) <;> (first | refine sops_append rfl rfl rfl rfl rfl rfl (by first | rfl | simp) rfl (by first | exact .t _ | exact .own rfl rfl | exact .nil _ | exact .emp _) (tyE rfl) (by first | assumption | (simp at *; omega)) (by first | assumption | (simp [maxLen] at *; omega)) ?_ | refine sops_append_nil rfl rfl rfl rfl rfl rfl rfl (by first | exact .t _ | exact .own rfl rfl | exact .nil _ | exact .emp _) (tyE rfl) (by first | assumption | (simp at *; omega)) (by first | assumption | (simp [maxLen] at *; omega)) ?_) <;> (refine sops_pure (.free rfl rfl) rfl rfl (po_assign rfl rfl) ?_) <;> (refine sops_nil ?_))
          | ((refine swp_region (id := 8) ?_) <;> (refine sops_pure (.free rfl rfl) rfl rfl (po_move rfl rfl) ?_) <;> (first | refine sops_pure (.free rfl rfl) rfl rfl (po_inc rfl rfl rfl (by omega)) ?_ | refine sops_pure (.free rfl rfl) rfl rfl (po_arith rfl rfl rfl (ar_add (by first | rfl | (refine wrap_i64 ?_; omega)) rfl)) ?_) <;> (refine sops_pure (.free rfl rfl) rfl rfl (po_assign rfl rfl) ?_) <;> (refine sops_nil ?_))
          | refine swp_ret ?_
          | refine swp_skip ?_
          | refine swp_block ?_
          | refine swp_exit ?_
          | refine block_go ?_
          | refine block_exit ?_
          | refine block_far rfl ?_
          | refine block_ret ?_
          | refine then_ret ?_
          | refine then_exit ?_
          | refine for_ret ?_
          | refine for_exit ?_
          | refine swp_cond_t rfl (by first | assumption | with_reducible rfl | decide | (simp only [decide_eq_true_eq, Bool.not_eq_true', decide_eq_false_iff_not]; omega)) ?_
          | refine swp_cond_f rfl (by first | assumption | with_reducible rfl | decide | (simp only [decide_eq_false_iff_not, Bool.not_eq_false', decide_eq_true_eq]; omega)) ?_
          | refine swp_cond rfl (fun hc => ?_) (fun hc => ?_)
          | refine retq (by first | exact .inr rfl | exact .inl rfl) rfl (.tmp rfl (by first | exact .t _ | exact .own rfl rfl | exact .nil _ | exact .emp _) (.tmp rfl (by first | exact .t _ | exact .own rfl rfl | exact .nil _ | exact .emp _) .nil)) ?_)
    · obtain rfl : j = l[k].rules.length := by omega
      rw [List.take_length]
      repeat' (first
        | refine then_go ?_
        | refine swp_seq ?_
        | refine for_next hlt (weak_sub (.cons rfl (by first | rfl | (rw [hsn]; try rfl)) rfl (.cons rfl (by first | rfl | (rw [hsn]; try rfl)) rfl (.cons rfl (by first | rfl | (rw [hsn]; try rfl)) rfl (.cons rfl (by first | rfl | (rw [hsn]; try rfl)) rfl (.cons rfl (by first | rfl | (rw [hsn]; try rfl)) rfl (.cons rfl (by first | rfl | (rw [hsn]; try rfl)) rfl .nil)))))) (.cons rfl (by first | rfl | (rw [hsn]; try rfl)) rfl (.cons rfl (by first | rfl | (rw [hsn]; try rfl)) rfl .nil)) (.cons rfl (by first | rfl | (rw [hsn]; try rfl)) .nil)) trivial
        | ((refine swp_region (id := 7) ?_) <;> (refine sops_pure (.free rfl rfl) rfl rfl (po_move rfl rfl) ?_) <;> (refine sops_pure (.free rfl rfl) rfl rfl (po_move rfl rfl) ?_) <;> (refine sops_pure (.free rfl rfl) rfl rfl (po_move rfl rfl) ?_) <;> (refine sops_pure (.free rfl rfl) rfl rfl (po_index rfl rfl (by first | exact .t _ | exact .own rfl rfl | exact .nil _ | exact .emp _) rfl (tyS rfl) (by first | rfl | omega) (by first | rfl | assumption | exact map_at (by first | assumption | omega))) ?_) <;> (first | refine sops_pure (.free rfl rfl) rfl rfl (po_field_bx rfl rfl (tyF rfl)) ?_ | refine sops_pure (.free rfl rfl) rfl rfl (po_field rfl rfl (tyF rfl)) ?_) <;> (first | refine sops_pure (.free rfl rfl) rfl rfl (po_load_bx rfl rfl (tyT rfl) rfl rfl) ?_ | refine sops_pure (.free rfl rfl) rfl rfl (po_load rfl rfl (tyT rfl) rfl) ?_) <;> (refine sops_pure (.free rfl rfl) rfl rfl (po_len rfl rfl (by first | exact .t _ | exact .own rfl rfl | exact .nil _ | exact .emp _) (tyS rfl)) ?_) <;> (refine sops_pure (.free rfl rfl) rfl rfl (po_cmp rfl rfl rfl rfl) ?_) <;> (refine sops_nil ?_))
        | ((refine swp_region (id := 12) ?_) <;> (refine sops_pure (.free rfl rfl) rfl rfl (po_move rfl rfl) ?_) <;> (refine sops_pure (.free rfl rfl) rfl rfl (po_move rfl rfl) ?_) <;> (refine sops_pure (.free rfl rfl) rfl rfl (po_buildSlice rfl (tyE rfl) (.cons rfl (by first | exact .t _ | exact .own rfl rfl | exact .nil _ | exact .emp _) rfl rfl (.nil _)) rfl rfl rfl) ?_) <;> (first | refine sops_append rfl rfl rfl rfl rfl rfl (by first | rfl | simp) rfl (by first | exact .t _ | exact .own rfl rfl | exact .nil _ | exact .emp _) (tyE rfl) (by first | assumption | (simp at *; omega)) (by first | assumption | (simp [maxLen] at *; omega)) ?_ | refine sops_append_nil rfl rfl rfl rfl rfl rfl rfl (by first | exact .t _ | exact .own rfl rfl | exact .nil _ | exact .emp _) (tyE rfl) (by first | assumption | (simp at *; omega)) (by first | assumption | (simp [maxLen] at *; omega)) ?_) <;> (refine sops_pure (.free rfl rfl) rfl rfl (po_assign rfl rfl) ?_) <;> (refine sops_nil ?_))
        | ((refine swp_region (id := 4) ?_) <;> (refine sops_pure (.free rfl rfl) rfl rfl (po_move rfl rfl) ?_) <;> (first | refine sops_pure (.free rfl rfl) rfl rfl (po_inc rfl rfl rfl (by omega)) ?_ | refine sops_pure (.free rfl rfl) rfl rfl (po_arith rfl rfl rfl (ar_add (by first | rfl | (refine wrap_i64 ?_; omega)) rfl)) ?_) <;> (refine sops_pure (.free rfl rfl) rfl rfl (po_assign rfl rfl) ?_) <;> (refine sops_nil ?_))
        | refine swp_ret ?_
        | refine swp_skip ?_
        | refine swp_block ?_
        | refine swp_exit ?_
        | refine block_go ?_
        | refine block_exit ?_
        | refine block_far rfl ?_
        | refine block_ret ?_
        | refine then_ret ?_
        | refine then_exit ?_
        | refine for_ret ?_
        | refine for_exit ?_
        | refine swp_cond_t rfl (by first | assumption | with_reducible rfl | decide | (simp only [decide_eq_true_eq, Bool.not_eq_true', decide_eq_false_iff_not]; omega)) ?_
        | refine swp_cond_f rfl (by first | assumption | with_reducible rfl | decide | (simp only [decide_eq_false_iff_not, Bool.not_eq_false', decide_eq_true_eq]; omega)) ?_
        | refine swp_cond rfl (fun hc => ?_) (fun hc => ?_)
        | refine retq (by first | exact .inr rfl | exact .inl rfl) rfl (.tmp rfl (by first | exact .t _ | exact .own rfl rfl | exact .nil _ | exact .emp _) (.tmp rfl (by first | exact .t _ | exact .own rfl rfl | exact .nil _ | exact .emp _) .nil)) ?_)
  · obtain rfl : k = l.length := by omega
    rw [List.take_length]
    repeat' (first
      | refine then_go ?_
      | refine swp_seq ?_
      | ((refine swp_region (id := 3) ?_) <;> (refine sops_pure (.free rfl rfl) rfl rfl (po_move rfl rfl) ?_) <;> (refine sops_pure (.free rfl rfl) rfl rfl (po_move rfl rfl) ?_) <;> (refine sops_pure (.free rfl rfl) rfl rfl (po_len rfl rfl (by first | exact .t _ | exact .own rfl rfl | exact .nil _ | exact .emp _) (tyS rfl)) ?_) <;> (refine sops_pure (.free rfl rfl) rfl rfl (po_cmp rfl rfl rfl rfl) ?_) <;> (refine sops_nil ?_))
      | ((refine swp_region (id := 13) ?_) <;> (refine sops_pure (.free rfl rfl) rfl rfl (po_move rfl rfl) ?_) <;> (refine sops_pure (.free rfl rfl) rfl rfl (po_move rfl rfl) ?_) <;> (refine sops_pure (.free rfl rfl) rfl rfl (po_call (hsays) rfl (.cons rfl (by first | exact .t _ | exact .own rfl rfl | exact .nil _ | exact .emp _) (.cons rfl (by first | exact .t _ | exact .own rfl rfl | exact .nil _ | exact .emp _) .nil))) ?_) <;> (refine sops_pure (.free rfl rfl) rfl rfl (po_extract rfl rfl rfl) ?_) <;> (refine sops_pure (.free rfl rfl) rfl rfl (po_extract rfl rfl rfl) ?_) <;> (refine sops_pure (.free rfl rfl) rfl rfl (po_assign rfl rfl) ?_) <;> (refine sops_pure (.free rfl rfl) rfl rfl (po_assign rfl rfl) ?_) <;> (refine sops_nil ?_))
      | refine swp_ret ?_
      | refine swp_skip ?_
      | refine swp_block ?_
      | refine swp_exit ?_
      | refine block_go ?_
      | refine block_exit ?_
      | refine block_far rfl ?_
      | refine block_ret ?_
      | refine then_ret ?_
      | refine then_exit ?_
      | refine for_ret ?_
      | refine for_exit ?_
      | refine swp_cond_t rfl (by first | assumption | with_reducible rfl | decide | (simp only [decide_eq_true_eq, Bool.not_eq_true', decide_eq_false_iff_not]; omega)) ?_
      | refine swp_cond_f rfl (by first | assumption | with_reducible rfl | decide | (simp only [decide_eq_false_iff_not, Bool.not_eq_false', decide_eq_true_eq]; omega)) ?_
      | refine swp_cond rfl (fun hc => ?_) (fun hc => ?_)
      | refine retq (by first | exact .inr rfl | exact .inl rfl) rfl (.tmp rfl (by first | exact .t _ | exact .own rfl rfl | exact .nil _ | exact .emp _) (.tmp rfl (by first | exact .t _ | exact .own rfl rfl | exact .nil _ | exact .emp _) .nil)) ?_)
    rfl
end Go.Proofs.Ytlcecabfmemfeaa.Pol

/- A region that draws its order, at whose end two boxes are made and written, in any order ('x, y := a[i], b[i]'). -/
namespace Go.Proofs.Ytlcecabfmemfeaa.Sim
set_option linter.unusedVariables false
set_option linter.unusedSimpArgs false
open Go.RowKit Mem
section
variable {C : Ctx} {bx : List (Nat × List A)} {ow : List (Nat × Own)} {w : World} {m : Mm} {g : Gh}
/-- a box that lies there already -/
theorem EnvG.boxAt (he : EnvG C bx ow w m g) {i b : Nat} (hi : get bx i = none) {cs : List A} {vs : Array Value} {ty : TypeId} (hh : w.heap[b]? = some (.cells vs ty (0, 0))) (hc : ACells m g cs vs.toList) (hb : C.w0.heap.size ≤ b) (hm : ∀ o, m b o = none)
    (hbx : ∀ j cj, get bx j = some cj → g.gb j ≠ b) (how : ∀ j o, get ow j = some o → (g.go j).ownBlock ≠ some b) : EnvG C ((i, cs) :: bx) ow w m (g.addB i b) := by
  have hlb : g.lb i = false := by rw [he.lb, hi]; rfl
  have e : ∀ q, (g.addB i b).gb q = if q = i then b else g.gb q := fun q => rfl
  exact {
    lo := he.lo, sub := he.sub, ext := he.ext
    lb := fun j => by
      rw [get_cons]
      show (if j = i then true else g.lb j) = _
      by_cases hji : j = i
      · subst hji; simp
      · rw [if_neg hji, if_neg (fun e => hji e.symm)]; exact he.lb j
    lw := he.lw, ln := he.ln
    boxes := fun j cs' hj => by
      rw [get_cons] at hj
      by_cases hji : i = j
      · subst hji
        rw [if_pos rfl] at hj; injection hj with hj; subst hj
        rw [e, if_pos rfl]
        exact ⟨vs, ty, hh, by simpa using hc.1, fun k x v h1 h2 => by
          have := hc.2 k x v h1 (by simpa using h2)
          exact ⟨this.1.addB hlb, this.2⟩, hb, hm⟩
      · rw [if_neg hji] at hj
        obtain ⟨vs', ty', h1, h2, h3, h4, h5⟩ := he.boxes j cs' hj
        rw [e, if_neg (fun e => hji e.symm)]
        exact ⟨vs', ty', h1, h2, fun k x v h6 h7 => ⟨(h3 k x v h6 h7).1.addB hlb, (h3 k x v h6 h7).2⟩, h4, h5⟩
    inj := fun j k cj ck hj hk h => by
      rw [get_cons] at hj hk
      rw [e, e] at h
      by_cases hji : i = j <;> by_cases hki : i = k
      · omega
      · rw [if_neg hki] at hk
        rw [if_pos hji.symm, if_neg (fun e => hki e.symm)] at h
        exact absurd h.symm (hbx k ck hk)
      · rw [if_neg hji] at hj
        rw [if_neg (fun e => hji e.symm), if_pos hki.symm] at h
        exact absurd h (hbx j cj hj)
      · rw [if_neg hji] at hj; rw [if_neg hki] at hk
        rw [if_neg (fun e => hji e.symm), if_neg (fun e => hki e.symm)] at h
        exact he.inj j k cj ck hj hk h
    owns := fun j o hj => by
      obtain ⟨vs', h1, h2, h3, h4⟩ := he.owns j o hj
      refine ⟨vs', h1, h2, h3, fun b' hb' => ⟨(h4 b' hb').1, fun k ck hk => ?_⟩⟩
      rw [get_cons] at hk
      rw [e]
      by_cases hki : i = k
      · rw [if_pos hki.symm]
        exact fun h => how j o hj (by have hb2 : (g.go j).ownBlock = some b' := hb'; rw [hb2, h])
      · rw [if_neg hki] at hk
        rw [if_neg (fun e => hki e.symm)]
        exact (h4 b' hb').2 k ck hk
    apart := he.apart }
theorem ACells.mono {m' : Mm} (hm : ∀ b o v, m b o = some v → m' b o = some v) {ys : List A} {us : List Value} (h : ACells m g ys us) : ACells m' g ys us := ⟨h.1, fun j y u h1 h2 => ⟨(h.2 j y u h1 h2).1.mono hm, (h.2 j y u h1 h2).2⟩⟩
theorem ACells.addB {i b : Nat} (hi : g.lb i = false) {ys : List A} {us : List Value} (h : ACells m g ys us) : ACells m (g.addB i b) ys us := ⟨h.1, fun j y u h1 h2 => ⟨(h.2 j y u h1 h2).1.addB hi, (h.2 j y u h1 h2).2⟩⟩
end

/-- a box to be made and written: its slot, its type, the value's slot, its zero, what is written -/
structure Bx where
  d : Nat
  ty : TypeId
  s : Nat
  y : A
def zeroOf (P : Program) (t : TypeId) : Value := ((P.info? t).bind (·.zero)).getD undef
theorem zeroOf_of {P : Program} {t n : Nat} (h : ∃ pl zs, strI P t = some (pl, zs) ∧ zs.length = n) : (P.info? t).bind (·.zero) = some (zeroOf P t) ∧ (zeroOf P t).cells.size = n := by
  obtain ⟨pl, zs, h1, h2⟩ := h
  obtain ⟨it, z, h3, h4, h5, _⟩ := strI_zero h1
  have e : (P.info? t).bind (·.zero) = some z := by rw [h3]; exact h4
  unfold zeroOf
  rw [e]
  exact ⟨rfl, by have : z.cells.toList.length = zs.length := by rw [h5]
                 simpa [h2] using this⟩
def lateB (ops : Array Oper) (n M : Nat) : Bool :=
  (ops.size == n + 4) && ((List.range ops.size).all fun i => ((deps ops i).all fun j => decide (j < i)) &&
    (match dstOf ops i with | some d => decide (writer ops d = some i) && decide (d < M) | none => true))
def lateS (ops : Array Oper) (n q s : Nat) : Bool := (deps ops (n + 2 + q)).contains (n + q) && (match writer ops s with | none => true | some j => decide (j < n) && (deps ops (n + 2 + q)).contains j)
def depsL (ops : Array Oper) (n : Nat) : Bool := (List.range n).all fun i => match ops[i]? with
  | none => false
  | some o => ((slotsOf o).all fun s => match writer ops s with | none => true | some j => decide (j < i) && (deps ops i).contains j) &&
    (match o.guard with | none => true | some (j, _) => decide (j < i) && (deps ops i).contains j)
/-- how a box's operations stand -/
structure BxOk (P : Program) (bx : List (Nat × List A)) (ops : Array Oper) (n q : Nat) (tm : List (Nat × A)) (b : Bx) : Prop where
  al : ∃ o, ops[n + q]? = some o ∧ o.op = .alloc b.ty ∧ o.guard = none ∧ o.dst = some b.d
  st : ∃ o, ops[n + 2 + q]? = some o ∧ o.op = .store b.ty (.tmp b.d) (.tmp b.s) ∧ o.guard = none ∧ o.dst = none
  sl : lateS ops n q b.s = true
  zs : ∃ pl zs, strI P b.ty = some (pl, zs) ∧ zs.length = b.y.cells.length
  free : get bx b.d = none
  y : get tm b.s = some b.y
  yk : b.y.okB = true
  n : ∃ ag, tyI P b.ty = some (ag, b.y.cells.length)
inductive LateR (P : Program) (N : Nat) (bx : List (Nat × List A)) (ow : List (Nat × Own)) (ops : Array Oper) (Q : Exit → St → Prop) (n : Nat) (tm : List (Nat × A)) : Prop
  | mk (b0 b1 : Bx) (h0 : BxOk P bx ops n 0 tm b0) (h1 : BxOk P bx ops n 1 tm b1) (hne : Nat.beq b0.d b1.d = false) (h : Q .normal ⟨(b1.d, .bp b1.d 0) :: (b0.d, .bp b0.d 0) :: tm, (b1.d, b1.y.cells) :: (b0.d, b0.y.cells) :: bx, ow⟩) : LateR P N bx ow ops Q n tm
structure SLate (P : Program) (N : Nat) (bx : List (Nat × List A)) (ow : List (Nat × Own)) (ops : Array Oper) (Q : Exit → St → Prop) (n : Nat) (l : List Oper) (tm : List (Nat × A)) : Prop where
  go : ∃ tm', PRun P bx ow ops l tm tm' ∧ LateR P N bx ow ops Q n tm'
section
variable {P : Program} {N : Nat} {Q : Exit → St → Prop} {ops : Array Oper} {rest : List Oper} {o : Oper} {tm : List (Nat × A)} {bx : List (Nat × List A)} {ow : List (Nat × Own)} {n : Nat}
theorem slate_nil (h : LateR P N bx ow ops Q n tm) : SLate P N bx ow ops Q n [] tm := ⟨⟨tm, .nil tm, h⟩⟩
theorem slate_pure {d : Nat} {r : A} (hg : GuardIs ops tm o true) (hd : o.dst = some d) (hp : PureOp P bx ow o (evA tm) r) (h : SLate P N bx ow ops Q n rest ((d, r) :: tm)) : SLate P N bx ow ops Q n (o :: rest) tm := by
  obtain ⟨tm', h1, h2⟩ := h; exact ⟨⟨tm', .on hg hd hp h1, h2⟩⟩
end

/-- what holds while the region runs -/
structure LateI (P : Program) (C : Ctx) (ops : Array Oper) (n : Nat) (val : Nat → A) (B : Nat → Bx) (a0 : Act) (w : World) (m : Mm) (g : Gh) (vals : Nat → Option Value) (w' : World) (m' : Mm) : Prop where
  lo : Lo w w'
  ext : Ext m m' w.heap.size
  sub : Sub m' w'
  pure : ∀ i v, i < n → vals i = some v → AR m' g (val i) v
  box : ∀ q v, q < 2 → vals (n + q) = some v → ∃ (b : Nat) (vs : Array Value), v = .pointer (some ⟨b, 0, none⟩) ∧ w.heap.size ≤ b ∧ w'.heap[b]? = some (.cells vs (B q).ty (0, 0)) ∧ (∀ o, m' b o = none) ∧ (vals (n + 2 + q) = none → vs = (zeroOf P (B q).ty).cells) ∧ (vals (n + 2 + q) ≠ none → ACells m' g (B q).y.cells vs.toList)
  apart : ∀ v, vals n = some v → vals (n + 1) ≠ some v
theorem setRow_lo {w w' : World} {b : Nat} {vs : Array Value} (h : Lo w w') (hb : w.heap.size ≤ b) : Lo w (w'.setRow b vs) := h.grown (EnvG.setB.grown_setRow' w' b vs) (fun k hk => by injection hk with hk; subst hk; exact hb)
theorem late_store {P : Program} {o : Oper} {a : Act} {w : World} {ty b n : Nat} {vs us : Array Value} {ag : Bool} {sd ss : Tmp} (ho : o.op = .store ty (.tmp sd) (.tmp ss)) (hd : a.eval (.tmp sd) = .pointer (some ⟨b, 0, none⟩)) (hh : w.heap[b]? = some (.cells vs ty (0, 0)))
    (hT : tyI P ty = some (ag, n)) (hu : (a.eval (.tmp ss)).cells = us) (hn : us.size = n) (hvs : vs.size = n) (hone : ∀ v ∈ us.toList, v.oneCell' = true) : (execOp a.eval o).run P w = .ok .skip (w.setRow b us) := by
  obtain ⟨d', i', hu', hi', _, hsz⟩ := tyI_spec hT
  have hst := run_storeCells_at P b 0 ty us.toList 0 vs w hh (by simp; omega) hone
  have e : (vs.toList.take 0 ++ us.toList ++ vs.toList.drop (0 + us.toList.length)).toArray = us := by
    rw [List.drop_eq_nil_of_le (by simp; omega)]; simp
  rw [Nat.add_zero, e] at hst
  have hsv : (storeVar ty ⟨b, 0, none⟩ (a.eval (.tmp ss))).run P w = .ok () (w.setRow b us) := by
    have hsz' : (a.eval (.tmp ss)).cells.size = i'.size := by rw [hsz, hu]; exact hn
    generalize a.eval (.tmp ss) = u at *
    simp [storeVar, sizeOf, typeInfo, hi', hsz']
    rw [hu]
    simpa [hu, hsz'] using hst
  simp only [execOp, ho, hd, Instr.storeAt, Instr.sureAddr, Sem.run_bind, Sem.run_pure, Result.andThen_ok, hsv]
theorem late_alloc {P : Program} {o : Oper} {a : Act} {w : World} {ty : Nat} {z : Value} (ho : o.op = .alloc ty) (hz : (P.info? ty).bind (·.zero) = some z) : (execOp a.eval o).run P w = .ok (.value (.pointer (some ⟨w.heap.size, 0, none⟩))) (w.alloc (.cells z.cells ty)) := by
  cases hq : P.info? ty with
  | none => rw [hq] at hz; cases hz
  | some i => rw [hq] at hz; simp at hz; simp [execOp, ho, Instr.alloc, zeroValue, typeInfo, hq, hz, newVar, newRow]
set_option maxHeartbeats 2000000 in
/-- a region that draws its order, with two boxes that are made and written at its end, in any order -/
theorem swp_late {P : Program} {N : Nat} {Q : Exit → St → Prop} {id : Nat} {l : List Oper} {tm : List (Nat × A)} {bx : List (Nat × List A)} {ow : List (Nat × Own)} (n : Nat) (hm : P.follows .mixedOrders = true) (hB : lateB l.toArray n N = true) (hD : depsL l.toArray n = true)
    (h : SLate P N bx ow l.toArray Q n (l.take n) tm) : SWp P N (.region id l.toArray true) Q ⟨tm, bx, ow⟩ := by
  obtain ⟨tm', hrun, ⟨b0, b1, k0, k1, hne, hQ⟩⟩ := h
  obtain ⟨val, tms, ht0, htn, hstep⟩ := prun_at hrun
  generalize hops' : l.toArray = ops at *
  have hlsz : l.length = ops.size := by rw [← hops']; simp
  unfold lateB at hB
  simp only [Bool.and_eq_true, beq_iff_eq] at hB
  obtain ⟨hsize, hB⟩ := hB
  rw [List.all_eq_true] at hB
  have hlen : (l.take n).length = n := by simp; omega
  rw [hlen] at htn
  have hdl : ∀ i, i < ops.size → ∀ j ∈ deps ops i, j < i := fun i hi j hj => by
    have := hB i (by simpa using hi)
    simp only [Bool.and_eq_true] at this
    simpa using (List.all_eq_true.1 this.1) j hj
  have hwr : ∀ i d, i < ops.size → dstOf ops i = some d → writer ops d = some i ∧ d < N := fun i d hi hd => by
    have := hB i (by simpa using hi)
    simp only [Bool.and_eq_true] at this
    have h2 := this.2
    rw [hd] at h2
    simpa only [Bool.and_eq_true, decide_eq_true_eq] using h2
  have hops : ∀ i, i < n → ∃ o, ops[i]? = some o ∧ (l.take n)[i]? = some o := by
    intro i hi
    refine ⟨l[i]'(by omega), ?_, ?_⟩
    · have h0 : l.toArray[i]? = some (l[i]'(by omega)) := by simp [List.getElem?_eq_getElem (show i < l.length by omega)]
      rwa [hops'] at h0
    · rw [List.getElem?_take_of_lt hi]; exact List.getElem?_eq_getElem (show i < l.length by omega)
  have hdst : ∀ i, i < n → ∃ d, dstOf ops i = some d ∧ tms (i + 1) = (d, val i) :: tms i := by
    intro i hi
    obtain ⟨o, h1, h2⟩ := hops i hi
    obtain ⟨d, h3, h4, _⟩ := hstep i o h2
    exact ⟨d, by unfold dstOf; rw [h1]; exact h3, h4⟩
  obtain ⟨B, hB0, hB1⟩ : ∃ B : Nat → Bx, B 0 = b0 ∧ B 1 = b1 := ⟨fun q => if q = 0 then b0 else b1, rfl, rfl⟩
  have kB : ∀ q, q < 2 → BxOk P bx ops n q tm' (B q) := fun q hq => by
    match q, hq with
    | 0, _ => rw [hB0]; exact k0
    | 1, _ => rw [hB1]; exact k1
  have hal : ∀ q, q < 2 → dstOf ops (n + q) = some (B q).d := fun q hq => by
    obtain ⟨o, h1, _, _, h4⟩ := (kB q hq).al
    unfold dstOf; rw [h1]; exact h4
  refine .mk fun C a w ⟨m, g, hr⟩ => ?_
  have hfn := frame_none ops a
  have hev : ∀ {vals : Nat → Option Value} {i d v}, i < ops.size → dstOf ops i = some d → vals i = some v → (frame ops a vals).eval (.tmp d) = v := fun {vals i d v} hi hd hv => by
    obtain ⟨h1, h2⟩ := hwr i d hi hd
    exact frame_eval h1 hv (by rw [hr.size]; exact h2)
  -- a slot of the operations ahead, by what is done
  have hslot : ∀ (vals : Nat → Option Value) (w' : World) (m' : Mm), LateI P C ops n val B a w m g vals w' m' → ∀ i, i ≤ n → ∀ s, (match writer ops s with | none => true | some j => (decide (j < i) && (vals j).isSome)) = true → ∀ y, get (tms i) s = some y → AR m' g y ((frame ops a vals).eval (.tmp s)) := by
    intro vals w' m' hI i hi s hs y hy
    rcases tms_get hdst i hi s y hy with ⟨j, hj1, hj2, rfl⟩ | ⟨hg0, hnone⟩
    · have hw := (hwr j s (by omega) hj2).1
      rw [hw] at hs
      simp only [Bool.and_eq_true, decide_eq_true_eq] at hs
      obtain ⟨v, hv⟩ := Option.isSome_iff_exists.1 hs.2
      rw [hev (by omega) hj2 hv]
      exact hI.pure j v (by omega) hv
    · rw [ht0] at hg0
      cases hw : writer ops s with
      | none => rw [frame_old hw]; exact (hr.tmps s y hg0).mono hI.ext.1
      | some j =>
        rw [hw] at hs
        simp only [Bool.and_eq_true, decide_eq_true_eq] at hs
        exact absurd (writer_spec hw) (hnone j hs.1)
  have hput : ∀ (vals : Nat → Option Value) (i : Nat) (o : Oper) (v : Value), ops[i]? = some o → (frame ops a vals).put o.dst v = frame ops a (setV vals i v) := by
    intro vals i o v ho
    have hi : i < ops.size := by
      rcases Nat.lt_or_ge i ops.size with h | h
      · exact h
      · rw [Array.getElem?_eq_none h] at ho; cases ho
    cases hd : o.dst with
    | some d => exact frame_put (hwr i d hi (by unfold dstOf; rw [ho]; exact hd)).1 v
    | none =>
      refine frame_put_none (fun s hs => ?_) v v
      have := writer_spec hs
      rw [ho] at this
      simp only [Option.bind_some, hd] at this
      cases this
  refine wp_region_any hm (wpAny_inv (fun listed a' w' => listed.size = ops.size ∧ Closed ops listed ∧ ∃ vals m', a' = frame ops a vals ∧ (∀ i, isOn listed i = (vals i).isSome) ∧ LateI P C ops n val B a w m g vals w' m') ?_ ?_ _ _ _ _ ⟨by simp, ?_, fun _ => none, m, hfn.symm, ?_, ⟨(Lo.refl w).drew, Ext.refl _ _, fun b o v hv => hr.env.sub b o v hv, fun i v _ h => (by cases h), fun q v _ h => (by cases h), fun v h => (by cases h)⟩⟩ (by simp) (by simp [List.countP_replicate]))
  · rintro listed a' w' i ⟨hsz, hcl, vals, m', rfl, hon, hI⟩ _ hrd
    obtain ⟨hlt, hoff, hdeps⟩ := ready_spec hrd
    have hcl' : Closed ops (listed.setIfInBounds i true) := by
      intro x y hx hy
      rw [isOn_set (by omega)] at hx ⊢
      by_cases hxi : x = i
      · subst hxi; rw [hdeps y hy]; simp
      · simp [hxi] at hx
        rw [hcl x y hx hy]; simp
    have hon' : ∀ v x, isOn (listed.setIfInBounds i true) x = (setV vals i v x).isSome := by
      intro v x
      rw [isOn_set (by omega)]
      by_cases hx : x = i
      · subst hx; simp [setV]
      · simp [setV, hx, hon x]
    have hvi : vals i = none := by rw [hon i] at hoff; simpa using hoff
    have hfin : ∀ v w'' m'', LateI P C ops n val B a w m g (setV vals i v) w'' m'' → (listed.setIfInBounds i true).size = ops.size ∧ Closed ops (listed.setIfInBounds i true) ∧ ∃ vals' m', frame ops a (setV vals i v) = frame ops a vals' ∧ (∀ x, isOn (listed.setIfInBounds i true) x = (vals' x).isSome) ∧ LateI P C ops n val B a w m g vals' w'' m' :=
      fun v w'' m'' h => ⟨by simpa using hsz, hcl', _, m'', rfl, hon' v, h⟩
    obtain ⟨o, ho⟩ : ∃ o, ops[i]? = some o := ⟨_, Array.getElem?_eq_getElem hlt⟩
    unfold wpOp
    rw [ho]
    simp only
    -- a store's value is there only where its box is
    have hst0 : ∀ q, q < 2 → vals (n + 2 + q) ≠ none → vals (n + q) ≠ none := by
      intro q hq h
      have h1 := (kB q hq).sl
      unfold lateS at h1
      simp only [Bool.and_eq_true] at h1
      have h2 := hcl (n + 2 + q) (n + q) (by rw [hon]; exact Option.isSome_iff_ne_none.2 h) (by simpa using h1.1)
      rw [hon] at h2
      exact Option.isSome_iff_ne_none.1 h2
    rcases Nat.lt_or_ge i n with hin | hin
    · -- an operation ahead
      obtain ⟨o', h1, h2⟩ := hops i hin
      rw [ho] at h1; injection h1 with h1; subst h1
      have hD' := (List.all_eq_true.1 hD) i (by simpa using hin)
      rw [ho] at hD'
      simp only [Bool.and_eq_true] at hD'
      have hdv : ∀ j, (deps ops i).contains j = true → (vals j).isSome = true := fun j hj => by rw [← hon j]; exact hdeps j (by simpa using hj)
      have hs1 : ∀ s, (match writer ops s with | none => true | some j => decide (j < i) && (deps ops i).contains j) = true → ∀ y, get (tms i) s = some y → AR m' g y ((frame ops a vals).eval (.tmp s)) := by
        intro s hs y hy
        refine hslot vals w' m' hI i (by omega) s ?_ y hy
        cases hw : writer ops s with
        | none => rfl
        | some j =>
          rw [hw] at hs
          simp only [Bool.and_eq_true] at hs ⊢
          exact ⟨hs.1, hdv j hs.2⟩
      have hgd : ∀ j want e, o.guard = some (j, want) → dstOf ops j = some e → ∀ y, get (tms i) e = some y → AR m' g y ((frame ops a vals).eval (.tmp e)) := by
        intro j want e hg he y hy
        have h3 := hD'.2
        rw [hg] at h3
        refine hs1 e ?_ y hy
        have hji : j < i := by simp only [Bool.and_eq_true, decide_eq_true_eq] at h3; exact h3.1
        rw [(hwr j e (by omega) he).1]
        exact h3
      -- what is done then holds
      have hnext : ∀ v w'' m'', Lo w' w'' → Ext m' m'' w'.heap.size → Sub m'' w'' → AR m'' g (val i) v → LateI P C ops n val B a w m g (setV vals i v) w'' m'' := by
        intro v w'' m'' hl he hs hv
        refine ⟨hI.lo.trans hl, hI.ext.trans he hI.lo.size, hs, fun x u hx hu => ?_, fun q u hq hu => ?_, fun u hu hu' => ?_⟩
        · by_cases hxi : x = i
          · subst hxi; rw [setV_same] at hu; injection hu with hu; subst hu; exact hv
          · rw [setV_other _ hxi] at hu; exact (hI.pure x u hx hu).mono he.1
        · rw [setV_other _ (by omega)] at hu
          obtain ⟨b, vs, h5, h6, h7, h8, h9, h10⟩ := hI.box q u hq hu
          refine ⟨b, vs, h5, h6, hl.block h7, fun o => by rw [he.2 b o (block_lt h7)]; exact h8 o, fun h => h9 ?_, fun h => (h10 ?_).mono he.1⟩
          · rwa [setV_other _ (by omega)] at h
          · rwa [setV_other _ (by omega)] at h
        · rw [setV_other _ (by omega)] at hu hu'
          exact hI.apart u hu hu'
      obtain ⟨d, hd, htm, hcase⟩ := hstep i o h2
      rcases hcase with ⟨hg, hp⟩ | ⟨hg, hv⟩
      · rw [if_pos (hg.wanted hgd)]
        refine .inl (Oper.wp_mono ?_ (hp.go C m' g w' (frame ops a vals) _ (hr.env.step hI.lo hI.ext hI.sub) ?_))
        · rintro a2 w2 ⟨v, m2, rfl, hl2, he2, hs2, hv2⟩
          rw [hput vals i o v ho]
          exact hfin v w2 m2 (hnext v w2 m2 hl2 he2 hs2 hv2)
        · intro x hx y hy
          cases x with
          | tmp s => exact hs1 s ((List.all_eq_true.1 hD'.1) s (mem_slots hx)) y hy
          | const v => injection hy with hy; subst hy; exact .v v
          | func f => injection hy with hy; subst hy; exact .v _
          | global i => cases hy
      · rw [if_neg (by rw [hg.wanted hgd]; simp)]
        rw [hput vals i o _ ho]
        exact hfin _ w' m' (hnext _ w' m' (Lo.refl _) (Ext.refl _ _) hI.sub (by rw [hv]; exact .v _))
    · obtain ⟨q, hq, hiq⟩ : ∃ q, q < 2 ∧ (i = n + q ∨ i = n + 2 + q) := by
        rcases Nat.lt_or_ge i (n + 2) with h | h
        · exact ⟨i - n, by omega, .inl (by omega)⟩
        · exact ⟨i - (n + 2), by omega, .inr (by omega)⟩
      have hk := kB q hq
      rcases hiq with rfl | rfl
      · -- a box is made
        obtain ⟨o2, h1, h2, h3, h4⟩ := hk.al
        rw [ho] at h1; injection h1 with h1; subst h1
        rw [if_pos (wanted_free h3)]
        refine .inl (wp_of_run (late_alloc h2 (zeroOf_of hk.zs).1) ?_)
        rw [hput vals _ o _ ho]
        have hnost : vals (n + 2 + q) = none := by
          cases h : vals (n + 2 + q) with
          | none => rfl
          | some v => exact absurd hvi (hst0 q hq (by rw [h]; simp))
        have hlo2 : Lo w' (w'.alloc (.cells (zeroOf P (B q).ty).cells (B q).ty)) := (Lo.refl w').alloc _
        refine hfin _ _ m' ⟨hI.lo.trans hlo2, hI.ext, hI.sub.lo hlo2, fun x u hx hu => ?_, fun q2 u hq2 hu => ?_, fun u hu hu' => ?_⟩
        · rw [setV_other _ (by omega)] at hu; exact hI.pure x u hx hu
        · by_cases hqq : q2 = q
          · subst hqq
            rw [setV_same] at hu; injection hu with hu; subst hu
            refine ⟨w'.heap.size, (zeroOf P (B q2).ty).cells, rfl, hI.lo.size, heap_alloc_new _ _, fun o => alloc_new_cells hI.sub (Nat.le_refl _), fun _ => rfl, fun h => absurd ?_ h⟩
            rw [setV_other _ (by omega)]; exact hnost
          · rw [setV_other _ (by omega)] at hu
            obtain ⟨b, vs, h5, h6, h7, h8, h9, h10⟩ := hI.box q2 u hq2 hu
            refine ⟨b, vs, h5, h6, hlo2.block h7, h8, fun h => h9 ?_, fun h => h10 ?_⟩
            · rwa [setV_other _ (by omega)] at h
            · rwa [setV_other _ (by omega)] at h
        · -- unlike blocks
          have hold : ∀ q2 u, q2 < 2 → vals (n + q2) = some u → u ≠ .pointer (some ⟨w'.heap.size, 0, none⟩) := by
            intro q2 u hq2 hu e
            obtain ⟨b, vs, h5, h6, h7, _⟩ := hI.box q2 u hq2 hu
            rw [h5] at e; injection e with e; injection e with e; injection e with e
            have := block_lt h7; omega
          rcases (show q = 0 ∨ q = 1 by omega) with hq0 | hq0
          · have e : n + q = n := by omega
            rw [e] at hu hu'
            rw [setV_same] at hu; injection hu with hu
            rw [setV_other _ (by omega)] at hu'
            exact hold 1 u (by omega) hu' hu.symm
          · have e : n + q = n + 1 := by omega
            rw [e] at hu hu'
            rw [setV_same] at hu'; injection hu' with hu'
            rw [setV_other _ (by omega)] at hu
            exact hold 0 u (by omega) hu hu'.symm
      · -- a box is written
        obtain ⟨o2, h1, h2, h3, h4⟩ := hk.st
        rw [ho] at h1; injection h1 with h1; subst h1
        rw [if_pos (wanted_free h3)]
        have hsl := hk.sl
        unfold lateS at hsl
        simp only [Bool.and_eq_true] at hsl
        have hal1 := hdeps (n + q) (by simpa using hsl.1)
        rw [hon] at hal1
        obtain ⟨pv, hpv⟩ := Option.isSome_iff_exists.1 hal1
        obtain ⟨b, vs, rfl, h6, h7, h8, h9, _⟩ := hI.box q _ hq hpv
        have hvs := h9 hvi
        have hdv := hev (by omega) (hal q hq) hpv
        have hsv : AR m' g (B q).y ((frame ops a vals).eval (.tmp (B q).s)) := by
          refine hslot vals w' m' hI n (Nat.le_refl _) (B q).s ?_ _ (by rw [htn]; exact hk.y)
          cases hw : writer ops (B q).s with
          | none => rfl
          | some j =>
            have h10 := hsl.2
            rw [hw] at h10
            simp only [Bool.and_eq_true] at h10 ⊢
            refine ⟨h10.1, ?_⟩
            rw [← hon j]; exact hdeps j (by simpa using h10.2)
        have hca := acells_ok hsv hk.yk
        obtain ⟨ag, hT⟩ := hk.n
        have hrunS := late_store (P := P) h2 hdv h7 hT rfl (by simpa using hca.1) (by rw [hvs]; exact (zeroOf_of hk.zs).2) hca.one
        left
        unfold Oper.wp
        rw [hrunS, Oper.upon_skip]
        rw [hput vals _ o _ ho]
        have hother : ∀ k, k ≠ b → (w'.setRow b ((frame ops a vals).eval (.tmp (B q).s)).cells).heap[k]? = w'.heap[k]? := fun k hk => setRow_other w' b k _ hk
        refine hfin _ _ m' ⟨setRow_lo hI.lo h6, hI.ext, fun b' o' v' hv' => ?_, fun x u hx hu => ?_, fun q2 u hq2 hu => ?_, fun u hu hu' => ?_⟩
        · have hb : b' ≠ b := fun e => by rw [e, h8 o'] at hv'; cases hv'
          rw [World.cell?_of_block (a := ⟨b', o', none⟩) (hother b' hb)]; exact hI.sub b' o' v' hv'
        · rw [setV_other _ (by omega)] at hu; exact hI.pure x u hx hu
        · rw [setV_other _ (by omega)] at hu
          by_cases hqq : q2 = q
          · subst hqq
            rw [hpv] at hu; injection hu with hu; subst hu
            refine ⟨b, _, rfl, h6, setRow_heap w' b vs _ _ (0, 0) h7, h8, fun h => ?_, fun _ => hca⟩
            rw [setV_same] at h; cases h
          · obtain ⟨b2, vs2, h11, h12, h13, h14, h15, h16⟩ := hI.box q2 u hq2 hu
            have hb2 : b2 ≠ b := by
              intro e
              rw [h11, e] at hu
              rcases (show (n + q = n ∧ n + q2 = n + 1) ∨ (n + q2 = n ∧ n + q = n + 1) by omega) with ⟨e1, e2⟩ | ⟨e1, e2⟩
              · rw [e1] at hpv; rw [e2] at hu; exact hI.apart _ hpv hu
              · rw [e2] at hpv; rw [e1] at hu; exact hI.apart _ hu hpv
            refine ⟨b2, vs2, h11, h12, by rw [hother b2 hb2]; exact h13, h14, fun h => h15 ?_, fun h => h16 ?_⟩
            · rwa [setV_other _ (by omega)] at h
            · rwa [setV_other _ (by omega)] at h
        · rw [setV_other _ (by omega)] at hu hu'
          exact hI.apart u hu hu'
  · rintro listed a' w' ⟨hsz, hcl, vals, m', rfl, hon, hI⟩ hrd
    have hall : ∀ k, ∀ i, i < k → i < ops.size → isOn listed i = true := by
      intro k
      induction k with
      | zero => intro i hi; omega
      | succ k ih =>
        intro i hi hs
        rcases Nat.lt_or_ge i k with h | h
        · exact ih i h hs
        · have hik : i = k := by omega
          subst hik
          rcases Bool.eq_false_or_eq_true (isOn listed i) with h1 | h1
          · exact h1
          · exfalso
            have hmem : i ∈ Region.ready .any ops listed := by
              unfold Region.ready
              rw [List.mem_filter, List.mem_range]
              refine ⟨hs, ?_⟩
              simp only [Bool.and_eq_true, Bool.not_eq_true']
              constructor
              · unfold isOn at h1
                rw [Array.getD_eq_getD_getElem?, Array.getElem?_eq_getElem (by omega)] at h1 ⊢
                simpa using h1
              · rw [Array.getElem?_eq_getElem hs]
                simp only [Option.map_some, Option.getD_some]
                rw [Array.all_eq_true_iff_forall_mem]
                intro e he
                rcases Bool.eq_false_or_eq_true (Region.binds .any e) with hb | hb
                · have hj : e.on ∈ deps ops i := by
                    unfold deps
                    rw [Array.getElem?_eq_getElem hs]
                    simp only [Option.map_some, Option.getD_some, List.mem_map, List.mem_filter]
                    exact ⟨e, ⟨by simpa using he, hb⟩, rfl⟩
                  have := ih e.on (hdl i hs _ hj) (by have := hdl i hs _ hj; omega)
                  unfold isOn at this
                  simp [this]
                · simp [hb]
            rw [hrd] at hmem; cases hmem
    have hvs : ∀ i, i < ops.size → (vals i).isSome = true := fun i hi => by rw [← hon i]; exact hall (i + 1) i (by omega) hi
    have hbx : ∀ q, q < 2 → ∃ (b : Nat) (vs : Array Value), vals (n + q) = some (.pointer (some ⟨b, 0, none⟩)) ∧ w.heap.size ≤ b ∧ w'.heap[b]? = some (.cells vs (B q).ty (0, 0)) ∧ (∀ o, m' b o = none) ∧ ACells m' g (B q).y.cells vs.toList := by
      intro q hq
      obtain ⟨v, hv⟩ := Option.isSome_iff_exists.1 (hvs (n + q) (by omega))
      obtain ⟨b, vs, rfl, h2, h3, h4, _, h5⟩ := hI.box q v hq hv
      exact ⟨b, vs, hv, h2, h3, h4, h5 (Option.isSome_iff_ne_none.1 (hvs (n + 2 + q) (by omega)))⟩
    obtain ⟨p0, vs0, u0, r0, s0, t0, c0⟩ := hbx 0 (by omega)
    obtain ⟨p1, vs1, u1, r1, s1, t1, c1⟩ := hbx 1 (by omega)
    rw [hB0] at s0 c0
    rw [hB1] at s1 c1
    have hp : p0 ≠ p1 := fun e => hI.apart _ u0 (by rw [u1, e])
    have henv := hr.env.step hI.lo hI.ext hI.sub
    have hgb : ∀ p, w.heap.size ≤ p → ∀ j cj, get bx j = some cj → g.gb j ≠ p := fun p hp j cj hj e => by
      obtain ⟨vs, ty, h1, _⟩ := hr.env.boxes j cj hj
      have := block_lt h1; omega
    have hgo : ∀ p, w.heap.size ≤ p → ∀ j o, get ow j = some o → (g.go j).ownBlock ≠ some p := fun p hp j o hj e => by
      obtain ⟨vs, h1, _⟩ := hr.env.owns j o hj
      have := (h1.lt p e).2; omega
    have hw0 := hr.env.lo.size
    have e0 := henv.boxAt k0.free s0 c0 (by omega) t0 (hgb p0 r0) (hgo p0 r0)
    have hl0 : g.lb b0.d = false := by rw [henv.lb, k0.free]; rfl
    have hne' : b0.d ≠ b1.d := Nat.ne_of_beq_eq_false hne
    have hfree1 : get ((b0.d, b0.y.cells) :: bx) b1.d = none := by rw [get_cons, if_neg hne']; exact k1.free
    have hl1 : (g.addB b0.d p0).lb b1.d = false := by rw [e0.lb, hfree1]; rfl
    have e1 := e0.boxAt hfree1 s1 (c1.addB hl0) (by omega) t1 (fun j cj hj e => by
      rw [get_cons] at hj
      change (if j = b0.d then p0 else g.gb j) = p1 at e
      by_cases hj0 : b0.d = j
      · rw [if_pos hj0.symm] at e; exact hp e
      · rw [if_neg hj0] at hj
        rw [if_neg (fun e => hj0 e.symm)] at e
        exact hgb p1 r1 j cj hj e) (fun j o hj => hgo p1 r1 j o hj)
    refine ⟨_, ⟨m', _, e1, by simp [frame, hr.size], hr.defers, fun s x hx => ?_⟩, hQ⟩
    have hd0 : (frame ops a vals).eval (.tmp b0.d) = .pointer (some ⟨p0, 0, none⟩) := by
      have := hal 0 (by omega); rw [hB0] at this
      exact hev (by omega) this u0
    have hd1 : (frame ops a vals).eval (.tmp b1.d) = .pointer (some ⟨p1, 0, none⟩) := by
      have := hal 1 (by omega); rw [hB1] at this
      exact hev (by omega) this u1
    rw [get_cons] at hx
    by_cases hs1 : b1.d = s
    · subst hs1
      rw [if_pos rfl] at hx; injection hx with hx; subst hx
      rw [hd1]
      exact ⟨by simp [Gh.addB], by simp [Gh.addB]⟩
    · rw [if_neg hs1, get_cons] at hx
      by_cases hs0 : b0.d = s
      · subst hs0
        rw [if_pos rfl] at hx; injection hx with hx; subst hx
        rw [hd0]
        exact ⟨by simp [Gh.addB], by simp [Gh.addB, hne']⟩
      · rw [if_neg hs0] at hx
        refine AR.addB (AR.addB ?_ hl0) hl1
        refine hslot vals w' m' hI n (Nat.le_refl _) s ?_ x (by rw [htn]; exact hx)
        cases hw : writer ops s with
        | none => rfl
        | some j =>
          have hjs := writer_spec hw
          have hjlt : j < ops.size := by
            rcases Nat.lt_or_ge j ops.size with h | h
            · exact h
            · rw [Array.getElem?_eq_none h] at hjs; cases hjs
          have hjn : j < n := by
            rcases Nat.lt_or_ge j n with h | h
            · exact h
            · exfalso
              have hjd : dstOf ops j = some s := hjs
              rcases (show j = n + 0 ∨ j = n + 1 ∨ j = n + 2 + 0 ∨ j = n + 2 + 1 by omega) with e | e | e | e
              · rw [e, hal 0 (by omega), hB0] at hjd; injection hjd with hjd; exact hs0 hjd
              · rw [e, hal 1 (by omega), hB1] at hjd; injection hjd with hjd; exact hs1 hjd
              · obtain ⟨o, h1, _, _, h4⟩ := k0.st
                unfold dstOf at hjd; rw [e, h1] at hjd; simp [h4] at hjd
              · obtain ⟨o, h1, _, _, h4⟩ := k1.st
                unfold dstOf at hjd; rw [e, h1] at hjd; simp [h4] at hjd
          simp only [Bool.and_eq_true, decide_eq_true_eq]
          exact ⟨hjn, hvs j hjlt⟩
  · intro i j h
    unfold isOn at h
    rw [Array.getD_eq_getD_getElem?] at h
    simp only [Array.getElem?_replicate] at h
    split at h <;> cases h
  · intro i
    unfold isOn
    rw [Array.getD_eq_getD_getElem?]
    simp only [Array.getElem?_replicate]
    split <;> rfl
end Go.Proofs.Ytlcecabfmemfeaa.Sim
