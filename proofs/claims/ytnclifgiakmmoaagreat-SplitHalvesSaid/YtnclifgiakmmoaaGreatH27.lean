/- Merged by bundles.py: SimSq5. -/
import Derived.Test.YtnclifgiakmmoaaGreatH24
import Derived.Test.YtnclifgiakmmoaaGreatH26
import Derived.Test.YtnclifgiakmmoaaGreatH22
/- The document's Seventh, Copy, Half; gatepostlaw12.LongRule. -/
namespace Go.Proofs.YtnclifgiakmmoaaGreat.Pol
set_option linter.unusedVariables false
set_option linter.unusedSimpArgs false
open Go.RowKit Mem Sim Opn WAddr WName WMatch WAuth
def C0 (p : Pl.Policy) (k : Nat) : St := ⟨[(1, .bp 1 0), (2, .bp 2 0), (3, .own 130 ((p.rules.take k).map ruleT).length), (4, .t (.v (.int .i64 (k : Int))))], [(1, pcells p), (2, [.t (.v (.int .u64 0)), .t (.v (.string ⟨#[]⟩)), .t (.v (.int .u64 0)), .t (.v (.int .i64 0)), nil0])], [(130, ⟨27, 3, (p.rules.take k).map ruleT⟩)]⟩
set_option maxRecDepth 100000 in
set_option maxHeartbeats 1000000 in
theorem copy_ (p : Pl.Policy) (hf : FewP p) : PCalls Tryz.prog 7 [.agg (polT p)] (.agg (polT p)) := by
  have hm1 : (p.rules.map ruleT).length = p.rules.length := List.length_map _
  have n1 := hf.n
  refine pcalls_of Tryz.func7 rfl rfl Tryz.ntmps7 rfl ?_
  repeat' (first | (refine rg 0 ?_; refine sbx ?_; refine sal str43 ?_; refine oN ?_) | (refine rg 1 ?_; refine oAs ?_; refine oN ?_) | (refine rg 2 ?_; refine oAs ?_; refine oN ?_) | refine gc ?_ | refine ct ?_ | refine cf ?_ | refine swp_cond rfl (fun hc => ?_) (fun hc => ?_) | refine rq rfl (.cell rfl rfl (tyT rfl) (vc (vc (vc (vc (vc .nil))))) rfl .nil) ?_)
  refine swp_for (C0 p) (fun _ => True) p.rules.length ?_ trivial ?_
  · refine Weak.trans (weak_own0 (i := 130) 27 3 (s := 3) rfl rfl) ?_
    exact (weak_sub (.cons rfl rfl rfl (.cons rfl rfl rfl (.cons rfl rfl rfl (.cons rfl rfl rfl .nil)))) (.cons rfl rfl rfl (.cons rfl rfl rfl .nil)) (.cons rfl rfl .nil))
  intro k hk _
  unfold C0
  by_cases hlt : k < p.rules.length
  · have c1 := copyRule_ p.rules[k] (hf.r _ (List.getElem_mem hlt))
    have hsn := map_take_succ ruleT hlt
    have g1 : (((p.rules.take k).map ruleT).length + 1) * 72 ≤ 140737488355328 := by rw [List.length_map, List.length_take]; omega
    repeat' (first | refine for_next hlt (weak_sub (.cons rfl (by rfl) rfl (.cons rfl (by rfl) rfl (.cons rfl (by first | rfl | (rw [hsn]; try rfl)) rfl (.cons rfl (by rfl) rfl .nil)))) (.cons rfl (by rfl) rfl (.cons rfl (by rfl) rfl .nil)) (.cons rfl (by first | rfl | (rw [hsn]; try rfl)) .nil)) trivial | (refine rg 3 ?_; refine oMv ?_; refine oFb ?_; refine oLb ?_; refine sp (pln rfl (tyS rfl)) ?_; refine oCm ?_; refine oN ?_) | (refine rg 5 ?_; refine oMv ?_; refine oFb ?_; refine oLb ?_; refine oMv ?_; refine sp (pix rfl (tyS rfl)) ?_; (first | refine sp (po_load_bx_agg rfl rfl (tyT rfl) rfl (vc (vc (vc .nil))) rfl) ?_ | refine sp (po_load_agg rfl rfl (tyT rfl) rfl rfl) ?_); refine oC (c1) rfl (ac .nil) ?_; refine sp (po_buildSlice rfl (tyE rfl) (dc (.nil _)) rfl rfl rfl) ?_; refine sap rfl (tyE rfl) ?_; refine oAs ?_; refine oN ?_) | (refine rg 4 ?_; refine oMv ?_; refine sp (xinc rfl) ?_; refine oAs ?_; refine oN ?_) | refine gc ?_ | refine ct ?_)
  · obtain rfl : k = p.rules.length := by omega
    rw [List.take_length]
    repeat' (first | (refine rg 3 ?_; refine oMv ?_; refine oFb ?_; refine oLb ?_; refine sp (pln rfl (tyS rfl)) ?_; refine oCm ?_; refine oN ?_) | (refine rg 6 ?_; refine oMv ?_; refine oFb ?_; refine oS ?_; refine oN ?_) | (refine rg 7 ?_; (refine sp (po_load_bx_agg rfl rfl (tyT rfl) rfl (vc (vc (vc (vc (vc .nil))))) rfl) ?_); refine oS ?_; refine oN ?_) | refine gc ?_ | refine ct ?_ | refine cf ?_ | refine swp_cond rfl (fun hc => ?_) (fun hc => ?_) | refine rq rfl (.cell rfl rfl (tyT rfl) (vc (vc (vc (vc (vc .nil))))) rfl .nil) ?_)
    rfl
set_option maxRecDepth 100000 in
set_option maxHeartbeats 2000000 in
theorem seventhR (r : Pl.Rule) (h : FewR r) : PCalls Tryz.prog 30 [.agg (ruleT r)] (.v (.bool (Pl.seventhP r))) := by
  have hm1 : (r.to_.map targetT).length = r.to_.length := List.length_map _
  have hm2 : (r.when_.map whenT).length = r.when_.length := List.length_map _
  have n1 := h.t
  refine pcalls_of Tryz.func30 rfl rfl Tryz.ntmps30 rfl ?_
  repeat' (first | (refine rg 0 ?_; refine sbx ?_; refine oAs ?_; refine oN ?_) | (refine rg 1 ?_; refine oAs ?_; refine oN ?_) | refine gc ?_ | refine ct ?_ | refine cf ?_ | refine swp_cond rfl (fun hc => ?_) (fun hc => ?_) | refine rq rfl (rt .nil) ?_)
  refine swp_for (fun k => ⟨[(1, .bp 1 0), (3, .t (.v (.int .i64 (k : Int))))], [(1, rcells r)], []⟩) (fun k => ∀ j (h1 : j < r.to_.length), j < k → Pl.looksT r.to_[j] = false) r.to_.length (weak_sub (.cons rfl rfl rfl (.cons rfl rfl rfl .nil)) (.cons rfl rfl rfl .nil) .nil) (fun j _ hj => by omega) ?_
  intro k hk hI
  by_cases hlt : k < r.to_.length
  case pos =>
    obtain ⟨x, hx⟩ : ∃ x, r.to_[k] = x := ⟨_, rfl⟩
    have r1 : (r.to_.map targetT)[k]? = some (targetT x) := by rw [map_at_some hlt, hx]
    have r3 : k < (r.to_.map targetT).length := by rw [List.length_map]; exact hlt
    have g1 : (x.methods.map termT).length = x.methods.length := List.length_map _
    have g2 : (x.paths.map termT).length = x.paths.length := List.length_map _
    have g3 : (x.hosts.map termT).length = x.hosts.length := List.length_map _
    have hyes : Pl.looksT x = true → Pl.seventhP r = true := fun hq => by
      unfold Pl.seventhP
      rw [List.any_eq_true.2 ⟨x, hx ▸ List.getElem_mem hlt, hq⟩]; simp
    by_cases p1 : 0 < (x.methods.map termT).length
    · rw [hyes (decide_eq_true (by omega))]
      repeat' (first | (refine rg 2 ?_; refine oMv ?_; refine oFb ?_; refine oLb ?_; refine sp (pln rfl (tyS rfl)) ?_; refine oCm ?_; refine oN ?_) | (refine rg 4 ?_; refine oFb ?_; refine oLb ?_; refine oMv ?_; refine sp (pix rfl (tyS rfl)) ?_; (first | refine oFb ?_ | refine oFd ?_); (first | refine oLb ?_ | refine oLd ?_); refine sp (pln rfl (tyS rfl)) ?_; refine oCm ?_; refine oMv ?_; (first | refine oFb ?_ | refine oFd ?_ | refine oK ?_) <;> (first | refine oLb ?_ | refine oLd ?_ | refine oK ?_) <;> (first | refine oMv ?_ | refine oK ?_) <;> (first | refine sp (pix rfl (tyS rfl)) ?_ | refine oK ?_) <;> (first | refine oFb ?_ | refine oFd ?_ | refine oK ?_) <;> (first | refine oLb ?_ | refine oLd ?_ | refine oK ?_) <;> (first | refine sp (pln rfl (tyS rfl)) ?_ | refine oK ?_) <;> (first | refine oCm ?_ | refine oK ?_) <;> refine oPt ?_ <;> refine oMv ?_ <;> (first | refine oFb ?_ | refine oFd ?_ | refine oK ?_) <;> (first | refine oLb ?_ | refine oLd ?_ | refine oK ?_) <;> (first | refine oMv ?_ | refine oK ?_) <;> (first | refine sp (pix rfl (tyS rfl)) ?_ | refine oK ?_) <;> (first | refine oFb ?_ | refine oFd ?_ | refine oK ?_) <;> (first | refine oLb ?_ | refine oLd ?_ | refine oK ?_) <;> (first | refine sp (pln rfl (tyS rfl)) ?_ | refine oK ?_) <;> (first | refine oCm ?_ | refine oK ?_) <;> refine oPt ?_ <;> refine oN ?_) | (refine rg 5 ?_; refine oAs ?_; refine oN ?_) | refine gc ?_ | refine ct ?_ | refine cf ?_ | refine swp_cond rfl (fun hc => ?_) (fun hc => ?_) | refine rq rfl (rt .nil) ?_)
      all_goals rfl
    by_cases p2 : 0 < (x.paths.map termT).length
    · rw [hyes (decide_eq_true (by omega))]
      repeat' (first | (refine rg 2 ?_; refine oMv ?_; refine oFb ?_; refine oLb ?_; refine sp (pln rfl (tyS rfl)) ?_; refine oCm ?_; refine oN ?_) | (refine rg 4 ?_; refine oFb ?_; refine oLb ?_; refine oMv ?_; refine sp (pix rfl (tyS rfl)) ?_; (first | refine oFb ?_ | refine oFd ?_); (first | refine oLb ?_ | refine oLd ?_); refine sp (pln rfl (tyS rfl)) ?_; refine oCm ?_; refine oMv ?_; refine oFb ?_ <;> refine oLb ?_ <;> refine oMv ?_ <;> refine sp (pix rfl (tyS rfl)) ?_ <;> (first | refine oFb ?_ | refine oFd ?_) <;> (first | refine oLb ?_ | refine oLd ?_) <;> refine sp (pln rfl (tyS rfl)) ?_ <;> refine oCm ?_ <;> (first | refine oPt ?_ | refine oPf ?_) <;> refine oMv ?_ <;> (first | refine oFb ?_ | refine oFd ?_ | refine oK ?_) <;> (first | refine oLb ?_ | refine oLd ?_ | refine oK ?_) <;> (first | refine oMv ?_ | refine oK ?_) <;> (first | refine sp (pix rfl (tyS rfl)) ?_ | refine oK ?_) <;> (first | refine oFb ?_ | refine oFd ?_ | refine oK ?_) <;> (first | refine oLb ?_ | refine oLd ?_ | refine oK ?_) <;> (first | refine sp (pln rfl (tyS rfl)) ?_ | refine oK ?_) <;> (first | refine oCm ?_ | refine oK ?_) <;> refine oPt ?_ <;> refine oN ?_) | (refine rg 5 ?_; refine oAs ?_; refine oN ?_) | refine gc ?_ | refine ct ?_ | refine cf ?_ | refine swp_cond rfl (fun hc => ?_) (fun hc => ?_) | refine rq rfl (rt .nil) ?_)
      all_goals rfl
    by_cases p3 : 0 < (x.hosts.map termT).length
    · rw [hyes (decide_eq_true (by omega))]
      repeat' (first | (refine rg 2 ?_; refine oMv ?_; refine oFb ?_; refine oLb ?_; refine sp (pln rfl (tyS rfl)) ?_; refine oCm ?_; refine oN ?_) | (refine rg 4 ?_; refine oFb ?_; refine oLb ?_; refine oMv ?_; refine sp (pix rfl (tyS rfl)) ?_; (first | refine oFb ?_ | refine oFd ?_); (first | refine oLb ?_ | refine oLd ?_); refine sp (pln rfl (tyS rfl)) ?_; refine oCm ?_; refine oMv ?_; refine oFb ?_ <;> refine oLb ?_ <;> refine oMv ?_ <;> refine sp (pix rfl (tyS rfl)) ?_ <;> (first | refine oFb ?_ | refine oFd ?_) <;> (first | refine oLb ?_ | refine oLd ?_) <;> refine sp (pln rfl (tyS rfl)) ?_ <;> refine oCm ?_ <;> (first | refine oPt ?_ | refine oPf ?_) <;> refine oMv ?_ <;> refine oFb ?_ <;> refine oLb ?_ <;> refine oMv ?_ <;> refine sp (pix rfl (tyS rfl)) ?_ <;> (first | refine oFb ?_ | refine oFd ?_) <;> (first | refine oLb ?_ | refine oLd ?_) <;> refine sp (pln rfl (tyS rfl)) ?_ <;> refine oCm ?_ <;> (first | refine oPt ?_ | refine oPf ?_) <;> refine oN ?_) | (refine rg 5 ?_; refine oAs ?_; refine oN ?_) | refine gc ?_ | refine ct ?_ | refine cf ?_ | refine swp_cond rfl (fun hc => ?_) (fun hc => ?_) | refine rq rfl (rt .nil) ?_)
      all_goals rfl
    have hno : Pl.looksT x = false := decide_eq_false (by omega)
    have hst : ∀ j (h1 : j < r.to_.length), j < k + 1 → Pl.looksT r.to_[j] = false := fun j h1 hj => by
      by_cases e : j = k
      · subst e; rw [hx]; exact hno
      · exact hI j h1 (by omega)
    repeat' (first | refine for_next hlt (weak_sub (.cons rfl rfl rfl (.cons rfl rfl rfl .nil)) (.cons rfl rfl rfl .nil) .nil) hst | (refine rg 2 ?_; refine oMv ?_; refine oFb ?_; refine oLb ?_; refine sp (pln rfl (tyS rfl)) ?_; refine oCm ?_; refine oN ?_) | (refine rg 4 ?_; refine oFb ?_; refine oLb ?_; refine oMv ?_; refine sp (pix rfl (tyS rfl)) ?_; (first | refine oFb ?_ | refine oFd ?_); (first | refine oLb ?_ | refine oLd ?_); refine sp (pln rfl (tyS rfl)) ?_; refine oCm ?_; refine oMv ?_; refine oFb ?_ <;> refine oLb ?_ <;> refine oMv ?_ <;> refine sp (pix rfl (tyS rfl)) ?_ <;> (first | refine oFb ?_ | refine oFd ?_) <;> (first | refine oLb ?_ | refine oLd ?_) <;> refine sp (pln rfl (tyS rfl)) ?_ <;> refine oCm ?_ <;> (first | refine oPt ?_ | refine oPf ?_) <;> refine oMv ?_ <;> refine oFb ?_ <;> refine oLb ?_ <;> refine oMv ?_ <;> refine sp (pix rfl (tyS rfl)) ?_ <;> (first | refine oFb ?_ | refine oFd ?_) <;> (first | refine oLb ?_ | refine oLd ?_) <;> refine sp (pln rfl (tyS rfl)) ?_ <;> refine oCm ?_ <;> (first | refine oPt ?_ | refine oPf ?_) <;> refine oN ?_) | (refine rg 3 ?_; refine oMv ?_; refine sp (xinc rfl) ?_; refine oAs ?_; refine oN ?_) | refine gc ?_ | refine ct ?_ | refine cf ?_)
  obtain rfl : k = r.to_.length := by omega
  repeat' (first | (refine rg 2 ?_; refine oMv ?_; refine oFb ?_; refine oLb ?_; refine sp (pln rfl (tyS rfl)) ?_; refine oCm ?_; refine oN ?_) | (refine rg 6 ?_; refine oFb ?_; refine oLb ?_; refine sp (pln rfl (tyS rfl)) ?_; refine oCm ?_; refine oAs ?_; refine oN ?_) | refine gc ?_ | refine ct ?_ | refine cf ?_ | refine swp_cond rfl (fun hc => ?_) (fun hc => ?_) | refine rq rfl (rt .nil) ?_)
  refine eq_b ?_
  unfold Pl.seventhP
  have ha : r.to_.any Pl.looksT = false := by
    rw [List.any_eq_false]
    intro x hx
    obtain ⟨j, hj, e⟩ := List.getElem_of_mem hx
    rw [← e, hI j hj hj]; simp
  rw [ha, Bool.or_false, Bool.eq_iff_iff]
  simp only [decide_eq_true_eq, hm2]
  omega
theorem p_longRule (r : Pl.Rule) (hr : okRule r) : PCalls Tryz.prog 5 [.agg (ruleT r)] (.v (.bool (longRule r))) where
  ent := ent_of Tryz.func5 rfl rfl
  run := fun m w vals hm hvl hv _ => by
    obtain ⟨x0, rfl, h0⟩ := args1 hvl hv
    obtain ⟨vs, rfl, hc⟩ := agg_inv h0
    have hrr := rule_fwd hm r vs hr hc
    obtain ⟨c0, c1, c2, rfl⟩ : ∃ c0 c1 c2, vs = [c0, c1, c2] := by obtain ⟨c0, c1, c2, h, _⟩ := hrr; exact ⟨c0, c1, c2, h⟩
    refine (longRule_ r c0 c1 c2 w (Nat.le_refl _) hrr).mono fun e w' ⟨he, hlo⟩ => ?_
    rw [he]
    exact post_ex hm hlo (.v _)
/-- what becomes of one rule -/
def stepR (how deny : Int) (r : Pl.Rule) : List Pl.Rule := if how = 7 then [r] else if (how = 4 ∧ deny ≠ 1) ∨ (how = 1 ∧ deny = 1) then [Pl.four r] else if Pl.seventhP r = true then [] else [r]
theorem stepR_len (how deny : Int) (l : List Pl.Rule) : (l.flatMap (stepR how deny)).length ≤ l.length := by
  induction l with
  | nil => simp
  | cons r l ih =>
    have h1 : (stepR how deny r).length ≤ 1 := by unfold stepR; split <;> (try split) <;> (try split) <;> simp
    rw [List.flatMap_cons, List.length_append, List.length_cons]; omega
theorem flat_succ {α β : Type} (f : α → List β) {l : List α} {k : Nat} (h : k < l.length) : (l.take (k + 1)).flatMap f = (l.take k).flatMap f ++ f l[k] := by
  rw [List.take_succ_eq_append_getElem h, List.flatMap_append]; simp
theorem flat_map {α β : Type} (f : α → β) (l : List α) : l.flatMap (fun x => [f x]) = l.map f := by
  induction l with
  | nil => rfl
  | cons x l ih => rw [List.flatMap_cons, ih]; rfl
theorem flat_filter (l : List Pl.Rule) : l.flatMap (fun r => if Pl.seventhP r = true then [] else [r]) = l.filter Pl.keep4 := by
  induction l with
  | nil => rfl
  | cons r l ih =>
    rw [List.flatMap_cons, ih, List.filter_cons]
    unfold Pl.keep4
    cases Pl.seventhP r <;> simp
def Whats (how : Int) (D K : Nat) : Prop := (how = 4 ∨ how = 7 ∨ how = 1) ∧ ∀ (l : List Pl.Rule) (d : Int), l.flatMap (stepR how d) = if d = 1 then Pl.what D l else Pl.what K l
theorem whats4 : Whats 4 0 1 := ⟨.inl rfl, fun l d => by
  by_cases h : d = 1
  · subst h
    have : stepR 4 1 = fun r => if Pl.seventhP r = true then [] else [r] := by funext r; simp [stepR]
    rw [this, flat_filter]; rfl
  · have : stepR 4 d = fun r => [Pl.four r] := by funext r; simp [stepR, h]
    rw [this, flat_map, if_neg h]; rfl⟩
theorem whats1 : Whats 1 1 0 := ⟨.inr (.inr rfl), fun l d => by
  by_cases h : d = 1
  · subst h
    have : stepR 1 1 = fun r => [Pl.four r] := by funext r; simp [stepR]
    rw [this, flat_map]; rfl
  · have : stepR 1 d = fun r => if Pl.seventhP r = true then [] else [r] := by funext r; simp [stepR, h]
    rw [this, flat_filter, if_neg h]; rfl⟩
theorem whats7 : Whats 7 2 2 := ⟨.inr (.inl rfl), fun l d => by
  have : stepR 7 d = fun r => [r] := by funext r; simp [stepR]
  rw [this, flat_map, List.map_id']
  split <;> rfl⟩
def HO (l : List Pl.Policy) (how : Int) (D K : Nat) (k : Nat) : St := ⟨[(0, .t (.sl 5 (l.map polT))), (1, .t (.v (.int .i64 how))), (4, .bp 4 0), (5, .bp 5 0), (6, .t (.v (.int .i64 (k : Int))))], [(4, [nil0, .t (.v (.int .i64 0))]), (5, [.own 105 (((l.take k).map (Pl.halfP D K)).map polT).length, .t (.v (.int .i64 (alK l 0 k)))])], [(105, ⟨43, 5, ((l.take k).map (Pl.halfP D K)).map polT⟩)]⟩
def HN (l : List Pl.Policy) (how : Int) (D K : Nat) (k : Nat) (p : Pl.Policy) (j : Nat) : St := ⟨[(0, .t (.sl 5 (l.map polT))), (1, .t (.v (.int .i64 how))), (4, .bp 4 0), (5, .bp 5 0), (6, .t (.v (.int .i64 (k : Int)))), (7, .bp 7 0), (8, .t (.v (.int .i64 (j : Int))))], [(4, [nil0, .t (.v (.int .i64 0))]), (5, [.own 105 (((l.take k).map (Pl.halfP D K)).map polT).length, .t (.v (.int .i64 (alK l 0 (k + 1))))]), (7, [.t (.v (.int .u64 p.id)), .t (.v (.string p.ns)), .t (.v (.int .u64 p.service)), .t (.v (.int .i64 p.deny)), .own 107 (((p.rules.take j).flatMap (stepR how p.deny)).map ruleT).length])], [(105, ⟨43, 5, ((l.take k).map (Pl.halfP D K)).map polT⟩), (107, ⟨27, 3, ((p.rules.take j).flatMap (stepR how p.deny)).map ruleT⟩)]⟩
set_option maxRecDepth 100000 in
set_option maxHeartbeats 4000000 in
theorem half_ (l : List Pl.Policy) (hn : l.length ≤ 1000) (hf : ∀ p ∈ l, FewP p) (how : Int) (D K : Nat) (hW : Whats how D K) : PCalls Tryz.prog 12 [.sl 5 (l.map polT), .v (.int .i64 how)] (.agg [.sl 5 ((l.map (Pl.halfP D K)).map polT), .v (.int .i64 (Pl.allowsP l))]) := by
  have hm1 : (l.map polT).length = l.length := List.length_map _
  refine pcalls_of Tryz.func12 rfl rfl Tryz.ntmps12 rfl ?_
  repeat' (first | (refine rg 0 ?_; refine sal str46 ?_; refine oN ?_) | (refine rg 1 ?_; refine sal str46 ?_; refine oN ?_) | (refine rg 2 ?_; refine oAs ?_; refine oN ?_) | refine gc ?_ | refine ct ?_ | refine cf ?_ | refine swp_cond rfl (fun hc => ?_) (fun hc => ?_) | refine rq rfl (.cell rfl rfl (tyT rfl) (vc (vc .nil)) rfl .nil) ?_)
  refine swp_for (HO l how D K) (fun _ => True) l.length ?_ trivial ?_
  · refine Weak.trans (weak_own0_bx (q := 105) 43 5 (i := 5) (j := 0) rfl rfl rfl) ?_
    exact (weak_sub (.cons rfl rfl rfl (.cons rfl rfl rfl (.cons rfl rfl rfl (.cons rfl rfl rfl (.cons rfl rfl rfl .nil))))) (.cons rfl rfl rfl (.cons rfl rfl rfl .nil)) (.cons rfl rfl .nil))
  intro k hk _
  unfold HO
  by_cases hlt : k < l.length
  case neg =>
    obtain rfl : k = l.length := by omega
    rw [List.take_length]
    repeat' (first | (refine rg 3 ?_; refine oMv ?_; refine oMv ?_; refine sp (pln rfl (tyS rfl)) ?_; refine oCm ?_; refine oN ?_) | (refine rg 21 ?_; refine sp (po_load_bx_agg rfl rfl (tyT rfl) rfl (vc (vc .nil)) rfl) ?_; refine oS ?_; refine oN ?_) | refine gc ?_ | refine ct ?_ | refine cf ?_ | refine swp_cond rfl (fun hc => ?_) (fun hc => ?_) | refine rq rfl (.cell rfl rfl (tyT rfl) (vc (vc .nil)) rfl .nil) ?_)
    rw [alK_all]; rfl
  obtain ⟨p, hp⟩ : ∃ p, l[k] = p := ⟨_, rfl⟩
  have hfp : FewP p := hp ▸ hf _ (List.getElem_mem hlt)
  have r1 : (l.map polT)[k]? = some (polT p) := by rw [map_at_some hlt, hp]
  have r3 : k < (l.map polT).length := by rw [List.length_map]; exact hlt
  have hal : updA (alK l 0 k) p = alK l 0 (k + 1) := by rw [← hp]; exact alK_succ hlt
  have hm2 : (p.rules.map ruleT).length = p.rules.length := List.length_map _
  have hn2 := hfp.n
  have hsn3 : ((l.take (k + 1)).map (Pl.halfP D K)).map polT = ((l.take k).map (Pl.halfP D K)).map polT ++ [polT (Pl.halfP D K p)] := by rw [mapmap_take_succ polT (Pl.halfP D K) hlt, hp]
  have hpe : polT (Pl.halfP D K p) = [.v (.int .u64 p.id), .v (.string p.ns), .v (.int .u64 p.service), .v (.int .i64 p.deny), .sl 3 ((p.rules.flatMap (stepR how p.deny)).map ruleT)] := by rw [hW.2]; rfl
  have g5 : ((((l.take k).map (Pl.halfP D K)).map polT).length + 1) * 64 ≤ 140737488355328 := by rw [mmt_len]; have := Nat.min_le_right k l.length; omega
  have g6 : (((l.take k).map (Pl.halfP D K)).map polT).length + 1 ≤ maxLen := by rw [mmt_len]; have := Nat.min_le_right k l.length; unfold maxLen; omega
  by_cases hd : p.deny = 1
  case pos =>
    unfold updA at hal
    rw [if_pos hd] at hal
    have e1 : decide (p.deny = 1) = true := by simp [hd]
    have e2 : (!decide (p.deny = 1)) = false := by simp [hd]
    repeat' (first | (refine rg 3 ?_; refine oMv ?_; refine oMv ?_; refine sp (pln rfl (tyS rfl)) ?_; refine oCm ?_; refine oN ?_) | (refine rg 5 ?_; refine oMv ?_; refine oMv ?_; refine sp (pix rfl (tyS rfl)) ?_; (first | refine sp (po_load_bx_agg rfl rfl (tyT rfl) rfl (vc (vc (vc (vc (vc .nil))))) rfl) ?_ | refine sp (po_load_agg rfl rfl (tyT rfl) rfl rfl) ?_); refine sal str43 ?_; refine oS ?_; refine oN ?_) | (refine rg 6 ?_; refine oFb ?_; refine oS ?_; refine oN ?_) | (refine rg 7 ?_; refine oFb ?_; refine oLb ?_; refine oCm ?_; refine oN ?_) | (refine rg 9 ?_; refine oAs ?_; refine oN ?_) | refine gc ?_ | refine ct ?_ | refine cf ?_ | refine swp_cond rfl (fun hc => ?_) (fun hc => ?_) | refine rq rfl (.cell rfl rfl (tyT rfl) (vc (vc .nil)) rfl .nil) ?_)
    refine swp_for (HN l how D K k p) (fun _ => True) p.rules.length ?_ trivial ?_
    · refine Weak.trans (weak_own0_bx (q := 107) 27 3 (i := 7) (j := 4) rfl rfl rfl) ?_
      exact (weak_sub (.cons rfl (by first | rfl | ((rw [hal]; try rfl))) rfl (.cons rfl (by first | rfl | ((rw [hal]; try rfl))) rfl (.cons rfl (by first | rfl | ((rw [hal]; try rfl))) rfl (.cons rfl (by first | rfl | ((rw [hal]; try rfl))) rfl (.cons rfl (by first | rfl | ((rw [hal]; try rfl))) rfl (.cons rfl (by first | rfl | ((rw [hal]; try rfl))) rfl (.cons rfl (by first | rfl | ((rw [hal]; try rfl))) rfl .nil))))))) (.cons rfl (by first | rfl | ((rw [hal]; try rfl))) rfl (.cons rfl (by first | rfl | ((rw [hal]; try rfl))) rfl (.cons rfl (by first | rfl | ((rw [hal]; try rfl))) rfl .nil))) (.cons rfl (by first | rfl | ((rw [hal]; try rfl))) (.cons rfl (by first | rfl | ((rw [hal]; try rfl))) .nil)))
    intro j hj _
    unfold HN
    by_cases hjl : j < p.rules.length
    case neg =>
      obtain rfl : j = p.rules.length := by omega
      rw [List.take_length]
      repeat' (first | refine for_next hlt (weak_sub (.cons rfl (by rfl) rfl (.cons rfl (by rfl) rfl (.cons rfl (by rfl) rfl (.cons rfl (by rfl) rfl (.cons rfl (by rfl) rfl .nil))))) (.cons rfl (by rfl) rfl (.cons rfl (by first | rfl | ((rw [hsn3, hpe]; try rfl))) rfl .nil)) (.cons rfl (by first | rfl | ((rw [hsn3, hpe]; try rfl))) .nil)) trivial | (refine rg 10 ?_; refine oMv ?_; refine oMv ?_; refine oMv ?_; refine sp (pix rfl (tyS rfl)) ?_; (first | refine oFb ?_ | refine oFd ?_); (first | refine oLb ?_ | refine oLd ?_); refine sp (pln rfl (tyS rfl)) ?_; refine oCm ?_; refine oN ?_) | (refine rg 20 ?_; refine oFb ?_; refine oLb ?_; (refine sp (po_load_bx_agg rfl rfl (tyT rfl) rfl (vc (vc (vc (vc (vc .nil))))) rfl) ?_); refine sp (po_buildSlice rfl (tyE rfl) (dc (.nil _)) rfl rfl rfl) ?_; refine sap rfl (tyE rfl) ?_; refine oFb ?_; refine oS ?_; refine oN ?_) | (refine rg 4 ?_; refine oMv ?_; refine sp (xinc rfl) ?_; refine oAs ?_; refine oN ?_) | refine gc ?_ | refine ct ?_ | refine cf ?_)
    obtain ⟨x, hx⟩ : ∃ x, p.rules[j] = x := ⟨_, rfl⟩
    have hfx : FewR x := hx ▸ hfp.r _ (List.getElem_mem hjl)
    have s1 : (p.rules.map ruleT)[j]? = some (ruleT x) := by rw [map_at_some hjl, hx]
    have s3 : j < (p.rules.map ruleT).length := by rw [List.length_map]; exact hjl
    have hfl := stepR_len how p.deny (p.rules.take j)
    rw [List.length_take] at hfl
    have g1 : ((((p.rules.take j).flatMap (stepR how p.deny)).map ruleT).length + 1) * 72 ≤ 140737488355328 := by rw [List.length_map]; omega
    have g2 : (((p.rules.take j).flatMap (stepR how p.deny)).map ruleT).length + 1 ≤ maxLen := by rw [List.length_map]; unfold maxLen; omega
    have hss : ((p.rules.take (j + 1)).flatMap (stepR how p.deny)).map ruleT = ((p.rules.take j).flatMap (stepR how p.deny)).map ruleT ++ (stepR how p.deny x).map ruleT := by rw [flat_succ _ hjl, List.map_append, hx]
    have c1 := copyRule_ x hfx
    have c2 := fourR_ x hfx
    have c3 := seventhR x hfx
    rcases hW.1 with rfl | rfl | rfl
    · cases hs : Pl.seventhP x with
      | true =>
        rw [hs] at c3
        have hv : stepR 4 p.deny x = [] := by unfold stepR; simp [hd, hs]
        rw [hv] at hss
        repeat' (first | refine for_next hjl (weak_sub (.cons rfl (by rfl) rfl (.cons rfl (by rfl) rfl (.cons rfl (by rfl) rfl (.cons rfl (by rfl) rfl (.cons rfl (by rfl) rfl (.cons rfl (by rfl) rfl (.cons rfl (by rfl) rfl .nil))))))) (.cons rfl (by rfl) rfl (.cons rfl (by rfl) rfl (.cons rfl (by first | rfl | ((rw [hss]; try first | rfl | (simp; done)))) rfl .nil))) (.cons rfl (by rfl) (.cons rfl (by first | rfl | ((rw [hss]; try first | rfl | (simp; done)))) .nil))) trivial | (refine rg 10 ?_; refine oMv ?_; refine oMv ?_; refine oMv ?_; refine sp (pix rfl (tyS rfl)) ?_; (first | refine oFb ?_ | refine oFd ?_); (first | refine oLb ?_ | refine oLd ?_); refine sp (pln rfl (tyS rfl)) ?_; refine oCm ?_; refine oN ?_) | (refine rg 12 ?_; refine oMv ?_; refine oMv ?_; refine sp (pix rfl (tyS rfl)) ?_; (first | refine oFb ?_ | refine oFd ?_); (first | refine oLb ?_ | refine oLd ?_); refine oMv ?_; refine sp (pix rfl (tyS rfl)) ?_; (first | refine sp (po_load_bx_agg rfl rfl (tyT rfl) rfl (vc (vc (vc .nil))) rfl) ?_ | refine sp (po_load_agg rfl rfl (tyT rfl) rfl rfl) ?_); refine sal str27 ?_; refine oS ?_; refine oN ?_) | (refine rg 13 ?_; refine oMv ?_; refine oCm ?_; refine oMv ?_; refine oFb ?_ <;> refine oLb ?_ <;> refine oCm ?_ <;> refine oPt ?_ <;> refine oMv ?_ <;> refine oMv ?_ <;> refine oCm ?_ <;> refine oMv ?_ <;> (first | refine oFb ?_ | refine oFd ?_ | refine oK ?_) <;> (first | refine oLb ?_ | refine oLd ?_ | refine oK ?_) <;> (first | refine oCm ?_ | refine oK ?_) <;> (first | refine oPt ?_ | refine oPf ?_) <;> (first | refine oPt ?_ | refine oPf ?_) <;> refine oAs ?_ <;> refine oN ?_) | (refine rg 14 ?_; refine oMv ?_; refine oCm ?_; refine oAs ?_; refine oN ?_) | (refine rg 16 ?_; refine oMv ?_; refine oAs ?_; refine oN ?_) | (refine rg 18 ?_; (refine sp (po_load_bx_agg rfl rfl (tyT rfl) rfl (vc (vc (vc .nil))) rfl) ?_); refine oC (c3) rfl (ac .nil) ?_; refine sp (po_not rfl rfl) ?_; refine oAs ?_; refine oN ?_) | (refine rg 11 ?_; refine oMv ?_; refine sp (xinc rfl) ?_; refine oAs ?_; refine oN ?_) | refine gc ?_ | refine ct ?_ | refine cf ?_)
      | false =>
        rw [hs] at c3
        have hv : stepR 4 p.deny x = [x] := by unfold stepR; simp [hd, hs]
        rw [hv] at hss
        repeat' (first | refine for_next hjl (weak_sub (.cons rfl (by rfl) rfl (.cons rfl (by rfl) rfl (.cons rfl (by rfl) rfl (.cons rfl (by rfl) rfl (.cons rfl (by rfl) rfl (.cons rfl (by rfl) rfl (.cons rfl (by rfl) rfl .nil))))))) (.cons rfl (by rfl) rfl (.cons rfl (by rfl) rfl (.cons rfl (by first | rfl | ((rw [hss]; try rfl))) rfl .nil))) (.cons rfl (by rfl) (.cons rfl (by first | rfl | ((rw [hss]; try rfl))) .nil))) trivial | (refine rg 10 ?_; refine oMv ?_; refine oMv ?_; refine oMv ?_; refine sp (pix rfl (tyS rfl)) ?_; (first | refine oFb ?_ | refine oFd ?_); (first | refine oLb ?_ | refine oLd ?_); refine sp (pln rfl (tyS rfl)) ?_; refine oCm ?_; refine oN ?_) | (refine rg 12 ?_; refine oMv ?_; refine oMv ?_; refine sp (pix rfl (tyS rfl)) ?_; (first | refine oFb ?_ | refine oFd ?_); (first | refine oLb ?_ | refine oLd ?_); refine oMv ?_; refine sp (pix rfl (tyS rfl)) ?_; (first | refine sp (po_load_bx_agg rfl rfl (tyT rfl) rfl (vc (vc (vc .nil))) rfl) ?_ | refine sp (po_load_agg rfl rfl (tyT rfl) rfl rfl) ?_); refine sal str27 ?_; refine oS ?_; refine oN ?_) | (refine rg 13 ?_; refine oMv ?_; refine oCm ?_; refine oMv ?_; refine oFb ?_ <;> refine oLb ?_ <;> refine oCm ?_ <;> refine oPt ?_ <;> refine oMv ?_ <;> refine oMv ?_ <;> refine oCm ?_ <;> refine oMv ?_ <;> (first | refine oFb ?_ | refine oFd ?_ | refine oK ?_) <;> (first | refine oLb ?_ | refine oLd ?_ | refine oK ?_) <;> (first | refine oCm ?_ | refine oK ?_) <;> (first | refine oPt ?_ | refine oPf ?_) <;> (first | refine oPt ?_ | refine oPf ?_) <;> refine oAs ?_ <;> refine oN ?_) | (refine rg 14 ?_; refine oMv ?_; refine oCm ?_; refine oAs ?_; refine oN ?_) | (refine rg 16 ?_; refine oMv ?_; refine oAs ?_; refine oN ?_) | (refine rg 18 ?_; (refine sp (po_load_bx_agg rfl rfl (tyT rfl) rfl (vc (vc (vc .nil))) rfl) ?_); refine oC (c3) rfl (ac .nil) ?_; refine sp (po_not rfl rfl) ?_; refine oAs ?_; refine oN ?_) | ((refine swp_any (id := 19) [[], [], [], [], [], [107], [], [7]] [[], [], [], [], [], [], [], []] mixed (by kernel_rfl) ?_) <;> refine yp (fun _ _ => po_field_bx rfl rfl (tyF rfl)) ?_ <;> refine yp (fun _ _ => po_load_bx rfl rfl (tyT rfl) rfl rfl) ?_ <;> (refine yp (fun _ _ => po_load_bx_agg rfl rfl (tyT rfl) rfl (vc (vc (vc .nil))) rfl) ?_) <;> refine yp (fun _ _ => po_call (c1) rfl (ac .nil)) ?_ <;> refine yp (fun _ _ => po_buildSlice rfl (tyE rfl) (dc (.nil _)) rfl rfl rfl) ?_ <;> refine sany_eff [] [(107, _)] (.free rfl rfl) rfl rfl (fun _ _ _ _ => e_append rfl rfl rfl (by rfl) rfl (by exact .t _) (tyE rfl) (by assumption) (by assumption)) ?_ <;> refine yp (fun _ _ => po_field_bx rfl rfl (tyF rfl)) ?_ <;> refine sany_eff [(7, _)] [] (.free rfl rfl) rfl rfl (fun _ _ _ _ => e_store rfl rfl rfl rfl rfl rfl (tyT rfl) rfl rfl) ?_ <;> refine sany_nil ?_) | (refine rg 11 ?_; refine oMv ?_; refine sp (xinc rfl) ?_; refine oAs ?_; refine oN ?_) | refine gc ?_ | refine ct ?_ | refine cf ?_)
    · have hv : stepR 7 p.deny x = [x] := by unfold stepR; simp [hd]
      rw [hv] at hss
      repeat' (first | refine for_next hjl (weak_sub (.cons rfl (by rfl) rfl (.cons rfl (by rfl) rfl (.cons rfl (by rfl) rfl (.cons rfl (by rfl) rfl (.cons rfl (by rfl) rfl (.cons rfl (by rfl) rfl (.cons rfl (by rfl) rfl .nil))))))) (.cons rfl (by rfl) rfl (.cons rfl (by rfl) rfl (.cons rfl (by first | rfl | ((rw [hss]; try rfl))) rfl .nil))) (.cons rfl (by rfl) (.cons rfl (by first | rfl | ((rw [hss]; try rfl))) .nil))) trivial | (refine rg 10 ?_; refine oMv ?_; refine oMv ?_; refine oMv ?_; refine sp (pix rfl (tyS rfl)) ?_; (first | refine oFb ?_ | refine oFd ?_); (first | refine oLb ?_ | refine oLd ?_); refine sp (pln rfl (tyS rfl)) ?_; refine oCm ?_; refine oN ?_) | (refine rg 12 ?_; refine oMv ?_; refine oMv ?_; refine sp (pix rfl (tyS rfl)) ?_; (first | refine oFb ?_ | refine oFd ?_); (first | refine oLb ?_ | refine oLd ?_); refine oMv ?_; refine sp (pix rfl (tyS rfl)) ?_; (first | refine sp (po_load_bx_agg rfl rfl (tyT rfl) rfl (vc (vc (vc .nil))) rfl) ?_ | refine sp (po_load_agg rfl rfl (tyT rfl) rfl rfl) ?_); refine sal str27 ?_; refine oS ?_; refine oN ?_) | (refine rg 13 ?_; refine oMv ?_; refine oCm ?_; refine oMv ?_; (first | refine oFb ?_ | refine oFd ?_ | refine oK ?_) <;> (first | refine oLb ?_ | refine oLd ?_ | refine oK ?_) <;> (first | refine oCm ?_ | refine oK ?_) <;> (first | refine oPt ?_ | refine oPf ?_) <;> refine oMv ?_ <;> refine oMv ?_ <;> refine oCm ?_ <;> refine oMv ?_ <;> (first | refine oFb ?_ | refine oFd ?_ | refine oK ?_) <;> (first | refine oLb ?_ | refine oLd ?_ | refine oK ?_) <;> (first | refine oCm ?_ | refine oK ?_) <;> (first | refine oPt ?_ | refine oPf ?_) <;> (first | refine oPt ?_ | refine oPf ?_) <;> refine oAs ?_ <;> refine oN ?_) | (refine rg 14 ?_; refine oMv ?_; refine oCm ?_; refine oAs ?_; refine oN ?_) | ((refine swp_any (id := 15) [[], [], [], [], [], [107], [], [7]] [[], [], [], [], [], [], [], []] mixed (by kernel_rfl) ?_) <;> refine yp (fun _ _ => po_field_bx rfl rfl (tyF rfl)) ?_ <;> refine yp (fun _ _ => po_load_bx rfl rfl (tyT rfl) rfl rfl) ?_ <;> (refine yp (fun _ _ => po_load_bx_agg rfl rfl (tyT rfl) rfl (vc (vc (vc .nil))) rfl) ?_) <;> refine yp (fun _ _ => po_call (c1) rfl (ac .nil)) ?_ <;> refine yp (fun _ _ => po_buildSlice rfl (tyE rfl) (dc (.nil _)) rfl rfl rfl) ?_ <;> refine sany_eff [] [(107, _)] (.free rfl rfl) rfl rfl (fun _ _ _ _ => e_append rfl rfl rfl (by rfl) rfl (by exact .t _) (tyE rfl) (by assumption) (by assumption)) ?_ <;> refine yp (fun _ _ => po_field_bx rfl rfl (tyF rfl)) ?_ <;> refine sany_eff [(7, _)] [] (.free rfl rfl) rfl rfl (fun _ _ _ _ => e_store rfl rfl rfl rfl rfl rfl (tyT rfl) rfl rfl) ?_ <;> refine sany_nil ?_) | (refine rg 11 ?_; refine oMv ?_; refine sp (xinc rfl) ?_; refine oAs ?_; refine oN ?_) | refine gc ?_ | refine ct ?_)
    · have hv : stepR 1 p.deny x = [Pl.four x] := by unfold stepR; simp [hd]
      rw [hv] at hss
      repeat' (first | refine for_next hjl (weak_sub (.cons rfl (by rfl) rfl (.cons rfl (by rfl) rfl (.cons rfl (by rfl) rfl (.cons rfl (by rfl) rfl (.cons rfl (by rfl) rfl (.cons rfl (by rfl) rfl (.cons rfl (by rfl) rfl .nil))))))) (.cons rfl (by rfl) rfl (.cons rfl (by rfl) rfl (.cons rfl (by first | rfl | ((rw [hss]; try rfl))) rfl .nil))) (.cons rfl (by rfl) (.cons rfl (by first | rfl | ((rw [hss]; try rfl))) .nil))) trivial | (refine rg 10 ?_; refine oMv ?_; refine oMv ?_; refine oMv ?_; refine sp (pix rfl (tyS rfl)) ?_; (first | refine oFb ?_ | refine oFd ?_); (first | refine oLb ?_ | refine oLd ?_); refine sp (pln rfl (tyS rfl)) ?_; refine oCm ?_; refine oN ?_) | (refine rg 12 ?_; refine oMv ?_; refine oMv ?_; refine sp (pix rfl (tyS rfl)) ?_; (first | refine oFb ?_ | refine oFd ?_); (first | refine oLb ?_ | refine oLd ?_); refine oMv ?_; refine sp (pix rfl (tyS rfl)) ?_; (first | refine sp (po_load_bx_agg rfl rfl (tyT rfl) rfl (vc (vc (vc .nil))) rfl) ?_ | refine sp (po_load_agg rfl rfl (tyT rfl) rfl rfl) ?_); refine sal str27 ?_; refine oS ?_; refine oN ?_) | (refine rg 13 ?_; refine oMv ?_; refine oCm ?_; refine oMv ?_; (first | refine oFb ?_ | refine oFd ?_ | refine oK ?_) <;> (first | refine oLb ?_ | refine oLd ?_ | refine oK ?_) <;> (first | refine oCm ?_ | refine oK ?_) <;> (first | refine oPt ?_ | refine oPf ?_) <;> refine oMv ?_ <;> refine oMv ?_ <;> refine oCm ?_ <;> refine oMv ?_ <;> refine oFb ?_ <;> refine oLb ?_ <;> refine oCm ?_ <;> refine oPt ?_ <;> (first | refine oPt ?_ | refine oPf ?_) <;> refine oAs ?_ <;> refine oN ?_) | (refine rg 14 ?_; refine oMv ?_; refine oCm ?_; refine oAs ?_; refine oN ?_) | (refine rg 16 ?_; refine oMv ?_; refine oAs ?_; refine oN ?_) | ((refine swp_any (id := 17) [[], [], [], [], [], [107], [], [7]] [[], [], [], [], [], [], [], []] mixed (by kernel_rfl) ?_) <;> refine yp (fun _ _ => po_field_bx rfl rfl (tyF rfl)) ?_ <;> refine yp (fun _ _ => po_load_bx rfl rfl (tyT rfl) rfl rfl) ?_ <;> (refine yp (fun _ _ => po_load_bx_agg rfl rfl (tyT rfl) rfl (vc (vc (vc .nil))) rfl) ?_) <;> refine yp (fun _ _ => po_call (c2) rfl (ac .nil)) ?_ <;> refine yp (fun _ _ => po_buildSlice rfl (tyE rfl) (dc (.nil _)) rfl rfl rfl) ?_ <;> refine sany_eff [] [(107, _)] (.free rfl rfl) rfl rfl (fun _ _ _ _ => e_append rfl rfl rfl (by rfl) rfl (by exact .t _) (tyE rfl) (by assumption) (by assumption)) ?_ <;> refine yp (fun _ _ => po_field_bx rfl rfl (tyF rfl)) ?_ <;> refine sany_eff [(7, _)] [] (.free rfl rfl) rfl rfl (fun _ _ _ _ => e_store rfl rfl rfl rfl rfl rfl (tyT rfl) rfl rfl) ?_ <;> refine sany_nil ?_) | (refine rg 11 ?_; refine oMv ?_; refine sp (xinc rfl) ?_; refine oAs ?_; refine oN ?_) | refine gc ?_ | refine ct ?_ | refine cf ?_)
  case neg =>
    unfold updA at hal
    rw [if_neg hd] at hal
    have e1 : decide (p.deny = 1) = false := by simp [hd]
    have e2 : (!decide (p.deny = 1)) = true := by simp [hd]
    repeat' (first | (refine rg 3 ?_; refine oMv ?_; refine oMv ?_; refine sp (pln rfl (tyS rfl)) ?_; refine oCm ?_; refine oN ?_) | (refine rg 5 ?_; refine oMv ?_; refine oMv ?_; refine sp (pix rfl (tyS rfl)) ?_; (first | refine sp (po_load_bx_agg rfl rfl (tyT rfl) rfl (vc (vc (vc (vc (vc .nil))))) rfl) ?_ | refine sp (po_load_agg rfl rfl (tyT rfl) rfl rfl) ?_); refine sal str43 ?_; refine oS ?_; refine oN ?_) | (refine rg 6 ?_; refine oFb ?_; refine oS ?_; refine oN ?_) | (refine rg 7 ?_; refine oFb ?_; refine oLb ?_; refine oCm ?_; refine oN ?_) | (refine rg 8 ?_; refine oFb ?_; refine oS ?_; refine oN ?_) | (refine rg 9 ?_; refine oAs ?_; refine oN ?_) | refine gc ?_ | refine ct ?_ | refine cf ?_ | refine swp_cond rfl (fun hc => ?_) (fun hc => ?_) | refine rq rfl (.cell rfl rfl (tyT rfl) (vc (vc .nil)) rfl .nil) ?_)
    refine swp_for (HN l how D K k p) (fun _ => True) p.rules.length ?_ trivial ?_
    · refine Weak.trans (weak_own0_bx (q := 107) 27 3 (i := 7) (j := 4) rfl rfl rfl) ?_
      exact (weak_sub (.cons rfl (by first | rfl | ((rw [← hal]; try rfl))) rfl (.cons rfl (by first | rfl | ((rw [← hal]; try rfl))) rfl (.cons rfl (by first | rfl | ((rw [← hal]; try rfl))) rfl (.cons rfl (by first | rfl | ((rw [← hal]; try rfl))) rfl (.cons rfl (by first | rfl | ((rw [← hal]; try rfl))) rfl (.cons rfl (by first | rfl | ((rw [← hal]; try rfl))) rfl (.cons rfl (by first | rfl | ((rw [← hal]; try rfl))) rfl .nil))))))) (.cons rfl (by first | rfl | ((rw [← hal]; try rfl))) rfl (.cons rfl (by first | rfl | ((rw [← hal]; try rfl))) rfl (.cons rfl (by first | rfl | ((rw [← hal]; try rfl))) rfl .nil))) (.cons rfl (by first | rfl | ((rw [← hal]; try rfl))) (.cons rfl (by first | rfl | ((rw [← hal]; try rfl))) .nil)))
    intro j hj _
    unfold HN
    by_cases hjl : j < p.rules.length
    case neg =>
      obtain rfl : j = p.rules.length := by omega
      rw [List.take_length]
      repeat' (first | refine for_next hlt (weak_sub (.cons rfl (by rfl) rfl (.cons rfl (by rfl) rfl (.cons rfl (by rfl) rfl (.cons rfl (by rfl) rfl (.cons rfl (by rfl) rfl .nil))))) (.cons rfl (by rfl) rfl (.cons rfl (by first | rfl | ((rw [hsn3, hpe]; try rfl))) rfl .nil)) (.cons rfl (by first | rfl | ((rw [hsn3, hpe]; try rfl))) .nil)) trivial | (refine rg 10 ?_; refine oMv ?_; refine oMv ?_; refine oMv ?_; refine sp (pix rfl (tyS rfl)) ?_; (first | refine oFb ?_ | refine oFd ?_); (first | refine oLb ?_ | refine oLd ?_); refine sp (pln rfl (tyS rfl)) ?_; refine oCm ?_; refine oN ?_) | (refine rg 20 ?_; refine oFb ?_; refine oLb ?_; (refine sp (po_load_bx_agg rfl rfl (tyT rfl) rfl (vc (vc (vc (vc (vc .nil))))) rfl) ?_); refine sp (po_buildSlice rfl (tyE rfl) (dc (.nil _)) rfl rfl rfl) ?_; refine sap rfl (tyE rfl) ?_; refine oFb ?_; refine oS ?_; refine oN ?_) | (refine rg 4 ?_; refine oMv ?_; refine sp (xinc rfl) ?_; refine oAs ?_; refine oN ?_) | refine gc ?_ | refine ct ?_ | refine cf ?_)
    obtain ⟨x, hx⟩ : ∃ x, p.rules[j] = x := ⟨_, rfl⟩
    have hfx : FewR x := hx ▸ hfp.r _ (List.getElem_mem hjl)
    have s1 : (p.rules.map ruleT)[j]? = some (ruleT x) := by rw [map_at_some hjl, hx]
    have s3 : j < (p.rules.map ruleT).length := by rw [List.length_map]; exact hjl
    have hfl := stepR_len how p.deny (p.rules.take j)
    rw [List.length_take] at hfl
    have g1 : ((((p.rules.take j).flatMap (stepR how p.deny)).map ruleT).length + 1) * 72 ≤ 140737488355328 := by rw [List.length_map]; omega
    have g2 : (((p.rules.take j).flatMap (stepR how p.deny)).map ruleT).length + 1 ≤ maxLen := by rw [List.length_map]; unfold maxLen; omega
    have hss : ((p.rules.take (j + 1)).flatMap (stepR how p.deny)).map ruleT = ((p.rules.take j).flatMap (stepR how p.deny)).map ruleT ++ (stepR how p.deny x).map ruleT := by rw [flat_succ _ hjl, List.map_append, hx]
    have c1 := copyRule_ x hfx
    have c2 := fourR_ x hfx
    have c3 := seventhR x hfx
    rcases hW.1 with rfl | rfl | rfl
    · have hv : stepR 4 p.deny x = [Pl.four x] := by unfold stepR; simp [hd]
      rw [hv] at hss
      repeat' (first | refine for_next hjl (weak_sub (.cons rfl (by rfl) rfl (.cons rfl (by rfl) rfl (.cons rfl (by rfl) rfl (.cons rfl (by rfl) rfl (.cons rfl (by rfl) rfl (.cons rfl (by rfl) rfl (.cons rfl (by rfl) rfl .nil))))))) (.cons rfl (by rfl) rfl (.cons rfl (by rfl) rfl (.cons rfl (by first | rfl | ((rw [hss]; try rfl))) rfl .nil))) (.cons rfl (by rfl) (.cons rfl (by first | rfl | ((rw [hss]; try rfl))) .nil))) trivial | (refine rg 10 ?_; refine oMv ?_; refine oMv ?_; refine oMv ?_; refine sp (pix rfl (tyS rfl)) ?_; (first | refine oFb ?_ | refine oFd ?_); (first | refine oLb ?_ | refine oLd ?_); refine sp (pln rfl (tyS rfl)) ?_; refine oCm ?_; refine oN ?_) | (refine rg 12 ?_; refine oMv ?_; refine oMv ?_; refine sp (pix rfl (tyS rfl)) ?_; (first | refine oFb ?_ | refine oFd ?_); (first | refine oLb ?_ | refine oLd ?_); refine oMv ?_; refine sp (pix rfl (tyS rfl)) ?_; (first | refine sp (po_load_bx_agg rfl rfl (tyT rfl) rfl (vc (vc (vc .nil))) rfl) ?_ | refine sp (po_load_agg rfl rfl (tyT rfl) rfl rfl) ?_); refine sal str27 ?_; refine oS ?_; refine oN ?_) | (refine rg 13 ?_; refine oMv ?_; refine oCm ?_; refine oMv ?_; refine oFb ?_ <;> refine oLb ?_ <;> refine oCm ?_ <;> refine oPt ?_ <;> refine oMv ?_ <;> (first | refine oMv ?_ | refine oK ?_) <;> (first | refine oCm ?_ | refine oK ?_) <;> (first | refine oMv ?_ | refine oK ?_) <;> (first | refine oFb ?_ | refine oFd ?_ | refine oK ?_) <;> (first | refine oLb ?_ | refine oLd ?_ | refine oK ?_) <;> (first | refine oCm ?_ | refine oK ?_) <;> (first | refine oPt ?_ | refine oPf ?_ | refine oK ?_) <;> refine oPt ?_ <;> refine oAs ?_ <;> refine oN ?_) | (refine rg 14 ?_; refine oMv ?_; refine oCm ?_; refine oAs ?_; refine oN ?_) | (refine rg 16 ?_; refine oMv ?_; refine oAs ?_; refine oN ?_) | ((refine swp_any (id := 17) [[], [], [], [], [], [107], [], [7]] [[], [], [], [], [], [], [], []] mixed (by kernel_rfl) ?_) <;> refine yp (fun _ _ => po_field_bx rfl rfl (tyF rfl)) ?_ <;> refine yp (fun _ _ => po_load_bx rfl rfl (tyT rfl) rfl rfl) ?_ <;> (refine yp (fun _ _ => po_load_bx_agg rfl rfl (tyT rfl) rfl (vc (vc (vc .nil))) rfl) ?_) <;> refine yp (fun _ _ => po_call (c2) rfl (ac .nil)) ?_ <;> refine yp (fun _ _ => po_buildSlice rfl (tyE rfl) (dc (.nil _)) rfl rfl rfl) ?_ <;> refine sany_eff [] [(107, _)] (.free rfl rfl) rfl rfl (fun _ _ _ _ => e_append rfl rfl rfl (by rfl) rfl (by exact .t _) (tyE rfl) (by assumption) (by assumption)) ?_ <;> refine yp (fun _ _ => po_field_bx rfl rfl (tyF rfl)) ?_ <;> refine sany_eff [(7, _)] [] (.free rfl rfl) rfl rfl (fun _ _ _ _ => e_store rfl rfl rfl rfl rfl rfl (tyT rfl) rfl rfl) ?_ <;> refine sany_nil ?_) | (refine rg 11 ?_; refine oMv ?_; refine sp (xinc rfl) ?_; refine oAs ?_; refine oN ?_) | refine gc ?_ | refine ct ?_ | refine cf ?_)
    · have hv : stepR 7 p.deny x = [x] := by unfold stepR; simp [hd]
      rw [hv] at hss
      repeat' (first | refine for_next hjl (weak_sub (.cons rfl (by rfl) rfl (.cons rfl (by rfl) rfl (.cons rfl (by rfl) rfl (.cons rfl (by rfl) rfl (.cons rfl (by rfl) rfl (.cons rfl (by rfl) rfl (.cons rfl (by rfl) rfl .nil))))))) (.cons rfl (by rfl) rfl (.cons rfl (by rfl) rfl (.cons rfl (by first | rfl | ((rw [hss]; try rfl))) rfl .nil))) (.cons rfl (by rfl) (.cons rfl (by first | rfl | ((rw [hss]; try rfl))) .nil))) trivial | (refine rg 10 ?_; refine oMv ?_; refine oMv ?_; refine oMv ?_; refine sp (pix rfl (tyS rfl)) ?_; (first | refine oFb ?_ | refine oFd ?_); (first | refine oLb ?_ | refine oLd ?_); refine sp (pln rfl (tyS rfl)) ?_; refine oCm ?_; refine oN ?_) | (refine rg 12 ?_; refine oMv ?_; refine oMv ?_; refine sp (pix rfl (tyS rfl)) ?_; (first | refine oFb ?_ | refine oFd ?_); (first | refine oLb ?_ | refine oLd ?_); refine oMv ?_; refine sp (pix rfl (tyS rfl)) ?_; (first | refine sp (po_load_bx_agg rfl rfl (tyT rfl) rfl (vc (vc (vc .nil))) rfl) ?_ | refine sp (po_load_agg rfl rfl (tyT rfl) rfl rfl) ?_); refine sal str27 ?_; refine oS ?_; refine oN ?_) | (refine rg 13 ?_; refine oMv ?_; refine oCm ?_; refine oMv ?_; (first | refine oFb ?_ | refine oFd ?_ | refine oK ?_) <;> (first | refine oLb ?_ | refine oLd ?_ | refine oK ?_) <;> (first | refine oCm ?_ | refine oK ?_) <;> (first | refine oPt ?_ | refine oPf ?_) <;> refine oMv ?_ <;> refine oMv ?_ <;> refine oCm ?_ <;> refine oMv ?_ <;> (first | refine oFb ?_ | refine oFd ?_ | refine oK ?_) <;> (first | refine oLb ?_ | refine oLd ?_ | refine oK ?_) <;> (first | refine oCm ?_ | refine oK ?_) <;> (first | refine oPt ?_ | refine oPf ?_) <;> (first | refine oPt ?_ | refine oPf ?_) <;> refine oAs ?_ <;> refine oN ?_) | (refine rg 14 ?_; refine oMv ?_; refine oCm ?_; refine oAs ?_; refine oN ?_) | ((refine swp_any (id := 15) [[], [], [], [], [], [107], [], [7]] [[], [], [], [], [], [], [], []] mixed (by kernel_rfl) ?_) <;> refine yp (fun _ _ => po_field_bx rfl rfl (tyF rfl)) ?_ <;> refine yp (fun _ _ => po_load_bx rfl rfl (tyT rfl) rfl rfl) ?_ <;> (refine yp (fun _ _ => po_load_bx_agg rfl rfl (tyT rfl) rfl (vc (vc (vc .nil))) rfl) ?_) <;> refine yp (fun _ _ => po_call (c1) rfl (ac .nil)) ?_ <;> refine yp (fun _ _ => po_buildSlice rfl (tyE rfl) (dc (.nil _)) rfl rfl rfl) ?_ <;> refine sany_eff [] [(107, _)] (.free rfl rfl) rfl rfl (fun _ _ _ _ => e_append rfl rfl rfl (by rfl) rfl (by exact .t _) (tyE rfl) (by assumption) (by assumption)) ?_ <;> refine yp (fun _ _ => po_field_bx rfl rfl (tyF rfl)) ?_ <;> refine sany_eff [(7, _)] [] (.free rfl rfl) rfl rfl (fun _ _ _ _ => e_store rfl rfl rfl rfl rfl rfl (tyT rfl) rfl rfl) ?_ <;> refine sany_nil ?_) | (refine rg 11 ?_; refine oMv ?_; refine sp (xinc rfl) ?_; refine oAs ?_; refine oN ?_) | refine gc ?_ | refine ct ?_)
    · cases hs : Pl.seventhP x with
      | true =>
        rw [hs] at c3
        have hv : stepR 1 p.deny x = [] := by unfold stepR; simp [hd, hs]
        rw [hv] at hss
        repeat' (first | refine for_next hjl (weak_sub (.cons rfl (by rfl) rfl (.cons rfl (by rfl) rfl (.cons rfl (by rfl) rfl (.cons rfl (by rfl) rfl (.cons rfl (by rfl) rfl (.cons rfl (by rfl) rfl (.cons rfl (by rfl) rfl .nil))))))) (.cons rfl (by rfl) rfl (.cons rfl (by rfl) rfl (.cons rfl (by first | rfl | ((rw [hss]; try first | rfl | (simp; done)))) rfl .nil))) (.cons rfl (by rfl) (.cons rfl (by first | rfl | ((rw [hss]; try first | rfl | (simp; done)))) .nil))) trivial | (refine rg 10 ?_; refine oMv ?_; refine oMv ?_; refine oMv ?_; refine sp (pix rfl (tyS rfl)) ?_; (first | refine oFb ?_ | refine oFd ?_); (first | refine oLb ?_ | refine oLd ?_); refine sp (pln rfl (tyS rfl)) ?_; refine oCm ?_; refine oN ?_) | (refine rg 12 ?_; refine oMv ?_; refine oMv ?_; refine sp (pix rfl (tyS rfl)) ?_; (first | refine oFb ?_ | refine oFd ?_); (first | refine oLb ?_ | refine oLd ?_); refine oMv ?_; refine sp (pix rfl (tyS rfl)) ?_; (first | refine sp (po_load_bx_agg rfl rfl (tyT rfl) rfl (vc (vc (vc .nil))) rfl) ?_ | refine sp (po_load_agg rfl rfl (tyT rfl) rfl rfl) ?_); refine sal str27 ?_; refine oS ?_; refine oN ?_) | (refine rg 13 ?_; refine oMv ?_; refine oCm ?_; refine oMv ?_; (first | refine oFb ?_ | refine oFd ?_ | refine oK ?_) <;> (first | refine oLb ?_ | refine oLd ?_ | refine oK ?_) <;> (first | refine oCm ?_ | refine oK ?_) <;> (first | refine oPt ?_ | refine oPf ?_) <;> refine oMv ?_ <;> refine oMv ?_ <;> refine oCm ?_ <;> refine oMv ?_ <;> refine oFb ?_ <;> refine oLb ?_ <;> refine oCm ?_ <;> refine oPt ?_ <;> (first | refine oPt ?_ | refine oPf ?_) <;> refine oAs ?_ <;> refine oN ?_) | (refine rg 14 ?_; refine oMv ?_; refine oCm ?_; refine oAs ?_; refine oN ?_) | (refine rg 16 ?_; refine oMv ?_; refine oAs ?_; refine oN ?_) | (refine rg 18 ?_; (refine sp (po_load_bx_agg rfl rfl (tyT rfl) rfl (vc (vc (vc .nil))) rfl) ?_); refine oC (c3) rfl (ac .nil) ?_; refine sp (po_not rfl rfl) ?_; refine oAs ?_; refine oN ?_) | (refine rg 11 ?_; refine oMv ?_; refine sp (xinc rfl) ?_; refine oAs ?_; refine oN ?_) | refine gc ?_ | refine ct ?_ | refine cf ?_)
      | false =>
        rw [hs] at c3
        have hv : stepR 1 p.deny x = [x] := by unfold stepR; simp [hd, hs]
        rw [hv] at hss
        repeat' (first | refine for_next hjl (weak_sub (.cons rfl (by rfl) rfl (.cons rfl (by rfl) rfl (.cons rfl (by rfl) rfl (.cons rfl (by rfl) rfl (.cons rfl (by rfl) rfl (.cons rfl (by rfl) rfl (.cons rfl (by rfl) rfl .nil))))))) (.cons rfl (by rfl) rfl (.cons rfl (by rfl) rfl (.cons rfl (by first | rfl | ((rw [hss]; try rfl))) rfl .nil))) (.cons rfl (by rfl) (.cons rfl (by first | rfl | ((rw [hss]; try rfl))) .nil))) trivial | (refine rg 10 ?_; refine oMv ?_; refine oMv ?_; refine oMv ?_; refine sp (pix rfl (tyS rfl)) ?_; (first | refine oFb ?_ | refine oFd ?_); (first | refine oLb ?_ | refine oLd ?_); refine sp (pln rfl (tyS rfl)) ?_; refine oCm ?_; refine oN ?_) | (refine rg 12 ?_; refine oMv ?_; refine oMv ?_; refine sp (pix rfl (tyS rfl)) ?_; (first | refine oFb ?_ | refine oFd ?_); (first | refine oLb ?_ | refine oLd ?_); refine oMv ?_; refine sp (pix rfl (tyS rfl)) ?_; (first | refine sp (po_load_bx_agg rfl rfl (tyT rfl) rfl (vc (vc (vc .nil))) rfl) ?_ | refine sp (po_load_agg rfl rfl (tyT rfl) rfl rfl) ?_); refine sal str27 ?_; refine oS ?_; refine oN ?_) | (refine rg 13 ?_; refine oMv ?_; refine oCm ?_; refine oMv ?_; (first | refine oFb ?_ | refine oFd ?_ | refine oK ?_) <;> (first | refine oLb ?_ | refine oLd ?_ | refine oK ?_) <;> (first | refine oCm ?_ | refine oK ?_) <;> (first | refine oPt ?_ | refine oPf ?_) <;> refine oMv ?_ <;> refine oMv ?_ <;> refine oCm ?_ <;> refine oMv ?_ <;> refine oFb ?_ <;> refine oLb ?_ <;> refine oCm ?_ <;> refine oPt ?_ <;> (first | refine oPt ?_ | refine oPf ?_) <;> refine oAs ?_ <;> refine oN ?_) | (refine rg 14 ?_; refine oMv ?_; refine oCm ?_; refine oAs ?_; refine oN ?_) | (refine rg 16 ?_; refine oMv ?_; refine oAs ?_; refine oN ?_) | (refine rg 18 ?_; (refine sp (po_load_bx_agg rfl rfl (tyT rfl) rfl (vc (vc (vc .nil))) rfl) ?_); refine oC (c3) rfl (ac .nil) ?_; refine sp (po_not rfl rfl) ?_; refine oAs ?_; refine oN ?_) | ((refine swp_any (id := 19) [[], [], [], [], [], [107], [], [7]] [[], [], [], [], [], [], [], []] mixed (by kernel_rfl) ?_) <;> refine yp (fun _ _ => po_field_bx rfl rfl (tyF rfl)) ?_ <;> refine yp (fun _ _ => po_load_bx rfl rfl (tyT rfl) rfl rfl) ?_ <;> (refine yp (fun _ _ => po_load_bx_agg rfl rfl (tyT rfl) rfl (vc (vc (vc .nil))) rfl) ?_) <;> refine yp (fun _ _ => po_call (c1) rfl (ac .nil)) ?_ <;> refine yp (fun _ _ => po_buildSlice rfl (tyE rfl) (dc (.nil _)) rfl rfl rfl) ?_ <;> refine sany_eff [] [(107, _)] (.free rfl rfl) rfl rfl (fun _ _ _ _ => e_append rfl rfl rfl (by rfl) rfl (by exact .t _) (tyE rfl) (by assumption) (by assumption)) ?_ <;> refine yp (fun _ _ => po_field_bx rfl rfl (tyF rfl)) ?_ <;> refine sany_eff [(7, _)] [] (.free rfl rfl) rfl rfl (fun _ _ _ _ => e_store rfl rfl rfl rfl rfl rfl (tyT rfl) rfl rfl) ?_ <;> refine sany_nil ?_) | (refine rg 11 ?_; refine oMv ?_; refine sp (xinc rfl) ?_; refine oAs ?_; refine oN ?_) | refine gc ?_ | refine ct ?_ | refine cf ?_)
end Go.Proofs.YtnclifgiakmmoaaGreat.Pol
