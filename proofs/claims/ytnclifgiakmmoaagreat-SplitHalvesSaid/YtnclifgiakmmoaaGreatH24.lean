/- Merged by bundles.py: SimSp7, SimCopyL, SimFourR, SimCopy. -/
import Derived.Test.YtnclifgiakmmoaaGreatH23
import Derived.Test.YtnclifgiakmmoaaGreatH18
import Derived.Test.YtnclifgiakmmoaaGreatH17
/- The chapter's examples stand; what halves keep. -/
namespace Go.Proofs.YtnclifgiakmmoaaGreat.Pol
set_option linter.unusedVariables false
set_option linter.unusedSimpArgs false
open Go.RowKit Mem Sim Opn WAddr WName WMatch WAuth
theorem ok_fourR {r : Pl.Rule} (h : okRule r) : okRule (Pl.four r) := by
  obtain ⟨h1, h2, h3⟩ := h
  refine ⟨h1, fun t ht => ?_, fun w hw => by cases hw⟩
  obtain ⟨t0, h4, rfl⟩ := List.mem_map.1 ht
  exact ⟨(h2 t0 h4).1, (fun y hy => by cases hy), (fun y hy => by cases hy), (fun y hy => by cases hy)⟩
theorem ok_what {l : List Pl.Rule} (h : ∀ r ∈ l, okRule r) (k : Nat) : ∀ r ∈ Pl.what k l, okRule r := by
  match k with
  | 0 => exact fun r hr => h r ((List.mem_filter.1 hr).1)
  | 1 =>
    intro r hr
    obtain ⟨r0, h0, rfl⟩ := List.mem_map.1 hr
    exact ok_fourR (h r0 h0)
  | k + 2 => exact h
theorem ok_half {p : Pl.Policy} (h : okPolicy p) (D K : Nat) : okPolicy (Pl.halfP D K p) := by
  refine ⟨h.1, h.2.1, h.2.2.1, h.2.2.2.1, ?_⟩
  unfold Pl.halfP
  dsimp only
  split
  · exact ok_what h.2.2.2.2 D
  · exact ok_what h.2.2.2.2 K
theorem few_fourR {r : Pl.Rule} (h : FewR r) : FewR (Pl.four r) := by
  refine ⟨h.f, ?_, by simp [Pl.four], h.fs, fun t ht => ?_, fun w hw => by cases hw⟩
  · show (r.to_.map Pl.fourT).length ≤ 1000
    rw [List.length_map]; exact h.t
  · obtain ⟨t0, h4, rfl⟩ := List.mem_map.1 ht
    exact ⟨(h.ts t0 h4).1, by simp [Pl.fourT], by simp [Pl.fourT], by simp [Pl.fourT]⟩
theorem few_what {l : List Pl.Rule} (hn : l.length ≤ 1000) (h : ∀ r ∈ l, FewR r) (k : Nat) : (Pl.what k l).length ≤ 1000 ∧ ∀ r ∈ Pl.what k l, FewR r := by
  match k with
  | 0 => exact ⟨Nat.le_trans (List.length_filter_le _ _) hn, fun r hr => h r ((List.mem_filter.1 hr).1)⟩
  | 1 =>
    refine ⟨by show (l.map Pl.four).length ≤ 1000; rw [List.length_map]; exact hn, fun r hr => ?_⟩
    obtain ⟨r0, h0, rfl⟩ := List.mem_map.1 hr
    exact few_fourR (h r0 h0)
  | k + 2 => exact ⟨hn, h⟩
theorem few_half {p : Pl.Policy} (h : FewP p) (D K : Nat) : FewP (Pl.halfP D K p) := by
  have h1 := few_what h.n h.r D
  have h2 := few_what h.n h.r K
  unfold Pl.halfP
  constructor <;> dsimp only <;> split
  · exact h1.1
  · exact h2.1
  · exact h1.2
  · exact h2.2
theorem ok_halves {l : List Pl.Policy} (h : ∀ p ∈ l, okPolicy p) (D K : Nat) : ∀ p ∈ l.map (Pl.halfP D K), okPolicy p := fun p hp => by
  obtain ⟨p0, h0, rfl⟩ := List.mem_map.1 hp
  exact ok_half (h p0 h0) D K
theorem few_halves {l : List Pl.Policy} (h : ∀ p ∈ l, FewP p) (D K : Nat) : ∀ p ∈ l.map (Pl.halfP D K), FewP p := fun p hp => by
  obtain ⟨p0, h0, rfl⟩ := List.mem_map.1 hp
  exact few_half (h p0 h0) D K
theorem ex_ok : ∀ p ∈ exPols, okPolicy p := by
  intro p hp
  simp only [exPols, List.mem_cons, List.not_mem_nil, or_false] at hp
  rcases hp with rfl | rfl
  all_goals
    refine ⟨by decide, by decide, by decide, by decide, ?_⟩
    simp only [List.mem_cons, List.not_mem_nil, or_false, forall_eq, okRule, okTarget, okSource, okWhen, okTerm, okInt, false_imp_iff, implies_true, and_true, true_and]
    decide
theorem ex_few : ∀ p ∈ exPols, FewP p := by
  intro p hp
  simp only [exPols, List.mem_cons, List.not_mem_nil, or_false] at hp
  rcases hp with rfl | rfl
  all_goals
    refine ⟨by decide, fun r hr => ?_⟩
    simp only [List.mem_cons, List.not_mem_nil, or_false] at hr
    subst hr
    refine ⟨by decide, by decide, by decide, (fun s hs => by cases hs), fun s hs => ?_, (fun s hs => by cases hs)⟩
    simp only [List.mem_cons, List.not_mem_nil, or_false] at hs
    subst hs
    decide
theorem who0_ok : OkAsk who0 := ⟨by decide, by decide, by decide⟩
theorem reqOf_ok (s : ByteArray) (h : s.size ≤ maxLen) : OkReq0 (reqOf s) := ⟨by show sGET.size ≤ maxLen; decide, h, by show (⟨#[]⟩ : ByteArray).size ≤ maxLen; decide, fun h hh => by cases hh⟩
set_option maxRecDepth 100000 in
set_option maxHeartbeats 2000000 in
theorem awake14 : PCalls Tryz.prog 6 [] (.v (.bool true)) := by
  have c0 := example14
  have k4 := l4_ exPols ex_few (by decide)
  have k7 := l7_ exPols ex_few (by decide)
  have ka := alone_ exPols ex_few (by decide)
  have c1 := fourS_ (exPols.map (Pl.halfP 0 1)) (ok_halves ex_ok 0 1) (few_halves ex_few 0 1) (by decide) (Pl.allowsP exPols) who0 who0_ok 80
  have c2 := fourS_ (exPols.map (Pl.halfP 0 1)) (ok_halves ex_ok 0 1) (few_halves ex_few 0 1) (by decide) (Pl.allowsP exPols) who0 who0_ok 81
  have c3 := seven_ (exPols.map (Pl.halfP 2 2)) (ok_halves ex_ok 2 2) (by decide) (Pl.allowsP exPols) who0 who0_ok 80 (reqOf sB) (reqOf_ok _ (by decide)) (by decide) ⟨#[]⟩ ⟨#[]⟩ (.slice none 0 0)
  have c4 := seven_ (exPols.map (Pl.halfP 2 2)) (ok_halves ex_ok 2 2) (by decide) (Pl.allowsP exPols) who0 who0_ok 80 (reqOf sA) (reqOf_ok _ (by decide)) (by decide) ⟨#[]⟩ ⟨#[]⟩ (.slice none 0 0)
  have c5 := fourS_ (exPols.map (Pl.halfP 1 0)) (ok_halves ex_ok 1 0) (few_halves ex_few 1 0) (by decide) (Pl.allowsP exPols) who0 who0_ok 80
  rw [v1] at c1
  rw [v2] at c2
  rw [v3] at c3
  rw [v4] at c4
  rw [v5] at c5
  dsimp only at c1 c2 c3 c4 c5
  refine pcalls_of Tryz.func6 rfl rfl Tryz.ntmps6 rfl ?_
  repeat' (first | (refine rg 0 ?_; refine oAs ?_; refine oN ?_) | (refine rg 1 ?_; refine sal str33 ?_; refine oN ?_) | (refine rd 2 ?_; (first | refine dC (c3) rfl (.cons rfl (.t _) (.cons rfl (.t _) (.cons rfl (.t _) (.cons rfl (.le req_le) .nil)))) ?_ | refine dC (c4) rfl (.cons rfl (.t _) (.cons rfl (.t _) (.cons rfl (.t _) (.cons rfl (.le req_le) .nil)))) ?_ | refine dC (c0) rfl .nil ?_); (first | refine dC (c3) rfl (.cons rfl (.t _) (.cons rfl (.t _) (.cons rfl (.t _) (.cons rfl (.le req_le) .nil)))) ?_ | refine dC (c4) rfl (.cons rfl (.t _) (.cons rfl (.t _) (.cons rfl (.t _) (.cons rfl (.le req_le) .nil)))) ?_ | refine dC (c0) rfl (ac .nil) ?_ | refine dC (k4) rfl (ac .nil) ?_); (refine dp (po_load_bx_agg rfl rfl (tyT rfl) rfl (vc (vc (vc .nil))) rfl) ?_); (first | refine dC (c3) rfl (.cons rfl (.t _) (.cons rfl (.t _) (.cons rfl (.t _) (.cons rfl (.le req_le) .nil)))) ?_ | refine dC (c4) rfl (.cons rfl (.t _) (.cons rfl (.t _) (.cons rfl (.t _) (.cons rfl (.le req_le) .nil)))) ?_ | refine dC (c0) rfl (ac (ac (ac .nil))) ?_ | refine dC (k4) rfl (ac (ac (ac .nil))) ?_ | refine dC (k7) rfl (ac (ac (ac .nil))) ?_ | refine dC (ka) rfl (ac (ac (ac .nil))) ?_ | refine dC (c1) rfl (ac (ac (ac .nil))) ?_); refine dMv ?_; refine dEx ?_; refine dEx ?_; refine dAs ?_; refine dAs ?_; refine dN ?_; refine oN ?_) | (refine rd 3 ?_; (first | refine dC (c3) rfl (.cons rfl (.t _) (.cons rfl (.t _) (.cons rfl (.t _) (.cons rfl (.le req_le) .nil)))) ?_ | refine dC (c4) rfl (.cons rfl (.t _) (.cons rfl (.t _) (.cons rfl (.t _) (.cons rfl (.le req_le) .nil)))) ?_ | refine dC (c0) rfl .nil ?_); (first | refine dC (c3) rfl (.cons rfl (.t _) (.cons rfl (.t _) (.cons rfl (.t _) (.cons rfl (.le req_le) .nil)))) ?_ | refine dC (c4) rfl (.cons rfl (.t _) (.cons rfl (.t _) (.cons rfl (.t _) (.cons rfl (.le req_le) .nil)))) ?_ | refine dC (c0) rfl (ac .nil) ?_ | refine dC (k4) rfl (ac .nil) ?_); (refine dp (po_load_bx_agg rfl rfl (tyT rfl) rfl (vc (vc (vc .nil))) rfl) ?_); (first | refine dC (c3) rfl (.cons rfl (.t _) (.cons rfl (.t _) (.cons rfl (.t _) (.cons rfl (.le req_le) .nil)))) ?_ | refine dC (c4) rfl (.cons rfl (.t _) (.cons rfl (.t _) (.cons rfl (.t _) (.cons rfl (.le req_le) .nil)))) ?_ | refine dC (c0) rfl (ac (ac (ac .nil))) ?_ | refine dC (k4) rfl (ac (ac (ac .nil))) ?_ | refine dC (k7) rfl (ac (ac (ac .nil))) ?_ | refine dC (ka) rfl (ac (ac (ac .nil))) ?_ | refine dC (c1) rfl (ac (ac (ac .nil))) ?_ | refine dC (c2) rfl (ac (ac (ac .nil))) ?_); refine dMv ?_; refine dEx ?_; refine dEx ?_; refine dAs ?_; refine dAs ?_; refine dN ?_; refine oN ?_) | (refine rd 4 ?_; (first | refine dC (c3) rfl (.cons rfl (.t _) (.cons rfl (.t _) (.cons rfl (.t _) (.cons rfl (.le req_le) .nil)))) ?_ | refine dC (c4) rfl (.cons rfl (.t _) (.cons rfl (.t _) (.cons rfl (.t _) (.cons rfl (.le req_le) .nil)))) ?_ | refine dC (c0) rfl .nil ?_); (first | refine dC (c3) rfl (.cons rfl (.t _) (.cons rfl (.t _) (.cons rfl (.t _) (.cons rfl (.le req_le) .nil)))) ?_ | refine dC (c4) rfl (.cons rfl (.t _) (.cons rfl (.t _) (.cons rfl (.t _) (.cons rfl (.le req_le) .nil)))) ?_ | refine dC (c0) rfl (ac .nil) ?_ | refine dC (k4) rfl (ac .nil) ?_ | refine dC (k7) rfl (ac .nil) ?_); (refine dp (po_load_bx_agg rfl rfl (tyT rfl) rfl (vc (vc (vc .nil))) rfl) ?_); refine dp (po_buildS str37 rfl (pc (pc .nil)) rfl) ?_; (refine dC (c3) rfl (.cons rfl (.t _) (.cons rfl (.t _) (.cons rfl (.t _) (.cons rfl (.le req_le) .nil)))) ?_); refine dMv ?_; refine dEx ?_; refine dEx ?_; refine dAs ?_; refine dAs ?_; refine dN ?_; refine oN ?_) | (refine rd 5 ?_; (first | refine dC (c3) rfl (.cons rfl (.t _) (.cons rfl (.t _) (.cons rfl (.t _) (.cons rfl (.le req_le) .nil)))) ?_ | refine dC (c4) rfl (.cons rfl (.t _) (.cons rfl (.t _) (.cons rfl (.t _) (.cons rfl (.le req_le) .nil)))) ?_ | refine dC (c0) rfl .nil ?_); (first | refine dC (c3) rfl (.cons rfl (.t _) (.cons rfl (.t _) (.cons rfl (.t _) (.cons rfl (.le req_le) .nil)))) ?_ | refine dC (c4) rfl (.cons rfl (.t _) (.cons rfl (.t _) (.cons rfl (.t _) (.cons rfl (.le req_le) .nil)))) ?_ | refine dC (c0) rfl (ac .nil) ?_ | refine dC (k4) rfl (ac .nil) ?_ | refine dC (k7) rfl (ac .nil) ?_); (refine dp (po_load_bx_agg rfl rfl (tyT rfl) rfl (vc (vc (vc .nil))) rfl) ?_); refine dp (po_buildS str37 rfl (pc (pc .nil)) rfl) ?_; (first | refine dC (c3) rfl (.cons rfl (.t _) (.cons rfl (.t _) (.cons rfl (.t _) (.cons rfl (.le req_le) .nil)))) ?_ | refine dC (c4) rfl (.cons rfl (.t _) (.cons rfl (.t _) (.cons rfl (.t _) (.cons rfl (.le req_le) .nil)))) ?_); refine dMv ?_; refine dEx ?_; refine dEx ?_; refine dAs ?_; refine dAs ?_; refine dN ?_; refine oN ?_) | (refine rd 6 ?_; (first | refine dC (c3) rfl (.cons rfl (.t _) (.cons rfl (.t _) (.cons rfl (.t _) (.cons rfl (.le req_le) .nil)))) ?_ | refine dC (c4) rfl (.cons rfl (.t _) (.cons rfl (.t _) (.cons rfl (.t _) (.cons rfl (.le req_le) .nil)))) ?_ | refine dC (c0) rfl .nil ?_); (first | refine dC (c3) rfl (.cons rfl (.t _) (.cons rfl (.t _) (.cons rfl (.t _) (.cons rfl (.le req_le) .nil)))) ?_ | refine dC (c4) rfl (.cons rfl (.t _) (.cons rfl (.t _) (.cons rfl (.t _) (.cons rfl (.le req_le) .nil)))) ?_ | refine dC (c0) rfl (ac .nil) ?_ | refine dC (k4) rfl (ac .nil) ?_ | refine dC (k7) rfl (ac .nil) ?_ | refine dC (ka) rfl (ac .nil) ?_); (refine dp (po_load_bx_agg rfl rfl (tyT rfl) rfl (vc (vc (vc .nil))) rfl) ?_); (first | refine dC (c3) rfl (.cons rfl (.t _) (.cons rfl (.t _) (.cons rfl (.t _) (.cons rfl (.le req_le) .nil)))) ?_ | refine dC (c4) rfl (.cons rfl (.t _) (.cons rfl (.t _) (.cons rfl (.t _) (.cons rfl (.le req_le) .nil)))) ?_ | refine dC (c0) rfl (ac (ac (ac .nil))) ?_ | refine dC (k4) rfl (ac (ac (ac .nil))) ?_ | refine dC (k7) rfl (ac (ac (ac .nil))) ?_ | refine dC (ka) rfl (ac (ac (ac .nil))) ?_ | refine dC (c1) rfl (ac (ac (ac .nil))) ?_ | refine dC (c2) rfl (ac (ac (ac .nil))) ?_ | refine dC (c5) rfl (ac (ac (ac .nil))) ?_); refine dMv ?_; refine dEx ?_; refine dEx ?_; refine dAs ?_; refine dAs ?_; refine dN ?_; refine oN ?_) | (refine rg 7 ?_; refine oMv ?_; refine oMv ?_; refine oMv ?_ <;> refine oCm ?_ <;> refine oPt ?_ <;> refine oMv ?_ <;> refine oMv ?_ <;> refine sp (po_not rfl rfl) ?_ <;> refine oPt ?_ <;> refine oMv ?_ <;> refine oMv ?_ <;> refine oCm ?_ <;> refine oPt ?_ <;> refine oMv ?_ <;> refine oMv ?_ <;> refine oPt ?_ <;> refine oMv ?_ <;> refine oMv ?_ <;> refine oCm ?_ <;> refine oPt ?_ <;> refine oMv ?_ <;> refine oMv ?_ <;> refine sp (po_not rfl rfl) ?_ <;> refine oPt ?_ <;> refine oMv ?_ <;> refine oMv ?_ <;> refine oCm ?_ <;> refine oPt ?_ <;> refine oMv ?_ <;> refine oMv ?_ <;> refine sp (po_not rfl rfl) ?_ <;> refine oPt ?_ <;> refine oMv ?_ <;> refine oMv ?_ <;> refine oCm ?_ <;> refine oPt ?_ <;> refine oAs ?_ <;> refine oN ?_) | refine gc ?_ | refine ct ?_ | refine cf ?_ | refine swp_cond rfl (fun hc => ?_) (fun hc => ?_) | refine rq rfl (rt .nil) ?_)
  rfl
end Go.Proofs.YtnclifgiakmmoaaGreat.Pol

/- The document's copy of a rule: its rows are the caller's own. -/
namespace Go.Proofs.YtnclifgiakmmoaaGreat.Pol
set_option linter.unusedVariables false
set_option linter.unusedSimpArgs false
open Go.RowKit Mem Sim Opn
def D1 (r : Pl.Rule) (k : Nat) : St := ⟨[(1, .bp 1 0), (2, .bp 2 0), (3, .bp 3 0), (4, .t (.v (.int .i64 (k : Int))))], [(1, rcells r), (2, [nil0, nil0, nil0]), (3, [.own 1003 ((r.from_.take k).map sourceT).length, nil0, nil0])], [(1003, ⟨61, 3, (r.from_.take k).map sourceT⟩)]⟩
def D2 (r : Pl.Rule) (k : Nat) : St := ⟨[(1, .bp 1 0), (2, .bp 2 0), (3, .bp 3 0), (6, .t (.v (.int .i64 (k : Int))))], [(1, rcells r), (2, [nil0, nil0, nil0]), (3, [.own 1003 (r.from_.map sourceT).length, .own 1004 ((r.to_.take k).map targetT).length, nil0])], [(1003, ⟨61, 3, r.from_.map sourceT⟩), (1004, ⟨64, 4, (r.to_.take k).map targetT⟩)]⟩
def D3 (r : Pl.Rule) (k : Nat) : St := ⟨[(1, .bp 1 0), (2, .bp 2 0), (3, .bp 3 0), (8, .t (.v (.int .i64 (k : Int))))], [(1, rcells r), (2, [nil0, nil0, nil0]), (3, [.own 1003 (r.from_.map sourceT).length, .own 1004 (r.to_.map targetT).length, .own 1005 ((r.when_.take k).map whenT).length])], [(1003, ⟨61, 3, r.from_.map sourceT⟩), (1004, ⟨64, 4, r.to_.map targetT⟩), (1005, ⟨66, 2, (r.when_.take k).map whenT⟩)]⟩
set_option maxRecDepth 100000 in
set_option maxHeartbeats 4000000 in
theorem copyRuleL (r : Pl.Rule) (hf : FewR r) : LCalls Tryz.prog 25 [.t (.agg (ruleT r))] [] [] (.ag [.own 1003 (r.from_.map sourceT).length, .own 1004 (r.to_.map targetT).length, .own 1005 (r.when_.map whenT).length]) [] [(1003, ⟨61, 3, r.from_.map sourceT⟩), (1004, ⟨64, 4, r.to_.map targetT⟩), (1005, ⟨66, 2, r.when_.map whenT⟩)] := by
  have h1 := hf.f
  have h2 := hf.t
  have h3 := hf.w
  have hm1 : (r.from_.map sourceT).length = r.from_.length := List.length_map _
  have hm2 : (r.to_.map targetT).length = r.to_.length := List.length_map _
  have hm3 : (r.when_.map whenT).length = r.when_.length := List.length_map _
  refine lcalls_of Tryz.func25 rfl rfl Tryz.ntmps25 rfl ?_
  repeat' (first | (refine rg 0 ?_; refine sbx ?_; refine sal str27 ?_; refine oN ?_) | (refine rg 1 ?_; refine sal str27 ?_; refine oN ?_) | (refine rg 2 ?_; refine oAs ?_; refine oN ?_) | refine gc ?_ | refine ct ?_ | refine cf ?_ | refine swp_cond rfl (fun hc => ?_) (fun hc => ?_) | refine rq rfl (.cell rfl rfl (tyT rfl) (vc (vc (vc .nil))) rfl .nil) ?_)
  refine swp_for (D1 r) (fun _ => True) r.from_.length ?_ trivial ?_
  · refine Weak.trans (weak_own0_bx (q := 1003) 61 3 (i := 3) (j := 0) rfl rfl rfl) ?_
    exact (weak_sub (.cons rfl rfl rfl (.cons rfl rfl rfl (.cons rfl rfl rfl (.cons rfl rfl rfl .nil)))) (.cons rfl rfl rfl (.cons rfl rfl rfl (.cons rfl rfl rfl .nil))) (.cons rfl rfl .nil))
  intro k hk _
  unfold D1
  by_cases hlt : k < r.from_.length
  · have hsn := map_take_succ sourceT hlt
    obtain ⟨b0, b1, b2⟩ := hf.fs _ (List.getElem_mem hlt)
    have e0 := few_b (f := termT) 24 b0 (by omega)
    have e1 := few_b (f := termT) 24 b1 (by omega)
    have e2 := few_b (f := cidrT) 16 b2 (by omega)
    have m0 := few_m (f := termT) b0
    have m1 := few_m (f := termT) b1
    have m2 := few_m (f := cidrT) b2
    repeat' (first | refine for_next hlt (weak_sub (.cons rfl (by rfl) rfl (.cons rfl (by rfl) rfl (.cons rfl (by rfl) rfl (.cons rfl (by rfl) rfl .nil)))) (.cons rfl (by rfl) rfl (.cons rfl (by rfl) rfl (.cons rfl (by first | rfl | (rw [hsn]; rfl)) rfl .nil))) (.cons rfl (by first | rfl | (rw [hsn]; rfl)) .nil)) trivial | (refine rg 3 ?_; refine oMv ?_; refine oFb ?_; refine oLb ?_; refine sp (pln rfl (tyS rfl)) ?_; refine oCm ?_; refine oN ?_) | (refine rg 5 ?_; refine oFb ?_; refine oLb ?_; refine oMv ?_; refine sp (pix rfl (tyS rfl)) ?_; (first | refine sp (po_load_bx_agg rfl rfl (tyT rfl) rfl (vc (vc (vc .nil))) rfl) ?_ | refine sp (po_load_agg rfl rfl (tyT rfl) rfl rfl) ?_); refine sal str61 ?_; refine oS ?_; refine oN ?_) | (refine swp_draw (id := 6) 16 mixed (by kernel_rfl) (by kernel_rfl) ?_; refine dFb ?_; refine dLb ?_; refine dp (po_buildSlice0 rfl (tyE rfl)) ?_; refine dFb ?_; refine dLb ?_; refine dp (pan rfl (tyE rfl)) ?_; refine dp (po_buildSlice0 rfl (tyE rfl)) ?_; refine dFb ?_; refine dLb ?_; refine dp (pan rfl (tyE rfl)) ?_; refine dp (po_buildSlice0 rfl (tyE rfl)) ?_; refine dFb ?_; refine dLb ?_; refine dp (pan rfl (tyE rfl)) ?_; refine dp (po_buildS str61 rfl (pc (pc (pc .nil))) rfl) ?_; refine dp (po_buildSlice rfl (tyE rfl) (dc (.nil _)) rfl rfl rfl) ?_; refine dN ?_; refine sap rfl (tyE rfl) ?_; refine oFb ?_; refine oS ?_; refine oN ?_) | (refine rg 4 ?_; refine oMv ?_; refine sp (xinc rfl) ?_; refine oAs ?_; refine oN ?_) | refine gc ?_ | refine ct ?_)
  · obtain rfl : k = r.from_.length := by omega
    repeat' (first | (refine rg 3 ?_; refine oMv ?_; refine oFb ?_; refine oLb ?_; refine sp (pln rfl (tyS rfl)) ?_; refine oCm ?_; refine oN ?_) | (refine rg 7 ?_; refine oAs ?_; refine oN ?_) | refine gc ?_ | refine ct ?_ | refine cf ?_ | refine swp_cond rfl (fun hc => ?_) (fun hc => ?_) | refine rq rfl (.cell rfl rfl (tyT rfl) (vc (vc (vc .nil))) rfl .nil) ?_)
    refine swp_for (D2 r) (fun _ => True) r.to_.length ?_ trivial ?_
    · refine Weak.trans (weak_own0_bx (q := 1004) 64 4 (i := 3) (j := 1) rfl rfl rfl) ?_
      rw [List.take_length]
      exact (weak_sub (.cons rfl rfl rfl (.cons rfl rfl rfl (.cons rfl rfl rfl (.cons rfl rfl rfl .nil)))) (.cons rfl rfl rfl (.cons rfl rfl rfl (.cons rfl rfl rfl .nil))) (.cons rfl rfl (.cons rfl rfl .nil)))
    intro k hk _
    unfold D2
    by_cases hlt : k < r.to_.length
    · have hsn := map_take_succ targetT hlt
      obtain ⟨b0, b1, b2, b3⟩ := hf.ts _ (List.getElem_mem hlt)
      have e0 := few_b (f := intT) 8 b0 (by omega)
      have e1 := few_b (f := termT) 24 b1 (by omega)
      have e2 := few_b (f := termT) 24 b2 (by omega)
      have e3 := few_b (f := termT) 24 b3 (by omega)
      have m0 := few_m (f := intT) b0
      have m1 := few_m (f := termT) b1
      have m2 := few_m (f := termT) b2
      have m3 := few_m (f := termT) b3
      repeat' (first | refine for_next hlt (weak_sub (.cons rfl (by rfl) rfl (.cons rfl (by rfl) rfl (.cons rfl (by rfl) rfl (.cons rfl (by rfl) rfl .nil)))) (.cons rfl (by rfl) rfl (.cons rfl (by rfl) rfl (.cons rfl (by first | rfl | (rw [hsn]; rfl)) rfl .nil))) (.cons rfl (by rfl) (.cons rfl (by first | rfl | (rw [hsn]; rfl)) .nil))) trivial | (refine rg 8 ?_; refine oMv ?_; refine oFb ?_; refine oLb ?_; refine sp (pln rfl (tyS rfl)) ?_; refine oCm ?_; refine oN ?_) | (refine rg 10 ?_; refine oFb ?_; refine oLb ?_; refine oMv ?_; refine sp (pix rfl (tyS rfl)) ?_; (first | refine sp (po_load_bx_agg rfl rfl (tyT rfl) rfl (vc (vc (vc (vc .nil)))) rfl) ?_ | refine sp (po_load_agg rfl rfl (tyT rfl) rfl rfl) ?_); refine sal str64 ?_; refine oS ?_; refine oN ?_) | (refine swp_draw (id := 11) 20 mixed (by kernel_rfl) (by kernel_rfl) ?_; refine dFb ?_; refine dLb ?_; refine dp (po_buildSlice0 rfl (tyE rfl)) ?_; refine dFb ?_; refine dLb ?_; refine dp (pan rfl (tyE rfl)) ?_; refine dp (po_buildSlice0 rfl (tyE rfl)) ?_; refine dFb ?_; refine dLb ?_; refine dp (pan rfl (tyE rfl)) ?_; refine dp (po_buildSlice0 rfl (tyE rfl)) ?_; refine dFb ?_; refine dLb ?_; refine dp (pan rfl (tyE rfl)) ?_; refine dp (po_buildSlice0 rfl (tyE rfl)) ?_; refine dFb ?_; refine dLb ?_; refine dp (pan rfl (tyE rfl)) ?_; refine dp (po_buildS str64 rfl (pc (pc (pc (pc .nil)))) rfl) ?_; refine dp (po_buildSlice rfl (tyE rfl) (dc (.nil _)) rfl rfl rfl) ?_; refine dN ?_; refine sap rfl (tyE rfl) ?_; refine oFb ?_; refine oS ?_; refine oN ?_) | (refine rg 9 ?_; refine oMv ?_; refine sp (xinc rfl) ?_; refine oAs ?_; refine oN ?_) | refine gc ?_ | refine ct ?_)
    · obtain rfl : k = r.to_.length := by omega
      repeat' (first | (refine rg 8 ?_; refine oMv ?_; refine oFb ?_; refine oLb ?_; refine sp (pln rfl (tyS rfl)) ?_; refine oCm ?_; refine oN ?_) | (refine rg 12 ?_; refine oAs ?_; refine oN ?_) | refine gc ?_ | refine ct ?_ | refine cf ?_ | refine swp_cond rfl (fun hc => ?_) (fun hc => ?_) | refine rq rfl (.cell rfl rfl (tyT rfl) (vc (vc (vc .nil))) rfl .nil) ?_)
      refine swp_for (D3 r) (fun _ => True) r.when_.length ?_ trivial ?_
      · refine Weak.trans (weak_own0_bx (q := 1005) 66 2 (i := 3) (j := 2) rfl rfl rfl) ?_
        rw [List.take_length]
        exact (weak_sub (.cons rfl rfl rfl (.cons rfl rfl rfl (.cons rfl rfl rfl (.cons rfl rfl rfl .nil)))) (.cons rfl rfl rfl (.cons rfl rfl rfl (.cons rfl rfl rfl .nil))) (.cons rfl rfl (.cons rfl rfl (.cons rfl rfl .nil))))
      intro k hk _
      unfold D3
      by_cases hlt : k < r.when_.length
      · have hsn := map_take_succ whenT hlt
        have b0 := hf.ws _ (List.getElem_mem hlt)
        have e0 := few_b (f := termT) 24 b0 (by omega)
        have m0 := few_m (f := termT) b0
        repeat' (first | refine for_next hlt (weak_sub (.cons rfl (by rfl) rfl (.cons rfl (by rfl) rfl (.cons rfl (by rfl) rfl (.cons rfl (by rfl) rfl .nil)))) (.cons rfl (by rfl) rfl (.cons rfl (by rfl) rfl (.cons rfl (by first | rfl | (rw [hsn]; rfl)) rfl .nil))) (.cons rfl (by rfl) (.cons rfl (by rfl) (.cons rfl (by first | rfl | (rw [hsn]; rfl)) .nil)))) trivial | (refine rg 13 ?_; refine oMv ?_; refine oFb ?_; refine oLb ?_; refine sp (pln rfl (tyS rfl)) ?_; refine oCm ?_; refine oN ?_) | (refine swp_draw (id := 15) 18 mixed (by kernel_rfl) (by kernel_rfl) ?_; refine dFb ?_; refine dLb ?_; refine dFb ?_; refine dLb ?_; refine dMv ?_; refine dp (pix rfl (tyS rfl)) ?_; (first | refine dFb ?_ | refine dFd ?_); (first | refine dLb ?_ | refine dLd ?_); refine dp (po_buildSlice0 rfl (tyE rfl)) ?_; refine dFb ?_; refine dLb ?_; refine dMv ?_; refine dp (pix rfl (tyS rfl)) ?_; (first | refine dFb ?_ | refine dFd ?_); (first | refine dLb ?_ | refine dLd ?_); refine dp (pan rfl (tyE rfl)) ?_; refine dp (po_buildS str66 rfl (pc (pc .nil)) rfl) ?_; refine dp (po_buildSlice rfl (tyE rfl) (dc (.nil _)) rfl rfl rfl) ?_; refine dN ?_; refine sap rfl (tyE rfl) ?_; refine oFb ?_; refine oS ?_; refine oN ?_) | (refine rg 14 ?_; refine oMv ?_; refine sp (xinc rfl) ?_; refine oAs ?_; refine oN ?_) | refine gc ?_ | refine ct ?_)
      · obtain rfl : k = r.when_.length := by omega
        rw [List.take_length]
        repeat' (first | (refine rg 13 ?_; refine oMv ?_; refine oFb ?_; refine oLb ?_; (first | refine sp (po_len_own rfl rfl (tyS rfl)) ?_ | refine sp (pln rfl (tyS rfl)) ?_); refine oCm ?_; refine oN ?_) | (refine rg 16 ?_; (first | refine sp (po_load_bx_agg rfl rfl (tyT rfl) rfl (vc (vc (vc .nil))) rfl) ?_ | refine sp (po_load_agg rfl rfl (tyT rfl) rfl rfl) ?_ | refine sp (lda rfl) ?_ | refine sp (po_load_bx_ag rfl rfl (tyT rfl) rfl rfl rfl rfl) ?_); refine oS ?_; refine oN ?_) | refine gc ?_ | refine ct ?_ | refine cf ?_ | refine swp_cond rfl (fun hc => ?_) (fun hc => ?_) | exact retl1 (by exact .inr rfl) rfl (.cell rfl rfl (tyT rfl) rfl rfl .nil) rfl .nil (.cons rfl (by rfl) (.cons rfl (by rfl) (.cons rfl (by rfl) .nil))))
end Go.Proofs.YtnclifgiakmmoaaGreat.Pol

/- The document's fourth half of a rule. -/
namespace Go.Proofs.YtnclifgiakmmoaaGreat.Pol
set_option linter.unusedVariables false
set_option linter.unusedSimpArgs false
open Go.RowKit Mem Sim Opn
/-- targets, the first k of them halved -/
def halfT (l : List Pl.Target) (k : Nat) : List Pl.Target := (l.take k).map Pl.fourT ++ l.drop k
theorem halfT_len (l : List Pl.Target) (k : Nat) : (halfT l k).length = l.length := by unfold halfT; simp; omega
theorem halfT_at {l : List Pl.Target} {k : Nat} (h : k < l.length) : (halfT l k)[k]? = some l[k] := by
  unfold halfT
  rw [List.getElem?_append_right (by simp; omega), List.getElem?_drop]
  simp [Nat.min_eq_left (Nat.le_of_lt h), h]
theorem halfT_set {l : List Pl.Target} {k : Nat} (h : k < l.length) : (halfT l k).set k (Pl.fourT l[k]) = halfT l (k + 1) := by
  unfold halfT
  have hl : ((l.take k).map Pl.fourT).length = k := by simp; omega
  rw [List.set_append_right _ _ (by omega), hl, Nat.sub_self, List.take_succ_eq_append_getElem h, List.map_append, List.append_assoc]
  congr 1
  rw [List.drop_eq_getElem_cons h]
  rfl
theorem halfT_full (l : List Pl.Target) : halfT l l.length = l.map Pl.fourT := by unfold halfT; simp
theorem set_at {α : Type} {l : List α} {k : Nat} {x : α} (h : k < l.length) : (l.set k x)[k]? = some x := by simp [h]
def F1 (r : Pl.Rule) (k : Nat) : St := ⟨[(2, .bp 2 0), (3, .bp 3 0), (4, .t (.v (.int .i64 (k : Int))))], [(2, [nil0, nil0, nil0]), (3, [.own 1003 (r.from_.map sourceT).length, .own 1004 (r.to_.map targetT).length, nil0])], [(1003, ⟨61, 3, r.from_.map sourceT⟩), (1004, ⟨64, 4, (halfT r.to_ k).map targetT⟩)]⟩
set_option maxRecDepth 100000 in
set_option maxHeartbeats 2000000 in
theorem fourR_ (r : Pl.Rule) (hf : FewR r) : PCalls Tryz.prog 15 [.agg (ruleT r)] (.agg (ruleT (Pl.four r))) := by
  have c1 := copyRuleL r hf
  have hm2 : (r.to_.map targetT).length = r.to_.length := List.length_map _
  have h2 := hf.t
  refine pcalls_of Tryz.func15 rfl rfl Tryz.ntmps15 rfl ?_
  repeat' (first | (refine rg 0 ?_; refine sbx ?_; refine sal str27 ?_; refine oN ?_) | (refine rg 1 ?_; (refine sp (po_load_bx_agg rfl rfl (tyT rfl) rfl (vc (vc (vc .nil))) rfl) ?_); refine sops_lcall (c1) (fun i => i) (fun i => i) (fun _ => false) (.free rfl rfl) rfl rfl rfl (by ((repeat' (first | exact .nil | refine .cons rfl rfl rfl ?_)) <;> fail)) .nil .nil rfl rfl (fun _ h => Bool.noConfusion h) ?_; refine sal str27 ?_; refine oS ?_; refine oN ?_) | (refine rg 2 ?_; refine oFb ?_; refine oS ?_; refine oN ?_) | (refine rg 3 ?_; refine oAs ?_; refine oN ?_) | refine gc ?_ | refine ct ?_ | refine cf ?_ | refine swp_cond rfl (fun hc => ?_) (fun hc => ?_) | refine rq rfl (.cell rfl rfl (tyT rfl) (vc (vc (vc .nil))) rfl .nil) ?_)
  refine swp_for (F1 r) (fun _ => True) r.to_.length ?_ trivial ?_
  · exact (weak_sub (.cons rfl rfl rfl (.cons rfl rfl rfl (.cons rfl rfl rfl .nil))) (.cons rfl rfl rfl (.cons rfl rfl rfl .nil)) (.cons rfl rfl (.cons rfl rfl .nil)))
  intro k hk _
  unfold F1
  by_cases hlt : k < r.to_.length
  · have hlen := halfT_len r.to_ k
    have hlen2 : (r.to_.map targetT).length = ((halfT r.to_ k).map targetT).length := by simp [hlen]
    have hk1 : k < ((halfT r.to_ k).map targetT).length := by omega
    have hrow : ((halfT r.to_ k).map targetT)[k]? = some (targetT r.to_[k]) := by rw [List.getElem?_map, halfT_at hlt]; rfl
    repeat' (first | refine for_next hlt (weak_sub (.cons rfl (by rfl) rfl (.cons rfl (by rfl) rfl (.cons rfl (by rfl) rfl .nil))) (.cons rfl (by rfl) rfl (.cons rfl (by rfl) rfl .nil)) (.cons rfl (by rfl) (.cons rfl (by first | rfl | ((simp only [List.set_set]; rw [← halfT_set hlt, List.map_set]; rfl))) .nil))) trivial | (refine rg 4 ?_; refine oMv ?_; refine oFb ?_; refine oLb ?_; refine sp (po_len_own rfl rfl (tyS rfl)) ?_; refine oCm ?_; refine oN ?_) | (refine rg 6 ?_; refine oFb ?_; refine oLb ?_; refine oMv ?_; refine sp (ixo rfl) ?_; (first | refine oFb ?_ | refine oFd ?_ | refine sp (fdo rfl) ?_); refine sops_store_own (by rfl) (.free rfl rfl) rfl rfl rfl rfl (by assumption) rfl (.nil 2) rfl rfl (tyT rfl) rfl (by exact hrow) rfl ?_; refine oN ?_) | (refine rg 7 ?_; refine oFb ?_; refine oLb ?_; refine oMv ?_; refine sp (ixo rfl) ?_; (first | refine oFb ?_ | refine oFd ?_ | refine sp (fdo rfl) ?_); refine sops_store_own (by rfl) (.free rfl rfl) rfl rfl rfl rfl (by first | assumption | (simp; omega)) rfl (.nil 2) rfl rfl (tyT rfl) rfl (by first | exact hrow | exact set_at hk1) rfl ?_; refine oN ?_) | (refine rg 8 ?_; refine oFb ?_; refine oLb ?_; refine oMv ?_; refine sp (ixo rfl) ?_; (first | refine oFb ?_ | refine oFd ?_ | refine sp (fdo rfl) ?_); refine sops_store_own (by rfl) (.free rfl rfl) rfl rfl rfl rfl (by first | assumption | (simp; omega)) rfl (.nil 2) rfl rfl (tyT rfl) rfl (by first | exact hrow | exact set_at hk1 | exact set_at (by simpa using hk1)) rfl ?_; refine oN ?_) | (refine rg 5 ?_; refine oMv ?_; refine sp (xinc rfl) ?_; refine oAs ?_; refine oN ?_) | refine gc ?_ | refine ct ?_)
  · obtain rfl : k = r.to_.length := by omega
    rw [halfT_full]
    have h5 : (r.to_.map targetT).length = ((Pl.four r).to_.map targetT).length := by show _ = ((r.to_.map Pl.fourT).map targetT).length; simp
    have h6 : (r.to_.map targetT).length = ((r.to_.map Pl.fourT).map targetT).length := by simp
    repeat' (first | refine then_go ?_ | refine swp_seq ?_ | refine swp_ret_weak (Weak.trans (weak_show 1003 103 rfl rfl rfl rfl) (weak_show 1004 104 rfl rfl rfl rfl)) ?_ | (refine rg 4 ?_; refine oMv ?_; refine oFb ?_; refine oLb ?_; refine sp (po_len_own rfl rfl (tyS rfl)) ?_; refine oCm ?_; refine oN ?_) | (refine rg 9 ?_; (first | refine sp (po_load_bx_agg rfl rfl (tyT rfl) rfl (vc (vc (vc .nil))) rfl) ?_ | refine sp (po_load_agg rfl rfl (tyT rfl) rfl rfl) ?_ | refine sp (lda rfl) ?_ | refine sp (po_load_bx_ag rfl rfl (tyT rfl) rfl rfl rfl rfl) ?_); refine oS ?_; refine oN ?_) | refine swp_ret ?_ | refine swp_skip ?_ | refine swp_block ?_ | refine swp_exit ?_ | refine block_go ?_ | refine block_exit ?_ | refine block_far rfl ?_ | refine block_ret ?_ | refine then_ret ?_ | refine then_exit ?_ | refine for_ret ?_ | refine for_exit ?_ | refine ct ?_ | refine cf ?_ | refine swp_cond rfl (fun hc => ?_) (fun hc => ?_) | exact rq1 rfl (.cell rfl rfl (tyT rfl) (vc (vc (vc .nil))) rfl .nil))
end Go.Proofs.YtnclifgiakmmoaaGreat.Pol

/- The document's answer for policies: copies. -/
namespace Go.Proofs.YtnclifgiakmmoaaGreat.Pol
set_option linter.unusedVariables false
set_option linter.unusedSimpArgs false
open Go.RowKit Mem Sim Opn
def C1 (r : Pl.Rule) (k : Nat) : St := ⟨[(1, .bp 1 0), (2, .bp 2 0), (3, .bp 3 0), (4, .t (.v (.int .i64 (k : Int))))], [(1, rcells r), (2, [nil0, nil0, nil0]), (3, [.own 103 ((r.from_.take k).map sourceT).length, nil0, nil0])], [(103, ⟨61, 3, (r.from_.take k).map sourceT⟩)]⟩
def C2 (r : Pl.Rule) (k : Nat) : St := ⟨[(1, .bp 1 0), (2, .bp 2 0), (3, .bp 3 0), (6, .t (.v (.int .i64 (k : Int))))], [(1, rcells r), (2, [nil0, nil0, nil0]), (3, [.own 103 (r.from_.map sourceT).length, .own 104 ((r.to_.take k).map targetT).length, nil0])], [(103, ⟨61, 3, r.from_.map sourceT⟩), (104, ⟨64, 4, (r.to_.take k).map targetT⟩)]⟩
def C3 (r : Pl.Rule) (k : Nat) : St := ⟨[(1, .bp 1 0), (2, .bp 2 0), (3, .bp 3 0), (8, .t (.v (.int .i64 (k : Int))))], [(1, rcells r), (2, [nil0, nil0, nil0]), (3, [.own 103 (r.from_.map sourceT).length, .own 104 (r.to_.map targetT).length, .own 105 ((r.when_.take k).map whenT).length])], [(103, ⟨61, 3, r.from_.map sourceT⟩), (104, ⟨64, 4, r.to_.map targetT⟩), (105, ⟨66, 2, (r.when_.take k).map whenT⟩)]⟩
set_option maxRecDepth 100000 in
set_option maxHeartbeats 4000000 in
theorem copyRule_ (r : Pl.Rule) (hf : FewR r) : PCalls Tryz.prog 25 [.agg (ruleT r)] (.agg (ruleT r)) := by
  have h1 := hf.f
  have h2 := hf.t
  have h3 := hf.w
  have hm1 : (r.from_.map sourceT).length = r.from_.length := List.length_map _
  have hm2 : (r.to_.map targetT).length = r.to_.length := List.length_map _
  have hm3 : (r.when_.map whenT).length = r.when_.length := List.length_map _
  refine pcalls_of Tryz.func25 rfl rfl Tryz.ntmps25 rfl ?_
  repeat' (first | (refine rg 0 ?_; refine sbx ?_; refine sal str27 ?_; refine oN ?_) | (refine rg 1 ?_; refine sal str27 ?_; refine oN ?_) | (refine rg 2 ?_; refine oAs ?_; refine oN ?_) | refine gc ?_ | refine ct ?_ | refine cf ?_ | refine swp_cond rfl (fun hc => ?_) (fun hc => ?_) | refine rq rfl (.cell rfl rfl (tyT rfl) (vc (vc (vc .nil))) rfl .nil) ?_)
  refine swp_for (C1 r) (fun _ => True) r.from_.length ?_ trivial ?_
  · refine Weak.trans (weak_own0_bx (q := 103) 61 3 (i := 3) (j := 0) rfl rfl rfl) ?_
    exact (weak_sub (.cons rfl rfl rfl (.cons rfl rfl rfl (.cons rfl rfl rfl (.cons rfl rfl rfl .nil)))) (.cons rfl rfl rfl (.cons rfl rfl rfl (.cons rfl rfl rfl .nil))) (.cons rfl rfl .nil))
  intro k hk _
  unfold C1
  by_cases hlt : k < r.from_.length
  · have hsn := map_take_succ sourceT hlt
    obtain ⟨b0, b1, b2⟩ := hf.fs _ (List.getElem_mem hlt)
    have e0 := few_b (f := termT) 24 b0 (by omega)
    have e1 := few_b (f := termT) 24 b1 (by omega)
    have e2 := few_b (f := cidrT) 16 b2 (by omega)
    have m0 := few_m (f := termT) b0
    have m1 := few_m (f := termT) b1
    have m2 := few_m (f := cidrT) b2
    repeat' (first | refine for_next hlt (weak_sub (.cons rfl (by rfl) rfl (.cons rfl (by rfl) rfl (.cons rfl (by rfl) rfl (.cons rfl (by rfl) rfl .nil)))) (.cons rfl (by rfl) rfl (.cons rfl (by rfl) rfl (.cons rfl (by first | rfl | (rw [hsn]; rfl)) rfl .nil))) (.cons rfl (by first | rfl | (rw [hsn]; rfl)) .nil)) trivial | (refine rg 3 ?_; refine oMv ?_; refine oFb ?_; refine oLb ?_; refine sp (pln rfl (tyS rfl)) ?_; refine oCm ?_; refine oN ?_) | (refine rg 5 ?_; refine oFb ?_; refine oLb ?_; refine oMv ?_; refine sp (pix rfl (tyS rfl)) ?_; (first | refine sp (po_load_bx_agg rfl rfl (tyT rfl) rfl (vc (vc (vc .nil))) rfl) ?_ | refine sp (po_load_agg rfl rfl (tyT rfl) rfl rfl) ?_); refine sal str61 ?_; refine oS ?_; refine oN ?_) | (refine swp_draw (id := 6) 16 mixed (by kernel_rfl) (by kernel_rfl) ?_; refine dFb ?_; refine dLb ?_; refine dp (po_buildSlice0 rfl (tyE rfl)) ?_; refine dFb ?_; refine dLb ?_; refine dp (pan rfl (tyE rfl)) ?_; refine dp (po_buildSlice0 rfl (tyE rfl)) ?_; refine dFb ?_; refine dLb ?_; refine dp (pan rfl (tyE rfl)) ?_; refine dp (po_buildSlice0 rfl (tyE rfl)) ?_; refine dFb ?_; refine dLb ?_; refine dp (pan rfl (tyE rfl)) ?_; refine dp (po_buildS str61 rfl (pc (pc (pc .nil))) rfl) ?_; refine dp (po_buildSlice rfl (tyE rfl) (dc (.nil _)) rfl rfl rfl) ?_; refine dN ?_; refine sap rfl (tyE rfl) ?_; refine oFb ?_; refine oS ?_; refine oN ?_) | (refine rg 4 ?_; refine oMv ?_; refine sp (xinc rfl) ?_; refine oAs ?_; refine oN ?_) | refine gc ?_ | refine ct ?_)
  · obtain rfl : k = r.from_.length := by omega
    repeat' (first | (refine rg 3 ?_; refine oMv ?_; refine oFb ?_; refine oLb ?_; refine sp (pln rfl (tyS rfl)) ?_; refine oCm ?_; refine oN ?_) | (refine rg 7 ?_; refine oAs ?_; refine oN ?_) | refine gc ?_ | refine ct ?_ | refine cf ?_ | refine swp_cond rfl (fun hc => ?_) (fun hc => ?_) | refine rq rfl (.cell rfl rfl (tyT rfl) (vc (vc (vc .nil))) rfl .nil) ?_)
    refine swp_for (C2 r) (fun _ => True) r.to_.length ?_ trivial ?_
    · refine Weak.trans (weak_own0_bx (q := 104) 64 4 (i := 3) (j := 1) rfl rfl rfl) ?_
      rw [List.take_length]
      exact (weak_sub (.cons rfl rfl rfl (.cons rfl rfl rfl (.cons rfl rfl rfl (.cons rfl rfl rfl .nil)))) (.cons rfl rfl rfl (.cons rfl rfl rfl (.cons rfl rfl rfl .nil))) (.cons rfl rfl (.cons rfl rfl .nil)))
    intro k hk _
    unfold C2
    by_cases hlt : k < r.to_.length
    · have hsn := map_take_succ targetT hlt
      obtain ⟨b0, b1, b2, b3⟩ := hf.ts _ (List.getElem_mem hlt)
      have e0 := few_b (f := intT) 8 b0 (by omega)
      have e1 := few_b (f := termT) 24 b1 (by omega)
      have e2 := few_b (f := termT) 24 b2 (by omega)
      have e3 := few_b (f := termT) 24 b3 (by omega)
      have m0 := few_m (f := intT) b0
      have m1 := few_m (f := termT) b1
      have m2 := few_m (f := termT) b2
      have m3 := few_m (f := termT) b3
      repeat' (first | refine for_next hlt (weak_sub (.cons rfl (by rfl) rfl (.cons rfl (by rfl) rfl (.cons rfl (by rfl) rfl (.cons rfl (by rfl) rfl .nil)))) (.cons rfl (by rfl) rfl (.cons rfl (by rfl) rfl (.cons rfl (by first | rfl | (rw [hsn]; rfl)) rfl .nil))) (.cons rfl (by rfl) (.cons rfl (by first | rfl | (rw [hsn]; rfl)) .nil))) trivial | (refine rg 8 ?_; refine oMv ?_; refine oFb ?_; refine oLb ?_; refine sp (pln rfl (tyS rfl)) ?_; refine oCm ?_; refine oN ?_) | (refine rg 10 ?_; refine oFb ?_; refine oLb ?_; refine oMv ?_; refine sp (pix rfl (tyS rfl)) ?_; (first | refine sp (po_load_bx_agg rfl rfl (tyT rfl) rfl (vc (vc (vc (vc .nil)))) rfl) ?_ | refine sp (po_load_agg rfl rfl (tyT rfl) rfl rfl) ?_); refine sal str64 ?_; refine oS ?_; refine oN ?_) | (refine swp_draw (id := 11) 20 mixed (by kernel_rfl) (by kernel_rfl) ?_; refine dFb ?_; refine dLb ?_; refine dp (po_buildSlice0 rfl (tyE rfl)) ?_; refine dFb ?_; refine dLb ?_; refine dp (pan rfl (tyE rfl)) ?_; refine dp (po_buildSlice0 rfl (tyE rfl)) ?_; refine dFb ?_; refine dLb ?_; refine dp (pan rfl (tyE rfl)) ?_; refine dp (po_buildSlice0 rfl (tyE rfl)) ?_; refine dFb ?_; refine dLb ?_; refine dp (pan rfl (tyE rfl)) ?_; refine dp (po_buildSlice0 rfl (tyE rfl)) ?_; refine dFb ?_; refine dLb ?_; refine dp (pan rfl (tyE rfl)) ?_; refine dp (po_buildS str64 rfl (pc (pc (pc (pc .nil)))) rfl) ?_; refine dp (po_buildSlice rfl (tyE rfl) (dc (.nil _)) rfl rfl rfl) ?_; refine dN ?_; refine sap rfl (tyE rfl) ?_; refine oFb ?_; refine oS ?_; refine oN ?_) | (refine rg 9 ?_; refine oMv ?_; refine sp (xinc rfl) ?_; refine oAs ?_; refine oN ?_) | refine gc ?_ | refine ct ?_)
    · obtain rfl : k = r.to_.length := by omega
      repeat' (first | (refine rg 8 ?_; refine oMv ?_; refine oFb ?_; refine oLb ?_; refine sp (pln rfl (tyS rfl)) ?_; refine oCm ?_; refine oN ?_) | (refine rg 12 ?_; refine oAs ?_; refine oN ?_) | refine gc ?_ | refine ct ?_ | refine cf ?_ | refine swp_cond rfl (fun hc => ?_) (fun hc => ?_) | refine rq rfl (.cell rfl rfl (tyT rfl) (vc (vc (vc .nil))) rfl .nil) ?_)
      refine swp_for (C3 r) (fun _ => True) r.when_.length ?_ trivial ?_
      · refine Weak.trans (weak_own0_bx (q := 105) 66 2 (i := 3) (j := 2) rfl rfl rfl) ?_
        rw [List.take_length]
        exact (weak_sub (.cons rfl rfl rfl (.cons rfl rfl rfl (.cons rfl rfl rfl (.cons rfl rfl rfl .nil)))) (.cons rfl rfl rfl (.cons rfl rfl rfl (.cons rfl rfl rfl .nil))) (.cons rfl rfl (.cons rfl rfl (.cons rfl rfl .nil))))
      intro k hk _
      unfold C3
      by_cases hlt : k < r.when_.length
      · have hsn := map_take_succ whenT hlt
        have b0 := hf.ws _ (List.getElem_mem hlt)
        have e0 := few_b (f := termT) 24 b0 (by omega)
        have m0 := few_m (f := termT) b0
        repeat' (first | refine for_next hlt (weak_sub (.cons rfl (by rfl) rfl (.cons rfl (by rfl) rfl (.cons rfl (by rfl) rfl (.cons rfl (by rfl) rfl .nil)))) (.cons rfl (by rfl) rfl (.cons rfl (by rfl) rfl (.cons rfl (by first | rfl | (rw [hsn]; rfl)) rfl .nil))) (.cons rfl (by rfl) (.cons rfl (by rfl) (.cons rfl (by first | rfl | (rw [hsn]; rfl)) .nil)))) trivial | (refine rg 13 ?_; refine oMv ?_; refine oFb ?_; refine oLb ?_; refine sp (pln rfl (tyS rfl)) ?_; refine oCm ?_; refine oN ?_) | (refine swp_draw (id := 15) 18 mixed (by kernel_rfl) (by kernel_rfl) ?_; refine dFb ?_; refine dLb ?_; refine dFb ?_; refine dLb ?_; refine dMv ?_; refine dp (pix rfl (tyS rfl)) ?_; (first | refine dFb ?_ | refine dFd ?_); (first | refine dLb ?_ | refine dLd ?_); refine dp (po_buildSlice0 rfl (tyE rfl)) ?_; refine dFb ?_; refine dLb ?_; refine dMv ?_; refine dp (pix rfl (tyS rfl)) ?_; (first | refine dFb ?_ | refine dFd ?_); (first | refine dLb ?_ | refine dLd ?_); refine dp (pan rfl (tyE rfl)) ?_; refine dp (po_buildS str66 rfl (pc (pc .nil)) rfl) ?_; refine dp (po_buildSlice rfl (tyE rfl) (dc (.nil _)) rfl rfl rfl) ?_; refine dN ?_; refine sap rfl (tyE rfl) ?_; refine oFb ?_; refine oS ?_; refine oN ?_) | (refine rg 14 ?_; refine oMv ?_; refine sp (xinc rfl) ?_; refine oAs ?_; refine oN ?_) | refine gc ?_ | refine ct ?_)
      · obtain rfl : k = r.when_.length := by omega
        rw [List.take_length]
        repeat' (first | (refine rg 13 ?_; refine oMv ?_; refine oFb ?_; refine oLb ?_; refine sp (pln rfl (tyS rfl)) ?_; refine oCm ?_; refine oN ?_) | (refine rg 16 ?_; (refine sp (po_load_bx_agg rfl rfl (tyT rfl) rfl (vc (vc (vc .nil))) rfl) ?_); refine oS ?_; refine oN ?_) | refine gc ?_ | refine ct ?_ | refine cf ?_ | refine swp_cond rfl (fun hc => ?_) (fun hc => ?_) | refine rq rfl (.cell rfl rfl (tyT rfl) (vc (vc (vc .nil))) rfl .nil) ?_)
        rfl
end Go.Proofs.YtnclifgiakmmoaaGreat.Pol
