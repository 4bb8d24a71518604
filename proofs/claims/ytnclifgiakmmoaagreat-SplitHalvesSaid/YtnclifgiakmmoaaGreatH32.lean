/- Merged by bundles.py: SimSq6, SimRefA, SimSq7, OpenReq. -/
import Derived.Test.YtnclifgiakmmoaaGreatH31
import Derived.Test.YtnclifgiakmmoaaGreatH25
import Derived.Test.YtnclifgiakmmoaaGreatH15
import Derived.Test.YtnclifgiakmmoaaGreatH16
import Derived.Test.YtnclifgiakmmoaaGreatH27
import Derived.Test.YtnclifgiakmmoaaGreatH12
/- gatepostlaw14.spoil: what private memory holds is written over. (Printed by mk_sq6.py.) -/
namespace Go.Proofs.YtnclifgiakmmoaaGreat.Pol
set_option linter.unusedVariables false
set_option linter.unusedSimpArgs false
open Go.RowKit Mem Sim Opn
def termJ (_ : Pl.Term) : List J := [.int .i64, .any]
def intJ (_ : Int) : List J := [.int .i64]
def sourceJ (x : Pl.Source) : List J := [.sl 2 (x.names.map termJ), .any, .any]
def targetJ (x : Pl.Target) : List J := [.sl 1 (x.ports.map intJ), .any, .any, .any]
def ruleJ (x : Pl.Rule) : List J := [.sl 3 (x.from_.map sourceJ), .sl 4 (x.to_.map targetJ), .any]
def polJ (x : Pl.Policy) : List J := [.any, .any, .any, .any, .sl 3 (x.rules.map ruleJ)]
theorem jrows {α : Type} {n sz : Nat} {f : α → List T} {g : α → List J} {xs : List α} (hs : ∀ x, (g x).length = sz) (h : ∀ x (j : Nat) t t', (f x)[j]? = some t → (g x)[j]? = some t' → JOf n t t') : JOf n (.fr n (.sl sz (xs.map f))) (.sl sz (xs.map g)) := by
  refine .sl (by simp) (fun r hr => ?_) fun k j r r' t t' h1 h2 h3 h4 => ?_
  · obtain ⟨x, _, rfl⟩ := List.mem_map.1 hr; exact hs x
  · rw [List.getElem?_map] at h1 h2
    cases hx : xs[k]? with
    | none => rw [hx] at h1; cases h1
    | some x => rw [hx] at h1 h2; injection h1 with h1; injection h2 with h2; subst h1 h2; exact h x j t t' h3 h4
inductive JOfL (n : Nat) : List T → List J → Prop
  | nil : JOfL n [] []
  | cons {t : T} {j : J} {l : List T} {l' : List J} (h : JOf n t j) (hl : JOfL n l l') : JOfL n (t :: l) (j :: l')
theorem JOfL.at {n : Nat} {l : List T} {l' : List J} (h : JOfL n l l') : ∀ (j : Nat) t t', l[j]? = some t → l'[j]? = some t' → JOf n t t' := by
  induction h with
  | nil => intro j t t' h; simp at h
  | cons h _ ih =>
    intro j t t' h1 h2
    cases j with
    | zero => simp at h1 h2; subst h1 h2; exact h
    | succ j => exact ih j t t' (by simpa using h1) (by simpa using h2)
theorem source_j (n : Nat) (x : Pl.Source) : JOfL n (sourceM n x) (sourceJ x) := .cons (jrows (fun _ => rfl) fun x => JOfL.at (.cons (.int _ _) (.cons (.any _) .nil))) (.cons (.any _) (.cons (.any _) .nil))
theorem target_j (n : Nat) (x : Pl.Target) : JOfL n (targetM n x) (targetJ x) := .cons (jrows (fun _ => rfl) fun x => JOfL.at (.cons (.int _ _) .nil)) (.cons (.any _) (.cons (.any _) (.cons (.any _) .nil)))
theorem rule_j (n : Nat) (x : Pl.Rule) : JOfL n (ruleM n x) (ruleJ x) := .cons (jrows (fun _ => rfl) fun x => (source_j n x).at) (.cons (jrows (fun _ => rfl) fun x => (target_j n x).at) (.cons (.any _) .nil))
theorem pol_j (n : Nat) (x : Pl.Policy) : JOfL n (polM n x) (polJ x) := .cons (.any _) (.cons (.any _) (.cons (.any _) (.cons (.any _) (.cons (jrows (fun _ => rfl) fun x => (rule_j n x).at) .nil))))
theorem pols_j (n : Nat) (l : List Pl.Policy) : JOf n (.fr n (.sl 5 (l.map (polM n)))) (.sl 5 (l.map polJ)) := jrows (fun _ => rfl) fun x => (pol_j n x).at
/-- a policy in private memory of which the shape is known -/
abbrev polA (i n : Nat) (x : Pl.Policy) : List A := [.pr i (.j n .any), .pr i (.j n .any), .pr i (.j n .any), .pr i (.j n .any), .pr i (.j n (.sl 3 (x.rules.map ruleJ)))]
def Z1 (n : Nat) (x : Pl.Policy) (i : Nat) : St := ⟨[(1, .bp 1 0), (2, .t (.v (.int .i64 (i : Int))))], [(3000, [.rs (JunkR n)]), (1, polA 3000 n x)], []⟩
def Z2 (n : Nat) (x : Pl.Policy) (i k : Nat) : St := ⟨[(1, .bp 1 0), (2, .t (.v (.int .i64 (i : Int)))), (3, .t (.v (.int .i64 (k : Int))))], [(3000, [.rs (JunkR n)]), (1, polA 3000 n x)], []⟩
def Z3 (n : Nat) (x : Pl.Policy) (i k j : Nat) : St := ⟨[(1, .bp 1 0), (2, .t (.v (.int .i64 (i : Int)))), (3, .t (.v (.int .i64 (k : Int)))), (4, .t (.v (.int .i64 (j : Int))))], [(3000, [.rs (JunkR n)]), (1, polA 3000 n x)], []⟩
def Z4 (n : Nat) (x : Pl.Policy) (i k : Nat) : St := ⟨[(1, .bp 1 0), (2, .t (.v (.int .i64 (i : Int)))), (5, .t (.v (.int .i64 (k : Int))))], [(3000, [.rs (JunkR n)]), (1, polA 3000 n x)], []⟩
def Z5 (n : Nat) (x : Pl.Policy) (i k j : Nat) : St := ⟨[(1, .bp 1 0), (2, .t (.v (.int .i64 (i : Int)))), (5, .t (.v (.int .i64 (k : Int)))), (6, .t (.v (.int .i64 (j : Int))))], [(3000, [.rs (JunkR n)]), (1, polA 3000 n x)], []⟩
set_option maxRecDepth 100000 in
set_option maxHeartbeats 4000000 in
theorem spoil_ (n : Nat) (x : Pl.Policy) (hx : FewP x) : LCalls Tryz.prog 17 [.ag (polA 3000 n x)] [(3000, [.rs (JunkR n)])] [] (.tu []) [(3000, [.rs (JunkR n)])] [] := by
  have hm1 : (x.rules.map ruleJ).length = x.rules.length := List.length_map _
  have n1 := hx.n
  refine lcalls_of Tryz.func17 rfl rfl Tryz.ntmps17 rfl ?_
  repeat' (first | (refine rg 0 ?_; refine sbx ?_; refine oN ?_) | (refine rg 1 ?_; refine oAs ?_; refine oN ?_) | refine gc ?_ | refine ct ?_ | refine cf ?_ | refine swp_cond rfl (fun hc => ?_) (fun hc => ?_) | refine rq rfl .nil ?_)
  refine swp_for (Z1 n x) (fun _ => True) x.rules.length (weak_sub (.cons rfl rfl rfl (.cons rfl rfl rfl .nil)) (.cons rfl rfl rfl (.cons rfl rfl rfl .nil)) .nil) trivial ?_
  intro i hi _
  unfold Z1
  by_cases hil : i < x.rules.length
  case neg =>
    repeat' (first | (refine rg 2 ?_; refine oMv ?_; (first | refine sp (po_field_jk rfl rfl (tyF rfl)) ?_ | refine oFb ?_); (first | refine sp (po_load_jk rfl rfl rfl (tyT rfl) rfl) ?_ | refine oLb ?_); refine sp (po_len_jk rfl rfl (tyS rfl)) ?_; refine oCm ?_; refine oN ?_) | refine gc ?_ | refine ct ?_ | refine cf ?_ | refine swp_cond rfl (fun hc => ?_) (fun hc => ?_) | refine retl (by first | exact .inr rfl | exact .inl rfl) rfl .nil ?_ rfl (.cons rfl (by rfl) rfl .nil) .nil)
    all_goals rfl
  obtain ⟨r, hr⟩ : ∃ r, x.rules[i] = r := ⟨_, rfl⟩
  have hfr : FewR r := hr ▸ hx.r _ (List.getElem_mem hil)
  have j1 : (x.rules.map ruleJ)[i]? = some (ruleJ r) := by rw [map_at_some hil, hr]
  have hm2 : (r.from_.map sourceJ).length = r.from_.length := List.length_map _
  have hm3 : (r.to_.map targetJ).length = r.to_.length := List.length_map _
  have n2 := hfr.f
  have n3 := hfr.t
  repeat' (first | (refine rg 2 ?_; refine oMv ?_; (first | refine sp (po_field_jk rfl rfl (tyF rfl)) ?_ | refine oFb ?_); (first | refine sp (po_load_jk rfl rfl rfl (tyT rfl) rfl) ?_ | refine oLb ?_); refine sp (po_len_jk rfl rfl (tyS rfl)) ?_; refine oCm ?_; refine oN ?_) | (refine rg 4 ?_; refine oAs ?_; refine oN ?_) | refine gc ?_ | refine ct ?_ | refine cf ?_ | refine swp_cond rfl (fun hc => ?_) (fun hc => ?_) | refine rq rfl .nil ?_)
  refine swp_for (Z2 n x i) (fun _ => True) r.from_.length (weak_sub (.cons rfl rfl rfl (.cons rfl rfl rfl (.cons rfl rfl rfl .nil))) (.cons rfl rfl rfl (.cons rfl rfl rfl .nil)) .nil) trivial ?_
  intro k hk _
  unfold Z2
  by_cases hkl : k < r.from_.length
  case pos =>
    obtain ⟨s, hs⟩ : ∃ s, r.from_[k] = s := ⟨_, rfl⟩
    have hfs := hs ▸ hfr.fs _ (List.getElem_mem hkl)
    have n4 := hfs.1
    have j2 : (r.from_.map sourceJ)[k]? = some (sourceJ s) := by rw [map_at_some hkl, hs]
    have hm4 : (s.names.map termJ).length = s.names.length := List.length_map _
    repeat' (first | (refine rg 5 ?_; refine oMv ?_; (first | refine sp (po_field_jk rfl rfl (tyF rfl)) ?_ | refine oFb ?_); (first | refine sp (po_load_jk rfl rfl rfl (tyT rfl) rfl) ?_ | refine oLb ?_); refine oMv ?_; refine sp (po_index_jk rfl rfl rfl (tyS rfl) (by rfl) (by assumption)) ?_; refine sp (po_field_jk rfl rfl (tyF rfl)) ?_; refine sp (po_load_jk rfl rfl rfl (tyT rfl) rfl) ?_; refine sp (po_len_jk rfl rfl (tyS rfl)) ?_; refine oCm ?_; refine oN ?_) | (refine rg 7 ?_; refine oAs ?_; refine oN ?_) | refine gc ?_ | refine ct ?_ | refine cf ?_ | refine swp_cond rfl (fun hc => ?_) (fun hc => ?_) | refine rq rfl .nil ?_)
    refine swp_for (Z3 n x i k) (fun _ => True) s.names.length (weak_sub (.cons rfl rfl rfl (.cons rfl rfl rfl (.cons rfl rfl rfl (.cons rfl rfl rfl .nil)))) (.cons rfl rfl rfl (.cons rfl rfl rfl .nil)) .nil) trivial ?_
    intro j hj _
    unfold Z3
    by_cases hjl : j < s.names.length
    · have j3 : (s.names.map termJ)[j]? = some [.int .i64, .any] := map_at_some hjl
      repeat' (first | refine for_next hjl (weak_sub (.cons rfl rfl rfl (.cons rfl rfl rfl (.cons rfl rfl rfl (.cons rfl rfl rfl .nil)))) (.cons rfl rfl rfl (.cons rfl rfl rfl .nil)) .nil) trivial | (refine rg 8 ?_; refine oMv ?_; (first | refine sp (po_field_jk rfl rfl (tyF rfl)) ?_ | refine oFb ?_); (first | refine sp (po_load_jk rfl rfl rfl (tyT rfl) rfl) ?_ | refine oLb ?_); refine oMv ?_; refine sp (po_index_jk rfl rfl rfl (tyS rfl) (by rfl) (by assumption)) ?_; refine sp (po_field_jk rfl rfl (tyF rfl)) ?_; refine sp (po_load_jk rfl rfl rfl (tyT rfl) rfl) ?_; refine oMv ?_; refine sp (po_index_jk rfl rfl rfl (tyS rfl) (by rfl) (by assumption)) ?_; refine sp (po_field_jk rfl rfl (tyF rfl)) ?_; refine sp (po_load_jk rfl rfl rfl (tyT rfl) rfl) ?_; refine sp (po_len_jk rfl rfl (tyS rfl)) ?_; refine oCm ?_; refine oN ?_) | (refine rg 10 ?_; (first | refine sp (po_field_jk rfl rfl (tyF rfl)) ?_ | refine oFb ?_); (first | refine sp (po_load_jk rfl rfl rfl (tyT rfl) rfl) ?_ | refine oLb ?_); refine oMv ?_; refine sp (po_index_jk rfl rfl rfl (tyS rfl) (by rfl) (by assumption)) ?_; refine sp (po_field_jk rfl rfl (tyF rfl)) ?_; refine sp (po_load_jk rfl rfl rfl (tyT rfl) rfl) ?_; refine oMv ?_; refine sp (po_index_jk rfl rfl rfl (tyS rfl) (by rfl) (by assumption)) ?_; refine sp (po_field_jk rfl rfl (tyF rfl)) ?_; refine sp (po_load_jk rfl rfl rfl (tyT rfl) rfl) ?_; refine oMv ?_; refine sp (po_index_jk rfl rfl rfl (tyS rfl) (by rfl) (by assumption)) ?_; refine sp (po_field_jk rfl rfl (tyF rfl)) ?_; refine sp (po_load_jk rfl rfl rfl (tyT rfl) rfl) ?_; refine sp (po_inc_jk rfl rfl rfl) ?_; refine sp (po_index_jk rfl rfl rfl (tyS rfl) (by rfl) (by assumption)) ?_; refine sp (po_field_jk rfl rfl (tyF rfl)) ?_; refine sops_store_jk (.free rfl rfl) rfl rfl rfl rfl rfl rfl (tyT rfl) rfl ?_; refine oN ?_) | (refine rg 9 ?_; refine oMv ?_; (first | refine sp (po_inc_jk rfl rfl rfl) ?_ | refine sp (xinc rfl) ?_); refine oAs ?_; refine oN ?_) | refine gc ?_ | refine ct ?_)
    · repeat' (first | refine for_next hkl (weak_sub (.cons rfl rfl rfl (.cons rfl rfl rfl (.cons rfl rfl rfl .nil))) (.cons rfl rfl rfl (.cons rfl rfl rfl .nil)) .nil) trivial | (refine rg 8 ?_; refine oMv ?_; (first | refine sp (po_field_jk rfl rfl (tyF rfl)) ?_ | refine oFb ?_); (first | refine sp (po_load_jk rfl rfl rfl (tyT rfl) rfl) ?_ | refine oLb ?_); refine oMv ?_; refine sp (po_index_jk rfl rfl rfl (tyS rfl) (by rfl) (by assumption)) ?_; refine sp (po_field_jk rfl rfl (tyF rfl)) ?_; refine sp (po_load_jk rfl rfl rfl (tyT rfl) rfl) ?_; refine oMv ?_; refine sp (po_index_jk rfl rfl rfl (tyS rfl) (by rfl) (by assumption)) ?_; refine sp (po_field_jk rfl rfl (tyF rfl)) ?_; refine sp (po_load_jk rfl rfl rfl (tyT rfl) rfl) ?_; refine sp (po_len_jk rfl rfl (tyS rfl)) ?_; refine oCm ?_; refine oN ?_) | (refine rg 6 ?_; refine oMv ?_; (first | refine sp (po_inc_jk rfl rfl rfl) ?_ | refine sp (xinc rfl) ?_); refine oAs ?_; refine oN ?_) | refine gc ?_ | refine ct ?_ | refine cf ?_)
  repeat' (first | (refine rg 5 ?_; refine oMv ?_; (first | refine sp (po_field_jk rfl rfl (tyF rfl)) ?_ | refine oFb ?_); (first | refine sp (po_load_jk rfl rfl rfl (tyT rfl) rfl) ?_ | refine oLb ?_); refine oMv ?_; refine sp (po_index_jk rfl rfl rfl (tyS rfl) (by rfl) (by assumption)) ?_; refine sp (po_field_jk rfl rfl (tyF rfl)) ?_; refine sp (po_load_jk rfl rfl rfl (tyT rfl) rfl) ?_; refine sp (po_len_jk rfl rfl (tyS rfl)) ?_; refine oCm ?_; refine oN ?_) | (refine rg 11 ?_; refine oAs ?_; refine oN ?_) | refine gc ?_ | refine ct ?_ | refine cf ?_ | refine swp_cond rfl (fun hc => ?_) (fun hc => ?_) | refine rq rfl .nil ?_)
  refine swp_for (Z4 n x i) (fun _ => True) r.to_.length (weak_sub (.cons rfl rfl rfl (.cons rfl rfl rfl (.cons rfl rfl rfl .nil))) (.cons rfl rfl rfl (.cons rfl rfl rfl .nil)) .nil) trivial ?_
  intro k hk _
  unfold Z4
  by_cases hkl : k < r.to_.length
  case pos =>
    obtain ⟨s, hs⟩ : ∃ s, r.to_[k] = s := ⟨_, rfl⟩
    have hfs := hs ▸ hfr.ts _ (List.getElem_mem hkl)
    have n4 := hfs.1
    have j2 : (r.to_.map targetJ)[k]? = some (targetJ s) := by rw [map_at_some hkl, hs]
    have hm4 : (s.ports.map intJ).length = s.ports.length := List.length_map _
    repeat' (first | (refine rg 12 ?_; refine oMv ?_; (first | refine sp (po_field_jk rfl rfl (tyF rfl)) ?_ | refine oFb ?_); (first | refine sp (po_load_jk rfl rfl rfl (tyT rfl) rfl) ?_ | refine oLb ?_); refine oMv ?_; refine sp (po_index_jk rfl rfl rfl (tyS rfl) (by rfl) (by assumption)) ?_; refine sp (po_field_jk rfl rfl (tyF rfl)) ?_; refine sp (po_load_jk rfl rfl rfl (tyT rfl) rfl) ?_; refine sp (po_len_jk rfl rfl (tyS rfl)) ?_; refine oCm ?_; refine oN ?_) | (refine rg 14 ?_; refine oAs ?_; refine oN ?_) | refine gc ?_ | refine ct ?_ | refine cf ?_ | refine swp_cond rfl (fun hc => ?_) (fun hc => ?_) | refine rq rfl .nil ?_)
    refine swp_for (Z5 n x i k) (fun _ => True) s.ports.length (weak_sub (.cons rfl rfl rfl (.cons rfl rfl rfl (.cons rfl rfl rfl (.cons rfl rfl rfl .nil)))) (.cons rfl rfl rfl (.cons rfl rfl rfl .nil)) .nil) trivial ?_
    intro j hj _
    unfold Z5
    by_cases hjl : j < s.ports.length
    · have j3 : (s.ports.map intJ)[j]? = some [.int .i64] := map_at_some hjl
      repeat' (first | refine for_next hjl (weak_sub (.cons rfl rfl rfl (.cons rfl rfl rfl (.cons rfl rfl rfl (.cons rfl rfl rfl .nil)))) (.cons rfl rfl rfl (.cons rfl rfl rfl .nil)) .nil) trivial | (refine rg 15 ?_; refine oMv ?_; (first | refine sp (po_field_jk rfl rfl (tyF rfl)) ?_ | refine oFb ?_); (first | refine sp (po_load_jk rfl rfl rfl (tyT rfl) rfl) ?_ | refine oLb ?_); refine oMv ?_; refine sp (po_index_jk rfl rfl rfl (tyS rfl) (by rfl) (by assumption)) ?_; refine sp (po_field_jk rfl rfl (tyF rfl)) ?_; refine sp (po_load_jk rfl rfl rfl (tyT rfl) rfl) ?_; refine oMv ?_; refine sp (po_index_jk rfl rfl rfl (tyS rfl) (by rfl) (by assumption)) ?_; refine sp (po_field_jk rfl rfl (tyF rfl)) ?_; refine sp (po_load_jk rfl rfl rfl (tyT rfl) rfl) ?_; refine sp (po_len_jk rfl rfl (tyS rfl)) ?_; refine oCm ?_; refine oN ?_) | (refine rg 17 ?_; (first | refine sp (po_field_jk rfl rfl (tyF rfl)) ?_ | refine oFb ?_); (first | refine sp (po_load_jk rfl rfl rfl (tyT rfl) rfl) ?_ | refine oLb ?_); refine oMv ?_; refine sp (po_index_jk rfl rfl rfl (tyS rfl) (by rfl) (by assumption)) ?_; refine sp (po_field_jk rfl rfl (tyF rfl)) ?_; refine sp (po_load_jk rfl rfl rfl (tyT rfl) rfl) ?_; refine oMv ?_; refine sp (po_index_jk rfl rfl rfl (tyS rfl) (by rfl) (by assumption)) ?_; refine sp (po_field_jk rfl rfl (tyF rfl)) ?_; refine sp (po_load_jk rfl rfl rfl (tyT rfl) rfl) ?_; refine oMv ?_; refine sp (po_index_jk rfl rfl rfl (tyS rfl) (by rfl) (by assumption)) ?_; refine sp (po_load_jk rfl rfl rfl (tyT rfl) rfl) ?_; refine sp (po_inc_jk rfl rfl rfl) ?_; refine sp (po_index_jk rfl rfl rfl (tyS rfl) (by rfl) (by assumption)) ?_; refine sops_store_jk (.free rfl rfl) rfl rfl rfl rfl rfl rfl (tyT rfl) rfl ?_; refine oN ?_) | (refine rg 16 ?_; refine oMv ?_; (first | refine sp (po_inc_jk rfl rfl rfl) ?_ | refine sp (xinc rfl) ?_); refine oAs ?_; refine oN ?_) | refine gc ?_ | refine ct ?_)
    · repeat' (first | refine for_next hkl (weak_sub (.cons rfl rfl rfl (.cons rfl rfl rfl (.cons rfl rfl rfl .nil))) (.cons rfl rfl rfl (.cons rfl rfl rfl .nil)) .nil) trivial | (refine rg 15 ?_; refine oMv ?_; (first | refine sp (po_field_jk rfl rfl (tyF rfl)) ?_ | refine oFb ?_); (first | refine sp (po_load_jk rfl rfl rfl (tyT rfl) rfl) ?_ | refine oLb ?_); refine oMv ?_; refine sp (po_index_jk rfl rfl rfl (tyS rfl) (by rfl) (by assumption)) ?_; refine sp (po_field_jk rfl rfl (tyF rfl)) ?_; refine sp (po_load_jk rfl rfl rfl (tyT rfl) rfl) ?_; refine oMv ?_; refine sp (po_index_jk rfl rfl rfl (tyS rfl) (by rfl) (by assumption)) ?_; refine sp (po_field_jk rfl rfl (tyF rfl)) ?_; refine sp (po_load_jk rfl rfl rfl (tyT rfl) rfl) ?_; refine sp (po_len_jk rfl rfl (tyS rfl)) ?_; refine oCm ?_; refine oN ?_) | (refine rg 13 ?_; refine oMv ?_; (first | refine sp (po_inc_jk rfl rfl rfl) ?_ | refine sp (xinc rfl) ?_); refine oAs ?_; refine oN ?_) | refine gc ?_ | refine ct ?_ | refine cf ?_)
  repeat' (first | refine for_next hil (weak_sub (.cons rfl rfl rfl (.cons rfl rfl rfl .nil)) (.cons rfl rfl rfl (.cons rfl rfl rfl .nil)) .nil) trivial | (refine rg 12 ?_; refine oMv ?_; (first | refine sp (po_field_jk rfl rfl (tyF rfl)) ?_ | refine oFb ?_); (first | refine sp (po_load_jk rfl rfl rfl (tyT rfl) rfl) ?_ | refine oLb ?_); refine oMv ?_; refine sp (po_index_jk rfl rfl rfl (tyS rfl) (by rfl) (by assumption)) ?_; refine sp (po_field_jk rfl rfl (tyF rfl)) ?_; refine sp (po_load_jk rfl rfl rfl (tyT rfl) rfl) ?_; refine sp (po_len_jk rfl rfl (tyS rfl)) ?_; refine oCm ?_; refine oN ?_) | (refine rg 3 ?_; refine oMv ?_; (first | refine sp (po_inc_jk rfl rfl rfl) ?_ | refine sp (xinc rfl) ?_); refine oAs ?_; refine oN ?_) | refine gc ?_ | refine ct ?_ | refine cf ?_)
end Go.Proofs.YtnclifgiakmmoaaGreat.Pol

/- The document's answer for addresses and names: walks. -/
namespace Go.Proofs.YtnclifgiakmmoaaGreat.Pol
set_option linter.unusedVariables false
set_option linter.unusedSimpArgs false
open Go.RowKit Mem Sim Opn WAddr WName
theorem po_bneq {P : Program} {bx : List (Nat × List A)} {ow : List (Nat × Own)} {o : Oper} {ρ : Operand → Option A} {t t2 : TypeId} {x y : Operand} {i j : Bool} (c : Bool) (ho : o.op = .binOp .neq t x y t2) (hx : ρ x = some (.t (.v (.bool i)))) (hy : ρ y = some (.t (.v (.bool j)))) (hu : P.underlying t = some .bool) (hc : (!(i == j)) = c) : PureOp P bx ow o ρ (.t (.v (.bool c))) := by
  have := po_boolq (bx := bx) (ow := ow) ho hx hy hu (.inr rfl)
  rw [if_neg (by decide), hc] at this
  exact this
end Go.Proofs.YtnclifgiakmmoaaGreat.Pol

/- A private struct, field by field. -/
namespace Go.Proofs.YtnclifgiakmmoaaGreat.Sim
set_option linter.unusedVariables false
set_option linter.unusedSimpArgs false
open Go.RowKit Mem
inductive PrA (i : Nat) : T → A → Prop
  | pr (t : T) : PrA i t (.pr i (.t t))
  | v (u : Value) : PrA i (.v u) (.t (.v u))
inductive PrL (i : Nat) : List T → List A → Prop
  | nil : PrL i [] []
  | cons {t : T} {x : A} {ts : List T} {xs : List A} (h : PrA i t x) (hl : PrL i ts xs) : PrL i (t :: ts) (x :: xs)
theorem PrL.len {i : Nat} {ts : List T} {xs : List A} (h : PrL i ts xs) : ts.length = xs.length := by
  induction h with
  | nil => rfl
  | cons _ _ ih => rw [List.length_cons, List.length_cons, ih]
theorem PrL.at {i : Nat} {ts : List T} {xs : List A} (h : PrL i ts xs) {j : Nat} {x : A} (hj : xs[j]? = some x) : ∃ t, ts[j]? = some t ∧ PrA i t x := by
  induction h generalizing j with
  | nil => simp at hj
  | cons h _ ih =>
    cases j with
    | zero => simp at hj; subst hj; exact ⟨_, rfl, h⟩
    | succ j => simp at hj; simpa using ih hj
/-- a private struct told by its fields -/
theorem weak_agpr {N : Nat} {tm : List (Nat × A)} {bx : List (Nat × List A)} {ow : List (Nat × Own)} (s : Nat) {i : Nat} {ts : List T} {xs : List A} (hs : get tm s = some (.pr i (.t (.agg ts)))) (h : PrL i ts xs) : Weak N ⟨tm, bx, ow⟩ ⟨(s, .ag xs) :: tm, bx, ow⟩ := .mk fun C a w ⟨m, g, hr⟩ =>
  ⟨m, g, hr.env, hr.size, hr.defers, fun s' z hz => by
    rw [get_cons] at hz
    split at hz
    · rename_i e; subst e; injection hz with hz; subst hz
      obtain ⟨h1, h2, h3⟩ := hr.tmps s _ hs
      have h3 : TR (jmOf (g.rp i)) (.agg ts) _ := h3
      generalize (Act.eval a (.tmp s)) = v at h3
      show AR1 m g (.ag xs) v
      cases h3 with
      | agg _ vs k1 k2 k3 =>
        refine ⟨vs, rfl, by rw [k1, h.len], fun j x u hx hu => ?_⟩
        obtain ⟨t, k4, k5⟩ := h.at hx
        have k6 := k3 j t u k4 hu
        have k7 : u.oneCell' = true := k2 u (by rw [Array.getElem?_eq_some_iff] at hu; obtain ⟨_, rfl⟩ := hu; simp)
        refine ⟨?_, k7⟩
        cases k5 with
        | pr => exact ⟨h1, h2, k6⟩
        | v => rw [tr_v k6]; exact .v _
    · exact hr.tmps s' z hz⟩
end Go.Proofs.YtnclifgiakmmoaaGreat.Sim

/- Askers and requests opened. -/
namespace Go.Proofs.YtnclifgiakmmoaaGreat.Opn
set_option linter.unusedVariables false
set_option linter.unusedSimpArgs false
open Go.RowKit Go.WideShapes Go.ChangeShapes Go.Joins Mem WMatch
set_option maxRecDepth 100000

/-- a struct handed in -/
theorem open_struct_arg {α : Type} {t : TypeId} {fs : Array Field} {R : Rel α} (ht : Tryz.prog.underlying t = some (.struct fs)) (hO : Opens t R) {H : Type} {enc : TypeId × Value → H} {w : World} {r : Reach} {b0 base : Nat} {spare : Nat → Bool} {held : Bool} {v : Value} {d : DataW H} {p : List MemPlace}
    (hv : Value.okWide Tryz.prog w r b0 t v) (h : DataW.Trod enc Tryz.prog w base spare held t v d p) :
    ∃ (cs : Array Value) (y : α), v = .agg cs ∧ R w.heap.size w y cs.toList := by
  obtain ⟨cs, rfl, _⟩ := okWide_struct ht hv
  obtain ⟨fuel, hf⟩ := h
  obtain ⟨y, hy⟩ := hO H enc w base spare held fuel _ _ hf
  exact ⟨cs, y, rfl, hy⟩
end Go.Proofs.YtnclifgiakmmoaaGreat.Opn
