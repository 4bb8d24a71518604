/- Plain: what halves say, and what the whole row says. -/
import Derived.Test.YtlcecabfmemfeaaGreatPlSplit
import Derived.Test.YtlcecabfmemfeaaGreatWMatches
namespace Go.Proofs.YtlcecabfmemfeaaGreat.Pl
set_option linter.unusedVariables false
set_option linter.unusedSimpArgs false
open WMatch WAuth
theorem four_t (t : Target) (h : looksT t = false) : fourT t = t := by
  unfold looksT at h
  simp only [decide_eq_false_iff_not] at h
  have h1 : t.methods = [] := List.eq_nil_of_length_eq_zero (by omega)
  have h2 : t.paths = [] := List.eq_nil_of_length_eq_zero (by omega)
  have h3 : t.hosts = [] := List.eq_nil_of_length_eq_zero (by omega)
  cases t
  simp only at h1 h2 h3
  subst h1 h2 h3
  rfl
theorem map_self {α : Type} {f : α → α} : ∀ {l : List α}, (∀ x ∈ l, f x = x) → l.map f = l
  | [], _ => rfl
  | x :: r, h => by rw [List.map_cons, h x (by simp), map_self fun y hy => h y (by simp [hy])]
theorem looks_of {r : Rule} (h : seventhP r = false) : r.when_ = [] ∧ ∀ t ∈ r.to_, looksT t = false := by
  unfold seventhP at h
  simp only [Bool.or_eq_false_iff, decide_eq_false_iff_not] at h
  exact ⟨List.eq_nil_of_length_eq_zero (by omega), fun t ht => by simpa using (List.any_eq_false.1 h.2) t ht⟩
/-- a rule that does not look at a request is its own fourth half -/
theorem four_self {r : Rule} (h : seventhP r = false) : four r = r := by
  obtain ⟨h1, h2⟩ := looks_of h
  have h3 := map_self (f := fourT) (l := r.to_) fun t ht => four_t t (h2 t ht)
  unfold four
  rw [h3]
  cases r
  simp only at h1
  subst h1
  rfl
theorem seventh_four (r : Rule) : seventhP (four r) = false := by
  unfold seventhP four
  simp [looksT, fourT]
theorem four_four (r : Rule) : four (four r) = four r := four_self (seventh_four r)
theorem tgt_four {port : Int} {q q' : Req} {t : Target} (h : tgtP port q t = true) : tgtP port q' (fourT t) = true := by
  unfold tgtP at h ⊢
  simp only [Bool.and_eq_true] at h
  simp only [fourT, Bool.and_eq_true]
  exact ⟨⟨⟨h.1.1.1, rfl⟩, rfl⟩, rfl⟩
/-- what a rule matches its fourth half matches, with any request -/
theorem match_four {a : Asker} {port : Int} {q q' : Req} {r : Rule} (h : matchP a port q r = true) : matchP a port q' (four r) = true := by
  unfold matchP at h ⊢
  simp only [Bool.and_eq_true, Bool.or_eq_true] at h ⊢
  refine ⟨⟨h.1.1, ?_⟩, rfl⟩
  rcases h.1.2 with h1 | h1
  · left; unfold four; cases hr : r.to_ with
    | nil => rfl
    | cons t ts => rw [hr] at h1; cases h1
  · right
    obtain ⟨t, h2, h3⟩ := List.any_eq_true.1 h1
    exact List.any_eq_true.2 ⟨fourT t, List.mem_map.2 ⟨t, h2, rfl⟩, tgt_four h3⟩
theorem match_blind {a : Asker} {port : Int} {q q' : Req} {r : Rule} (h : seventhP r = false) (hm : matchP a port q r = true) : matchP a port q' r = true := by
  have := match_four (q' := q') hm
  rwa [four_self h] at this
theorem match_blind_eq (a : Asker) (port : Int) (q q' : Req) {r : Rule} (h : seventhP r = false) : matchP a port q r = matchP a port q' r := by
  rw [Bool.eq_iff_iff]; exact ⟨match_blind h, match_blind h⟩

theorem half_deny (D K : Nat) (p : Policy) : (halfP D K p).deny = p.deny := rfl
theorem four4_deny (p : Policy) : (four4 p).deny = p.deny := rfl
theorem some_half (d : Bool) (D K : Nat) (l : List Policy) : someP d (l.map (halfP D K)) = someP d l := by
  unfold someP; rw [List.any_map]; rfl
theorem some_four4 (d : Bool) (l : List Policy) : someP d (l.map four4) = someP d l := by
  unfold someP; rw [List.any_map]; rfl
theorem allows_some (l : List Policy) : allowsP l = if someP false l then 1 else 0 := by
  unfold allowsP someP kindP
  have : (fun p : Policy => decide (p.deny ≠ 1)) = fun p : Policy => (p.deny == 1) == false := by
    funext p; by_cases h : p.deny = 1 <;> simp [h]
  rw [this]
theorem kind_noPol : kindP true noPol = false := rfl
/-- a policy that allows, without rules, beside one that does: nothing -/
theorem says_hit (M : Rule → Bool) (d : Bool) (l : List Policy) (al : Int) : hitP M d (saysL l al) = hitP M d l := by
  unfold saysL
  split
  · rw [hit_append]; unfold hitP noPol; simp
  · rfl
theorem says_some (l l0 : List Policy) (h : someP false l = someP false l0) : someP false (saysL l (allowsP l0)) = someP false l := by
  unfold saysL
  rw [allows_some]
  cases h1 : someP false l0 with
  | true =>
    rw [h1] at h
    simp only [if_true]
    rw [some_append, h]; rfl
  | false => simp
theorem says_judge (M : Rule → Bool) (l : List Policy) : judgeP M (saysL l (allowsP l)) = judgeP M l := by
  have hf : ∀ d, firstP M d (saysL l (allowsP l)) = firstP M d l := fun d => by
    unfold saysL
    split
    · unfold firstP
      rw [List.find?_append]
      cases h : List.find? (fun p => kindP d p && p.rules.any M) l with
      | some p => rfl
      | none => simp [noPol]
    · rfl
  unfold judgeP
  rw [hf, hf, says_some l l rfl]
theorem half_id (p : Policy) : halfP 2 2 p = p := by
  unfold halfP what
  cases p
  simp
theorem whole_judge (M : Rule → Bool) (l : List Policy) : judgeP M (saysL (l.map (halfP 2 2)) (allowsP l)) = judgeP M l := by
  rw [map_self (f := halfP 2 2) fun p _ => half_id p]
  exact says_judge M l
theorem kind_true {p : Policy} : kindP true p = true ↔ p.deny = 1 := by unfold kindP; simp
theorem kind_false {p : Policy} : kindP false p = true ↔ p.deny ≠ 1 := by unfold kindP; simp
theorem hit_iff (M : Rule → Bool) (d : Bool) (l : List Policy) : hitP M d l = true ↔ ∃ p ∈ l, kindP d p = true ∧ ∃ r ∈ p.rules, M r = true := by
  unfold hitP
  simp only [List.any_eq_true, Bool.and_eq_true]
section
variable (a : Asker) (port : Int) (q q' : Req) (l : List Policy)
theorem l4_deny (h : hitP (matchP a port q') true ((l.map (halfP 0 1)).map four4) = true) : hitP (matchP a port q) true l = true := by
  obtain ⟨p, hp, hk, r, hr, hm⟩ := (hit_iff _ _ _).1 h
  obtain ⟨p1, h1, rfl⟩ := List.mem_map.1 hp
  obtain ⟨p0, h0, rfl⟩ := List.mem_map.1 h1
  have hd : p0.deny = 1 := kind_true.1 hk
  have hr' : r ∈ (what 0 p0.rules).map four := by
    have : (halfP 0 1 p0).rules = what 0 p0.rules := by unfold halfP; simp [hd]
    rw [← this]; exact hr
  obtain ⟨r0, h2, rfl⟩ := List.mem_map.1 hr'
  have h3 := List.mem_filter.1 h2
  have h4 : seventhP r0 = false := by simpa [keep4] using h3.2
  rw [four_self h4] at hm
  exact (hit_iff _ _ _).2 ⟨p0, h0, kind_true.2 hd, r0, h3.1, match_blind h4 hm⟩
theorem l4_allow (h : hitP (matchP a port q) false l = true) : hitP (matchP a port q') false ((l.map (halfP 0 1)).map four4) = true := by
  obtain ⟨p, hp, hk, r, hr, hm⟩ := (hit_iff _ _ _).1 h
  have hd : p.deny ≠ 1 := kind_false.1 hk
  refine (hit_iff _ _ _).2 ⟨four4 (halfP 0 1 p), List.mem_map.2 ⟨_, List.mem_map.2 ⟨p, hp, rfl⟩, rfl⟩, kind_false.2 hd, four r, ?_, match_four hm⟩
  have : (halfP 0 1 p).rules = what 1 p.rules := by unfold halfP; simp [hd]
  show four r ∈ (halfP 0 1 p).rules.map four
  rw [this]
  exact List.mem_map.2 ⟨four r, List.mem_map.2 ⟨r, hr, rfl⟩, four_four r⟩
theorem al_deny (h : hitP (matchP a port q) true l = true) : hitP (matchP a port q') true ((l.map (halfP 1 0)).map four4) = true := by
  obtain ⟨p, hp, hk, r, hr, hm⟩ := (hit_iff _ _ _).1 h
  have hd : p.deny = 1 := kind_true.1 hk
  refine (hit_iff _ _ _).2 ⟨four4 (halfP 1 0 p), List.mem_map.2 ⟨_, List.mem_map.2 ⟨p, hp, rfl⟩, rfl⟩, kind_true.2 hd, four r, ?_, match_four hm⟩
  have : (halfP 1 0 p).rules = what 1 p.rules := by unfold halfP; simp [hd]
  show four r ∈ (halfP 1 0 p).rules.map four
  rw [this]
  exact List.mem_map.2 ⟨four r, List.mem_map.2 ⟨r, hr, rfl⟩, four_four r⟩
theorem al_allow (h : hitP (matchP a port q') false ((l.map (halfP 1 0)).map four4) = true) : hitP (matchP a port q) false l = true := by
  obtain ⟨p, hp, hk, r, hr, hm⟩ := (hit_iff _ _ _).1 h
  obtain ⟨p1, h1, rfl⟩ := List.mem_map.1 hp
  obtain ⟨p0, h0, rfl⟩ := List.mem_map.1 h1
  have hd : p0.deny ≠ 1 := kind_false.1 hk
  have hr' : r ∈ (what 0 p0.rules).map four := by
    have : (halfP 1 0 p0).rules = what 0 p0.rules := by unfold halfP; simp [hd]
    rw [← this]; exact hr
  obtain ⟨r0, h2, rfl⟩ := List.mem_map.1 hr'
  have h3 := List.mem_filter.1 h2
  have h4 : seventhP r0 = false := by simpa [keep4] using h3.2
  rw [four_self h4] at hm
  exact (hit_iff _ _ _).2 ⟨p0, h0, kind_false.2 hd, r0, h3.1, match_blind h4 hm⟩
/-- what the fourth half says -/
def y4 : Bool := (judgeP (matchP a port q') (saysL ((l.map (halfP 0 1)).map four4) (allowsP l))).1
def yAl : Bool := (judgeP (matchP a port q') (saysL ((l.map (halfP 1 0)).map four4) (allowsP l))).1
theorem y4_eq : y4 a port q' l = (!hitP (matchP a port q') true ((l.map (halfP 0 1)).map four4) && (hitP (matchP a port q') false ((l.map (halfP 0 1)).map four4) || !someP false l)) := by
  unfold y4
  have h : someP false ((l.map (halfP 0 1)).map four4) = someP false l := by rw [some_four4, some_half]
  rw [yesP, says_hit, says_hit, says_some _ l h, h]
theorem yAl_eq : yAl a port q' l = (!hitP (matchP a port q') true ((l.map (halfP 1 0)).map four4) && (hitP (matchP a port q') false ((l.map (halfP 1 0)).map four4) || !someP false l)) := by
  unfold yAl
  have h : someP false ((l.map (halfP 1 0)).map four4) = someP false l := by rw [some_four4, some_half]
  rw [yesP, says_hit, says_hit, says_some _ l h, h]
/-- SplitWhole: who is let through is let through by the fourth half -/
theorem whole_yes (h : (judgeP (matchP a port q) l).1 = true) : y4 a port q' l = true := by
  rw [yesP] at h
  rw [y4_eq]
  simp only [Bool.and_eq_true, Bool.not_eq_true', Bool.or_eq_true] at h ⊢
  refine ⟨?_, h.2.imp (l4_allow a port q q' l) id⟩
  cases h1 : hitP (matchP a port q') true ((l.map (halfP 0 1)).map four4) with
  | false => rfl
  | true => rw [l4_deny a port q q' l h1] at h; simp at h
/-- SplitAlone: who is let through by what stands alone is let through by all -/
theorem alone_yes (h : yAl a port q' l = true) : (judgeP (matchP a port q) l).1 = true ∧ y4 a port q' l = true := by
  have h0 : (judgeP (matchP a port q) l).1 = true := by
    rw [yAl_eq] at h
    rw [yesP]
    simp only [Bool.and_eq_true, Bool.not_eq_true', Bool.or_eq_true] at h ⊢
    refine ⟨?_, h.2.imp (al_allow a port q q' l) id⟩
    cases h1 : hitP (matchP a port q) true l with
    | false => rfl
    | true => rw [al_deny a port q q' l h1] at h; simp at h
  exact ⟨h0, whole_yes a port q q' l h0⟩
/-- SplitAlone: where no rule looks at a request, all say the same -/
theorem alone_same (h : ∀ p ∈ l, ∀ r ∈ p.rules, seventhP r = false) : yAl a port q' l = (judgeP (matchP a port q) l).1 := by
  rw [Bool.eq_iff_iff]
  refine ⟨fun h1 => (alone_yes a port q q' l h1).1, fun h1 => ?_⟩
  rw [yesP] at h1
  rw [yAl_eq]
  simp only [Bool.and_eq_true, Bool.not_eq_true', Bool.or_eq_true] at h1 ⊢
  refine ⟨?_, h1.2.imp (fun h2 => ?_) id⟩
  · cases h2 : hitP (matchP a port q') true ((l.map (halfP 1 0)).map four4) with
    | false => rfl
    | true =>
      obtain ⟨p, hp, hk, r, hr, hm⟩ := (hit_iff _ _ _).1 h2
      obtain ⟨p1, h3, rfl⟩ := List.mem_map.1 hp
      obtain ⟨p0, h0, rfl⟩ := List.mem_map.1 h3
      have hd : p0.deny = 1 := kind_true.1 hk
      have hr' : r ∈ (what 1 p0.rules).map four := by
        have : (halfP 1 0 p0).rules = what 1 p0.rules := by unfold halfP; simp [hd]
        rw [← this]; exact hr
      obtain ⟨r1, h4, rfl⟩ := List.mem_map.1 hr'
      obtain ⟨r0, h5, rfl⟩ := List.mem_map.1 h4
      have h6 := h p0 h0 r0 h5
      rw [four_four, four_self h6] at hm
      have : hitP (matchP a port q) true l = true := (hit_iff _ _ _).2 ⟨p0, h0, kind_true.2 hd, r0, h5, match_blind h6 hm⟩
      rw [this] at h1; simp at h1
  · obtain ⟨p, hp, hk, r, hr, hm⟩ := (hit_iff _ _ _).1 h2
    have hd : p.deny ≠ 1 := kind_false.1 hk
    have h6 := h p hp r hr
    refine (hit_iff _ _ _).2 ⟨four4 (halfP 1 0 p), List.mem_map.2 ⟨_, List.mem_map.2 ⟨p, hp, rfl⟩, rfl⟩, kind_false.2 hd, four r, ?_, match_four hm⟩
    have : (halfP 1 0 p).rules = what 0 p.rules := by unfold halfP; simp [hd]
    show four r ∈ (halfP 1 0 p).rules.map four
    rw [this]
    exact List.mem_map.2 ⟨r, List.mem_filter.2 ⟨hr, by simp [keep4, h6]⟩, rfl⟩
/-- where no rule looks at a request, halves are the whole -/
theorem what_self {l : List Rule} (h : ∀ r ∈ l, seventhP r = false) (k : Nat) : what k l = l := by
  match k with
  | 0 => exact List.filter_eq_self.2 fun r hr => by simp [keep4, h r hr]
  | 1 => exact map_self fun r hr => four_self (h r hr)
  | k + 2 => rfl
theorem half_self {p : Policy} (h : ∀ r ∈ p.rules, seventhP r = false) (D K : Nat) : halfP D K p = p := by
  unfold halfP
  rw [what_self h, what_self h]
  cases p; simp
theorem four4_self {p : Policy} (h : ∀ r ∈ p.rules, seventhP r = false) : four4 p = p := by
  unfold four4
  rw [map_self fun r hr => four_self (h r hr)]
theorem judge_same (h : ∀ p ∈ l, ∀ r ∈ p.rules, seventhP r = false) : judgeP (matchP a port q') l = judgeP (matchP a port q) l := by
  have hf : ∀ d, firstP (matchP a port q') d l = firstP (matchP a port q) d l := fun d => by
    unfold firstP
    have : ∀ p ∈ l, p.rules.any (matchP a port q') = p.rules.any (matchP a port q) := fun p hp => by
      have h1 : ∀ {rs : List Rule}, (∀ r ∈ rs, seventhP r = false) → rs.any (matchP a port q') = rs.any (matchP a port q) := by
        intro rs
        induction rs with
        | nil => intro _; rfl
        | cons r rs ih => intro hr; rw [List.any_cons, List.any_cons, match_blind_eq a port q' q (hr r (by simp)), ih fun x hx => hr x (by simp [hx])]
      exact h1 (h p hp)
    clear h
    induction l with
    | nil => rfl
    | cons p l ih => rw [List.find?_cons, List.find?_cons, this p (by simp), ih fun x hx => this x (by simp [hx])]
  unfold judgeP
  rw [hf, hf]
theorem says_same (h : ∀ p ∈ l, ∀ r ∈ p.rules, seventhP r = false) (D K : Nat) : judgeP (matchP a port q') (saysL ((l.map (halfP D K)).map four4) (allowsP l)) = judgeP (matchP a port q) l := by
  rw [map_self fun p hp => half_self (h p hp) D K, map_self fun p hp => four4_self (h p hp), says_judge]
  exact judge_same a port q q' l h
end
end Go.Proofs.YtlcecabfmemfeaaGreat.Pl
