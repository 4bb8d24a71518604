/- Plain: what a row of policies says; its laws. -/
import Derived.Test.YtlcecabfmemfeaaGreatRel13
namespace Go.Proofs.YtlcecabfmemfeaaGreat.Pl
set_option linter.unusedVariables false
set_option linter.unusedSimpArgs false

def kindP (d : Bool) (p : Policy) : Bool := (p.deny == 1) == d
def firstP (M : Rule → Bool) (d : Bool) (l : List Policy) : Option Policy := l.find? fun p => kindP d p && p.rules.any M
def someP (d : Bool) (l : List Policy) : Bool := l.any (kindP d)
def judgeP (M : Rule → Bool) (l : List Policy) : Bool × Int :=
  match firstP M true l with
  | some p => (false, p.id)
  | none => match firstP M false l with
    | some p => (true, p.id)
    | none => (!someP false l, 0)

def hitP (M : Rule → Bool) (d : Bool) (l : List Policy) : Bool := l.any fun p => kindP d p && p.rules.any M
theorem firstP_isSome (M : Rule → Bool) (d : Bool) (l : List Policy) : (firstP M d l).isSome = hitP M d l := by
  unfold firstP hitP
  rw [Bool.eq_iff_iff, List.find?_isSome, List.any_eq_true]
theorem yesP (M : Rule → Bool) (l : List Policy) : (judgeP M l).1 = (!hitP M true l && (hitP M false l || !someP false l)) := by
  rw [← firstP_isSome, ← firstP_isSome]
  unfold judgeP
  cases firstP M true l <;> simp
  cases firstP M false l <;> simp
theorem hit_append (M : Rule → Bool) (d : Bool) (a b : List Policy) : hitP M d (a ++ b) = (hitP M d a || hitP M d b) := by simp [hitP]
theorem some_append (d : Bool) (a b : List Policy) : someP d (a ++ b) = (someP d a || someP d b) := by simp [someP]

/-- AuthNone -/
theorem judge_nil (M : Rule → Bool) : judgeP M [] = (true, 0) := rfl
theorem judge_five (M : Rule → Bool) (p : Policy) (h0 : p.deny = 0) (hr : p.rules = []) : judgeP M [p] = (false, 0) := by
  unfold judgeP firstP someP kindP
  simp [h0, hr]
theorem judge_by (M : Rule → Bool) (l : List Policy) (h : (judgeP M l).2 ≠ 0) : ∃ p ∈ l, p.id = (judgeP M l).2 ∧ (p.deny == 1) = !(judgeP M l).1 := by
  revert h
  unfold judgeP
  cases h1 : firstP M true l with
  | some p =>
    intro _
    have hm := List.mem_of_find?_eq_some h1
    have hp := List.find?_some h1
    simp [kindP] at hp
    exact ⟨p, hm, rfl, by simp [hp.1]⟩
  | none =>
    cases h2 : firstP M false l with
    | some p =>
      intro _
      have hm := List.mem_of_find?_eq_some h2
      have hp := List.find?_some h2
      simp [kindP] at hp
      exact ⟨p, hm, rfl, by simp [hp.1]⟩
    | none => intro h; simp at h

/-- AuthMore: a policy with Deny 1 more -/
theorem more_deny (M : Rule → Bool) (l : List Policy) (p : Policy) (hd : p.deny = 1) (h : (judgeP M (l ++ [p])).1 = true) : (judgeP M l).1 = true := by
  rw [yesP, hit_append, hit_append, some_append] at h
  rw [yesP]
  have e1 : hitP M false [p] = false := by simp [hitP, kindP, hd]
  have e2 : someP false [p] = false := by simp [someP, kindP, hd]
  rw [e1, e2] at h
  simp at h ⊢
  exact ⟨h.1.1, h.2⟩
/-- AuthMore: a rule more -/
theorem more_rule (M : Rule → Bool) (a b : List Policy) (p q : Policy) (r : Rule) (hd : q.deny = p.deny) (hr : q.rules = p.rules ++ [r]) :
    (p.deny = 1 → (judgeP M (a ++ q :: b)).1 = true → (judgeP M (a ++ p :: b)).1 = true) ∧ (p.deny ≠ 1 → (judgeP M (a ++ p :: b)).1 = true → (judgeP M (a ++ q :: b)).1 = true) := by
  have e : ∀ d (x : Policy), hitP M d (a ++ x :: b) = (hitP M d a || (kindP d x && x.rules.any M || hitP M d b)) := by intro d x; simp [hitP]
  have e2 : ∀ d (x : Policy), someP d (a ++ x :: b) = (someP d a || (kindP d x || someP d b)) := by intro d x; simp [someP]
  have hk : ∀ d, kindP d q = kindP d p := by intro d; simp [kindP, hd]
  constructor
  · intro h1 h
    rw [yesP, e, e, e2] at h ⊢
    have k1 : kindP false p = false := by simp [kindP, h1]
    have k2 : kindP true p = true := by simp [kindP, h1]
    simp only [hk, k1, k2, hr, List.any_append] at h ⊢
    revert h
    cases hitP M true a <;> cases hitP M true b <;> cases p.rules.any M <;> simp
  · intro h1 h
    rw [yesP, e, e, e2] at h ⊢
    have k1 : kindP false p = true := by simp [kindP, h1]
    have k2 : kindP true p = false := by simp [kindP, h1]
    simp only [hk, k1, k2, hr, List.any_append] at h ⊢
    revert h
    cases hitP M true a <;> cases hitP M true b <;> cases hitP M false a <;> cases p.rules.any M <;> simp
    exact fun h => .inr h
/-- AuthOrder: turned round, the first one's rules in another order -/
theorem order_turn (M : Rule → Bool) (a b : List Policy) (p q : Policy) (hd : q.deny = p.deny) (hr : q.rules = p.rules.reverse) : (judgeP M (q :: b ++ a)).1 = (judgeP M (a ++ p :: b)).1 := by
  have ha : q.rules.any M = p.rules.any M := by rw [hr, List.any_reverse]
  have hk : ∀ d, kindP d q = kindP d p := by intro d; simp [kindP, hd]
  have e : ∀ d, hitP M d (q :: b ++ a) = hitP M d (a ++ p :: b) := by
    intro d
    simp [hitP, ha, hk]
    cases List.any a (fun p => kindP d p && p.rules.any M) <;> simp
  have e2 : ∀ d, someP d (q :: b ++ a) = someP d (a ++ p :: b) := by
    intro d
    simp [someP, hk]
    cases List.any a (kindP d) <;> simp
  rw [yesP, yesP, e, e, e2]
theorem order_twice (M : Rule → Bool) (a b : List Policy) (p q : Policy) (hd : q.deny = p.deny) (hr : q.rules = p.rules.reverse) : (judgeP M ((q :: b ++ a) ++ [p])).1 = (judgeP M (a ++ p :: b)).1 := by
  have ha : q.rules.any M = p.rules.any M := by rw [hr, List.any_reverse]
  have hk : ∀ d, kindP d q = kindP d p := by intro d; simp [kindP, hd]
  have e : ∀ d, hitP M d ((q :: b ++ a) ++ [p]) = hitP M d (a ++ p :: b) := by
    intro d
    simp [hitP, ha, hk]
    cases List.any a (fun p => kindP d p && p.rules.any M) <;> cases (kindP d p && p.rules.any M) <;> simp
  have e2 : ∀ d, someP d ((q :: b ++ a) ++ [p]) = someP d (a ++ p :: b) := by
    intro d
    simp [someP, hk]
    cases List.any a (kindP d) <;> cases (kindP d p) <;> simp
  rw [yesP, yesP, e, e, e2]
end Go.Proofs.YtlcecabfmemfeaaGreat.Pl
