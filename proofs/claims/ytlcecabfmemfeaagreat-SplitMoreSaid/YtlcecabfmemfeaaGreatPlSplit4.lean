/- Plain: a policy more, and a row behind another one, and their halves. -/
import Derived.Test.YtlcecabfmemfeaaGreatPlSplit3
namespace Go.Proofs.YtlcecabfmemfeaaGreat.Pl
set_option linter.unusedVariables false
set_option linter.unusedSimpArgs false
open WMatch WAuth
section
variable (a : Asker) (port : Int) (q : Req)
theorem allows_more (l : List Policy) (p : Policy) (h : p.deny = 1) : allowsP (l ++ [p]) = allowsP l := by
  unfold allowsP; rw [List.any_append]; simp [h]
theorem some_more (l : List Policy) (p : Policy) (h : p.deny = 1) : someP false (l ++ [p]) = someP false l := by
  rw [some_append]; simp [someP, kindP, h]
theorem hit_more (M : Rule → Bool) (d : Bool) (l : List Policy) (p : Policy) : hitP M d (l ++ [p]) = (hitP M d l || hitP M d [p]) := hit_append M d l [p]
theorem y4_more (l : List Policy) (p : Policy) (h : p.deny = 1) (hy : y4 a port q (l ++ [p]) = true) : y4 a port q l = true := by
  rw [y4_eq] at *
  rw [List.map_append, List.map_append, hit_append, hit_append, some_more _ _ h] at hy
  have e : hitP (matchP a port q) false (([p].map (halfP 0 1)).map four4) = false := by simp [hitP, kindP, halfP, four4, h]
  rw [e] at hy
  simp only [Bool.and_eq_true, Bool.not_eq_true', Bool.or_eq_false_iff, Bool.or_false] at hy ⊢
  exact ⟨hy.1.1, hy.2⟩
theorem yAl_more (l : List Policy) (p : Policy) (h : p.deny = 1) (hy : yAl a port q (l ++ [p]) = true) : yAl a port q l = true := by
  rw [yAl_eq] at *
  rw [List.map_append, List.map_append, hit_append, hit_append, some_more _ _ h] at hy
  have e : hitP (matchP a port q) false (([p].map (halfP 1 0)).map four4) = false := by simp [hitP, kindP, halfP, four4, h]
  rw [e] at hy
  simp only [Bool.and_eq_true, Bool.not_eq_true', Bool.or_eq_false_iff, Bool.or_false] at hy ⊢
  exact ⟨hy.1.1, hy.2⟩
end
theorem allows_max (l m : List Policy) : allowsP (l ++ m) = max (allowsP l) (allowsP m) := by
  unfold allowsP; rw [List.any_append]
  cases l.any (fun p => decide (p.deny ≠ 1)) <;> cases m.any (fun p => decide (p.deny ≠ 1)) <;> simp <;> decide
end Go.Proofs.YtlcecabfmemfeaaGreat.Pl
