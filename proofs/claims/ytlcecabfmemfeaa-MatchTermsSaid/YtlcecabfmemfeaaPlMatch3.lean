/- chapter 7, plain: the reference's Parse. -/
import Derived.Test.YtlcecabfmemfeaaPlMatch2
namespace Go.Proofs.Ytlcecabfmemfeaa.Pl
set_option linter.unusedVariables false
set_option linter.unusedSimpArgs false
/- the reference's Parse: each kind tried -/
def refCands (s : Bs) : List (Int × Bs) := (4, []) :: (1, s) :: (if s.isEmpty then [] else [(2, s.take (s.length - 1)), (3, s.drop 1)])
def fits (s : Bs) (x : Int × Bs) : Bool := may x.1 x.2 && (text x.1 x.2 == s)
def refParse (s : Bs) : Option (Int × Bs) := (refCands s).find? (fits s)
theorem refParse_eq (s : Bs) : refParse s = parse s := by
  unfold refParse
  cases h : (refCands s).find? (fits s) with
  | some x =>
    have hx := List.find?_some h
    simp only [fits, Bool.and_eq_true, beq_iff_eq] at hx
    rw [← hx.2, parse_text hx.1]
  | none =>
    rw [List.find?_eq_none] at h
    cases hp : parse s with
    | none => rfl
    | some x =>
      exfalso
      obtain ⟨hm, ht⟩ := parse_some hp
      refine h x ?_ (by simp [fits, hm, ht])
      obtain ⟨k, l⟩ := x
      simp only at hm ht
      unfold refCands
      rcases may_kinds hm with rfl | rfl | rfl | rfl
      · simp [text] at ht; subst ht; simp
      · simp [text] at ht; subst ht; simp
      · simp [text] at ht; subst ht; simp
      · have := may_four hm; subst this; simp
end Go.Proofs.Ytlcecabfmemfeaa.Pl
