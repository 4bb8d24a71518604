/- Plain: what any table says. -/
import Derived.Test.YtlcecabfmemfeaaGreatPlSplit2
namespace Go.Proofs.YtlcecabfmemfeaaGreat.Pl
set_option linter.unusedVariables false
set_option linter.unusedSimpArgs false
open WMatch WAuth
/-- what the document's answer for a table is, of what its row says -/
theorem says14_eq (M : Rule → Bool) (l : List Policy) (al : Int) : (if (judgeP M l).1 = true ∧ (judgeP M l).2 = 0 ∧ al = 1 ∧ hitP M false l = false then ((false, 0) : Bool × Int) else judgeP M l) = judgeP M (saysL l al) := by
  unfold saysL
  by_cases h1 : al = 1
  · rw [if_pos h1]
    have hT : firstP M true (l ++ [noPol]) = firstP M true l := by
      unfold firstP
      rw [List.find?_append]
      cases h : List.find? (fun p => kindP true p && p.rules.any M) l with
      | some p => rfl
      | none => simp [noPol]
    have hF : firstP M false (l ++ [noPol]) = firstP M false l := by
      unfold firstP
      rw [List.find?_append]
      cases h : List.find? (fun p => kindP false p && p.rules.any M) l with
      | some p => rfl
      | none => simp [noPol]
    have hS : someP false (l ++ [noPol]) = true := by rw [some_append]; simp [someP, kindP, noPol]
    have hH := firstP_isSome M false l
    unfold judgeP
    rw [hT, hF, hS]
    cases h2 : firstP M true l with
    | some p => simp
    | none =>
      cases h3 : firstP M false l with
      | some p =>
        rw [h3] at hH
        have : hitP M false l = true := hH.symm
        simp [this]
      | none =>
        rw [h3] at hH
        have : hitP M false l = false := hH.symm
        cases h4 : someP false l <;> simp [this, h1]
  · rw [if_neg h1, if_neg (by simp [h1])]
theorem judge_map (M : Rule → Bool) (l : List Policy) : judgeP M (l.map four4) = judgeP (fun r => M (four r)) l := by
  have hf : ∀ d, firstP M d (l.map four4) = (firstP (fun r => M (four r)) d l).map four4 := fun d => by
    unfold firstP
    rw [List.find?_map]
    congr 2
    funext p
    show (kindP d (four4 p) && (four4 p).rules.any M) = _
    unfold four4
    simp only [List.any_map]
    rfl
  unfold judgeP
  rw [hf, hf, some_four4]
  cases firstP (fun r => M (four r)) true l with
  | some p => rfl
  | none => cases firstP (fun r => M (four r)) false l <;> rfl
theorem says_four (l : List Policy) (al : Int) : saysL (l.map four4) al = (saysL l al).map four4 := by
  unfold saysL
  split
  · rw [List.map_append]; rfl
  · rfl
/-- halves look at no request -/
def NoLook (l : List Policy) : Prop := ∀ p ∈ l, ∀ r ∈ p.rules, seventhP r = false
theorem what_nolook (l : List Rule) (k : Nat) (h : k < 2) : ∀ r ∈ what k l, seventhP r = false := by
  match k, h with
  | 0, _ => exact fun r hr => by simpa [keep4] using (List.mem_filter.1 hr).2
  | 1, _ =>
    intro r hr
    obtain ⟨r0, _, rfl⟩ := List.mem_map.1 hr
    exact seventh_four r0
theorem half_nolook (l : List Policy) (D K : Nat) (hD : D < 2) (hK : K < 2) : NoLook (l.map (halfP D K)) := by
  intro p hp r hr
  obtain ⟨p0, _, rfl⟩ := List.mem_map.1 hp
  unfold halfP at hr
  dsimp only at hr
  split at hr
  · exact what_nolook _ D hD r hr
  · exact what_nolook _ K hK r hr
theorem allows_half (l : List Policy) (D K : Nat) : allowsP (l.map (halfP D K)) = allowsP l := by rw [allows_some, allows_some, some_half]
theorem half_again {l : List Policy} (h : NoLook l) (D K : Nat) : l.map (halfP D K) = l := map_self fun p hp => half_self (h p hp) D K
theorem four_again {l : List Policy} (h : NoLook l) : l.map four4 = l := map_self fun p hp => four4_self (h p hp)
theorem nolook_says {l : List Policy} (h : NoLook l) (al : Int) : NoLook (saysL l al) := by
  unfold saysL
  split
  · intro p hp
    rcases List.mem_append.1 hp with hp | hp
    · exact h p hp
    · simp at hp; subst hp; intro r hr; cases hr
  · exact h
theorem blind_says (a : Asker) (port : Int) (q q' : Req) {l : List Policy} (h : NoLook l) (al : Int) : judgeP (matchP a port q') (saysL (l.map four4) al) = judgeP (matchP a port q) (saysL l al) := by
  rw [four_again h]
  exact judge_same a port q q' _ (nolook_says h al)
end Go.Proofs.YtlcecabfmemfeaaGreat.Pl
