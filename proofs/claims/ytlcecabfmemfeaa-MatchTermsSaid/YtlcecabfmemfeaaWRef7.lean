/- The walks of chapter 7's reference: Print, Parse. -/
import Derived.Test.YtlcecabfmemfeaaWTerm
import Derived.Test.YtlcecabfmemfeaaWMatch4
import Derived.Test.YtlcecabfmemfeaaPlMatch3
import Derived.Test.YtlcecabfmemfeaaRegion
import Derived.StillTailTactics
namespace Go.Proofs.Ytlcecabfmemfeaa.WMatch
set_option linter.unusedVariables false
set_option linter.unusedSimpArgs false
open Go.RowKit Mem BigFrame

def textB (k : Int) (s : ByteArray) : ByteArray := if k = 1 then s else if k = 2 then s ++ ⟨#[42]⟩ else if k = 3 then ⟨#[42]⟩ ++ s else ⟨#[42]⟩
theorem textB_list (k : Int) (s : ByteArray) : (textB k s).toList = Pl.text k s.toList := by
  have tl42 : (⟨#[42]⟩ : ByteArray).toList = [42] := ByteArray.toList_mk [42]
  unfold textB Pl.text
  split
  · rfl
  · split
    · rw [toList_append, tl42]
    · split
      · rw [toList_append, tl42]; rfl
      · exact tl42
set_option maxHeartbeats 800000 in
theorem refPrint (k : Int) (s : ByteArray) (w : World) (hs : s.size < maxLen) :
    Calls Try.prog 32 #[.agg #[.int .i64 k, .string s]] w fun e w' => e = .returned (.string (textB k s)) ∧ Lo w w' := by
  unfold maxLen at hs
  have h42 : (⟨#[42]⟩ : ByteArray).size = 1 := rfl
  unfold textB
  by_cases h1 : k = 1
  · subst h1
    go_enter Try.func32, Try.ntmps32
    go_wp2
    go_ret
    exact ⟨rfl, (by repeat (first | exact Lo.refl _ | assumption | refine Lo.drew ?_ | refine Lo.alloc ?_ _ | refine Lo.setCell ?_ (by first | (dsimp only; omega) | (simp; omega) | (simp; done)) _ | refine Lo.trans ?_ (by assumption)))⟩
  · rw [if_neg h1]
    have h1' : (k == 1) = false := by simpa using h1
    by_cases h2 : k = 2
    · subst h2
      go_enter Try.func32, Try.ntmps32
      go_wp2
      all_goals first
        | (go_ret
           exact ⟨rfl, (by repeat (first | exact Lo.refl _ | assumption | refine Lo.drew ?_ | refine Lo.alloc ?_ _ | refine Lo.setCell ?_ (by first | (dsimp only; omega) | (simp; omega) | (simp; done)) _ | refine Lo.trans ?_ (by assumption)))⟩)
        | (exfalso; omega)
    · rw [if_neg h2]
      have h2' : (k == 2) = false := by simpa using h2
      by_cases h3 : k = 3
      · subst h3
        go_enter Try.func32, Try.ntmps32
        go_wp2
        all_goals first
          | (go_ret
             exact ⟨rfl, (by repeat (first | exact Lo.refl _ | assumption | refine Lo.drew ?_ | refine Lo.alloc ?_ _ | refine Lo.setCell ?_ (by first | (dsimp only; omega) | (simp; omega) | (simp; done)) _ | refine Lo.trans ?_ (by assumption)))⟩)
          | (exfalso; omega)
      · rw [if_neg h3]
        have h3' : (k == 3) = false := by simpa using h3
        clear h1 h2 h3
        go_enter Try.func32, Try.ntmps32
        go_wp2
        go_ret
        exact ⟨rfl, (by repeat (first | exact Lo.refl _ | assumption | refine Lo.drew ?_ | refine Lo.alloc ?_ _ | refine Lo.setCell ?_ (by first | (dsimp only; omega) | (simp; omega) | (simp; done)) _ | refine Lo.trans ?_ (by assumption)))⟩
end Go.Proofs.Ytlcecabfmemfeaa.WMatch
