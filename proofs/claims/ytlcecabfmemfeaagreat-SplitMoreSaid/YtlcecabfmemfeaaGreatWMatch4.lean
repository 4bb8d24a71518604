/- The walks of chapter 7's functions, fourth part: what implies. -/
import Derived.Test.YtlcecabfmemfeaaGreatWMatch2
import Derived.Test.YtlcecabfmemfeaaGreatWMatch3
namespace Go.Proofs.YtlcecabfmemfeaaGreat.WMatch
set_option linter.unusedVariables false
set_option linter.unusedSimpArgs false
open Go.RowKit Mem BigFrame

theorem may_fit {k : Int} {s : ByteArray} {b : Bool} (h : Pl.may k s.toList = b) : ∀ w : World, s.size ≤ maxLen → Calls Tryz.prog 136 #[.agg #[.int .i64 k, .string s]] w fun e w' => e = .returned (.bool b) ∧ Lo w w' := fun w hs => by rw [← h]; exact may k s w hs
theorem refMay_fit {k : Int} {s : ByteArray} {b : Bool} (h : Pl.may k s.toList = b) : ∀ w : World, s.size ≤ maxLen → Calls Tryz.prog 128 #[.agg #[.int .i64 k, .string s]] w fun e w' => e = .returned (.bool b) ∧ Lo w w' := fun w hs => by rw [← h]; exact refMay k s w hs
theorem matches_fit {k : Int} {s t : ByteArray} {b : Bool} (h : Pl.matches_ k s.toList t.toList = b) : ∀ w : World, s.size ≤ maxLen → t.size ≤ maxLen → Calls Tryz.prog 127 #[.agg #[.int .i64 k, .string s], .string t] w fun e w' => e = .returned (.bool b) ∧ Lo w w' := fun w hs ht => by rw [← h]; exact matches_ k s t w hs ht

/-- the reference's Implies, step by step -/
def refImpV (ka : Int) (la : Pl.Bs) (kb : Int) (lb : Pl.Bs) : Bool := Pl.refImplies ka la kb lb


end Go.Proofs.YtlcecabfmemfeaaGreat.WMatch
