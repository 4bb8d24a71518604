/- The walks of chapter 7's functions, eighth part: Parse. -/
import Derived.Test.YtlcecabfmemfeaaGreatWMatch
namespace Go.Proofs.YtlcecabfmemfeaaGreat.WMatch
set_option linter.unusedVariables false
set_option linter.unusedSimpArgs false
open Go.RowKit Mem BigFrame

/-- what Parse gives: the term, or none -/
def parV (k : Int) (t : ByteArray) (m : Bool) : Value := .tuple #[.agg #[.int .i64 (if m then k else 0), .string (if m then t else ⟨#[]⟩)], .int .i64 (if m then 0 else 2)]

theorem star_size : (⟨#[42]⟩ : ByteArray).size = 1 := rfl


end Go.Proofs.YtlcecabfmemfeaaGreat.WMatch
