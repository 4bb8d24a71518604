/- Merged by bundles.py: Rel21b. -/
import Derived.Test.YtabejnjnkpdjbaaR37
import Derived.Test.YtabejnjnkpdjbaaR35
/- How great a pool that was handed in may be. -/
namespace Go.Proofs.Ytabejnjnkpdjbaa.R21
set_option linter.unusedVariables false
set_option linter.unusedSimpArgs false
open Go.RowKit Go.WideShapes Go.ChangeShapes Go.Joins Mem Sim Opn
theorem qy_ok {B : Nat} {w : World} (x : PQ) (cs : List Value) (h : QyR B w x cs) : SmQ x := by
  obtain ⟨_, _, _, _, _, _, _, _, _, _, _, _, _, _, h4, h5⟩ := h
  obtain ⟨h6, h7⟩ := Who_ok h4
  exact ⟨h6, h7, slc_len h5⟩
theorem tun_ok {B : Nat} {w : World} (x : PTun) (cs : List Value) (h : TunR B w x cs) : SmT x := by
  obtain ⟨_, _, _, _, _, _, _, _, _, _, _, _, _, _, _, _, _, _, _, _, _, _, _, _, h⟩ := h
  exact ⟨slc_len h, slc_all qy_ok h⟩
theorem pool_ok {B : Nat} {w : World} {x : PPool} {cs : List Value} (h : PoolR B w x cs) : x.tuns.length ≤ 9223372036854775807 ∧ ∀ t ∈ x.tuns, SmT t := by
  obtain ⟨_, _, _, _, _, _, _, _, h⟩ := h
  exact ⟨slc_len h, slc_all tun_ok h⟩
end Go.Proofs.Ytabejnjnkpdjbaa.R21
