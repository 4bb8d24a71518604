/- Things that are due, in memory. -/
import Derived.Test.YtmjckopplkihlaaPlDue2
import Derived.Test.YtmjckopplkihlaaRegion3
namespace Go.Proofs.Ytmjckopplkihlaa.Due
set_option linter.unusedVariables false
set_option linter.unusedSimpArgs false
open Go.RowKit Mem

def dueCells (d : Pl.Due) : List Value := [.int .u64 d.at_, .int .i64 d.kind, .int .u64 d.key]
abbrev dueV (d : Pl.Due) : Value := .agg #[.int .u64 d.at_, .int .i64 d.kind, .int .u64 d.key]
def DueR : Rel Pl.Due := fun _ _ d cs => cs = dueCells d ∧ (Lit.int .u64 d.at_).wf = true ∧ (Lit.int .i64 d.kind).wf = true ∧ (Lit.int .u64 d.key).wf = true
theorem DueR.kept : Kept DueR := fun _ _ _ _ _ _ h _ _ => h
theorem DueR.flat : Flat DueR := fun _ _ _ _ _ _ h => h
theorem DueR.one {B : Nat} {w : World} {d : Pl.Due} {cs : List Value} (h : DueR B w d cs) : ∀ u ∈ cs, u.oneCell' = true := by
  obtain ⟨rfl, _⟩ := h
  intro u hu; simp [dueCells] at hu; rcases hu with rfl | rfl | rfl <;> rfl
theorem u64_wf {n : Int} (h : (Lit.int .u64 n).wf = true) : 0 ≤ n ∧ n ≤ 18446744073709551615 := by
  simp [Lit.wf, IntKind.min, IntKind.max, IntKind.signed, IntKind.bits] at h; omega
theorem i64_wf {n : Int} (h : (Lit.int .i64 n).wf = true) : -9223372036854775808 ≤ n ∧ n ≤ 9223372036854775807 := by
  simp [Lit.wf, IntKind.min, IntKind.max, IntKind.signed, IntKind.bits] at h; omega
/-- a row of things at an address -/
abbrev Dues (B : Nat) (w : World) (A : Option Addr) (l : List Pl.Due) : Prop := SliceAt DueR 3 B w A l
theorem Dues.at_ {B : Nat} {w : World} {A : Option Addr} {l : List Pl.Due} (h : Dues B w A l) {k : Nat} (hk : k < l.length) :
    ∃ b off, A = some ⟨b, off, none⟩ ∧ b < B ∧ w.cell? ⟨b, off + k * 3, none⟩ = some (.int .u64 l[k].at_) ∧ w.cell? ⟨b, off + k * 3 + 1, none⟩ = some (.int .i64 l[k].kind) ∧ w.cell? ⟨b, off + k * 3 + 2, none⟩ = some (.int .u64 l[k].key) ∧
      (Lit.int .u64 l[k].at_).wf = true ∧ (Lit.int .i64 l[k].kind).wf = true ∧ (Lit.int .u64 l[k].key).wf = true := by
  obtain ⟨b, off, cs, rfl, hb, _, hc, rfl, z0, z1, z2⟩ := h k l[k] (List.getElem?_eq_getElem hk)
  exact ⟨b, off, rfl, hb, hc 0 _ rfl, hc 1 _ rfl, hc 2 _ rfl, z0, z1, z2⟩
end Go.Proofs.Ytmjckopplkihlaa.Due
