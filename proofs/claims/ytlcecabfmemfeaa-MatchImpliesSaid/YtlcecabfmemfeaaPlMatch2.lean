/- Plain laws for chapter 7: what the statements need. -/
import Derived.Test.YtlcecabfmemfeaaPlMatch
namespace Go.Proofs.Ytlcecabfmemfeaa.Pl

theorem okc_range {c : UInt8} (h : okc c = true) : 33 ≤ c.toNat ∧ c.toNat ≤ 126 := by
  simp [okc] at h; omega
theorem cand_fit {k : Int} {l c s : Bs} (hm : may k l = true) (hcl : c ∈ letters) (hc : cand k l c = some s) : s.length ≤ 65 ∧ ∀ x ∈ s, 33 ≤ x.toNat ∧ x.toNat ≤ 126 := by
  have hlen := may_len hm
  have hall : ∀ x ∈ l, 33 ≤ x.toNat ∧ x.toNat ≤ 126 := fun x hx => okc_range (by have := may_all hm; rw [List.all_eq_true] at this; exact this x hx)
  have hcc : c.length ≤ 1 ∧ ∀ x ∈ c, 33 ≤ x.toNat ∧ x.toNat ≤ 126 := by
    simp [letters] at hcl
    rcases hcl with rfl | rfl | rfl <;> simp
  have hin : ∀ x ∈ s, x ∈ l ∨ x ∈ c := by
    intro x hx
    rcases may_kinds hm with rfl | rfl | rfl | rfl
    · simp [cand] at hc; subst hc; exact .inl hx
    · simp [cand] at hc; subst hc; simpa using hx
    · simp [cand] at hc; subst hc; have : x ∈ c ∨ x ∈ l := by simpa using hx
      exact this.symm
    · simp [cand] at hc; obtain ⟨_, rfl⟩ := hc; exact .inr hx
  refine ⟨?_, fun x hx => (hin x hx).elim (hall x) (hcc.2 x)⟩
  have h1 := hcc.1
  rcases may_kinds hm with rfl | rfl | rfl | rfl
  · simp [cand] at hc; subst hc; omega
  · simp [cand] at hc; subst hc; simp; omega
  · simp [cand] at hc; subst hc; simp; omega
  · simp [cand] at hc; obtain ⟨_, rfl⟩ := hc; omega
theorem beside_fit {k kb : Int} {l lb s : Bs} (h : beside k l kb lb = some s) : s.length ≤ 65 ∧ ∀ x ∈ s, 33 ≤ x.toNat ∧ x.toNat ≤ 126 := by
  unfold beside at h
  by_cases hm : may k l = true
  · rw [if_pos hm] at h
    obtain ⟨⟨c, hcl, hc⟩, _⟩ := besFind_some h
    exact cand_fit hm hcl hc
  · rw [if_neg hm] at h; cases h
theorem beside_none_iff (k : Int) (l : Bs) (kb : Int) (lb : Bs) : beside k l kb lb = none ↔ refImplies k l kb lb = true := by
  rw [← implies_eq]; unfold implies; rw [Option.isNone_iff_eq_none]
end Go.Proofs.Ytlcecabfmemfeaa.Pl
