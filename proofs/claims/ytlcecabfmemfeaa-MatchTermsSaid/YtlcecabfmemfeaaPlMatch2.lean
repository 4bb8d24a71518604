/- Plain laws for chapter 7: what the statements need. -/
import Derived.Test.YtlcecabfmemfeaaPlMatch
namespace Go.Proofs.Ytlcecabfmemfeaa.Pl
set_option linter.unusedVariables false
set_option linter.unusedSimpArgs false

theorem okc_range {c : UInt8} (h : okc c = true) : 33 ≤ c.toNat ∧ c.toNat ≤ 126 := by
  simp [okc] at h; omega
theorem cand_fit {k : Int} {l c s : Bs} (hm : may k l = true) (hcl : c ∈ letters) (hc : cand k l c = some s) : s.length ≤ 65 ∧ ∀ x ∈ s, 33 ≤ x.toNat ∧ x.toNat ≤ 126 := by
  have hlen := may_len hm
  have hall : ∀ x ∈ l, 33 ≤ x.toNat ∧ x.toNat ≤ 126 := fun x hx => okc_range (by have := may_all hm; rw [List.all_eq_true] at this; exact this x hx)
  have hcc : c.length ≤ 1 ∧ ∀ x ∈ c, 33 ≤ x.toNat ∧ x.toNat ≤ 126 := by
    simp [letters] at hcl
    rcases hcl with rfl | rfl | rfl <;> simp
  have hin : ∀ x ∈ s, x ∈ l ∨ x ∈ c := by
    intro x hx
    rcases may_kinds hm with rfl | rfl | rfl | rfl
    · simp [cand] at hc; subst hc; exact .inl hx
    · simp [cand] at hc; subst hc; simpa using hx
    · simp [cand] at hc; subst hc; have : x ∈ c ∨ x ∈ l := by simpa using hx
      exact this.symm
    · simp [cand] at hc; obtain ⟨_, rfl⟩ := hc; exact .inr hx
  refine ⟨?_, fun x hx => (hin x hx).elim (hall x) (hcc.2 x)⟩
  have h1 := hcc.1
  rcases may_kinds hm with rfl | rfl | rfl | rfl
  · simp [cand] at hc; subst hc; omega
  · simp [cand] at hc; subst hc; simp; omega
  · simp [cand] at hc; subst hc; simp; omega
  · simp [cand] at hc; obtain ⟨_, rfl⟩ := hc; omega
theorem beside_fit {k kb : Int} {l lb s : Bs} (h : beside k l kb lb = some s) : s.length ≤ 65 ∧ ∀ x ∈ s, 33 ≤ x.toNat ∧ x.toNat ≤ 126 := by
  unfold beside at h
  by_cases hm : may k l = true
  · rw [if_pos hm] at h
    obtain ⟨⟨c, hcl, hc⟩, _⟩ := besFind_some h
    exact cand_fit hm hcl hc
  · rw [if_neg hm] at h; cases h
theorem beside_none_iff (k : Int) (l : Bs) (kb : Int) (lb : Bs) : beside k l kb lb = none ↔ refImplies k l kb lb = true := by
  rw [← implies_eq]; unfold implies; rw [Option.isNone_iff_eq_none]

theorem hits_pos {k : Int} {l s : Bs} (hm : may k l = true) (h : hits k l s = true) : s.isEmpty = false := by
  rcases may_kinds hm with rfl | rfl | rfl | rfl
  · rw [hits1] at h; have := may_pos hm (by omega); simp at h; subst h; cases s <;> simp at *
  · rw [hits2, hasPre_iff] at h; obtain ⟨t, rfl⟩ := h; have := may_pos hm (by omega); cases l <;> simp at *
  · rw [hits3, hasSuf_iff] at h; obtain ⟨t, rfl⟩ := h; have := may_pos hm (by omega); cases l <;> simp at *
  · rw [hits4] at h; simpa using h
theorem refImplies_sound {k kb : Int} {l lb s : Bs} (h : refImplies k l kb lb = true) (hs : matches_ k l s = true) : matches_ kb lb s = true := by
  have hm : may k l = true := by simp [matches_] at hs; exact hs.1
  rw [matches_of_may hm] at hs
  unfold refImplies at h
  simp only [hm, Bool.not_true, Bool.false_or, Bool.and_eq_true] at h
  obtain ⟨hb, h⟩ := h
  rw [matches_of_may hb] at h ⊢
  have hp := hits_pos hm hs
  by_cases h4 : kb = 4
  · subst h4; rw [hits4, hp]; rfl
  · by_cases h1 : k = 1
    · subst h1
      rw [hits1] at hs; simp at hs; subst hs
      simpa [h4] using h
    · rw [if_neg (by omega)] at h
      simp at h
      obtain ⟨rfl, h⟩ := h
      rcases may_kinds hm with rfl | rfl | rfl | rfl
      · exact absurd rfl h1
      · rw [hits2, hasPre_iff] at *
        obtain ⟨t, rfl⟩ := h
        obtain ⟨u, rfl⟩ := hs
        exact ⟨t ++ u, by simp⟩
      · rw [hits3, hasSuf_iff] at *
        obtain ⟨t, rfl⟩ := h
        obtain ⟨u, rfl⟩ := hs
        exact ⟨u ++ t, by simp⟩
      · exact absurd rfl h4
theorem implies_iff {k kb : Int} {l lb : Bs} : implies k l kb lb = true ↔ ∀ s, matches_ k l s = true → matches_ kb lb s = true := by
  constructor
  · intro h s hs
    rw [implies_eq] at h
    exact refImplies_sound h hs
  · intro h
    unfold implies
    cases hb : beside k l kb lb with
    | none => rfl
    | some s =>
      obtain ⟨_, h1, h2⟩ := beside_some hb
      rw [h s h1] at h2; cases h2
theorem implies_refl (k : Int) (l : Bs) : implies k l k l = true := implies_iff.2 fun _ h => h
theorem implies_trans {k kb kc : Int} {l lb lc : Bs} (h : implies k l kb lb = true) (h' : implies kb lb kc lc = true) : implies k l kc lc = true :=
  implies_iff.2 fun s hs => implies_iff.1 h' s (implies_iff.1 h s hs)
theorem pre_antisymm {l lb : Bs} (h : hasPre l lb = true) (h' : hasPre lb l = true) : l = lb := by
  rw [hasPre_iff] at *
  obtain ⟨t, ht⟩ := h
  obtain ⟨u, hu⟩ := h'
  have hl := congrArg List.length ht
  have hl' := congrArg List.length hu
  simp at hl hl'
  have : t = [] := List.eq_nil_of_length_eq_zero (by omega)
  subst this; simpa using ht
theorem suf_antisymm {l lb : Bs} (h : hasSuf l lb = true) (h' : hasSuf lb l = true) : l = lb := by
  rw [hasSuf_iff] at *
  obtain ⟨t, ht⟩ := h
  obtain ⟨u, hu⟩ := h'
  have hl := congrArg List.length ht
  have hl' := congrArg List.length hu
  simp at hl hl'
  have : t = [] := List.eq_nil_of_length_eq_zero (by omega)
  subst this; simpa using ht
theorem implies_antisymm {k kb : Int} {l lb : Bs} (hm : may k l = true) (hb : may kb lb = true) (h : implies k l kb lb = true) (h' : implies kb lb k l = true) : k = kb ∧ l = lb := by
  rw [implies_eq] at h h'
  unfold refImplies at h h'
  simp only [hm, hb, Bool.not_true, Bool.false_or, Bool.true_and] at h h'
  rw [matches_of_may hb] at h
  rw [matches_of_may hm] at h'
  rcases may_kinds hm with rfl | rfl | rfl | rfl <;> rcases may_kinds hb with rfl | rfl | rfl | rfl <;> simp [hits1, hits2, hits3] at h h' ⊢
  · exact h
  · exact pre_antisymm h h'
  · exact suf_antisymm h h'
  · rw [may_four hm, may_four hb]

/- texts -/
theorem no_star_suf {k : Int} {l : Bs} (h : may k l = true) : hasSuf l [42] = false := by
  rw [Bool.eq_false_iff, ne_eq, hasSuf_iff]
  rintro ⟨t, rfl⟩
  exact may_no_star h (by simp)
theorem guess_text {k : Int} {l : Bs} (h : may k l = true) : guess (text k l) = (k, l) := by
  have hn := may_no_star h
  rcases may_kinds h with rfl | rfl | rfl | rfl
  · have hp := may_pos h (by omega)
    cases l with
    | nil => simp at hp
    | cons x r =>
      have hx : x ≠ 42 := by rintro rfl; exact hn (by simp)
      have hs := no_star_suf h
      simp only [text, if_pos]
      unfold guess
      split
      · rename_i heq; simp at heq; exact absurd heq.1 hx
      · rw [hs]; rfl
  · have hp := may_pos h (by omega)
    cases l with
    | nil => simp at hp
    | cons x r =>
      have hx : x ≠ 42 := by rintro rfl; exact hn (by simp)
      have e : text 2 (x :: r) = x :: (r ++ [42]) := by simp [text]
      have hs : hasSuf (x :: (r ++ [42])) [42] = true := by rw [hasSuf_iff]; exact ⟨x :: r, by simp⟩
      rw [e]
      unfold guess
      split
      · rename_i heq; simp at heq; exact absurd heq.1 hx
      · rw [hs]; simp
  · have hp := may_pos h (by omega)
    have e : text 3 l = 42 :: l := by simp [text]
    rw [e]
    unfold guess
    cases l with
    | nil => simp at hp
    | cons x r => simp
  · rw [may_four h]
    simp [text, guess]
theorem parse_text {k : Int} {l : Bs} (h : may k l = true) : parse (text k l) = some (k, l) := by
  unfold parse; rw [guess_text h]; simp [h]
theorem text_guess (s : Bs) (hm : may (guess s).1 (guess s).2 = true) : text (guess s).1 (guess s).2 = s := by
  unfold guess at *
  split at *
  · rename_i r
    cases r <;> simp [text]
  · rename_i h
    by_cases hs : hasSuf s [42] = true
    · simp [hs, text]
      rw [hasSuf_iff] at hs
      obtain ⟨t, rfl⟩ := hs
      simp
    · simp [hs, text]
theorem parse_some {s : Bs} {x : Int × Bs} (h : parse s = some x) : may x.1 x.2 = true ∧ text x.1 x.2 = s := by
  unfold parse at h
  by_cases hm : may (guess s).1 (guess s).2 = true
  · simp [hm] at h
    subst h
    exact ⟨hm, text_guess s hm⟩
  · simp [hm] at h
theorem text_inj {k kb : Int} {l lb : Bs} (h : may k l = true) (h' : may kb lb = true) (e : text k l = text kb lb) : k = kb ∧ l = lb := by
  have h1 := guess_text h
  have h2 := guess_text h'
  rw [e, h2] at h1
  injection h1 with a b
  exact ⟨a.symm, b.symm⟩
theorem text_len {k : Int} {l : Bs} (h : may k l = true) : (text k l).length ≤ 65 := by
  have hl := may_len h
  unfold text
  repeat' split
  all_goals simp
  all_goals omega
end Go.Proofs.Ytlcecabfmemfeaa.Pl
