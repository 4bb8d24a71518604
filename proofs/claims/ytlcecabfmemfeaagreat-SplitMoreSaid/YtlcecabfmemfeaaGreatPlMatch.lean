/- Plain functions and laws for chapter 7 (terms): no program in sight. -/
namespace Go.Proofs.YtlcecabfmemfeaaGreat.Pl
set_option linter.unusedVariables false
set_option linter.unusedSimpArgs false

abbrev Bs := List UInt8

def okc (c : UInt8) : Bool := decide (33 ≤ c.toNat) && decide (c.toNat ≤ 126) && !(c.toNat == 42) && !(c.toNat == 44)
def may (k : Int) (l : Bs) : Bool := l.all okc && (if k = 4 then l.isEmpty else decide (1 ≤ k) && decide (k ≤ 3) && decide (1 ≤ l.length) && decide (l.length ≤ 64))
def hasPre (s p : Bs) : Bool := decide (p.length ≤ s.length) && (s.take p.length == p)
def hasSuf (s p : Bs) : Bool := decide (p.length ≤ s.length) && (s.drop (s.length - p.length) == p)
def hits (k : Int) (l s : Bs) : Bool := if k = 1 then s == l else if k = 2 then hasPre s l else if k = 3 then hasSuf s l else !s.isEmpty
def matches_ (k : Int) (l s : Bs) : Bool := may k l && hits k l s
def cand (k : Int) (l c : Bs) : Option Bs := if k = 2 then some (l ++ c) else if k = 3 then some (c ++ l) else if k = 4 then (if c.isEmpty then none else some c) else some l
def besFind (k : Int) (l : Bs) (kb : Int) (lb : Bs) : List Bs → Option Bs
  | [] => none
  | c :: r => match cand k l c with
    | none => besFind k l kb lb r
    | some s => if matches_ kb lb s then besFind k l kb lb r else some s
def letters : List Bs := [[], [120], [121]]
def beside (k : Int) (l : Bs) (kb : Int) (lb : Bs) : Option Bs := if may k l then besFind k l kb lb letters else none
def implies (k : Int) (l : Bs) (kb : Int) (lb : Bs) : Bool := (beside k l kb lb).isNone
def refImplies (k : Int) (l : Bs) (kb : Int) (lb : Bs) : Bool :=
  !may k l || (may kb lb && (if k = 1 ∨ kb = 4 then matches_ kb lb l || kb == 4 else (k == kb) && matches_ kb lb l))
structure Term where
  k : Int
  s : ByteArray
def longT (s : ByteArray) (ts : List Term) : Bool := decide (3000 < s.size) || decide (60 < ts.length) || ts.any (fun t => decide (1000 < t.s.size))
def text (k : Int) (l : Bs) : Bs := if k = 1 then l else if k = 2 then l ++ [42] else if k = 3 then 42 :: l else [42]
def guess (s : Bs) : Int × Bs :=
  match s with
  | 42 :: r => if r.isEmpty then (4, r) else (3, r)
  | _ => if hasSuf s [42] then (2, s.take (s.length - 1)) else (1, s)
def parse (s : Bs) : Option (Int × Bs) := if may (guess s).1 (guess s).2 then some (guess s) else none

/- may -/
theorem may_kinds {k : Int} {l : Bs} (h : may k l = true) : k = 1 ∨ k = 2 ∨ k = 3 ∨ k = 4 := by
  unfold may at h
  by_cases h4 : k = 4
  · omega
  · simp [h4] at h; omega
theorem may_all {k : Int} {l : Bs} (h : may k l = true) : l.all okc = true := by
  unfold may at h; simp at h; simpa using h.1
theorem may_len {k : Int} {l : Bs} (h : may k l = true) : l.length ≤ 64 := by
  unfold may at h
  by_cases h4 : k = 4
  · simp [h4] at h; simp [h.2]
  · simp [h4] at h; omega
theorem may_pos {k : Int} {l : Bs} (h : may k l = true) (h4 : k ≠ 4) : 1 ≤ l.length := by
  unfold may at h; simp [h4] at h; omega
theorem may_four {l : Bs} (h : may 4 l = true) : l = [] := by
  unfold may at h; simp at h; exact h.2
theorem okc_star : okc 42 = false := by decide

theorem may_no_star {k : Int} {l : Bs} (h : may k l = true) : (42 : UInt8) ∉ l := by
  intro hm
  have := may_all h
  rw [List.all_eq_true] at this
  have := this _ hm
  simp [okc_star] at this

/- lists -/
theorem hasPre_iff (s p : Bs) : hasPre s p = true ↔ ∃ t, s = p ++ t := by
  unfold hasPre
  constructor
  · intro h
    simp at h
    refine ⟨s.drop p.length, ?_⟩
    have := List.take_append_drop p.length s
    rw [h.2] at this; exact this.symm
  · rintro ⟨t, rfl⟩
    simp
theorem hasSuf_iff (s p : Bs) : hasSuf s p = true ↔ ∃ t, s = t ++ p := by
  unfold hasSuf
  constructor
  · intro h
    simp at h
    refine ⟨s.take (s.length - p.length), ?_⟩
    have := List.take_append_drop (s.length - p.length) s
    rw [h.2] at this; exact this.symm
  · rintro ⟨t, rfl⟩
    simp

theorem matches_of_may {k : Int} {l s : Bs} (h : may k l = true) : matches_ k l s = hits k l s := by simp [matches_, h]
theorem hits1 (l s : Bs) : hits 1 l s = (s == l) := rfl
theorem hits2 (l s : Bs) : hits 2 l s = hasPre s l := rfl
theorem hits3 (l s : Bs) : hits 3 l s = hasSuf s l := rfl
theorem hits4 (l s : Bs) : hits 4 l s = !s.isEmpty := rfl

theorem besFind_none {k kb : Int} {l lb : Bs} : ∀ {cs : List Bs}, besFind k l kb lb cs = none ↔ ∀ c ∈ cs, ∀ s, cand k l c = some s → matches_ kb lb s = true
  | [] => by simp [besFind]
  | c :: r => by
    unfold besFind
    cases hc : cand k l c with
    | none => simp [hc, besFind_none (cs := r)]
    | some s =>
      by_cases hm : matches_ kb lb s = true
      · simp [hm, hc, besFind_none (cs := r)]
      · simp [hm, hc]
theorem besFind_some {k kb : Int} {l lb s : Bs} : ∀ {cs : List Bs}, besFind k l kb lb cs = some s → (∃ c ∈ cs, cand k l c = some s) ∧ matches_ kb lb s = false
  | [] => by simp [besFind]
  | c :: r => by
    intro h
    unfold besFind at h
    cases hc : cand k l c with
    | none =>
      simp [hc] at h
      have ⟨⟨c', hm, h1⟩, h2⟩ := besFind_some h
      exact ⟨⟨c', List.mem_cons_of_mem _ hm, h1⟩, h2⟩
    | some s' =>
      simp [hc] at h
      by_cases hm : matches_ kb lb s' = true
      · simp [hm] at h
        have ⟨⟨c', hm, h1⟩, h2⟩ := besFind_some h
        exact ⟨⟨c', List.mem_cons_of_mem _ hm, h1⟩, h2⟩
      · simp [hm] at h
        subst h
        exact ⟨⟨c, List.mem_cons_self, hc⟩, by simpa using hm⟩

theorem cand_hits {k : Int} {l c s : Bs} (hm : may k l = true) (hc : cand k l c = some s) : matches_ k l s = true := by
  rw [matches_of_may hm]
  rcases may_kinds hm with rfl | rfl | rfl | rfl
  · simp [cand] at hc; subst hc; simp [hits1]
  · simp [cand] at hc; subst hc; rw [hits2, hasPre_iff]; exact ⟨c, rfl⟩
  · simp [cand] at hc; subst hc; rw [hits3, hasSuf_iff]; exact ⟨c, rfl⟩
  · simp [cand] at hc; rw [hits4]; obtain ⟨h1, rfl⟩ := hc; simpa using h1

theorem beside_some {k kb : Int} {l lb s : Bs} (h : beside k l kb lb = some s) : may k l = true ∧ matches_ k l s = true ∧ matches_ kb lb s = false := by
  unfold beside at h
  by_cases hm : may k l = true
  · rw [if_pos hm] at h
    obtain ⟨⟨c, _, hc⟩, h2⟩ := besFind_some h
    exact ⟨hm, cand_hits hm hc, h2⟩
  · rw [if_neg hm] at h; cases h

theorem snoc_ne {l t1 t2 p : Bs} {a b : UInt8} (hp : p ≠ []) (h1 : l ++ [a] = t1 ++ p) (h2 : l ++ [b] = t2 ++ p) : a = b := by
  rcases List.eq_nil_or_concat p with rfl | ⟨q, x, rfl⟩
  · exact absurd rfl hp
  · simp only [List.concat_eq_append, ← List.append_assoc] at h1 h2
    have e1 := (List.append_inj' h1 rfl).2
    have e2 := (List.append_inj' h2 rfl).2
    simp at e1 e2
    rw [e1, e2]

/-- the chapter's heart: implies, by kinds -/
theorem implies_eq (k : Int) (l : Bs) (kb : Int) (lb : Bs) : implies k l kb lb = refImplies k l kb lb := by
  unfold implies beside refImplies
  by_cases hm : may k l = true
  · rw [if_pos hm]
    simp only [hm, Bool.not_true, Bool.false_or]
    by_cases hb : may kb lb = true
    · have hmb : ∀ s, matches_ kb lb s = hits kb lb s := fun s => matches_of_may hb
      rw [Bool.eq_iff_iff]
      simp only [Option.isNone_iff_eq_none, besFind_none, hb, Bool.true_and, hmb]
      have hl := fun h => may_pos hm h
      have hlb := fun h => may_pos hb h
      have ne : ∀ {x : UInt8}, ([x] : Bs) ≠ [] := by simp
      simp only [letters, List.mem_cons, List.not_mem_nil, or_false, forall_eq_or_imp, forall_eq]
      have P : ∀ {p : Bs} {a b : UInt8}, 1 ≤ p.length → hasPre (a :: l) p = true → hasPre (b :: l) p = true → a = b := by
        intro p a b hp h1 h2
        rw [hasPre_iff] at h1 h2
        obtain ⟨t1, e1⟩ := h1
        obtain ⟨t2, e2⟩ := h2
        cases p with
        | nil => simp at hp
        | cons x p => simp at e1 e2; rw [e1.1, e2.1]
      have P1 : ∀ {p : Bs} {a b : UInt8}, 1 ≤ p.length → hasPre [a] p = true → hasPre [b] p = true → a = b := by
        intro p a b hp h1 h2
        rw [hasPre_iff] at h1 h2
        obtain ⟨t1, e1⟩ := h1
        obtain ⟨t2, e2⟩ := h2
        cases p with
        | nil => simp at hp
        | cons x p => simp at e1 e2; rw [e1.1, e2.1]
      have S : ∀ {p : Bs} {l : Bs} {a b : UInt8}, 1 ≤ p.length → hasSuf (l ++ [a]) p = true → hasSuf (l ++ [b]) p = true → a = b := by
        intro p l a b hp h1 h2
        rw [hasSuf_iff] at h1 h2
        obtain ⟨t1, e1⟩ := h1
        obtain ⟨t2, e2⟩ := h2
        exact snoc_ne (by intro h; subst h; simp at hp) e1 e2
      rcases may_kinds hm with rfl | rfl | rfl | rfl <;> rcases may_kinds hb with rfl | rfl | rfl | rfl <;> simp [cand]
      · simp [hits4]; have := hl (by omega); intro h; subst h; simp at this
      · simp [hits1]; intro h1 h2 h3; rw [h1] at h2; have := congrArg List.length h2; simp at this
      · simp only [hits2]
        intro h
        rw [hasPre_iff] at h
        obtain ⟨t, rfl⟩ := h
        simp [hasPre_iff, List.append_assoc]
      · simp only [hits3]; intro h1 h2
        rw [Bool.eq_false_iff]; intro h3
        exact absurd (S (hlb (by omega)) h2 h3) (by decide)
      · simp [hits4]; have := hl (by omega); intro h; subst h; simp at this
      · simp [hits1]; intro h1 h2 h3; rw [h1] at h2; have := congrArg List.length h2; simp at this
      · simp only [hits2]; intro h1 h2
        rw [Bool.eq_false_iff]; intro h3
        exact absurd (P (hlb (by omega)) h2 h3) (by decide)
      · simp only [hits3]
        intro h
        rw [hasSuf_iff] at h
        obtain ⟨t, rfl⟩ := h
        refine ⟨(hasSuf_iff _ _).2 ⟨120 :: t, rfl⟩, (hasSuf_iff _ _).2 ⟨121 :: t, rfl⟩⟩
      · simp [hits4]; have := hl (by omega); intro h; subst h; simp at this
      · simp [hits1]; intro h1 h2; rw [← h1] at h2; simp at h2
      · simp only [hits2]; intro h2
        rw [Bool.eq_false_iff]; intro h3
        exact absurd (P1 (hlb (by omega)) h2 h3) (by decide)
      · simp only [hits3]; intro h2
        rw [Bool.eq_false_iff]; intro h3
        exact absurd (S (l := []) (hlb (by omega)) h2 h3) (by decide)
      · simp [hits4]
    · have hmb : ∀ s, matches_ kb lb s = false := fun s => by simp [matches_, hb]
      have hbf : may kb lb = false := by simpa using hb
      rw [Bool.eq_iff_iff]
      simp only [Option.isNone_iff_eq_none, besFind_none, hbf, Bool.false_and, hmb]
      simp only [letters, List.mem_cons, List.not_mem_nil, or_false, forall_eq_or_imp, forall_eq]
      rcases may_kinds hm with rfl | rfl | rfl | rfl <;> simp [cand]
  · simp [hm]

end Go.Proofs.YtlcecabfmemfeaaGreat.Pl
