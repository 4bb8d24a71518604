/- Plain: rows of things that are due. -/
import Derived.Test.YtmjckopplkihlaaRows
namespace Go.Proofs.Ytmjckopplkihlaa.Pl
set_option linter.unusedVariables false
set_option linter.unusedSimpArgs false

structure Due where
  at_ : Int
  kind : Int
  key : Int
deriving Inhabited, DecidableEq

/-- does a stand ahead of b? -/
def ahead (a b : Due) : Bool := if a.at_ ≠ b.at_ then decide (a.at_ < b.at_) else if a.kind ≠ b.kind then decide (a.kind < b.kind) else decide (a.key < b.key)
def mayD (d : Due) : Bool := decide (1 ≤ d.kind) && decide (d.kind ≤ 255) && decide (d.at_ ≤ 4611686018427387903)
def isD (kind key : Int) (d : Due) : Bool := d.kind == kind && d.key == key
def alike (a b : Due) : Bool := isD a.kind a.key b

theorem ahead_iff (a b : Due) : ahead a b = true ↔ a.at_ < b.at_ ∨ (a.at_ = b.at_ ∧ (a.kind < b.kind ∨ (a.kind = b.kind ∧ a.key < b.key))) := by
  unfold ahead
  by_cases h1 : a.at_ = b.at_
  · by_cases h2 : a.kind = b.kind
    · simp [h1, h2]
    · simp [h1, h2]
  · simp [h1]
theorem ahead_iff' (a b : Due) : ahead a b = false ↔ ¬ (a.at_ < b.at_ ∨ (a.at_ = b.at_ ∧ (a.kind < b.kind ∨ (a.kind = b.kind ∧ a.key < b.key)))) := by
  rw [← ahead_iff]; simp
theorem ahead_irrefl (a : Due) : ahead a a = false := by simp [ahead]
theorem ahead_trans {a b c : Due} (h : ahead a b = true) (k : ahead b c = true) : ahead a c = true := by
  rw [ahead_iff] at *; omega
theorem ahead_total {a b : Due} (h : ahead a b = false) (k : ahead b a = false) : a = b := by
  rw [ahead_iff'] at *
  cases a; cases b; simp only [Due.mk.injEq] at *; omega
theorem ahead_asymm {a b : Due} (h : ahead a b = true) : ahead b a = false := by
  rw [ahead_iff] at h
  rw [ahead_iff']; omega
/-- not ahead: behind or the same -/
theorem notahead_trans {a b c : Due} (h : ahead b a = false) (k : ahead c b = false) : ahead c a = false := by
  cases hc : ahead c a
  · rfl
  · cases hb : ahead a b
    · have := ahead_total hb h; subst this; rw [hc] at k; cases k
    · have := ahead_trans hc hb; rw [this] at k; cases k

/-- may the i-th of a row stand there? -/
def okAt (l : List Due) (i : Nat) : Bool := mayD (l.getD i default) && !((l.take i).any (isD (l.getD i default).kind (l.getD i default).key)) && (decide (i = 0) || !ahead (l.getD i default) (l.getD (i - 1) default))
def mayL (l : List Due) : Bool := (List.range l.length).all (okAt l) && decide (l.length ≤ 64)

/-- in order, unlike, each one may be -/
def Good (l : List Due) : Prop := l.Pairwise (fun a b => ahead a b = true ∧ alike a b = false) ∧ ∀ x ∈ l, mayD x = true

theorem isD_comm (a b : Due) : isD a.kind a.key b = isD b.kind b.key a := by
  unfold isD
  rw [Bool.eq_iff_iff]
  simp only [Bool.and_eq_true, beq_iff_eq]
  constructor <;> (rintro ⟨h, k⟩; exact ⟨h.symm, k.symm⟩)
theorem alike_comm (a b : Due) : alike a b = alike b a := isD_comm a b

theorem good_of_may {l : List Due} (h : mayL l = true) : Good l ∧ l.length ≤ 64 := by
  unfold mayL at h
  simp only [Bool.and_eq_true, decide_eq_true_eq, List.all_eq_true, List.mem_range] at h
  obtain ⟨h, h64⟩ := h
  have hg : ∀ (i : Nat) (hi : i < l.length), l.getD i default = l[i] := fun i hi => by simp [List.getD_eq_getElem?_getD, hi]
  have hmay : ∀ (i : Nat) (hi : i < l.length), mayD l[i] = true := by
    intro i hi
    have := h i hi
    unfold okAt at this
    rw [hg i hi] at this
    simp only [Bool.and_eq_true] at this
    exact this.1.1
  have hun : ∀ (i j : Nat) (hj : j < l.length) (hij : i < j), alike l[i] l[j] = false := by
    intro i j hj hij
    have := h j hj
    unfold okAt at this
    rw [hg j hj] at this
    simp only [Bool.and_eq_true, Bool.not_eq_true', List.any_eq_false] at this
    have h2 := this.1.2 l[i] (by rw [List.mem_take_iff_getElem]; exact ⟨i, by omega, rfl⟩)
    rw [alike_comm]
    simpa [alike] using h2
  have hst : ∀ (i : Nat) (hi : i + 1 < l.length), ahead l[i + 1] l[i] = false := by
    intro i hi
    have := h (i + 1) hi
    unfold okAt at this
    rw [hg (i + 1) hi] at this
    simp only [Bool.and_eq_true, Bool.or_eq_true, decide_eq_true_eq] at this
    have h2 := this.2
    simp only [Nat.add_sub_cancel, Nat.add_eq_zero_iff, Nat.one_ne_zero, and_false, false_or] at h2
    rw [hg i (by omega)] at h2
    simpa using h2
  have hle : ∀ (d i : Nat) (hi : i + d + 1 < l.length), ahead l[i + d + 1] l[i] = false := by
    intro d
    induction d with
    | zero => intro i hi; exact hst i hi
    | succ d ih => intro i hi; exact notahead_trans (ih i (by omega)) (hst (i + d + 1) hi)
  refine ⟨⟨?_, ?_⟩, h64⟩
  · rw [List.pairwise_iff_getElem]
    intro i j hi hj hij
    refine ⟨?_, hun i j hj hij⟩
    obtain ⟨d, rfl⟩ : ∃ d, j = i + d + 1 := ⟨j - i - 1, by omega⟩
    cases ha : ahead l[i] l[i + d + 1]
    · have he := ahead_total ha (hle d i hj)
      have := hun i (i + d + 1) hj hij
      rw [← he] at this
      simp [alike, isD] at this
    · rfl
  · intro x hx
    obtain ⟨i, hi, rfl⟩ := List.getElem_of_mem hx
    exact hmay i hi
theorem may_of_good {l : List Due} (h : Good l) (h64 : l.length ≤ 64) : mayL l = true := by
  unfold mayL
  simp only [Bool.and_eq_true, decide_eq_true_eq, List.all_eq_true, List.mem_range]
  refine ⟨fun i hi => ?_, h64⟩
  have hg : ∀ (i : Nat) (hi : i < l.length), l.getD i default = l[i] := fun i hi => by simp [List.getD_eq_getElem?_getD, hi]
  have hp := List.pairwise_iff_getElem.1 h.1
  unfold okAt
  rw [hg i hi]
  simp only [Bool.and_eq_true, Bool.or_eq_true, Bool.not_eq_true', decide_eq_true_eq]
  refine ⟨⟨h.2 _ (List.getElem_mem hi), ?_⟩, ?_⟩
  · rw [List.any_eq_false]
    intro x hx
    rw [List.mem_take_iff_getElem] at hx
    obtain ⟨k, hk, rfl⟩ := hx
    have := (hp k i (by omega) hi (by omega)).2
    rw [alike_comm] at this
    simpa [alike] using this
  · rcases Nat.eq_zero_or_pos i with h0 | h0
    · exact .inl h0
    · right
      rw [hg (i - 1) (by omega)]
      exact ahead_asymm (hp (i - 1) i (by omega) hi (by omega)).1
theorem mayL_iff {l : List Due} : mayL l = true ↔ Good l ∧ l.length ≤ 64 := ⟨good_of_may, fun h => may_of_good h.1 h.2⟩

def dropL (l : List Due) (kind key : Int) : List Due := l.filter fun x => !isD kind key x
theorem Good.sub {l m : List Due} (h : Good l) (hs : m.Sublist l) : Good m := ⟨h.1.sublist hs, fun x hx => h.2 x (hs.subset hx)⟩
theorem good_drop {l : List Due} (h : Good l) (kind key : Int) : Good (dropL l kind key) := h.sub List.filter_sublist
theorem drop_un {l : List Due} {d x : Due} (h : x ∈ dropL l d.kind d.key) : alike d x = false := by
  unfold dropL at h
  rw [List.mem_filter] at h
  simpa [alike] using h.2

/-- where d goes: behind the last one that does not stand behind it -/
def placeL (l : List Due) (d : Due) : Nat := l.length - (l.reverse.takeWhile fun x => ahead d x).length
def insL (l : List Due) (d : Due) : List Due := l.take (placeL l d) ++ d :: l.drop (placeL l d)
/-- the plain insertion -/
def ins : List Due → Due → List Due
  | [], d => [d]
  | x :: r, d => if ahead d x then d :: x :: r else x :: ins r d

theorem takeWhile_all {α : Type} {p : α → Bool} : ∀ {l : List α}, (∀ x ∈ l, p x = true) → l.takeWhile p = l
  | [], _ => rfl
  | x :: r, h => by rw [List.takeWhile_cons, if_pos (h x (by simp)), takeWhile_all fun y hy => h y (by simp [hy])]
theorem takeWhile_mem {α : Type} {p : α → Bool} : ∀ {l : List α} {x : α}, x ∈ l.takeWhile p → p x = true
  | [], x, h => by simp at h
  | y :: r, x, h => by
    rw [List.takeWhile_cons] at h
    split at h
    · rename_i hy
      simp at h
      rcases h with rfl | h
      · exact hy
      · exact takeWhile_mem h
    · simp at h
theorem insL_eq {l : List Due} (h : Good l) (d : Due) : insL l d = ins l d := by
  induction l with
  | nil => simp [insL, placeL, ins]
  | cons x r ih =>
    have hr := h.sub (List.sublist_cons_self x r)
    have hx : ∀ y ∈ r, ahead x y = true := fun y hy => ((List.pairwise_cons.1 h.1).1 y hy).1
    unfold ins
    by_cases ha : ahead d x = true
    · rw [if_pos ha]
      have hall : ∀ y ∈ (x :: r).reverse, ahead d y = true := by
        intro y hy
        simp at hy
        rcases hy with hy | rfl
        · exact ahead_trans ha (hx y hy)
        · exact ha
      have : placeL (x :: r) d = 0 := by
        unfold placeL
        rw [takeWhile_all hall]; simp
      unfold insL
      rw [this]; rfl
    · rw [if_neg ha]
      rw [← ih hr]
      have hp : placeL (x :: r) d = placeL r d + 1 := by
        unfold placeL
        rw [List.reverse_cons]
        by_cases hall : ∀ y ∈ r.reverse, ahead d y = true
        · rw [List.takeWhile_append_of_pos hall]
          simp [List.takeWhile_cons, ha]
          have : (r.reverse.takeWhile fun x => ahead d x) = r.reverse := takeWhile_all hall
          rw [this]; simp
        · have hle : (r.reverse.takeWhile fun x => ahead d x).length ≤ r.length := by
            have := (List.takeWhile_prefix (fun x => ahead d x) (l := r.reverse)).length_le
            simpa using this
          rw [List.takeWhile_append]
          rw [if_neg]
          · simp; omega
          · intro he
            apply hall
            have := List.takeWhile_prefix (fun x => ahead d x) (l := r.reverse)
            have he2 := this.eq_of_length he
            intro y hy
            rw [← he2] at hy
            exact takeWhile_mem hy
      unfold insL
      rw [hp]; rfl
theorem ins_perm (l : List Due) (d : Due) : (ins l d).Perm (d :: l) := by
  induction l with
  | nil => exact List.Perm.refl _
  | cons x r ih =>
    unfold ins
    split
    · exact List.Perm.refl _
    · exact (List.Perm.cons x ih).trans (List.Perm.swap d x r)
theorem good_ins {l : List Due} (h : Good l) {d : Due} (hd : mayD d = true) (hu : ∀ x ∈ l, alike d x = false) : Good (ins l d) := by
  refine ⟨?_, fun x hx => ?_⟩
  · induction l with
    | nil => simp [ins]
    | cons x r ih =>
      have hr := h.sub (List.sublist_cons_self x r)
      have hx := (List.pairwise_cons.1 h.1).1
      unfold ins
      split
      · rename_i ha
        rw [List.pairwise_cons]
        refine ⟨fun y hy => ?_, h.1⟩
        refine ⟨?_, hu y hy⟩
        simp at hy
        rcases hy with rfl | hy
        · exact ha
        · exact ahead_trans ha (hx y hy).1
      · rename_i ha
        rw [List.pairwise_cons]
        refine ⟨fun y hy => ?_, ih hr (fun y hy => hu y (by simp [hy]))⟩
        have hm := (ins_perm r d).mem_iff.1 hy
        simp at hm
        rcases hm with rfl | hm
        · refine ⟨?_, by rw [alike_comm]; exact hu x (by simp)⟩
          cases hb : ahead x y
          · have he := ahead_total hb (by simpa using ha)
            subst he
            have := hu x (by simp)
            simp [alike, isD] at this
          · rfl
        · exact hx y hm
  · have hm := (ins_perm l d).mem_iff.1 hx
    simp at hm
    rcases hm with rfl | hm
    · exact hd
    · exact h.2 x hm
/-- two rows in order, of the same things, are one -/
theorem good_eq {l m : List Due} (hl : Good l) (hm : Good m) (hp : l.Perm m) : l = m := by
  refine List.Perm.eq_of_pairwise (le := fun a b => ahead a b = true) (fun a b _ _ h1 h2 => ?_) (hl.1.imp fun h => h.1) (hm.1.imp fun h => h.1) hp
  have := ahead_trans h1 h2
  rw [ahead_irrefl] at this; cases this
end Go.Proofs.Ytmjckopplkihlaa.Pl
