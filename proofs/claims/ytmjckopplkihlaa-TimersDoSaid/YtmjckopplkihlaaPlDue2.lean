/- Plain: what is taken, what is left, what is next. -/
import Derived.Test.YtmjckopplkihlaaPlDue
namespace Go.Proofs.Ytmjckopplkihlaa.Pl
set_option linter.unusedVariables false
set_option linter.unusedSimpArgs false

def takeL (now : Int) (l : List Due) : List Due := l.filter fun x => decide (x.at_ ≤ now)
def leftL (now : Int) (l : List Due) : List Due := l.filter fun x => !decide (x.at_ ≤ now)
theorem ahead_at {a b : Due} (h : ahead a b = true) : a.at_ ≤ b.at_ := by rw [ahead_iff] at h; omega
theorem take_left {l : List Due} (h : Good l) (now : Int) : takeL now l ++ leftL now l = l := by
  induction l with
  | nil => rfl
  | cons x r ih =>
    have ih' := ih (h.sub (List.sublist_cons_self x r))
    have hx := (List.pairwise_cons.1 h.1).1
    unfold takeL leftL at *
    by_cases hn : x.at_ ≤ now
    · simp [hn]; simpa using ih'
    · have hall : ∀ y ∈ r, ¬ y.at_ ≤ now := fun y hy => by have := ahead_at (hx y hy).1; omega
      have e1 : r.filter (fun x => decide (x.at_ ≤ now)) = [] := by
        rw [List.filter_eq_nil_iff]; intro y hy; simpa using hall y hy
      have e2 : r.filter (fun x => !decide (x.at_ ≤ now)) = r := by
        rw [List.filter_eq_self]; intro y hy; simpa using hall y hy
      simp only [List.filter_cons, hn, decide_false, Bool.not_false, if_true, e1, e2]
      simp
theorem take_sub (now : Int) (l : List Due) : (takeL now l).Sublist l := List.filter_sublist
theorem left_sub (now : Int) (l : List Due) : (leftL now l).Sublist l := List.filter_sublist
theorem take_le {now : Int} {l : List Due} {x : Due} (h : x ∈ takeL now l) : x.at_ ≤ now := by unfold takeL at h; rw [List.mem_filter] at h; simpa using h.2
theorem left_gt {now : Int} {l : List Due} {x : Due} (h : x ∈ leftL now l) : now < x.at_ := by unfold leftL at h; rw [List.mem_filter] at h; simpa using h.2
theorem take_len (now : Int) (l : List Due) : (takeL now l).length + (leftL now l).length = l.length := by
  unfold takeL leftL
  induction l with
  | nil => rfl
  | cons x r ih => simp only [List.filter_cons]; by_cases hn : x.at_ ≤ now <;> simp [hn] <;> omega
/-- the least one; of equals the first -/
def minD (x : Due) (r : List Due) : Due := r.foldl (fun m y => if y.at_ < m.at_ then y else m) x
theorem minD_mem (x : Due) (r : List Due) : minD x r ∈ x :: r := by
  unfold minD
  induction r generalizing x with
  | nil => simp
  | cons y r ih =>
    simp only [List.foldl_cons]
    have := ih (if y.at_ < x.at_ then y else x)
    split at this
    · rename_i h; rw [if_pos h]; simp only [List.mem_cons] at this ⊢; rcases this with h1 | h1 <;> simp [h1]
    · rename_i h; rw [if_neg h]; simp only [List.mem_cons] at this ⊢; rcases this with h1 | h1 <;> simp [h1]
theorem minD_snoc (x : Due) (r : List Due) (y : Due) : minD x (r ++ [y]) = if y.at_ < (minD x r).at_ then y else minD x r := by
  unfold minD; rw [List.foldl_append]; rfl
/-- when the next one is due -/
def nextL : List Due → Int
  | [] => 0
  | x :: r => (minD x r).at_
theorem next_gt {l : List Due} {now : Int} (h : ∀ x ∈ l, now < x.at_) (hl : l ≠ []) : now < nextL l := by
  cases l with
  | nil => exact absurd rfl hl
  | cons x r => exact h _ (minD_mem x r)

/-- found: the first one of a kind and a key -/
def findL (l : List Due) (kind key : Int) : Option Due := l.find? (isD kind key)
theorem find_drop (l : List Due) (kind key : Int) : findL (dropL l kind key) kind key = none := by
  unfold findL dropL
  rw [List.find?_eq_none]
  intro x hx
  rw [List.mem_filter] at hx
  simpa using hx.2
theorem isD_self (d : Due) : isD d.kind d.key d = true := by simp [isD]
theorem find_ins {l : List Due} {d : Due} (hu : ∀ x ∈ l, alike d x = false) : findL (ins l d) d.kind d.key = some d := by
  unfold findL
  induction l with
  | nil => simp [ins, isD_self]
  | cons x r ih =>
    unfold ins
    split
    · simp [isD_self]
    · have hx := hu x (by simp)
      unfold alike at hx
      simp [List.find?_cons, hx]
      exact ih fun y hy => hu y (by simp [hy])
theorem drop_ins {l : List Due} {d : Due} (hu : ∀ x ∈ l, alike d x = false) : dropL (ins l d) d.kind d.key = l := by
  unfold dropL
  induction l with
  | nil => simp [ins, isD_self]
  | cons x r ih =>
    have hr : (x :: r).filter (fun y => !isD d.kind d.key y) = x :: r := by
      rw [List.filter_eq_self]; intro y hy
      have := hu y hy
      unfold alike at this
      simp [this]
    unfold ins
    split
    · rw [List.filter_cons]; simp [isD_self]; simpa using hr
    · have hx := hu x (by simp)
      unfold alike at hx
      rw [List.filter_cons]; simp [hx]
      have := ih fun y hy => hu y (by simp [hy])
      simpa using this
theorem ins_len (l : List Due) (d : Due) : (ins l d).length = l.length + 1 := by rw [(ins_perm l d).length_eq]; rfl
/-- Add: OK and the row -/
def addOk (l : List Due) (d : Due) : Bool := mayL l && mayD d && decide ((dropL l d.kind d.key).length < 64)
def addErr (l : List Due) (d : Due) : Int := if mayL l && mayD d then (if (dropL l d.kind d.key).length < 64 then 0 else 3) else 1
def addL (l : List Due) (d : Due) : List Due := if addOk l d then ins (dropL l d.kind d.key) d else []
theorem add_err (l : List Due) (d : Due) : addErr l d = 0 ↔ addOk l d = true := by
  unfold addErr addOk
  cases mayL l <;> cases mayD d <;> simp
/-- Sooner -/
def soonB (l : List Due) (d : Due) : Bool := match findL l d.kind d.key with | some x => mayL l && mayD d && decide (x.at_ ≤ d.at_) | none => false
def soonL (l : List Due) (d : Due) : List Due := if soonB l d then l else addL l d
def soonErr (l : List Due) (d : Due) : Int := if soonB l d then 0 else addErr l d
theorem find_mem {l : List Due} {kind key : Int} {x : Due} (h : findL l kind key = some x) : x ∈ l ∧ isD kind key x = true := ⟨List.mem_of_find?_eq_some h, List.find?_some h⟩
theorem drop_len {l : List Due} {kind key : Int} {x : Due} (h : x ∈ l) (hx : isD kind key x = true) : (dropL l kind key).length < l.length := by
  unfold dropL
  rcases Nat.lt_or_ge (l.filter fun y => !isD kind key y).length l.length with h1 | h1
  · exact h1
  · exfalso
    have h2 := List.length_filter_le (fun y => !isD kind key y) l
    have h3 : (l.filter fun y => !isD kind key y).length = l.length := by omega
    rw [List.length_filter_eq_length_iff] at h3
    have := h3 x h
    simp [hx] at this
/-- where Sooner leaves all as it is, Add may -/
theorem soon_err (l : List Due) (d : Due) : soonErr l d = addErr l d := by
  unfold soonErr
  split
  · rename_i h
    unfold soonB at h
    cases hf : findL l d.kind d.key with
    | none => rw [hf] at h; cases h
    | some x =>
      rw [hf] at h
      simp only [Bool.and_eq_true, decide_eq_true_eq] at h
      obtain ⟨hm, hx⟩ := find_mem hf
      have h64 := (good_of_may h.1.1).2
      have := drop_len hm hx
      unfold addErr
      rw [h.1.1, h.1.2]
      rw [if_pos (by decide), if_pos (by omega)]
  · rfl
end Go.Proofs.Ytmjckopplkihlaa.Pl
