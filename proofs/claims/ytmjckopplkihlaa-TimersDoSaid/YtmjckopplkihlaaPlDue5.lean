/- Plain: what the document's functions on rows of things answer. -/
import Derived.Test.YtmjckopplkihlaaPlDue3
namespace Go.Proofs.Ytmjckopplkihlaa.Pl
set_option linter.unusedVariables false
set_option linter.unusedSimpArgs false
theorem ins_none {d : Due} : ∀ {l : List Due}, l.any (ahead d) = false → ins l d = l ++ [d]
  | [], _ => rfl
  | x :: r, h => by
    rw [List.any_cons, Bool.or_eq_false_iff] at h
    show (if ahead d x = true then _ else _) = _
    rw [h.1, if_neg (by simp), ins_none h.2]; rfl
theorem ins_put {d x : Due} : ∀ {l : List Due}, l.any (ahead d) = true → ins (l ++ [x]) d = ins l d ++ [x]
  | [], h => by cases h
  | y :: r, h => by
    show (if ahead d y = true then _ else _) = (if ahead d y = true then _ else _) ++ _
    cases hy : ahead d y with
    | true => simp
    | false =>
      rw [List.any_cons, hy, Bool.false_or] at h
      rw [if_neg (by simp), if_neg (by simp)]
      exact congrArg (y :: ·) (ins_put (x := x) (l := r) h)
theorem ins_new {d x : Due} (hx : ahead d x = true) : ∀ {l : List Due}, l.any (ahead d) = false → ins (l ++ [x]) d = l ++ [d] ++ [x]
  | [], _ => by show (if ahead d x = true then _ else _) = _; rw [if_pos hx]; rfl
  | y :: r, h => by
    rw [List.any_cons, Bool.or_eq_false_iff] at h
    have h2 := ins_new hx (l := r) h.2
    show (if ahead d y = true then _ else y :: ins (r ++ [x]) d) = _
    rw [h.1, if_neg (by simp), h2]; rfl
/-- behind k rounds: is the thing put? the row -/
def insOut (rest : List Due) (d : Due) (k : Nat) : List Due := if (rest.take k).any (ahead d) then ins (rest.take k) d else rest.take k
theorem insOut_put {rest : List Due} {d : Due} {k : Nat} (hk : k < rest.length) (h : (rest.take k).any (ahead d) = true) : insOut rest d (k + 1) = insOut rest d k ++ [rest[k]] ∧ (rest.take (k + 1)).any (ahead d) = true := by
  have h2 : (rest.take (k + 1)).any (ahead d) = true := by rw [List.take_succ_eq_append_getElem hk, List.any_append, h]; rfl
  unfold insOut
  rw [h2, h, if_pos rfl, if_pos rfl, List.take_succ_eq_append_getElem hk, ins_put h]
  exact ⟨rfl, rfl⟩
theorem insOut_new {rest : List Due} {d : Due} {k : Nat} (hk : k < rest.length) (h : (rest.take k).any (ahead d) = false) (hx : ahead d rest[k] = true) : insOut rest d (k + 1) = insOut rest d k ++ [d] ++ [rest[k]] ∧ (rest.take (k + 1)).any (ahead d) = true := by
  have h2 : (rest.take (k + 1)).any (ahead d) = true := by rw [List.take_succ_eq_append_getElem hk, List.any_append, h]; simp [hx]
  unfold insOut
  rw [h2, h, if_pos rfl, if_neg (by simp), List.take_succ_eq_append_getElem hk, ins_new hx h]
  exact ⟨rfl, rfl⟩
theorem insOut_no {rest : List Due} {d : Due} {k : Nat} (hk : k < rest.length) (h : (rest.take k).any (ahead d) = false) (hx : ahead d rest[k] = false) : insOut rest d (k + 1) = insOut rest d k ++ [rest[k]] ∧ (rest.take (k + 1)).any (ahead d) = false := by
  have h2 : (rest.take (k + 1)).any (ahead d) = false := by rw [List.take_succ_eq_append_getElem hk, List.any_append, h]; simp [hx]
  unfold insOut
  rw [h2, h, if_neg (by simp), if_neg (by simp), List.take_succ_eq_append_getElem hk]
  exact ⟨rfl, rfl⟩
theorem insOut_end (rest : List Due) (d : Due) : (if rest.any (ahead d) then insOut rest d rest.length else insOut rest d rest.length ++ [d]) = ins rest d := by
  unfold insOut
  rw [List.take_length]
  cases h : rest.any (ahead d) with
  | true => simp
  | false => simp [ins_none h]
theorem next_one {l : List Due} (h : 0 < l.length) : nextL (l.take 1) = l[0].at_ := by
  cases l with
  | nil => simp at h
  | cons x r => simp [nextL, minD]
theorem next_more {l : List Due} {k : Nat} (hk : k < l.length) (h0 : 0 < k) : nextL (l.take (k + 1)) = if l[k].at_ < nextL (l.take k) then l[k].at_ else nextL (l.take k) := by
  rw [List.take_succ_eq_append_getElem hk]
  cases l with
  | nil => simp at hk
  | cons x r =>
    obtain ⟨j, rfl⟩ : ∃ j, k = j + 1 := ⟨k - 1, by omega⟩
    simp only [List.take_succ_cons, List.cons_append, nextL]
    rw [minD_snoc]
    split
    · rename_i h; exact (if_pos h).symm
    · rename_i h; exact (if_neg h).symm
def takeB (now : Int) (due : Bool) (l : List Due) : List Due := l.filter fun x => decide (x.at_ ≤ now) == due
theorem takeB_true (now : Int) (l : List Due) : takeB now true l = takeL now l := by unfold takeB takeL; congr; funext x; simp
theorem takeB_false (now : Int) (l : List Due) : takeB now false l = leftL now l := by unfold takeB leftL; congr; funext x; simp
theorem filter_succ {α : Type} (p : α → Bool) {l : List α} {k : Nat} (hk : k < l.length) : (l.take (k + 1)).filter p = if p l[k] = true then (l.take k).filter p ++ [l[k]] else (l.take k).filter p := by
  rw [List.take_succ_eq_append_getElem hk, List.filter_append]
  split
  · rename_i h; simp [h]
  · rename_i h; simp [h]
/-- what keeps a row from being one, at i -/
theorem okAt_at {l : List Due} {i : Nat} (hi : i < l.length) : okAt l i = (mayD l[i] && !((l.take i).any (isD l[i].kind l[i].key)) && (decide (i = 0) || !ahead l[i] (l.getD (i - 1) default))) := by
  unfold okAt
  have : l.getD i default = l[i] := by rw [List.getD_eq_getElem?_getD, List.getElem?_eq_getElem hi]; rfl
  rw [this]
theorem may_no {l : List Due} {i : Nat} (hi : i < l.length) (h : okAt l i = false) : mayL l = false := by
  unfold mayL
  rw [Bool.and_eq_false_iff]
  left
  rw [List.all_eq_false]
  exact ⟨i, by simpa using hi, by simp [h]⟩
theorem may_all {l : List Due} (h : ∀ i, i < l.length → okAt l i = true) : mayL l = decide (l.length ≤ 64) := by
  unfold mayL
  rw [List.all_eq_true.2 fun i hi => h i (by simpa using hi), Bool.true_and]
theorem isD_sym (a b : Due) : isD a.kind a.key b = (decide (b.kind = a.kind) && decide (b.key = a.key)) := by unfold isD; rw [Bool.eq_iff_iff]; simp
/-- Sooner: where the thing is there, the row may be with it just if it may be -/
theorem soon_ref (l : List Due) (d : Due) : soonB l d = (decide (addErr l d = 0) && match findL l d.kind d.key with | some x => decide (x.at_ ≤ d.at_) | none => false) := by
  unfold soonB
  cases hf : findL l d.kind d.key with
  | none => simp
  | some x =>
    obtain ⟨hm, hx⟩ := find_mem hf
    have hd := drop_len hm hx
    unfold addErr
    cases h1 : mayL l with
    | false => simp
    | true =>
      have := (good_of_may h1).2
      cases h2 : mayD d with
      | false => simp
      | true =>
        have h3 : (dropL l d.kind d.key).length < 64 := by omega
        simp [h3]
end Go.Proofs.Ytmjckopplkihlaa.Pl
