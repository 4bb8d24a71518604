/- Plain: what the laws of chapter 24 ask. -/
import Derived.Test.YtmjckopplkihlaaPlDue2
namespace Go.Proofs.Ytmjckopplkihlaa.Pl
set_option linter.unusedVariables false
set_option linter.unusedSimpArgs false
theorem left_left {a b : Int} (h : a ≤ b) (l : List Due) : leftL b (leftL a l) = leftL b l := by
  unfold leftL
  rw [List.filter_filter]
  refine List.filter_congr fun x _ => ?_
  by_cases h1 : x.at_ ≤ b <;> by_cases h2 : x.at_ ≤ a <;> simp [h1, h2]
  omega
theorem take_two {a b : Int} (h : a ≤ b) (l : List Due) : (takeL a l).length + (takeL b (leftL a l)).length = (takeL b l).length := by
  have h1 := take_len a l
  have h2 := take_len b (leftL a l)
  have h3 := take_len b l
  rw [left_left h] at h2
  omega
theorem take_take {a b : Int} (h : a ≤ b) (l : List Due) : takeL b (takeL a l) = takeL a l := by
  have : ∀ x ∈ takeL a l, decide (x.at_ ≤ b) = true := fun x hx => by have := take_le hx; simp; omega
  exact List.filter_eq_self.2 this
theorem take_app {l : List Due} (hg : Good l) {a b : Int} (h : a ≤ b) : takeL a l ++ takeL b (leftL a l) = takeL b l := by
  have h1 := take_left hg a
  have h2 : takeL b (takeL a l ++ leftL a l) = takeL b (takeL a l) ++ takeL b (leftL a l) := by unfold takeL; rw [List.filter_append]
  rw [h1, take_take h] at h2
  exact h2.symm
theorem may_sub {l m : List Due} (h : mayL l = true) (hs : m.Sublist l) : mayL m = true := by
  obtain ⟨h1, h2⟩ := good_of_may h
  exact may_of_good (h1.sub hs) (Nat.le_trans hs.length_le h2)
theorem may_nil : mayL [] = true := by decide
theorem may_take {l : List Due} (h : mayL l = true) (now : Int) : mayL (takeL now l) = true := may_sub h (take_sub now l)
theorem may_left {l : List Due} (h : mayL l = true) (now : Int) : mayL (leftL now l) = true := may_sub h (left_sub now l)
theorem may_drop {l : List Due} (h : mayL l = true) (kind key : Int) : mayL (dropL l kind key) = true := may_sub h List.filter_sublist
theorem may_add {l : List Due} (h : mayL l = true) (d : Due) : mayL (addL l d) = true := by
  unfold addL
  split
  · rename_i ho
    unfold addOk at ho
    simp only [Bool.and_eq_true, decide_eq_true_eq] at ho
    exact may_of_good (good_ins (good_drop (good_of_may h).1 _ _) ho.1.2 fun x hx => drop_un hx) (by rw [ins_len]; omega)
  · exact may_nil
theorem may_soon {l : List Due} (h : mayL l = true) (d : Due) : mayL (soonL l d) = true := by
  unfold soonL
  split
  · exact h
  · exact may_add h d
theorem add_ins {l : List Due} {d : Due} (he : addErr l d = 0) : addL l d = ins (dropL l d.kind d.key) d := by
  unfold addL; rw [if_pos ((add_err l d).1 he)]
theorem find_add {l : List Due} {d : Due} (he : addErr l d = 0) : findL (addL l d) d.kind d.key = some d := by
  rw [add_ins he]; exact find_ins fun x hx => drop_un hx
theorem drop_add {l : List Due} {d : Due} (he : addErr l d = 0) : dropL (addL l d) d.kind d.key = dropL l d.kind d.key := by
  rw [add_ins he]; exact drop_ins fun x hx => drop_un hx
theorem len_add {l : List Due} {d : Due} (he : addErr l d = 0) : (addL l d).length = (dropL l d.kind d.key).length + 1 := by
  rw [add_ins he]; exact ins_len _ _
theorem drop_soon {l : List Due} {d : Due} (he : addErr l d = 0) : dropL (soonL l d) d.kind d.key = dropL l d.kind d.key := by
  unfold soonL
  split
  · rfl
  · exact drop_add he
/-- what Find of Sooner's row is: what was there, where that is sooner -/
theorem find_soon {l : List Due} {d : Due} (he : addErr l d = 0) : ∃ x, findL (soonL l d) d.kind d.key = some x ∧
    x.at_ = (match findL l d.kind d.key with | some y => if y.at_ < d.at_ then y.at_ else d.at_ | none => d.at_) := by
  have ho := (add_err l d).1 he
  unfold addOk at ho
  simp only [Bool.and_eq_true, decide_eq_true_eq] at ho
  unfold soonL soonB
  cases hf : findL l d.kind d.key with
  | none =>
    simp only [Bool.false_eq_true, if_false]
    exact ⟨d, find_add he, rfl⟩
  | some y =>
    simp only [ho.1.1, ho.1.2, Bool.and_self, Bool.true_and, decide_eq_true_eq]
    by_cases h1 : y.at_ ≤ d.at_
    · rw [if_pos h1]
      refine ⟨y, hf, ?_⟩
      split <;> omega
    · rw [if_neg h1]
      refine ⟨d, find_add he, ?_⟩
      rw [if_neg (by omega)]
end Go.Proofs.Ytmjckopplkihlaa.Pl
