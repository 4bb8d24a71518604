/- Plain: rows from one thing after another; rows taken at rising times. -/
import Derived.Test.YtmjckopplkihlaaPlDue3
namespace Go.Proofs.Ytmjckopplkihlaa.Pl
set_option linter.unusedVariables false
set_option linter.unusedSimpArgs false
theorem drop_un_self {r : List Due} {d : Due} (hu : ∀ x ∈ r, alike d x = false) : dropL r d.kind d.key = r := by
  unfold dropL
  rw [List.filter_eq_self]
  intro x hx
  have := hu x hx
  unfold alike at this
  simp [this]
theorem add_un {r : List Due} {d : Due} (hg : Good r) (hl : r.length < 64) (hd : mayD d = true) (hu : ∀ x ∈ r, alike d x = false) : addErr r d = 0 ∧ addL r d = ins r d := by
  have he : addErr r d = 0 := by
    unfold addErr
    rw [may_of_good hg (by omega), hd, drop_un_self hu, if_pos (by rfl), if_pos hl]
  exact ⟨he, by rw [add_ins he, drop_un_self hu]⟩
theorem fold_good : ∀ {m acc : List Due}, Good acc → (∀ x ∈ m, mayD x = true) → m.Pairwise (fun x y => alike y x = false) → (∀ y ∈ m, ∀ x ∈ acc, alike y x = false) → Good (m.foldl ins acc) ∧ (m.foldl ins acc).Perm (acc ++ m)
  | [], acc, hg, _, _, _ => ⟨hg, by simp⟩
  | d :: r, acc, hg, hm, hp, ha => by
    obtain ⟨hp1, hp2⟩ := List.pairwise_cons.1 hp
    have hg' := good_ins hg (hm d (by simp)) (ha d (by simp))
    obtain ⟨h1, h2⟩ := fold_good (m := r) (acc := ins acc d) hg' (fun x hx => hm x (by simp [hx])) hp2 (fun y hy x hx => by
      have := (ins_perm acc d).mem_iff.1 hx
      rcases List.mem_cons.1 this with rfl | h
      · exact hp1 y hy
      · exact ha y (by simp [hy]) x h)
    refine ⟨h1, h2.trans ?_⟩
    have h3 : (ins acc d ++ r).Perm ((d :: acc) ++ r) := List.Perm.append_right r (ins_perm acc d)
    exact h3.trans (by
      have : ((d :: acc) ++ r).Perm (acc ++ d :: r) := by
        rw [List.cons_append]; exact List.perm_middle.symm
      exact this)
/-- of unlike things that may be: the row, as far as i -/
def rowTo (l : List Due) (i : Nat) : List Due := (l.take i).foldl ins []
structure Unlike (l : List Due) : Prop where
  may : ∀ x ∈ l, mayD x = true
  un : l.Pairwise (fun x y => alike y x = false)
theorem good_nil : Good [] := ⟨List.Pairwise.nil, fun _ h => by cases h⟩
theorem Unlike.take {l : List Due} (h : Unlike l) (i : Nat) : Unlike (l.take i) := ⟨fun x hx => h.may x (List.mem_of_mem_take hx), h.un.sublist (List.take_sublist i l)⟩
theorem Unlike.rev {l : List Due} (h : Unlike l) : Unlike l.reverse := ⟨fun x hx => h.may x (by simpa using hx), by
  rw [List.pairwise_reverse]
  exact h.un.imp fun {a b} hab => by rw [alike_comm]; exact hab⟩
theorem rowTo_good {l : List Due} (h : Unlike l) (i : Nat) : Good (rowTo l i) ∧ (rowTo l i).Perm (l.take i) := by
  have := fold_good (m := l.take i) (acc := []) good_nil (h.take i).may (h.take i).un (fun _ _ _ hx => by cases hx)
  simpa [rowTo] using this
theorem rowTo_len {l : List Due} (h : Unlike l) {i : Nat} (hi : i ≤ l.length) : (rowTo l i).length = i := by
  rw [(rowTo_good h i).2.length_eq]; simp; omega
theorem rowTo_step {l : List Due} (h : Unlike l) (hl : l.length ≤ 64) {i : Nat} (hi : i < l.length) : addErr (rowTo l i) l[i] = 0 ∧ addL (rowTo l i) l[i] = rowTo l (i + 1) := by
  have hg := rowTo_good h i
  have hu : ∀ x ∈ rowTo l i, alike l[i] x = false := by
    intro x hx
    have hx' := hg.2.mem_iff.1 hx
    rw [List.mem_take_iff_getElem] at hx'
    obtain ⟨k, hk, rfl⟩ := hx'
    exact List.pairwise_iff_getElem.1 h.un k i (by omega) hi (by omega)
  obtain ⟨h1, h2⟩ := add_un hg.1 (by rw [rowTo_len h (by omega)]; omega) (h.may _ (List.getElem_mem hi)) hu
  refine ⟨h1, h2.trans ?_⟩
  unfold rowTo
  rw [List.take_succ_eq_append_getElem hi, List.foldl_append]; rfl
theorem rowTo_same {l : List Due} (h : Unlike l) : rowTo l l.length = rowTo l.reverse l.length := by
  have h1 := rowTo_good h l.length
  have h2 := rowTo_good h.rev l.length
  refine good_eq h1.1 h2.1 ?_
  have e1 : l.take l.length = l := List.take_length
  have e2 : l.reverse.take l.length = l.reverse := List.take_of_length_le (by simp)
  rw [e1] at h1; rw [e2] at h2
  exact h1.2.trans ((List.reverse_perm l).symm.trans h2.2.symm)
theorem may_one (x : Due) : mayL [x] = mayD x := by
  cases h : mayD x <;> simp [mayL, okAt, h]
theorem time_aux {l a b : List Due} {t : Nat} (ht : t ≤ l.length) (happ : a ++ b = l.drop t) (hgt : Good a) :
    t + a.length ≤ l.length ∧ (∀ k (hk : k < a.length), ∃ h : t + k < l.length, a[k] = l[t + k]) ∧ b = l.drop (t + a.length) ∧
      (∀ k (hk : k < a.length), 0 < k → (a[k - 1]'(by omega)).at_ ≤ a[k].at_) := by
  have hlen : a.length + b.length = l.length - t := by rw [← List.length_append, happ, List.length_drop]
  refine ⟨by omega, fun k hk => ⟨by omega, ?_⟩, ?_, fun k hk h0 => ?_⟩
  · have h1 : (a ++ b)[k]'(by simp; omega) = a[k] := List.getElem_append_left hk
    rw [← h1]
    simp only [happ, List.getElem_drop]
  · rw [← List.drop_drop, ← happ, List.drop_left]
  · exact ahead_at (List.pairwise_iff_getElem.1 hgt.1 (k - 1) k (by omega) hk (by omega)).1
/-- taken, left, as parts of the row -/
theorem time_round {l : List Due} {t : Nat} (hg : Good l) (ht : t ≤ l.length) (now : Int) :
    t + (takeL now (l.drop t)).length ≤ l.length ∧ (∀ k (hk : k < (takeL now (l.drop t)).length), ∃ h : t + k < l.length, (takeL now (l.drop t))[k] = l[t + k]) ∧ leftL now (l.drop t) = l.drop (t + (takeL now (l.drop t)).length) ∧
      (∀ k (hk : k < (takeL now (l.drop t)).length), 0 < k → ((takeL now (l.drop t))[k - 1]'(by omega)).at_ ≤ (takeL now (l.drop t))[k].at_) := by
  have hs := hg.sub (List.drop_sublist t l)
  exact time_aux ht (take_left hs now) (hs.sub (take_sub now (l.drop t)))
end Go.Proofs.Ytmjckopplkihlaa.Pl
