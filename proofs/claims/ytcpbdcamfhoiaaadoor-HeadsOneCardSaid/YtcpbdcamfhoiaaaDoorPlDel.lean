/- Plain: what slices.DeleteFunc keeps. -/
import Derived.Test.YtcpbdcamfhoiaaaDoorMem
namespace Go.Proofs.YtcpbdcamfhoiaaaDoor.Pl
set_option linter.unusedVariables false
set_option linter.unusedSimpArgs false
/-- slices.DeleteFunc, behind the first hit at k0: the row, and how many are kept, behind k rounds -/
def delS {α : Type} (p : α → Bool) (l : List α) (k0 : Nat) : Nat → List α × Nat
  | 0 => (l, k0)
  | k + 1 => match l[k0 + 1 + k]? with
    | some x => if p x = true then delS p l k0 k else ((delS p l k0 k).1.set (delS p l k0 k).2 x, (delS p l k0 k).2 + 1)
    | none => delS p l k0 k
structure DelI {α : Type} (p : α → Bool) (l : List α) (j : Nat) (s : List α × Nat) : Prop where
  len : s.1.length = l.length
  lt : s.2 < j
  take : s.1.take s.2 = (l.take j).filter fun x => !p x
  drop : s.1.drop j = l.drop j
theorem delS_spec {α : Type} {p : α → Bool} {l : List α} {k0 : Nat} (h0 : k0 < l.length) (hp : p l[k0] = true) (hb : ∀ j, j < k0 → ∀ x, l[j]? = some x → p x = false) : ∀ k, k0 + 1 + k ≤ l.length → DelI p l (k0 + 1 + k) (delS p l k0 k)
  | 0, _ => by
    refine ⟨rfl, by simp [delS], ?_, rfl⟩
    show l.take k0 = (l.take (k0 + 1)).filter _
    rw [List.take_succ_eq_append_getElem h0, List.filter_append, List.filter_eq_self.2 fun x hx => by
      obtain ⟨j, hj⟩ := List.getElem?_of_mem hx
      have hjl : j < (l.take k0).length := (List.getElem?_eq_some_iff.1 hj).1
      rw [List.getElem?_take_of_lt (by simp at hjl; omega)] at hj
      simp [hb j (by simp at hjl; omega) x hj]]
    simp [hp]
  | k + 1, hk => by
    have ih := delS_spec h0 hp hb k (by omega)
    have hj : k0 + 1 + k < l.length := by omega
    have e1 : l[k0 + 1 + k]? = some l[k0 + 1 + k] := List.getElem?_eq_getElem hj
    have hd : (delS p l k0 k).1.drop (k0 + 1 + (k + 1)) = l.drop (k0 + 1 + (k + 1)) := by
      have := congrArg (List.drop 1) ih.drop
      rw [List.drop_drop, List.drop_drop] at this
      exact this
    have hf : (l.take (k0 + 1 + (k + 1))).filter (fun x => !p x) = (l.take (k0 + 1 + k)).filter (fun x => !p x) ++ [l[k0 + 1 + k]].filter (fun x => !p x) := by
      rw [show k0 + 1 + (k + 1) = (k0 + 1 + k) + 1 by omega, List.take_succ_eq_append_getElem hj, List.filter_append]
    unfold delS
    rw [e1]
    dsimp only
    by_cases hpx : p l[k0 + 1 + k] = true
    · rw [if_pos hpx]
      exact ⟨ih.len, by have := ih.lt; omega, by rw [hf, ih.take]; simp [hpx], hd⟩
    · rw [if_neg hpx]
      have hlt := ih.lt
      have hlen := ih.len
      refine ⟨by simp [hlen], by dsimp only; omega, ?_, ?_⟩
      · dsimp only
        rw [hf, ← ih.take, List.take_succ_eq_append_getElem (by simp; omega)]
        simp [hpx]
        rw [List.take_set_of_le (Nat.le_refl _)]
      · dsimp only
        rw [List.drop_set_of_lt (by omega), hd]
theorem del_none {α : Type} {p : α → Bool} {l : List α} (h : ∀ x ∈ l, p x = false) : l.filter (fun x => !p x) = l := List.filter_eq_self.2 fun x hx => by simp [h x hx]
end Go.Proofs.YtcpbdcamfhoiaaaDoor.Pl
