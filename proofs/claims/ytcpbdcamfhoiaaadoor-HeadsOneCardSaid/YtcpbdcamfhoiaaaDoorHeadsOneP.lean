/- Plain laws for HeadsOne. -/
import Derived.Test.YtcpbdcamfhoiaaaDoorHdC2
namespace Go.Proofs.YtcpbdcamfhoiaaaDoor.HeadsOne
set_option linter.unusedVariables false
set_option linter.unusedSimpArgs false
open Go.RowKit Mem Sim Opn Hd
theorem valsOf_app (n : ByteArray) (a b : List Pl.Head) : valsOf n (a ++ b) = valsOf n a ++ valsOf n b := by
  unfold valsOf; rw [List.filter_append, List.map_append]
theorem fv_many : ∀ (a b : List ByteArray), 2 ≤ a.length + b.length → framV a b = (⟨0, 0, 0⟩, 2)
  | [], [], h => by simp at h
  | [], [w], h => by simp at h
  | [s], [], h => by simp at h
  | x :: y :: r, [], _ => rfl
  | [], x :: y :: r, _ => rfl
  | x :: r, y :: q, _ => by cases r <;> cases q <;> rfl
theorem framV_rot (a1 a2 b1 b2 : List ByteArray) : framV (a2 ++ a1) (b2 ++ b1) = framV (a1 ++ a2) (b1 ++ b2) := by
  by_cases h : 2 ≤ a1.length + a2.length + b1.length + b2.length
  · rw [fv_many _ _ (by simp; omega), fv_many _ _ (by simp; omega)]
  · cases a1 <;> cases a2 <;> cases b1 <;> cases b2 <;> first | rfl | (simp at h ⊢; done) | (simp at h; omega) | (simp at h ⊢)
def turned (l : List Pl.Head) (k : Nat) : List Pl.Head := l.drop k ++ l.take k
theorem fram_turn (l : List Pl.Head) (k : Nat) : fram (turned l k) = fram l := by
  unfold fram turned
  rw [valsOf_app, valsOf_app, framV_rot, ← valsOf_app, ← valsOf_app, List.take_append_drop]
theorem fram_other {t : List Pl.Head} {o : Pl.Head} (h1 : o.name ≠ clS) (h2 : o.name ≠ teS) : fram (t ++ [o]) = fram t := by
  unfold fram
  rw [valsOf_app, valsOf_app]
  have e1 : valsOf clS [o] = [] := by simp [valsOf, h1]
  have e2 : valsOf teS [o] = [] := by simp [valsOf, h2]
  rw [e1, e2, List.append_nil, List.append_nil]
theorem fram_some {l : List Pl.Head} (h : (fram l).1 ≠ ⟨0, 0, 0⟩) : 1 ≤ (valsOf clS l).length + (valsOf teS l).length := by
  rcases Nat.lt_or_ge ((valsOf clS l).length + (valsOf teS l).length) 1 with h1 | h1
  · exfalso
    have e1 : valsOf clS l = [] := List.length_eq_zero_iff.1 (by omega)
    have e2 : valsOf teS l = [] := List.length_eq_zero_iff.1 (by omega)
    exact h (by unfold fram; rw [e1, e2]; rfl)
  · exact h1
theorem fram_cl {l : List Pl.Head} (h : (fram l).1 ≠ ⟨0, 0, 0⟩) (v : ByteArray) : fram (l ++ [⟨clS, v⟩]) = (⟨0, 0, 0⟩, 2) := by
  have := fram_some h
  unfold fram
  rw [valsOf_app, valsOf_app, (vals1 v).1, (vals1 v).2, fv_many _ _ (by simp; omega)]
theorem fram_te {l : List Pl.Head} (h : (fram l).1 ≠ ⟨0, 0, 0⟩) (v : ByteArray) : fram (l ++ [⟨teS, v⟩]) = (⟨0, 0, 0⟩, 2) := by
  have := fram_some h
  have h2 : decide (teS = clS) = false := by decide +kernel
  have e1 : valsOf clS [⟨teS, v⟩] = [] := by unfold valsOf; simp only [List.filter_cons, h2]; rfl
  have e2 : valsOf teS [⟨teS, v⟩] = [v] := by simp [valsOf]
  unfold fram
  rw [valsOf_app, valsOf_app, e1, e2, fv_many _ _ (by simp; omega)]
theorem ok_app {a b : List Pl.Head} (ha : ∀ h ∈ a, okHead h) (hb : ∀ h ∈ b, okHead h) : ∀ h ∈ a ++ b, okHead h := fun h hh => (List.mem_append.1 hh).elim (ha h) (hb h)
theorem ok_turned {l : List Pl.Head} (hl : ∀ h ∈ l, okHead h) (k : Nat) : ∀ h ∈ turned l k, okHead h := ok_app (fun h hh => hl h (List.mem_of_mem_drop hh)) (fun h hh => hl h (List.mem_of_mem_take hh))
theorem ok_one {h : Pl.Head} (hh : okHead h) : ∀ x ∈ [h], okHead x := fun x hx => by simp at hx; subst hx; exact hh
theorem turned_len (l : List Pl.Head) (k : Nat) (hk : k ≤ l.length) : (turned l k).length = l.length := by unfold turned; simp; omega
theorem turned_rows (l : List Pl.Head) (k : Nat) : headsT (turned l k) = .sl 2 ([] ++ ((l.map headT).take (l.map headT).length).drop k ++ ((l.map headT).take k).drop 0) := by
  unfold turned headsT
  rw [List.take_length, List.drop_zero, List.nil_append, List.map_append, List.map_drop, List.map_take]
theorem cl_ok : clS.size ≤ maxLen := by unfold maxLen; decide
theorem te_ok : teS.size ≤ maxLen := by unfold maxLen; decide
theorem rem_nat (a : Int) (n : Nat) : (max 0 a).tmod (n : Int) = (((max 0 a).toNat % n : Nat) : Int) := by
  have h : max 0 a = (((max 0 a).toNat : Nat) : Int) := by omega
  rw [h, Int.ofNat_tmod]; simp
end Go.Proofs.YtcpbdcamfhoiaaaDoor.HeadsOne
