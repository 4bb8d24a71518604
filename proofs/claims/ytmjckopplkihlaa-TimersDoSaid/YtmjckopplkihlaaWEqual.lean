/- The walk of slices.Equal at api.Due, and timers.Same. -/
import Derived.Test.YtmjckopplkihlaaWPlace
namespace Go.Proofs.Ytmjckopplkihlaa.Due
set_option linter.unusedVariables false
set_option linter.unusedSimpArgs false
open Go.RowKit Mem BigFrame

theorem due_eq {a b : Pl.Due} : a = b ↔ (a.at_ = b.at_ ∧ a.kind = b.kind) ∧ a.key = b.key := by
  cases a; cases b; simp [and_assoc]
theorem take_eq_snoc {l m : List Pl.Due} {k : Nat} (hl : k < l.length) (hm : k < m.length) (h : l.take k = m.take k) (he : l[k] = m[k]) : l.take (k + 1) = m.take (k + 1) := by
  rw [List.take_succ_eq_append_getElem hl, List.take_succ_eq_append_getElem hm, h, he]
theorem ne_at {l m : List Pl.Due} {k : Nat} (hl : k < l.length) (hm : k < m.length) (he : l[k] ≠ m[k]) : l ≠ m := fun h => by subst h; exact he rfl
set_option maxRecDepth 100000 in
set_option maxHeartbeats 1600000 in
theorem equal_ (A A' : Option Addr) (cap cap' : Nat) (l m : List Pl.Due) (w : World) {B : Nat} (hB : B ≤ w.heap.size) (hA : Dues B w A l) (hA' : Dues B w A' m) (hn : l.length ≤ maxLen) (hm : m.length ≤ maxLen) :
    Calls Try.prog 34 #[.slice A l.length cap, .slice A' m.length cap'] w fun e w' => e = .returned (.bool (decide (l = m))) ∧ Lo w w' := by
  unfold maxLen at hn hm
  by_cases hlen : l.length = m.length
  · have HL := Lib.hid hlen
    rw [← hlen]
    clear hlen hm
    go_enter Try.func34, Try.ntmps34
    go_wp2
    go_loopw [5, 13] (fun _ i wr => ∃ k : Nat, k ≤ l.length ∧ i = .int .i64 k ∧ Lo w wr ∧ Hid (l.take k = m.take k)) (fun _ i _ => l.length - (intOf i).toNat)
    case atStart => exact ⟨0, Nat.zero_le _, rfl, Lo.refl _, Lib.hid rfl⟩
    case round =>
      obtain ⟨k, hk, rfl, hlo, hall⟩ := hrel
      by_cases hlt : k < l.length
      · have hlm : k < m.length := by have := HL.out; omega
        obtain ⟨b, off, rfl, hb, hc0, hc1, hc2, -, -, -⟩ := Dues.at_ (SliceAt.lo DueR.kept hA hlo hB) hlt
        obtain ⟨b', off', rfl, hb', hd0, hd1, hd2, -, -, -⟩ := Dues.at_ (SliceAt.lo DueR.kept hA' hlo hB) hlm
        have HS : Hid ((l[k].at_ = m[k].at_ ∧ l[k].kind = m[k].kind) ∧ l[k].key = m[k].key → l.take (k + 1) = m.take (k + 1)) := Lib.hid fun h => take_eq_snoc hlt hlm hall.out (due_eq.mpr h)
        have HX : Hid (¬ ((l[k].at_ = m[k].at_ ∧ l[k].kind = m[k].kind) ∧ l[k].key = m[k].key) → decide (l = m) = false) := Lib.hid fun h => decide_eq_false (ne_at hlt hlm (fun e => h (due_eq.mp e)))
        have j0 : (0 : Int) ≤ (k : Int) := Int.natCast_nonneg _
        have j1 : (k : Int) < (l.length : Int) := by omega
        generalize l[k].at_ = x0 at *
        generalize l[k].kind = x1 at *
        generalize l[k].key = x2 at *
        generalize m[k].at_ = y0 at *
        generalize m[k].kind = y1 at *
        generalize m[k].key = y2 at *
        clear hlm
        by_cases e0 : x0 = y0 <;> by_cases e1 : x1 = y1 <;> by_cases e2 : x2 = y2
        all_goals
          have HD : Hid (((x0 = y0 ∧ x1 = y1) ∧ x2 = y2) ∨ ¬ ((x0 = y0 ∧ x1 = y1) ∧ x2 = y2)) := Lib.hid (Classical.em _)
          go_wp2
          go_region
          go_wp2
          first
            | (go_ret
               exact ⟨ret_bool (HX.out (by simp [*])).symm, (by repeat (first | exact Lo.refl _ | assumption | refine Lo.drew ?_ | refine Lo.alloc ?_ _ | refine Lo.setCell ?_ (by first | (dsimp only; omega) | (simp; omega) | (simp; done)) _ | refine Lo.trans ?_ (by assumption)))⟩)
            | (go_roundw
               case rel => exact ⟨k + 1, by omega, by go_num, (by repeat (first | exact Lo.refl _ | assumption | refine Lo.drew ?_ | refine Lo.alloc ?_ _ | refine Lo.setCell ?_ (by first | (dsimp only; omega) | (simp; omega) | (simp; done)) _ | refine Lo.trans ?_ (by assumption))), Lib.hid (HS.out (by simp [*]))⟩
               case measure => simp [intOf]; omega)
      · have HF := hall.out
        have := HL.out
        rw [List.take_of_length_le (by omega), List.take_of_length_le (by omega)] at HF
        have HG : Hid (decide (l = m) = true) := Lib.hid (decide_eq_true HF)
        clear HF this
        go_wp2
        go_ret
        exact ⟨ret_bool HG.out.symm, (by repeat (first | exact Lo.refl _ | assumption | refine Lo.drew ?_ | refine Lo.alloc ?_ _ | refine Lo.setCell ?_ (by first | (dsimp only; omega) | (simp; omega) | (simp; done)) _ | refine Lo.trans ?_ (by assumption)))⟩
  · have HG : Hid (decide (l = m) = false) := Lib.hid (decide_eq_false fun h => hlen (by rw [h]))
    have hl2 : ¬ (l.length : Int) = (m.length : Int) := by omega
    go_enter Try.func34, Try.ntmps34
    go_wp2
    go_ret
    exact ⟨ret_bool HG.out.symm, (by repeat (first | exact Lo.refl _ | assumption | refine Lo.drew ?_ | refine Lo.alloc ?_ _ | refine Lo.setCell ?_ (by first | (dsimp only; omega) | (simp; omega) | (simp; done)) _ | refine Lo.trans ?_ (by assumption)))⟩
theorem same_ (A A' : Option Addr) (cap cap' : Nat) (l m : List Pl.Due) (w : World) {B : Nat} (hB : B ≤ w.heap.size) (hA : Dues B w A l) (hA' : Dues B w A' m) (hn : l.length ≤ maxLen) (hm : m.length ≤ maxLen) :
    Calls Try.prog 11 #[.slice A l.length cap, .slice A' m.length cap'] w fun e w' => e = .returned (.bool (decide (l = m))) ∧ Lo w w' := by
  have HC := Lib.hid (equal_ A A' cap cap' l m w hB hA hA' hn hm)
  go_enter Try.func11, Try.ntmps11
  go_wp2_with (go_at_call 34; refine (HC.out).mono ?_; rintro e w1 ⟨rfl, hb⟩)
  go_ret
  exact ⟨rfl, (by repeat (first | exact Lo.refl _ | assumption | refine Lo.drew ?_ | refine Lo.alloc ?_ _ | refine Lo.setCell ?_ (by first | (dsimp only; omega) | (simp; omega) | (simp; done)) _ | refine Lo.trans ?_ (by assumption)))⟩
end Go.Proofs.Ytmjckopplkihlaa.Due
