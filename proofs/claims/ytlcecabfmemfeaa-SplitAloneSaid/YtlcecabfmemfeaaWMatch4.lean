/- The walks of chapter 7's functions, fourth part: what implies. -/
import Derived.Test.YtlcecabfmemfeaaWMatch2
import Derived.Test.YtlcecabfmemfeaaWMatch3
namespace Go.Proofs.Ytlcecabfmemfeaa.WMatch
set_option linter.unusedVariables false
set_option linter.unusedSimpArgs false
open Go.RowKit Mem BigFrame

theorem may_fit {k : Int} {s : ByteArray} {b : Bool} (h : Pl.may k s.toList = b) : ∀ w : World, s.size ≤ maxLen → Calls Try.prog 23 #[.agg #[.int .i64 k, .string s]] w fun e w' => e = .returned (.bool b) ∧ Lo w w' := fun w hs => by rw [← h]; exact may k s w hs
theorem refMay_fit {k : Int} {s : ByteArray} {b : Bool} (h : Pl.may k s.toList = b) : ∀ w : World, s.size ≤ maxLen → Calls Try.prog 28 #[.agg #[.int .i64 k, .string s]] w fun e w' => e = .returned (.bool b) ∧ Lo w w' := fun w hs => by rw [← h]; exact refMay k s w hs
theorem matches_fit {k : Int} {s t : ByteArray} {b : Bool} (h : Pl.matches_ k s.toList t.toList = b) : ∀ w : World, s.size ≤ maxLen → t.size ≤ maxLen → Calls Try.prog 22 #[.agg #[.int .i64 k, .string s], .string t] w fun e w' => e = .returned (.bool b) ∧ Lo w w' := fun w hs ht => by rw [← h]; exact matches_ k s t w hs ht

/-- the reference's Implies, step by step -/
def refImpV (ka : Int) (la : Pl.Bs) (kb : Int) (lb : Pl.Bs) : Bool := Pl.refImplies ka la kb lb


set_option maxHeartbeats 800000 in
theorem refImplies_a (ka : Int) (sa : ByteArray) (kb : Int) (sb : ByteArray) (w : World) (ha : sa.size ≤ maxLen) (hb : sb.size ≤ maxLen) (hma : Pl.may ka sa.toList = false) :
    Calls Try.prog 18 #[.agg #[.int .i64 ka, .string sa], .agg #[.int .i64 kb, .string sb]] w fun e w' => e = .returned (.bool true) ∧ Lo w w' := by
  have HA := Lib.hid hma
  clear hma
  go_enter Try.func18, Try.ntmps18
  go_wp2_with (first
      | (go_at_call 28; refine (refMay _ _ _ (by assumption)).mono ?_; rintro e w1 ⟨rfl, hb⟩; obtain ⟨hc, hf, hz⟩ := hb.facts; have hz0 := hz w.heap.size (by first | assumption | (simp; done) | (simp; omega)); have hq0 := fun o => hc w.heap.size o (by first | assumption | (simp; done) | (simp; omega)); have hz1 := hz (w.heap.size + 1) (by first | assumption | (simp; done) | (simp; omega)); have hq1 := fun o => hc (w.heap.size + 1) o (by first | assumption | (simp; done) | (simp; omega)); (try rw [HA.out]); skip)
      | (go_at_call 21; refine (refMatches _ _ _ _ (by assumption) (by assumption)).mono ?_; rintro e w3 ⟨rfl, hb⟩; obtain ⟨hc, hf, hz⟩ := hb.facts; have hz0 := hz w.heap.size (by first | assumption | (simp; done) | (simp; omega)); have hq0 := fun o => hc w.heap.size o (by first | assumption | (simp; done) | (simp; omega)); have hz1 := hz (w.heap.size + 1) (by first | assumption | (simp; done) | (simp; omega)); have hq1 := fun o => hc (w.heap.size + 1) o (by first | assumption | (simp; done) | (simp; omega)); skip))
  all_goals
    go_ret
    exact ⟨ret_bool (by first | rfl | simp [*]), (by repeat (first | exact Lo.refl _ | assumption | refine Lo.drew ?_ | refine Lo.alloc ?_ _ | refine Lo.setCell ?_ (by first | (dsimp only; omega) | (simp; omega) | (simp; done)) _ | refine Lo.trans ?_ (by assumption)))⟩

set_option maxHeartbeats 800000 in
theorem refImplies_b (ka : Int) (sa : ByteArray) (kb : Int) (sb : ByteArray) (w : World) (ha : sa.size ≤ maxLen) (hb : sb.size ≤ maxLen) (hma : Pl.may ka sa.toList = true) (hmb : Pl.may kb sb.toList = false) :
    Calls Try.prog 18 #[.agg #[.int .i64 ka, .string sa], .agg #[.int .i64 kb, .string sb]] w fun e w' => e = .returned (.bool false) ∧ Lo w w' := by
  have HA := Lib.hid hma
  have HB := Lib.hid hmb
  clear hma hmb
  go_enter Try.func18, Try.ntmps18
  go_wp2_with (first
      | (go_at_call 28; refine (refMay _ _ _ (by assumption)).mono ?_; rintro e w1 ⟨rfl, hb⟩; obtain ⟨hc, hf, hz⟩ := hb.facts; have hz0 := hz w.heap.size (by first | assumption | (simp; done) | (simp; omega)); have hq0 := fun o => hc w.heap.size o (by first | assumption | (simp; done) | (simp; omega)); have hz1 := hz (w.heap.size + 1) (by first | assumption | (simp; done) | (simp; omega)); have hq1 := fun o => hc (w.heap.size + 1) o (by first | assumption | (simp; done) | (simp; omega)); (try rw [HA.out]); (try rw [HB.out]))
      | (go_at_call 21; refine (refMatches _ _ _ _ (by assumption) (by assumption)).mono ?_; rintro e w3 ⟨rfl, hb⟩; obtain ⟨hc, hf, hz⟩ := hb.facts; have hz0 := hz w.heap.size (by first | assumption | (simp; done) | (simp; omega)); have hq0 := fun o => hc w.heap.size o (by first | assumption | (simp; done) | (simp; omega)); have hz1 := hz (w.heap.size + 1) (by first | assumption | (simp; done) | (simp; omega)); have hq1 := fun o => hc (w.heap.size + 1) o (by first | assumption | (simp; done) | (simp; omega)); skip))
  all_goals
    go_ret
    exact ⟨ret_bool (by first | rfl | simp [*]), (by repeat (first | exact Lo.refl _ | assumption | refine Lo.drew ?_ | refine Lo.alloc ?_ _ | refine Lo.setCell ?_ (by first | (dsimp only; omega) | (simp; omega) | (simp; done)) _ | refine Lo.trans ?_ (by assumption)))⟩

set_option maxHeartbeats 800000 in
theorem refImplies_c (ka : Int) (sa : ByteArray) (kb : Int) (sb : ByteArray) (w : World) (ha : sa.size ≤ maxLen) (hb : sb.size ≤ maxLen) (hma : Pl.may ka sa.toList = true) (hmb : Pl.may kb sb.toList = true) (m : Bool) (hm : Pl.matches_ kb sb.toList sa.toList = m) (h1 : (ka == 1) = true) :
    Calls Try.prog 18 #[.agg #[.int .i64 ka, .string sa], .agg #[.int .i64 kb, .string sb]] w fun e w' => e = .returned (.bool (m || (kb == 4))) ∧ Lo w w' := by
  have HA := Lib.hid hma
  have HB := Lib.hid hmb
  clear hma hmb
  have HM := Lib.hid hm
  clear hm
  cases m
  all_goals
    go_enter Try.func18, Try.ntmps18
    go_wp2_with (first
        | (go_at_call 28; refine (refMay _ _ _ (by assumption)).mono ?_; rintro e w1 ⟨rfl, hb⟩; obtain ⟨hc, hf, hz⟩ := hb.facts; have hz0 := hz w.heap.size (by first | assumption | (simp; done) | (simp; omega)); have hq0 := fun o => hc w.heap.size o (by first | assumption | (simp; done) | (simp; omega)); have hz1 := hz (w.heap.size + 1) (by first | assumption | (simp; done) | (simp; omega)); have hq1 := fun o => hc (w.heap.size + 1) o (by first | assumption | (simp; done) | (simp; omega)); (try rw [HA.out]); (try rw [HB.out]))
        | (go_at_call 21; refine (refMatches _ _ _ _ (by assumption) (by assumption)).mono ?_; rintro e w3 ⟨rfl, hb⟩; obtain ⟨hc, hf, hz⟩ := hb.facts; have hz0 := hz w.heap.size (by first | assumption | (simp; done) | (simp; omega)); have hq0 := fun o => hc w.heap.size o (by first | assumption | (simp; done) | (simp; omega)); have hz1 := hz (w.heap.size + 1) (by first | assumption | (simp; done) | (simp; omega)); have hq1 := fun o => hc (w.heap.size + 1) o (by first | assumption | (simp; done) | (simp; omega)); rw [HM.out]))
    all_goals
      go_ret
      exact ⟨ret_bool (by first | rfl | simp [*]), (by repeat (first | exact Lo.refl _ | assumption | refine Lo.drew ?_ | refine Lo.alloc ?_ _ | refine Lo.setCell ?_ (by first | (dsimp only; omega) | (simp; omega) | (simp; done)) _ | refine Lo.trans ?_ (by assumption)))⟩

set_option maxHeartbeats 800000 in
theorem refImplies_d (ka : Int) (sa : ByteArray) (kb : Int) (sb : ByteArray) (w : World) (ha : sa.size ≤ maxLen) (hb : sb.size ≤ maxLen) (hma : Pl.may ka sa.toList = true) (hmb : Pl.may kb sb.toList = true) (m : Bool) (hm : Pl.matches_ kb sb.toList sa.toList = m) (h1 : (ka == 1) = false) (h4 : (kb == 4) = true) :
    Calls Try.prog 18 #[.agg #[.int .i64 ka, .string sa], .agg #[.int .i64 kb, .string sb]] w fun e w' => e = .returned (.bool true) ∧ Lo w w' := by
  have HA := Lib.hid hma
  have HB := Lib.hid hmb
  clear hma hmb
  have HM := Lib.hid hm
  clear hm
  cases m
  all_goals
    go_enter Try.func18, Try.ntmps18
    go_wp2_with (first
        | (go_at_call 28; refine (refMay _ _ _ (by assumption)).mono ?_; rintro e w1 ⟨rfl, hb⟩; obtain ⟨hc, hf, hz⟩ := hb.facts; have hz0 := hz w.heap.size (by first | assumption | (simp; done) | (simp; omega)); have hq0 := fun o => hc w.heap.size o (by first | assumption | (simp; done) | (simp; omega)); have hz1 := hz (w.heap.size + 1) (by first | assumption | (simp; done) | (simp; omega)); have hq1 := fun o => hc (w.heap.size + 1) o (by first | assumption | (simp; done) | (simp; omega)); (try rw [HA.out]); (try rw [HB.out]))
        | (go_at_call 21; refine (refMatches _ _ _ _ (by assumption) (by assumption)).mono ?_; rintro e w3 ⟨rfl, hb⟩; obtain ⟨hc, hf, hz⟩ := hb.facts; have hz0 := hz w.heap.size (by first | assumption | (simp; done) | (simp; omega)); have hq0 := fun o => hc w.heap.size o (by first | assumption | (simp; done) | (simp; omega)); have hz1 := hz (w.heap.size + 1) (by first | assumption | (simp; done) | (simp; omega)); have hq1 := fun o => hc (w.heap.size + 1) o (by first | assumption | (simp; done) | (simp; omega)); rw [HM.out]))
    all_goals
      go_ret
      exact ⟨ret_bool (by first | rfl | simp [*]), (by repeat (first | exact Lo.refl _ | assumption | refine Lo.drew ?_ | refine Lo.alloc ?_ _ | refine Lo.setCell ?_ (by first | (dsimp only; omega) | (simp; omega) | (simp; done)) _ | refine Lo.trans ?_ (by assumption)))⟩

set_option maxHeartbeats 800000 in
theorem refImplies_e (ka : Int) (sa : ByteArray) (kb : Int) (sb : ByteArray) (w : World) (ha : sa.size ≤ maxLen) (hb : sb.size ≤ maxLen) (hma : Pl.may ka sa.toList = true) (hmb : Pl.may kb sb.toList = true) (m : Bool) (hm : Pl.matches_ kb sb.toList sa.toList = m) (h1 : (ka == 1) = false) (h4 : (kb == 4) = false) :
    Calls Try.prog 18 #[.agg #[.int .i64 ka, .string sa], .agg #[.int .i64 kb, .string sb]] w fun e w' => e = .returned (.bool ((ka == kb) && m)) ∧ Lo w w' := by
  have HA := Lib.hid hma
  have HB := Lib.hid hmb
  clear hma hmb
  have HM := Lib.hid hm
  clear hm
  cases m
  all_goals
    go_enter Try.func18, Try.ntmps18
    go_wp2_with (first
        | (go_at_call 28; refine (refMay _ _ _ (by assumption)).mono ?_; rintro e w1 ⟨rfl, hb⟩; obtain ⟨hc, hf, hz⟩ := hb.facts; have hz0 := hz w.heap.size (by first | assumption | (simp; done) | (simp; omega)); have hq0 := fun o => hc w.heap.size o (by first | assumption | (simp; done) | (simp; omega)); have hz1 := hz (w.heap.size + 1) (by first | assumption | (simp; done) | (simp; omega)); have hq1 := fun o => hc (w.heap.size + 1) o (by first | assumption | (simp; done) | (simp; omega)); (try rw [HA.out]); (try rw [HB.out]))
        | (go_at_call 21; refine (refMatches _ _ _ _ (by assumption) (by assumption)).mono ?_; rintro e w3 ⟨rfl, hb⟩; obtain ⟨hc, hf, hz⟩ := hb.facts; have hz0 := hz w.heap.size (by first | assumption | (simp; done) | (simp; omega)); have hq0 := fun o => hc w.heap.size o (by first | assumption | (simp; done) | (simp; omega)); have hz1 := hz (w.heap.size + 1) (by first | assumption | (simp; done) | (simp; omega)); have hq1 := fun o => hc (w.heap.size + 1) o (by first | assumption | (simp; done) | (simp; omega)); rw [HM.out]))
    all_goals
      go_ret
      exact ⟨ret_bool (by first | rfl | simp [*]), (by repeat (first | exact Lo.refl _ | assumption | refine Lo.drew ?_ | refine Lo.alloc ?_ _ | refine Lo.setCell ?_ (by first | (dsimp only; omega) | (simp; omega) | (simp; done)) _ | refine Lo.trans ?_ (by assumption)))⟩

theorem refImplies (ka : Int) (sa : ByteArray) (kb : Int) (sb : ByteArray) (w : World) (ha : sa.size ≤ maxLen) (hb : sb.size ≤ maxLen) :
    Calls Try.prog 18 #[.agg #[.int .i64 ka, .string sa], .agg #[.int .i64 kb, .string sb]] w fun e w' => e = .returned (.bool (Pl.refImplies ka sa.toList kb sb.toList)) ∧ Lo w w' := by
  unfold Pl.refImplies
  cases hma : Pl.may ka sa.toList with
  | false => simpa using refImplies_a ka sa kb sb w ha hb hma
  | true =>
    cases hmb : Pl.may kb sb.toList with
    | false => simpa using refImplies_b ka sa kb sb w ha hb hma hmb
    | true =>
      by_cases h1 : ka = 1
      · have := refImplies_c ka sa kb sb w ha hb hma hmb _ rfl (by simpa using h1)
        simpa [h1] using this
      · by_cases h4 : kb = 4
        · have := refImplies_d ka sa kb sb w ha hb hma hmb _ rfl (by simpa using h1) (by simpa using h4)
          simpa [h4] using this
        · have := refImplies_e ka sa kb sb w ha hb hma hmb _ rfl (by simpa using h1) (by simpa using h4)
          simpa [h1, h4] using this
end Go.Proofs.Ytlcecabfmemfeaa.WMatch
