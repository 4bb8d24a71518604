/- The walks of chapter 7's functions, third part: the reference's. -/
import Derived.Test.YtlcecabfmemfeaaGreatWMatch
namespace Go.Proofs.YtlcecabfmemfeaaGreat.WMatch
set_option linter.unusedVariables false
set_option linter.unusedSimpArgs false
open Go.RowKit Mem BigFrame

theorem may_ref_end {k : Int} {s : ByteArray} (h4 : ¬ k = 4) (h : s.toList.all Pl.okc = true) (h1 : 1 ≤ k) (h3 : k ≤ 3) (h0 : ¬ s.size = 0) (h64 : s.size ≤ 64) : Pl.may k s.toList = true := by
  rw [may_end k h, if_neg h4]; simp; omega
theorem may_ref_no {k : Int} {s : ByteArray} (h4 : ¬ k = 4) (h : k < 1 ∨ 3 < k ∨ s.size = 0 ∨ 64 < s.size) : Pl.may k s.toList = false := by
  unfold Pl.may
  rw [if_neg h4, toList_len]
  simp; omega
theorem may_ref_four (s : ByteArray) : Pl.may 4 s.toList = decide (s.size = 0) := by
  unfold Pl.may
  rw [if_pos rfl, ← toList_len]
  cases h : s.toList <;> simp

set_option maxHeartbeats 800000 in
theorem refMay4 (s : ByteArray) (w : World) (hs : s.size ≤ maxLen) :
    Calls Tryz.prog 128 #[.agg #[.int .i64 4, .string s]] w fun e w' => e = .returned (.bool (Pl.may 4 s.toList)) ∧ Lo w w' := by
  unfold maxLen at hs
  rw [may_ref_four]
  go_enter Tryz.func128, Tryz.ntmps128
  go_wp2
  go_ret
  exact ⟨ret_bool (by rw [Bool.eq_iff_iff]; simp), (by repeat (first | exact Lo.refl _ | assumption | refine Lo.drew ?_ | refine Lo.alloc ?_ _ | refine Lo.setCell ?_ (by first | (dsimp only; omega) | (simp; omega) | (simp; done)) _ | refine Lo.trans ?_ (by assumption)))⟩
set_option maxHeartbeats 800000 in
theorem refMayNo (k : Int) (s : ByteArray) (w : World) (hs : s.size ≤ maxLen) (h4 : (k == 4) = false) (h : k < 1 ∨ 3 < k ∨ s.size = 0 ∨ 64 < s.size) :
    Calls Tryz.prog 128 #[.agg #[.int .i64 k, .string s]] w fun e w' => e = .returned (.bool (Pl.may k s.toList)) ∧ Lo w w' := by
  unfold maxLen at hs
  rw [may_ref_no (by simpa using h4) h]
  have H := Lib.hid h
  clear h
  go_enter Tryz.func128, Tryz.ntmps128
  go_wp2
  all_goals first
    | (go_ret
       exact ⟨rfl, (by repeat (first | exact Lo.refl _ | assumption | refine Lo.drew ?_ | refine Lo.alloc ?_ _ | refine Lo.setCell ?_ (by first | (dsimp only; omega) | (simp; omega) | (simp; done)) _ | refine Lo.trans ?_ (by assumption)))⟩)
    | (exfalso
       have hx : ((1 ≤ k ∧ k ≤ 3) ∧ ((s.size : Int) == 0) = false) ∧ (s.size : Int) ≤ 64 := by assumption
       simp only [beq_eq_false_iff_ne, ne_eq] at hx
       have := H.out; omega)
set_option maxHeartbeats 800000 in
theorem refMayYes (k : Int) (s : ByteArray) (w : World) (hs : s.size ≤ maxLen) (h4 : (k == 4) = false) (h1 : 1 ≤ k) (h3 : k ≤ 3) (h0 : ((s.size : Int) == 0) = false) (h64 : s.size ≤ 64) :
    Calls Tryz.prog 128 #[.agg #[.int .i64 k, .string s]] w fun e w' => e = .returned (.bool (Pl.may k s.toList)) ∧ Lo w w' := by
  have HE := Lib.hid (fun h => may_ref_end (by simpa using h4) h h1 h3 (by have : ¬ ((s.size : Int) = 0) := (by simpa using h0); omega) h64 : s.toList.all Pl.okc = true → Pl.may k s.toList = true)
  go_enter Tryz.func128, Tryz.ntmps128
  go_wp2
  go_loop [3] (fun i => ∃ n : Nat, n ≤ s.size ∧ i = .int .i64 n ∧ (s.toList.take n).all Pl.okc = true) (fun i => s.size - (intOf i).toNat)
  case atStart => exact ⟨0, Nat.zero_le _, rfl, rfl⟩
  case round =>
    obtain ⟨n, hn, rfl, hall⟩ := hrel
    have HA := Lib.hid hall
    clear hall
    by_cases hlt : n < s.size
    · go_wp2
      all_goals first
        | (go_ret
           exact ⟨ret_bool (by rw [may_bad k hlt (okc_false (by first | assumption | (simp only [beq_iff_eq]; omega)))]), (by repeat (first | exact Lo.refl _ | assumption | refine Lo.drew ?_ | refine Lo.alloc ?_ _ | refine Lo.setCell ?_ (by first | (dsimp only; omega) | (simp; omega) | (simp; done)) _ | refine Lo.trans ?_ (by assumption)))⟩)
        | (go_round
           case rel => exact ⟨n + 1, by omega, by go_num, all_snoc HA.out hlt (okc_true (by assumption))⟩
           case measure => simp [intOf]; omega)
    · have HF := HE.out (by have := HA.out; rwa [take_full s hlt] at this)
      have HG := Lib.hid HF
      clear HF
      go_wp2
      go_ret
      exact ⟨ret_bool (by rw [HG.out]), (by repeat (first | exact Lo.refl _ | assumption | refine Lo.drew ?_ | refine Lo.alloc ?_ _ | refine Lo.setCell ?_ (by first | (dsimp only; omega) | (simp; omega) | (simp; done)) _ | refine Lo.trans ?_ (by assumption)))⟩

theorem refMay (k : Int) (s : ByteArray) (w : World) (hs : s.size ≤ maxLen) :
    Calls Tryz.prog 128 #[.agg #[.int .i64 k, .string s]] w fun e w' => e = .returned (.bool (Pl.may k s.toList)) ∧ Lo w w' := by
  by_cases h4 : k = 4
  · subst h4; exact refMay4 s w hs
  · have h4' : (k == 4) = false := by simpa using h4
    by_cases h : k < 1 ∨ 3 < k ∨ s.size = 0 ∨ 64 < s.size
    · exact refMayNo k s w hs h4' h
    · exact refMayYes k s w hs h4' (by omega) (by omega) (by rw [beq_eq_false_iff_ne]; omega) (by omega)

set_option maxHeartbeats 800000 in
theorem refMatches_no (k : Int) (s t : ByteArray) (w : World) (hs : s.size ≤ maxLen) (hm : Pl.may k s.toList = false) :
    Calls Tryz.prog 106 #[.agg #[.int .i64 k, .string s], .string t] w fun e w' => e = .returned (.bool false) ∧ Lo w w' := by
  have hc : ∀ w : World, Calls Tryz.prog 128 #[.agg #[.int .i64 k, .string s]] w fun e w' => e = .returned (.bool false) ∧ Lo w w' := fun w => by
    have := refMay k s w hs; rwa [hm] at this
  clear hm
  have HC := Lib.hid hc
  clear hc
  go_enter Tryz.func106, Tryz.ntmps106
  go_wp2_with (go_at_call 128; refine (HC.out _).mono ?_; rintro e w1 ⟨rfl, hb1⟩)
  go_ret
  exact ⟨rfl, (by repeat (first | exact Lo.refl _ | assumption | refine Lo.drew ?_ | refine Lo.alloc ?_ _ | refine Lo.setCell ?_ (by first | (dsimp only; omega) | (simp; omega) | (simp; done)) _ | refine Lo.trans ?_ (by assumption)))⟩
set_option maxHeartbeats 800000 in
theorem refMatches_1 (s t : ByteArray) (w : World) (hs : s.size ≤ maxLen) (ht : t.size ≤ maxLen) (hm : Pl.may 1 s.toList = true) :
    Calls Tryz.prog 106 #[.agg #[.int .i64 1, .string s], .string t] w fun e w' => e = .returned (.bool (Pl.hits 1 s.toList t.toList)) ∧ Lo w w' := by
  have hc : ∀ w : World, Calls Tryz.prog 128 #[.agg #[.int .i64 1, .string s]] w fun e w' => e = .returned (.bool true) ∧ Lo w w' := fun w => by
    have := refMay 1 s w hs; rwa [hm] at this
  clear hm
  unfold maxLen at hs ht
  have HC := Lib.hid hc
  clear hc
  go_enter Tryz.func106, Tryz.ntmps106
  go_wp2_with (go_at_call 128; refine (HC.out _).mono ?_; rintro e w1 ⟨rfl, hb1⟩; obtain ⟨hc1, hf1, hz1⟩ := hb1.facts)
  go_ret
  exact ⟨ret_bool (by rw [Pl.hits1]), (by repeat (first | exact Lo.refl _ | assumption | refine Lo.drew ?_ | refine Lo.alloc ?_ _ | refine Lo.setCell ?_ (by first | (dsimp only; omega) | (simp; omega) | (simp; done)) _ | refine Lo.trans ?_ (by assumption)))⟩

set_option maxHeartbeats 800000 in
theorem refMatches_2 (s t : ByteArray) (w : World) (hs : s.size ≤ maxLen) (ht : t.size ≤ maxLen) (hm : Pl.may 2 s.toList = true) :
    Calls Tryz.prog 106 #[.agg #[.int .i64 2, .string s], .string t] w fun e w' => e = .returned (.bool (Pl.hits 2 s.toList t.toList)) ∧ Lo w w' := by
  have hc : ∀ w : World, Calls Tryz.prog 128 #[.agg #[.int .i64 2, .string s]] w fun e w' => e = .returned (.bool true) ∧ Lo w w' := fun w => by
    have := refMay 2 s w hs; rwa [hm] at this
  clear hm
  unfold maxLen at hs ht
  have HC := Lib.hid hc
  clear hc
  by_cases hle : s.size ≤ t.size
  all_goals
    go_enter Tryz.func106, Tryz.ntmps106
    go_wp2_with (go_at_call 128; refine (HC.out _).mono ?_; rintro e w1 ⟨rfl, hb1⟩; obtain ⟨hc1, hf1, hz1⟩ := hb1.facts)
    go_wp2_with fail
    refine wp_region_ext (by kernel_rfl) (by kernel_rfl) ?_
    repeat (first | go_big_quiet_skip | (go_big_quiet_want; go_big_quiet_op; first | go_big_quiet_on | go_big_quiet_call ((fail))))
    refine wpQuiet_nil ?_
    intro wq hq
    obtain ⟨hqc, hqf, hqz⟩ := hq.facts
    go_wp2
    go_ret
    exact ⟨ret_bool (by rw [Pl.hits2, pre_val]; simp [*]), (by repeat (first | exact Lo.refl _ | assumption | refine Lo.drew ?_ | refine Lo.alloc ?_ _ | refine Lo.setCell ?_ (by first | (dsimp only; omega) | (simp; omega) | (simp; done)) _ | refine Lo.trans ?_ (by assumption)))⟩

set_option maxHeartbeats 800000 in
theorem refMatches_3 (s t : ByteArray) (w : World) (hs : s.size ≤ maxLen) (ht : t.size ≤ maxLen) (hm : Pl.may 3 s.toList = true) :
    Calls Tryz.prog 106 #[.agg #[.int .i64 3, .string s], .string t] w fun e w' => e = .returned (.bool (Pl.hits 3 s.toList t.toList)) ∧ Lo w w' := by
  have hc : ∀ w : World, Calls Tryz.prog 128 #[.agg #[.int .i64 3, .string s]] w fun e w' => e = .returned (.bool true) ∧ Lo w w' := fun w => by
    have := refMay 3 s w hs; rwa [hm] at this
  clear hm
  unfold maxLen at hs ht
  have HC := Lib.hid hc
  clear hc
  by_cases hle : s.size ≤ t.size
  all_goals
    go_enter Tryz.func106, Tryz.ntmps106
    go_wp2_with (go_at_call 128; refine (HC.out _).mono ?_; rintro e w1 ⟨rfl, hb1⟩; obtain ⟨hc1, hf1, hz1⟩ := hb1.facts)
    go_wp2_with fail
    refine wp_region_ext (by kernel_rfl) (by kernel_rfl) ?_
    repeat (first | go_big_quiet_skip | (go_big_quiet_want; go_big_quiet_op; first | go_big_quiet_on | go_big_quiet_call ((fail))))
    refine wpQuiet_nil ?_
    intro wq hq
    obtain ⟨hqc, hqf, hqz⟩ := hq.facts
    go_wp2
    go_ret
    exact ⟨ret_bool (by rw [Pl.hits3, suf_val]; simp [*]), (by repeat (first | exact Lo.refl _ | assumption | refine Lo.drew ?_ | refine Lo.alloc ?_ _ | refine Lo.setCell ?_ (by first | (dsimp only; omega) | (simp; omega) | (simp; done)) _ | refine Lo.trans ?_ (by assumption)))⟩

set_option maxHeartbeats 800000 in
theorem refMatches_4 (s t : ByteArray) (w : World) (hs : s.size ≤ maxLen) (ht : t.size ≤ maxLen) (hm : Pl.may 4 s.toList = true) :
    Calls Tryz.prog 106 #[.agg #[.int .i64 4, .string s], .string t] w fun e w' => e = .returned (.bool (Pl.hits 4 s.toList t.toList)) ∧ Lo w w' := by
  have hc : ∀ w : World, Calls Tryz.prog 128 #[.agg #[.int .i64 4, .string s]] w fun e w' => e = .returned (.bool true) ∧ Lo w w' := fun w => by
    have := refMay 4 s w hs; rwa [hm] at this
  clear hm
  unfold maxLen at hs ht
  have HC := Lib.hid hc
  clear hc
  all_goals
    go_enter Tryz.func106, Tryz.ntmps106
    go_wp2_with (go_at_call 128; refine (HC.out _).mono ?_; rintro e w1 ⟨rfl, hb1⟩; obtain ⟨hc1, hf1, hz1⟩ := hb1.facts)
    go_ret
    exact ⟨ret_bool (by rw [Pl.hits4, Bool.eq_iff_iff]; rw [← toList_len]; cases t.toList <;> simp), (by repeat (first | exact Lo.refl _ | assumption | refine Lo.drew ?_ | refine Lo.alloc ?_ _ | refine Lo.setCell ?_ (by first | (dsimp only; omega) | (simp; omega) | (simp; done)) _ | refine Lo.trans ?_ (by assumption)))⟩

theorem refMatches (k : Int) (s t : ByteArray) (w : World) (hs : s.size ≤ maxLen) (ht : t.size ≤ maxLen) :
    Calls Tryz.prog 106 #[.agg #[.int .i64 k, .string s], .string t] w fun e w' => e = .returned (.bool (Pl.matches_ k s.toList t.toList)) ∧ Lo w w' := by
  by_cases hm : Pl.may k s.toList = true
  · rw [Pl.matches_of_may hm]
    rcases Pl.may_kinds hm with rfl | rfl | rfl | rfl
    · exact refMatches_1 s t w hs ht hm
    · exact refMatches_2 s t w hs ht hm
    · exact refMatches_3 s t w hs ht hm
    · exact refMatches_4 s t w hs ht hm
  · have hm' : Pl.may k s.toList = false := by simpa using hm
    have : Pl.matches_ k s.toList t.toList = false := by simp [Pl.matches_, hm']
    rw [this]
    exact refMatches_no k s t w hs hm'
end Go.Proofs.YtlcecabfmemfeaaGreat.WMatch
