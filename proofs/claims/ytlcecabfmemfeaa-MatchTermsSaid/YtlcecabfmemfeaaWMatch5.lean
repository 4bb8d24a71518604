/- The walks of chapter 7's functions, fifth part: Beside. (Written by mk_beside.py.) -/
import Derived.Test.YtlcecabfmemfeaaWMatch2
namespace Go.Proofs.Ytlcecabfmemfeaa.WMatch
set_option linter.unusedVariables false
set_option linter.unusedSimpArgs false
open Go.RowKit Mem BigFrame

set_option maxHeartbeats 800000 in
theorem beside_no (ka : Int) (sa : ByteArray) (kb : Int) (sb : ByteArray) (w : World) (ha : sa.size ≤ maxLen) (hb : sb.size ≤ maxLen) (hma : Pl.may ka sa.toList = false) :
    Calls Try.prog 19 #[.agg #[.int .i64 ka, .string sa], .agg #[.int .i64 kb, .string sb]] w fun e w' => e = .returned (.tuple #[.string ⟨#[]⟩, .bool false]) ∧ Lo w w' := by
  have HA := Lib.hid hma
  clear hma
  go_enter Try.func19, Try.ntmps19
  go_wp2
  go_step3
  go_wp2_with (go_at_call 23; refine (may _ _ _ (by assumption)).mono ?_; rintro e w1 ⟨rfl, hb⟩; obtain ⟨hc, hf, hz⟩ := hb.facts; have hz0 := hz w.heap.size (by first | assumption | (simp; done) | (simp; omega)); have hq0 := fun o => hc w.heap.size o (by first | assumption | (simp; done) | (simp; omega)); have hz1 := hz (w.heap.size + 1) (by first | assumption | (simp; done) | (simp; omega)); have hq1 := fun o => hc (w.heap.size + 1) o (by first | assumption | (simp; done) | (simp; omega)); rw [HA.out])
  (try rw [Exit.noGoto_ret])
  go_ret2
  exact ⟨rfl, (by repeat (first | exact Lo.refl _ | assumption | refine Lo.drew ?_ | refine Lo.alloc ?_ _ | refine Lo.setCell ?_ (by first | (dsimp only; omega) | (simp; omega) | (simp; done)) _ | refine Lo.trans ?_ (by assumption)))⟩

set_option maxHeartbeats 1600000 in
theorem beside_1_0 (sa : ByteArray) (kb : Int) (sb : ByteArray) (w : World) (ha : sa.size ≤ maxLen) (hb : sb.size ≤ maxLen) (hma : Pl.may 1 sa.toList = true) (hl : sa.size ≤ 64) (hm0 : Pl.matches_ kb sb.toList sa.toList = false) (hz0 : sa.size ≤ maxLen) :
    Calls Try.prog 19 #[.agg #[.int .i64 1, .string sa], .agg #[.int .i64 kb, .string sb]] w fun e w' => e = .returned (.tuple #[.string sa, .bool true]) ∧ Lo w w' := by
  have HA := Lib.hid hma
  have HM0 := Lib.hid hm0
  clear hma hm0
  go_enter Try.func19, Try.ntmps19
  go_wp2
  go_step3
  go_wp2_with (go_at_call 23; refine (may _ _ _ (by assumption)).mono ?_; rintro e w1 ⟨rfl, hb⟩; obtain ⟨hc, hf, hz⟩ := hb.facts; have hz0 := hz w.heap.size (by first | assumption | (simp; done) | (simp; omega)); have hq0 := fun o => hc w.heap.size o (by first | assumption | (simp; done) | (simp; omega)); have hz1 := hz (w.heap.size + 1) (by first | assumption | (simp; done) | (simp; omega)); have hq1 := fun o => hc (w.heap.size + 1) o (by first | assumption | (simp; done) | (simp; omega)); rw [HA.out])
  go_step3
  go_wp2_with fail
  refine wp_loop_rounds 1 ?_
  rw [rounds_succ]
  go_wp2_with (first
    | (go_at_call 22; refine (matches_ _ _ _ _ (by assumption) (by assumption)).mono ?_; rintro e w3 ⟨rfl, hb⟩; obtain ⟨hc, hf, hz⟩ := hb.facts; have hz0 := hz w.heap.size (by first | assumption | (simp; done) | (simp; omega)); have hq0 := fun o => hc w.heap.size o (by first | assumption | (simp; done) | (simp; omega)); have hz1 := hz (w.heap.size + 1) (by first | assumption | (simp; done) | (simp; omega)); have hq1 := fun o => hc (w.heap.size + 1) o (by first | assumption | (simp; done) | (simp; omega)); have hz2 := hz w1.heap.size (by first | assumption | (simp; done) | (simp; omega)); have hq2 := fun o => hc w1.heap.size o (by first | assumption | (simp; done) | (simp; omega)); (try rw [HM0.out]))
    | (rw [rounds_succ]))
  (try rw [Exit.noGoto_ret])
  go_ret2
  exact ⟨rfl, (by repeat (first | exact Lo.refl _ | assumption | refine Lo.drew ?_ | refine Lo.alloc ?_ _ | refine Lo.setCell ?_ (by first | (dsimp only; omega) | (simp; omega) | (simp; done)) _ | refine Lo.trans ?_ (by assumption)))⟩

set_option maxHeartbeats 1600000 in
theorem beside_1_3 (sa : ByteArray) (kb : Int) (sb : ByteArray) (w : World) (ha : sa.size ≤ maxLen) (hb : sb.size ≤ maxLen) (hma : Pl.may 1 sa.toList = true) (hl : sa.size ≤ 64) (hm0 : Pl.matches_ kb sb.toList sa.toList = true) (hz0 : sa.size ≤ maxLen) :
    Calls Try.prog 19 #[.agg #[.int .i64 1, .string sa], .agg #[.int .i64 kb, .string sb]] w fun e w' => e = .returned (.tuple #[.string ⟨#[]⟩, .bool false]) ∧ Lo w w' := by
  have HA := Lib.hid hma
  have HM0 := Lib.hid hm0
  clear hma hm0
  go_enter Try.func19, Try.ntmps19
  go_wp2
  go_step3
  go_wp2_with (go_at_call 23; refine (may _ _ _ (by assumption)).mono ?_; rintro e w1 ⟨rfl, hb⟩; obtain ⟨hc, hf, hz⟩ := hb.facts; have hz0 := hz w.heap.size (by first | assumption | (simp; done) | (simp; omega)); have hq0 := fun o => hc w.heap.size o (by first | assumption | (simp; done) | (simp; omega)); have hz1 := hz (w.heap.size + 1) (by first | assumption | (simp; done) | (simp; omega)); have hq1 := fun o => hc (w.heap.size + 1) o (by first | assumption | (simp; done) | (simp; omega)); rw [HA.out])
  go_step3
  go_wp2_with fail
  refine wp_loop_rounds 4 ?_
  rw [rounds_succ]
  go_wp2_with (first
    | (go_at_call 22; refine (matches_ _ _ _ _ (by assumption) (by assumption)).mono ?_; rintro e w3 ⟨rfl, hb⟩; obtain ⟨hc, hf, hz⟩ := hb.facts; have hz0 := hz w.heap.size (by first | assumption | (simp; done) | (simp; omega)); have hq0 := fun o => hc w.heap.size o (by first | assumption | (simp; done) | (simp; omega)); have hz1 := hz (w.heap.size + 1) (by first | assumption | (simp; done) | (simp; omega)); have hq1 := fun o => hc (w.heap.size + 1) o (by first | assumption | (simp; done) | (simp; omega)); have hz2 := hz w1.heap.size (by first | assumption | (simp; done) | (simp; omega)); have hq2 := fun o => hc w1.heap.size o (by first | assumption | (simp; done) | (simp; omega)); (try rw [HM0.out]))
    | (rw [rounds_succ]))
  (try rw [Exit.noGoto_ret])
  go_ret2
  exact ⟨rfl, (by repeat (first | exact Lo.refl _ | assumption | refine Lo.drew ?_ | refine Lo.alloc ?_ _ | refine Lo.setCell ?_ (by first | (dsimp only; omega) | (simp; omega) | (simp; done)) _ | refine Lo.trans ?_ (by assumption)))⟩

set_option maxHeartbeats 1600000 in
theorem beside_2_0 (sa : ByteArray) (kb : Int) (sb : ByteArray) (w : World) (ha : sa.size ≤ maxLen) (hb : sb.size ≤ maxLen) (hma : Pl.may 2 sa.toList = true) (hl : sa.size ≤ 64) (hm0 : Pl.matches_ kb sb.toList (sa ++ ⟨#[]⟩).toList = false) (hz0 : (sa ++ ⟨#[]⟩).size ≤ maxLen) :
    Calls Try.prog 19 #[.agg #[.int .i64 2, .string sa], .agg #[.int .i64 kb, .string sb]] w fun e w' => e = .returned (.tuple #[.string (sa ++ ⟨#[]⟩), .bool true]) ∧ Lo w w' := by
  have HA := Lib.hid hma
  have HM0 := Lib.hid hm0
  clear hma hm0
  go_enter Try.func19, Try.ntmps19
  go_wp2
  go_step3
  go_wp2_with (go_at_call 23; refine (may _ _ _ (by assumption)).mono ?_; rintro e w1 ⟨rfl, hb⟩; obtain ⟨hc, hf, hz⟩ := hb.facts; have hz0 := hz w.heap.size (by first | assumption | (simp; done) | (simp; omega)); have hq0 := fun o => hc w.heap.size o (by first | assumption | (simp; done) | (simp; omega)); have hz1 := hz (w.heap.size + 1) (by first | assumption | (simp; done) | (simp; omega)); have hq1 := fun o => hc (w.heap.size + 1) o (by first | assumption | (simp; done) | (simp; omega)); rw [HA.out])
  go_step3
  go_wp2_with fail
  refine wp_loop_rounds 1 ?_
  rw [rounds_succ]
  go_wp2_with (first
    | (go_at_call 22; refine (matches_ _ _ _ _ (by assumption) (by assumption)).mono ?_; rintro e w3 ⟨rfl, hb⟩; obtain ⟨hc, hf, hz⟩ := hb.facts; have hz0 := hz w.heap.size (by first | assumption | (simp; done) | (simp; omega)); have hq0 := fun o => hc w.heap.size o (by first | assumption | (simp; done) | (simp; omega)); have hz1 := hz (w.heap.size + 1) (by first | assumption | (simp; done) | (simp; omega)); have hq1 := fun o => hc (w.heap.size + 1) o (by first | assumption | (simp; done) | (simp; omega)); have hz2 := hz w1.heap.size (by first | assumption | (simp; done) | (simp; omega)); have hq2 := fun o => hc w1.heap.size o (by first | assumption | (simp; done) | (simp; omega)); (try rw [HM0.out]))
    | (rw [rounds_succ]))
  (try rw [Exit.noGoto_ret])
  go_ret2
  exact ⟨rfl, (by repeat (first | exact Lo.refl _ | assumption | refine Lo.drew ?_ | refine Lo.alloc ?_ _ | refine Lo.setCell ?_ (by first | (dsimp only; omega) | (simp; omega) | (simp; done)) _ | refine Lo.trans ?_ (by assumption)))⟩

set_option maxHeartbeats 1600000 in
theorem beside_2_1 (sa : ByteArray) (kb : Int) (sb : ByteArray) (w : World) (ha : sa.size ≤ maxLen) (hb : sb.size ≤ maxLen) (hma : Pl.may 2 sa.toList = true) (hl : sa.size ≤ 64) (hm0 : Pl.matches_ kb sb.toList (sa ++ ⟨#[]⟩).toList = true) (hz0 : (sa ++ ⟨#[]⟩).size ≤ maxLen) (hm1 : Pl.matches_ kb sb.toList (sa ++ ⟨#[120]⟩).toList = false) (hz1 : (sa ++ ⟨#[120]⟩).size ≤ maxLen) :
    Calls Try.prog 19 #[.agg #[.int .i64 2, .string sa], .agg #[.int .i64 kb, .string sb]] w fun e w' => e = .returned (.tuple #[.string (sa ++ ⟨#[120]⟩), .bool true]) ∧ Lo w w' := by
  have HA := Lib.hid hma
  have HM0 := Lib.hid hm0
  have HM1 := Lib.hid hm1
  clear hma hm0 hm1
  go_enter Try.func19, Try.ntmps19
  go_wp2
  go_step3
  go_wp2_with (go_at_call 23; refine (may _ _ _ (by assumption)).mono ?_; rintro e w1 ⟨rfl, hb⟩; obtain ⟨hc, hf, hz⟩ := hb.facts; have hz0 := hz w.heap.size (by first | assumption | (simp; done) | (simp; omega)); have hq0 := fun o => hc w.heap.size o (by first | assumption | (simp; done) | (simp; omega)); have hz1 := hz (w.heap.size + 1) (by first | assumption | (simp; done) | (simp; omega)); have hq1 := fun o => hc (w.heap.size + 1) o (by first | assumption | (simp; done) | (simp; omega)); rw [HA.out])
  go_step3
  go_wp2_with fail
  refine wp_loop_rounds 2 ?_
  rw [rounds_succ]
  go_wp2_with (first
    | (go_at_call 22; refine (matches_ _ _ _ _ (by assumption) (by assumption)).mono ?_; rintro e w3 ⟨rfl, hb⟩; obtain ⟨hc, hf, hz⟩ := hb.facts; have hz0 := hz w.heap.size (by first | assumption | (simp; done) | (simp; omega)); have hq0 := fun o => hc w.heap.size o (by first | assumption | (simp; done) | (simp; omega)); have hz1 := hz (w.heap.size + 1) (by first | assumption | (simp; done) | (simp; omega)); have hq1 := fun o => hc (w.heap.size + 1) o (by first | assumption | (simp; done) | (simp; omega)); have hz2 := hz w1.heap.size (by first | assumption | (simp; done) | (simp; omega)); have hq2 := fun o => hc w1.heap.size o (by first | assumption | (simp; done) | (simp; omega)); (try rw [HM0.out]); (try rw [HM1.out]))
    | (rw [rounds_succ]))
  (try rw [Exit.noGoto_ret])
  go_ret2
  exact ⟨rfl, (by repeat (first | exact Lo.refl _ | assumption | refine Lo.drew ?_ | refine Lo.alloc ?_ _ | refine Lo.setCell ?_ (by first | (dsimp only; omega) | (simp; omega) | (simp; done)) _ | refine Lo.trans ?_ (by assumption)))⟩

set_option maxHeartbeats 1600000 in
theorem beside_2_2 (sa : ByteArray) (kb : Int) (sb : ByteArray) (w : World) (ha : sa.size ≤ maxLen) (hb : sb.size ≤ maxLen) (hma : Pl.may 2 sa.toList = true) (hl : sa.size ≤ 64) (hm0 : Pl.matches_ kb sb.toList (sa ++ ⟨#[]⟩).toList = true) (hz0 : (sa ++ ⟨#[]⟩).size ≤ maxLen) (hm1 : Pl.matches_ kb sb.toList (sa ++ ⟨#[120]⟩).toList = true) (hz1 : (sa ++ ⟨#[120]⟩).size ≤ maxLen) (hm2 : Pl.matches_ kb sb.toList (sa ++ ⟨#[121]⟩).toList = false) (hz2 : (sa ++ ⟨#[121]⟩).size ≤ maxLen) :
    Calls Try.prog 19 #[.agg #[.int .i64 2, .string sa], .agg #[.int .i64 kb, .string sb]] w fun e w' => e = .returned (.tuple #[.string (sa ++ ⟨#[121]⟩), .bool true]) ∧ Lo w w' := by
  have HA := Lib.hid hma
  have HM0 := Lib.hid hm0
  have HM1 := Lib.hid hm1
  have HM2 := Lib.hid hm2
  clear hma hm0 hm1 hm2
  go_enter Try.func19, Try.ntmps19
  go_wp2
  go_step3
  go_wp2_with (go_at_call 23; refine (may _ _ _ (by assumption)).mono ?_; rintro e w1 ⟨rfl, hb⟩; obtain ⟨hc, hf, hz⟩ := hb.facts; have hz0 := hz w.heap.size (by first | assumption | (simp; done) | (simp; omega)); have hq0 := fun o => hc w.heap.size o (by first | assumption | (simp; done) | (simp; omega)); have hz1 := hz (w.heap.size + 1) (by first | assumption | (simp; done) | (simp; omega)); have hq1 := fun o => hc (w.heap.size + 1) o (by first | assumption | (simp; done) | (simp; omega)); rw [HA.out])
  go_step3
  go_wp2_with fail
  refine wp_loop_rounds 3 ?_
  rw [rounds_succ]
  go_wp2_with (first
    | (go_at_call 22; refine (matches_ _ _ _ _ (by assumption) (by assumption)).mono ?_; rintro e w3 ⟨rfl, hb⟩; obtain ⟨hc, hf, hz⟩ := hb.facts; have hz0 := hz w.heap.size (by first | assumption | (simp; done) | (simp; omega)); have hq0 := fun o => hc w.heap.size o (by first | assumption | (simp; done) | (simp; omega)); have hz1 := hz (w.heap.size + 1) (by first | assumption | (simp; done) | (simp; omega)); have hq1 := fun o => hc (w.heap.size + 1) o (by first | assumption | (simp; done) | (simp; omega)); have hz2 := hz w1.heap.size (by first | assumption | (simp; done) | (simp; omega)); have hq2 := fun o => hc w1.heap.size o (by first | assumption | (simp; done) | (simp; omega)); (try rw [HM0.out]); (try rw [HM1.out]); (try rw [HM2.out]))
    | (rw [rounds_succ]))
  (try rw [Exit.noGoto_ret])
  go_ret2
  exact ⟨rfl, (by repeat (first | exact Lo.refl _ | assumption | refine Lo.drew ?_ | refine Lo.alloc ?_ _ | refine Lo.setCell ?_ (by first | (dsimp only; omega) | (simp; omega) | (simp; done)) _ | refine Lo.trans ?_ (by assumption)))⟩

set_option maxHeartbeats 1600000 in
theorem beside_2_3 (sa : ByteArray) (kb : Int) (sb : ByteArray) (w : World) (ha : sa.size ≤ maxLen) (hb : sb.size ≤ maxLen) (hma : Pl.may 2 sa.toList = true) (hl : sa.size ≤ 64) (hm0 : Pl.matches_ kb sb.toList (sa ++ ⟨#[]⟩).toList = true) (hz0 : (sa ++ ⟨#[]⟩).size ≤ maxLen) (hm1 : Pl.matches_ kb sb.toList (sa ++ ⟨#[120]⟩).toList = true) (hz1 : (sa ++ ⟨#[120]⟩).size ≤ maxLen) (hm2 : Pl.matches_ kb sb.toList (sa ++ ⟨#[121]⟩).toList = true) (hz2 : (sa ++ ⟨#[121]⟩).size ≤ maxLen) :
    Calls Try.prog 19 #[.agg #[.int .i64 2, .string sa], .agg #[.int .i64 kb, .string sb]] w fun e w' => e = .returned (.tuple #[.string ⟨#[]⟩, .bool false]) ∧ Lo w w' := by
  have HA := Lib.hid hma
  have HM0 := Lib.hid hm0
  have HM1 := Lib.hid hm1
  have HM2 := Lib.hid hm2
  clear hma hm0 hm1 hm2
  go_enter Try.func19, Try.ntmps19
  go_wp2
  go_step3
  go_wp2_with (go_at_call 23; refine (may _ _ _ (by assumption)).mono ?_; rintro e w1 ⟨rfl, hb⟩; obtain ⟨hc, hf, hz⟩ := hb.facts; have hz0 := hz w.heap.size (by first | assumption | (simp; done) | (simp; omega)); have hq0 := fun o => hc w.heap.size o (by first | assumption | (simp; done) | (simp; omega)); have hz1 := hz (w.heap.size + 1) (by first | assumption | (simp; done) | (simp; omega)); have hq1 := fun o => hc (w.heap.size + 1) o (by first | assumption | (simp; done) | (simp; omega)); rw [HA.out])
  go_step3
  go_wp2_with fail
  refine wp_loop_rounds 4 ?_
  rw [rounds_succ]
  go_wp2_with (first
    | (go_at_call 22; refine (matches_ _ _ _ _ (by assumption) (by assumption)).mono ?_; rintro e w3 ⟨rfl, hb⟩; obtain ⟨hc, hf, hz⟩ := hb.facts; have hz0 := hz w.heap.size (by first | assumption | (simp; done) | (simp; omega)); have hq0 := fun o => hc w.heap.size o (by first | assumption | (simp; done) | (simp; omega)); have hz1 := hz (w.heap.size + 1) (by first | assumption | (simp; done) | (simp; omega)); have hq1 := fun o => hc (w.heap.size + 1) o (by first | assumption | (simp; done) | (simp; omega)); have hz2 := hz w1.heap.size (by first | assumption | (simp; done) | (simp; omega)); have hq2 := fun o => hc w1.heap.size o (by first | assumption | (simp; done) | (simp; omega)); (try rw [HM0.out]); (try rw [HM1.out]); (try rw [HM2.out]))
    | (rw [rounds_succ]))
  (try rw [Exit.noGoto_ret])
  go_ret2
  exact ⟨rfl, (by repeat (first | exact Lo.refl _ | assumption | refine Lo.drew ?_ | refine Lo.alloc ?_ _ | refine Lo.setCell ?_ (by first | (dsimp only; omega) | (simp; omega) | (simp; done)) _ | refine Lo.trans ?_ (by assumption)))⟩

set_option maxHeartbeats 1600000 in
theorem beside_3_0 (sa : ByteArray) (kb : Int) (sb : ByteArray) (w : World) (ha : sa.size ≤ maxLen) (hb : sb.size ≤ maxLen) (hma : Pl.may 3 sa.toList = true) (hl : sa.size ≤ 64) (hm0 : Pl.matches_ kb sb.toList (⟨#[]⟩ ++ sa).toList = false) (hz0 : (⟨#[]⟩ ++ sa).size ≤ maxLen) :
    Calls Try.prog 19 #[.agg #[.int .i64 3, .string sa], .agg #[.int .i64 kb, .string sb]] w fun e w' => e = .returned (.tuple #[.string (⟨#[]⟩ ++ sa), .bool true]) ∧ Lo w w' := by
  have HA := Lib.hid hma
  have HM0 := Lib.hid hm0
  clear hma hm0
  go_enter Try.func19, Try.ntmps19
  go_wp2
  go_step3
  go_wp2_with (go_at_call 23; refine (may _ _ _ (by assumption)).mono ?_; rintro e w1 ⟨rfl, hb⟩; obtain ⟨hc, hf, hz⟩ := hb.facts; have hz0 := hz w.heap.size (by first | assumption | (simp; done) | (simp; omega)); have hq0 := fun o => hc w.heap.size o (by first | assumption | (simp; done) | (simp; omega)); have hz1 := hz (w.heap.size + 1) (by first | assumption | (simp; done) | (simp; omega)); have hq1 := fun o => hc (w.heap.size + 1) o (by first | assumption | (simp; done) | (simp; omega)); rw [HA.out])
  go_step3
  go_wp2_with fail
  refine wp_loop_rounds 1 ?_
  rw [rounds_succ]
  go_wp2_with (first
    | (go_at_call 22; refine (matches_ _ _ _ _ (by assumption) (by assumption)).mono ?_; rintro e w3 ⟨rfl, hb⟩; obtain ⟨hc, hf, hz⟩ := hb.facts; have hz0 := hz w.heap.size (by first | assumption | (simp; done) | (simp; omega)); have hq0 := fun o => hc w.heap.size o (by first | assumption | (simp; done) | (simp; omega)); have hz1 := hz (w.heap.size + 1) (by first | assumption | (simp; done) | (simp; omega)); have hq1 := fun o => hc (w.heap.size + 1) o (by first | assumption | (simp; done) | (simp; omega)); have hz2 := hz w1.heap.size (by first | assumption | (simp; done) | (simp; omega)); have hq2 := fun o => hc w1.heap.size o (by first | assumption | (simp; done) | (simp; omega)); (try rw [HM0.out]))
    | (rw [rounds_succ]))
  (try rw [Exit.noGoto_ret])
  go_ret2
  exact ⟨rfl, (by repeat (first | exact Lo.refl _ | assumption | refine Lo.drew ?_ | refine Lo.alloc ?_ _ | refine Lo.setCell ?_ (by first | (dsimp only; omega) | (simp; omega) | (simp; done)) _ | refine Lo.trans ?_ (by assumption)))⟩

set_option maxHeartbeats 1600000 in
theorem beside_3_1 (sa : ByteArray) (kb : Int) (sb : ByteArray) (w : World) (ha : sa.size ≤ maxLen) (hb : sb.size ≤ maxLen) (hma : Pl.may 3 sa.toList = true) (hl : sa.size ≤ 64) (hm0 : Pl.matches_ kb sb.toList (⟨#[]⟩ ++ sa).toList = true) (hz0 : (⟨#[]⟩ ++ sa).size ≤ maxLen) (hm1 : Pl.matches_ kb sb.toList (⟨#[120]⟩ ++ sa).toList = false) (hz1 : (⟨#[120]⟩ ++ sa).size ≤ maxLen) :
    Calls Try.prog 19 #[.agg #[.int .i64 3, .string sa], .agg #[.int .i64 kb, .string sb]] w fun e w' => e = .returned (.tuple #[.string (⟨#[120]⟩ ++ sa), .bool true]) ∧ Lo w w' := by
  have HA := Lib.hid hma
  have HM0 := Lib.hid hm0
  have HM1 := Lib.hid hm1
  clear hma hm0 hm1
  go_enter Try.func19, Try.ntmps19
  go_wp2
  go_step3
  go_wp2_with (go_at_call 23; refine (may _ _ _ (by assumption)).mono ?_; rintro e w1 ⟨rfl, hb⟩; obtain ⟨hc, hf, hz⟩ := hb.facts; have hz0 := hz w.heap.size (by first | assumption | (simp; done) | (simp; omega)); have hq0 := fun o => hc w.heap.size o (by first | assumption | (simp; done) | (simp; omega)); have hz1 := hz (w.heap.size + 1) (by first | assumption | (simp; done) | (simp; omega)); have hq1 := fun o => hc (w.heap.size + 1) o (by first | assumption | (simp; done) | (simp; omega)); rw [HA.out])
  go_step3
  go_wp2_with fail
  refine wp_loop_rounds 2 ?_
  rw [rounds_succ]
  go_wp2_with (first
    | (go_at_call 22; refine (matches_ _ _ _ _ (by assumption) (by assumption)).mono ?_; rintro e w3 ⟨rfl, hb⟩; obtain ⟨hc, hf, hz⟩ := hb.facts; have hz0 := hz w.heap.size (by first | assumption | (simp; done) | (simp; omega)); have hq0 := fun o => hc w.heap.size o (by first | assumption | (simp; done) | (simp; omega)); have hz1 := hz (w.heap.size + 1) (by first | assumption | (simp; done) | (simp; omega)); have hq1 := fun o => hc (w.heap.size + 1) o (by first | assumption | (simp; done) | (simp; omega)); have hz2 := hz w1.heap.size (by first | assumption | (simp; done) | (simp; omega)); have hq2 := fun o => hc w1.heap.size o (by first | assumption | (simp; done) | (simp; omega)); (try rw [HM0.out]); (try rw [HM1.out]))
    | (rw [rounds_succ]))
  (try rw [Exit.noGoto_ret])
  go_ret2
  exact ⟨rfl, (by repeat (first | exact Lo.refl _ | assumption | refine Lo.drew ?_ | refine Lo.alloc ?_ _ | refine Lo.setCell ?_ (by first | (dsimp only; omega) | (simp; omega) | (simp; done)) _ | refine Lo.trans ?_ (by assumption)))⟩

set_option maxHeartbeats 1600000 in
theorem beside_3_2 (sa : ByteArray) (kb : Int) (sb : ByteArray) (w : World) (ha : sa.size ≤ maxLen) (hb : sb.size ≤ maxLen) (hma : Pl.may 3 sa.toList = true) (hl : sa.size ≤ 64) (hm0 : Pl.matches_ kb sb.toList (⟨#[]⟩ ++ sa).toList = true) (hz0 : (⟨#[]⟩ ++ sa).size ≤ maxLen) (hm1 : Pl.matches_ kb sb.toList (⟨#[120]⟩ ++ sa).toList = true) (hz1 : (⟨#[120]⟩ ++ sa).size ≤ maxLen) (hm2 : Pl.matches_ kb sb.toList (⟨#[121]⟩ ++ sa).toList = false) (hz2 : (⟨#[121]⟩ ++ sa).size ≤ maxLen) :
    Calls Try.prog 19 #[.agg #[.int .i64 3, .string sa], .agg #[.int .i64 kb, .string sb]] w fun e w' => e = .returned (.tuple #[.string (⟨#[121]⟩ ++ sa), .bool true]) ∧ Lo w w' := by
  have HA := Lib.hid hma
  have HM0 := Lib.hid hm0
  have HM1 := Lib.hid hm1
  have HM2 := Lib.hid hm2
  clear hma hm0 hm1 hm2
  go_enter Try.func19, Try.ntmps19
  go_wp2
  go_step3
  go_wp2_with (go_at_call 23; refine (may _ _ _ (by assumption)).mono ?_; rintro e w1 ⟨rfl, hb⟩; obtain ⟨hc, hf, hz⟩ := hb.facts; have hz0 := hz w.heap.size (by first | assumption | (simp; done) | (simp; omega)); have hq0 := fun o => hc w.heap.size o (by first | assumption | (simp; done) | (simp; omega)); have hz1 := hz (w.heap.size + 1) (by first | assumption | (simp; done) | (simp; omega)); have hq1 := fun o => hc (w.heap.size + 1) o (by first | assumption | (simp; done) | (simp; omega)); rw [HA.out])
  go_step3
  go_wp2_with fail
  refine wp_loop_rounds 3 ?_
  rw [rounds_succ]
  go_wp2_with (first
    | (go_at_call 22; refine (matches_ _ _ _ _ (by assumption) (by assumption)).mono ?_; rintro e w3 ⟨rfl, hb⟩; obtain ⟨hc, hf, hz⟩ := hb.facts; have hz0 := hz w.heap.size (by first | assumption | (simp; done) | (simp; omega)); have hq0 := fun o => hc w.heap.size o (by first | assumption | (simp; done) | (simp; omega)); have hz1 := hz (w.heap.size + 1) (by first | assumption | (simp; done) | (simp; omega)); have hq1 := fun o => hc (w.heap.size + 1) o (by first | assumption | (simp; done) | (simp; omega)); have hz2 := hz w1.heap.size (by first | assumption | (simp; done) | (simp; omega)); have hq2 := fun o => hc w1.heap.size o (by first | assumption | (simp; done) | (simp; omega)); (try rw [HM0.out]); (try rw [HM1.out]); (try rw [HM2.out]))
    | (rw [rounds_succ]))
  (try rw [Exit.noGoto_ret])
  go_ret2
  exact ⟨rfl, (by repeat (first | exact Lo.refl _ | assumption | refine Lo.drew ?_ | refine Lo.alloc ?_ _ | refine Lo.setCell ?_ (by first | (dsimp only; omega) | (simp; omega) | (simp; done)) _ | refine Lo.trans ?_ (by assumption)))⟩

set_option maxHeartbeats 1600000 in
theorem beside_3_3 (sa : ByteArray) (kb : Int) (sb : ByteArray) (w : World) (ha : sa.size ≤ maxLen) (hb : sb.size ≤ maxLen) (hma : Pl.may 3 sa.toList = true) (hl : sa.size ≤ 64) (hm0 : Pl.matches_ kb sb.toList (⟨#[]⟩ ++ sa).toList = true) (hz0 : (⟨#[]⟩ ++ sa).size ≤ maxLen) (hm1 : Pl.matches_ kb sb.toList (⟨#[120]⟩ ++ sa).toList = true) (hz1 : (⟨#[120]⟩ ++ sa).size ≤ maxLen) (hm2 : Pl.matches_ kb sb.toList (⟨#[121]⟩ ++ sa).toList = true) (hz2 : (⟨#[121]⟩ ++ sa).size ≤ maxLen) :
    Calls Try.prog 19 #[.agg #[.int .i64 3, .string sa], .agg #[.int .i64 kb, .string sb]] w fun e w' => e = .returned (.tuple #[.string ⟨#[]⟩, .bool false]) ∧ Lo w w' := by
  have HA := Lib.hid hma
  have HM0 := Lib.hid hm0
  have HM1 := Lib.hid hm1
  have HM2 := Lib.hid hm2
  clear hma hm0 hm1 hm2
  go_enter Try.func19, Try.ntmps19
  go_wp2
  go_step3
  go_wp2_with (go_at_call 23; refine (may _ _ _ (by assumption)).mono ?_; rintro e w1 ⟨rfl, hb⟩; obtain ⟨hc, hf, hz⟩ := hb.facts; have hz0 := hz w.heap.size (by first | assumption | (simp; done) | (simp; omega)); have hq0 := fun o => hc w.heap.size o (by first | assumption | (simp; done) | (simp; omega)); have hz1 := hz (w.heap.size + 1) (by first | assumption | (simp; done) | (simp; omega)); have hq1 := fun o => hc (w.heap.size + 1) o (by first | assumption | (simp; done) | (simp; omega)); rw [HA.out])
  go_step3
  go_wp2_with fail
  refine wp_loop_rounds 4 ?_
  rw [rounds_succ]
  go_wp2_with (first
    | (go_at_call 22; refine (matches_ _ _ _ _ (by assumption) (by assumption)).mono ?_; rintro e w3 ⟨rfl, hb⟩; obtain ⟨hc, hf, hz⟩ := hb.facts; have hz0 := hz w.heap.size (by first | assumption | (simp; done) | (simp; omega)); have hq0 := fun o => hc w.heap.size o (by first | assumption | (simp; done) | (simp; omega)); have hz1 := hz (w.heap.size + 1) (by first | assumption | (simp; done) | (simp; omega)); have hq1 := fun o => hc (w.heap.size + 1) o (by first | assumption | (simp; done) | (simp; omega)); have hz2 := hz w1.heap.size (by first | assumption | (simp; done) | (simp; omega)); have hq2 := fun o => hc w1.heap.size o (by first | assumption | (simp; done) | (simp; omega)); (try rw [HM0.out]); (try rw [HM1.out]); (try rw [HM2.out]))
    | (rw [rounds_succ]))
  (try rw [Exit.noGoto_ret])
  go_ret2
  exact ⟨rfl, (by repeat (first | exact Lo.refl _ | assumption | refine Lo.drew ?_ | refine Lo.alloc ?_ _ | refine Lo.setCell ?_ (by first | (dsimp only; omega) | (simp; omega) | (simp; done)) _ | refine Lo.trans ?_ (by assumption)))⟩

set_option maxHeartbeats 1600000 in
theorem beside_4_1 (sa : ByteArray) (kb : Int) (sb : ByteArray) (w : World) (ha : sa.size ≤ maxLen) (hb : sb.size ≤ maxLen) (hma : Pl.may 4 sa.toList = true) (hl : sa.size ≤ 64) (hm1 : Pl.matches_ kb sb.toList (⟨#[120]⟩ : ByteArray).toList = false) (hz1 : (⟨#[120]⟩ : ByteArray).size ≤ maxLen) :
    Calls Try.prog 19 #[.agg #[.int .i64 4, .string sa], .agg #[.int .i64 kb, .string sb]] w fun e w' => e = .returned (.tuple #[.string (⟨#[120]⟩ : ByteArray), .bool true]) ∧ Lo w w' := by
  have HA := Lib.hid hma
  have HM1 := Lib.hid hm1
  clear hma hm1
  go_enter Try.func19, Try.ntmps19
  go_wp2
  go_step3
  go_wp2_with (go_at_call 23; refine (may _ _ _ (by assumption)).mono ?_; rintro e w1 ⟨rfl, hb⟩; obtain ⟨hc, hf, hz⟩ := hb.facts; have hz0 := hz w.heap.size (by first | assumption | (simp; done) | (simp; omega)); have hq0 := fun o => hc w.heap.size o (by first | assumption | (simp; done) | (simp; omega)); have hz1 := hz (w.heap.size + 1) (by first | assumption | (simp; done) | (simp; omega)); have hq1 := fun o => hc (w.heap.size + 1) o (by first | assumption | (simp; done) | (simp; omega)); rw [HA.out])
  go_step3
  go_wp2_with fail
  refine wp_loop_rounds 2 ?_
  rw [rounds_succ]
  go_wp2_with (first
    | (go_at_call 22; refine (matches_ _ _ _ _ (by assumption) (by assumption)).mono ?_; rintro e w3 ⟨rfl, hb⟩; obtain ⟨hc, hf, hz⟩ := hb.facts; have hz0 := hz w.heap.size (by first | assumption | (simp; done) | (simp; omega)); have hq0 := fun o => hc w.heap.size o (by first | assumption | (simp; done) | (simp; omega)); have hz1 := hz (w.heap.size + 1) (by first | assumption | (simp; done) | (simp; omega)); have hq1 := fun o => hc (w.heap.size + 1) o (by first | assumption | (simp; done) | (simp; omega)); have hz2 := hz w1.heap.size (by first | assumption | (simp; done) | (simp; omega)); have hq2 := fun o => hc w1.heap.size o (by first | assumption | (simp; done) | (simp; omega)); (try rw [HM1.out]))
    | (rw [rounds_succ]))
  (try rw [Exit.noGoto_ret])
  go_ret2
  exact ⟨rfl, (by repeat (first | exact Lo.refl _ | assumption | refine Lo.drew ?_ | refine Lo.alloc ?_ _ | refine Lo.setCell ?_ (by first | (dsimp only; omega) | (simp; omega) | (simp; done)) _ | refine Lo.trans ?_ (by assumption)))⟩

set_option maxHeartbeats 1600000 in
theorem beside_4_2 (sa : ByteArray) (kb : Int) (sb : ByteArray) (w : World) (ha : sa.size ≤ maxLen) (hb : sb.size ≤ maxLen) (hma : Pl.may 4 sa.toList = true) (hl : sa.size ≤ 64) (hm1 : Pl.matches_ kb sb.toList (⟨#[120]⟩ : ByteArray).toList = true) (hz1 : (⟨#[120]⟩ : ByteArray).size ≤ maxLen) (hm2 : Pl.matches_ kb sb.toList (⟨#[121]⟩ : ByteArray).toList = false) (hz2 : (⟨#[121]⟩ : ByteArray).size ≤ maxLen) :
    Calls Try.prog 19 #[.agg #[.int .i64 4, .string sa], .agg #[.int .i64 kb, .string sb]] w fun e w' => e = .returned (.tuple #[.string (⟨#[121]⟩ : ByteArray), .bool true]) ∧ Lo w w' := by
  have HA := Lib.hid hma
  have HM1 := Lib.hid hm1
  have HM2 := Lib.hid hm2
  clear hma hm1 hm2
  go_enter Try.func19, Try.ntmps19
  go_wp2
  go_step3
  go_wp2_with (go_at_call 23; refine (may _ _ _ (by assumption)).mono ?_; rintro e w1 ⟨rfl, hb⟩; obtain ⟨hc, hf, hz⟩ := hb.facts; have hz0 := hz w.heap.size (by first | assumption | (simp; done) | (simp; omega)); have hq0 := fun o => hc w.heap.size o (by first | assumption | (simp; done) | (simp; omega)); have hz1 := hz (w.heap.size + 1) (by first | assumption | (simp; done) | (simp; omega)); have hq1 := fun o => hc (w.heap.size + 1) o (by first | assumption | (simp; done) | (simp; omega)); rw [HA.out])
  go_step3
  go_wp2_with fail
  refine wp_loop_rounds 3 ?_
  rw [rounds_succ]
  go_wp2_with (first
    | (go_at_call 22; refine (matches_ _ _ _ _ (by assumption) (by assumption)).mono ?_; rintro e w3 ⟨rfl, hb⟩; obtain ⟨hc, hf, hz⟩ := hb.facts; have hz0 := hz w.heap.size (by first | assumption | (simp; done) | (simp; omega)); have hq0 := fun o => hc w.heap.size o (by first | assumption | (simp; done) | (simp; omega)); have hz1 := hz (w.heap.size + 1) (by first | assumption | (simp; done) | (simp; omega)); have hq1 := fun o => hc (w.heap.size + 1) o (by first | assumption | (simp; done) | (simp; omega)); have hz2 := hz w1.heap.size (by first | assumption | (simp; done) | (simp; omega)); have hq2 := fun o => hc w1.heap.size o (by first | assumption | (simp; done) | (simp; omega)); (try rw [HM1.out]); (try rw [HM2.out]))
    | (rw [rounds_succ]))
  (try rw [Exit.noGoto_ret])
  go_ret2
  exact ⟨rfl, (by repeat (first | exact Lo.refl _ | assumption | refine Lo.drew ?_ | refine Lo.alloc ?_ _ | refine Lo.setCell ?_ (by first | (dsimp only; omega) | (simp; omega) | (simp; done)) _ | refine Lo.trans ?_ (by assumption)))⟩

set_option maxHeartbeats 1600000 in
theorem beside_4_3 (sa : ByteArray) (kb : Int) (sb : ByteArray) (w : World) (ha : sa.size ≤ maxLen) (hb : sb.size ≤ maxLen) (hma : Pl.may 4 sa.toList = true) (hl : sa.size ≤ 64) (hm1 : Pl.matches_ kb sb.toList (⟨#[120]⟩ : ByteArray).toList = true) (hz1 : (⟨#[120]⟩ : ByteArray).size ≤ maxLen) (hm2 : Pl.matches_ kb sb.toList (⟨#[121]⟩ : ByteArray).toList = true) (hz2 : (⟨#[121]⟩ : ByteArray).size ≤ maxLen) :
    Calls Try.prog 19 #[.agg #[.int .i64 4, .string sa], .agg #[.int .i64 kb, .string sb]] w fun e w' => e = .returned (.tuple #[.string ⟨#[]⟩, .bool false]) ∧ Lo w w' := by
  have HA := Lib.hid hma
  have HM1 := Lib.hid hm1
  have HM2 := Lib.hid hm2
  clear hma hm1 hm2
  go_enter Try.func19, Try.ntmps19
  go_wp2
  go_step3
  go_wp2_with (go_at_call 23; refine (may _ _ _ (by assumption)).mono ?_; rintro e w1 ⟨rfl, hb⟩; obtain ⟨hc, hf, hz⟩ := hb.facts; have hz0 := hz w.heap.size (by first | assumption | (simp; done) | (simp; omega)); have hq0 := fun o => hc w.heap.size o (by first | assumption | (simp; done) | (simp; omega)); have hz1 := hz (w.heap.size + 1) (by first | assumption | (simp; done) | (simp; omega)); have hq1 := fun o => hc (w.heap.size + 1) o (by first | assumption | (simp; done) | (simp; omega)); rw [HA.out])
  go_step3
  go_wp2_with fail
  refine wp_loop_rounds 4 ?_
  rw [rounds_succ]
  go_wp2_with (first
    | (go_at_call 22; refine (matches_ _ _ _ _ (by assumption) (by assumption)).mono ?_; rintro e w3 ⟨rfl, hb⟩; obtain ⟨hc, hf, hz⟩ := hb.facts; have hz0 := hz w.heap.size (by first | assumption | (simp; done) | (simp; omega)); have hq0 := fun o => hc w.heap.size o (by first | assumption | (simp; done) | (simp; omega)); have hz1 := hz (w.heap.size + 1) (by first | assumption | (simp; done) | (simp; omega)); have hq1 := fun o => hc (w.heap.size + 1) o (by first | assumption | (simp; done) | (simp; omega)); have hz2 := hz w1.heap.size (by first | assumption | (simp; done) | (simp; omega)); have hq2 := fun o => hc w1.heap.size o (by first | assumption | (simp; done) | (simp; omega)); (try rw [HM1.out]); (try rw [HM2.out]))
    | (rw [rounds_succ]))
  (try rw [Exit.noGoto_ret])
  go_ret2
  exact ⟨rfl, (by repeat (first | exact Lo.refl _ | assumption | refine Lo.drew ?_ | refine Lo.alloc ?_ _ | refine Lo.setCell ?_ (by first | (dsimp only; omega) | (simp; omega) | (simp; done)) _ | refine Lo.trans ?_ (by assumption)))⟩
end Go.Proofs.Ytlcecabfmemfeaa.WMatch
