/- For every two terms, the law MatchImplies returns true: no conditions. -/
import Derived.Test.YtlcecabfmemfeaaWAwake07
import Derived.Test.YtlcecabfmemfeaaWMatch4
import Derived.Test.YtlcecabfmemfeaaPlMatch2
namespace Go.Proofs.Ytlcecabfmemfeaa.MatchImplies
set_option linter.unusedVariables false
set_option linter.unusedSimpArgs false
open Go.RowKit Mem BigFrame WMatch

theorem two (b : Nat) (w : World) (ka kb : Int) (sa sb : ByteArray) (za : sa.size ≤ maxLen) (zb : sb.size ≤ maxLen) (h : w.heap[b]? = some (.cells #[.int .i64 ka, .string sa, .int .i64 kb, .string sb] 23 (0, 0))) :
    Terms w.heap.size w (some ⟨b, 0, none⟩) [⟨ka, sa⟩, ⟨kb, sb⟩] := Terms.of_new (ts := [⟨ka, sa⟩, ⟨kb, sb⟩]) h (by simp [za, zb])

theorem two_len {a b : Pl.Term} : [a, b].length ≤ maxLen := by simp [maxLen]
theorem empty_size : (⟨#[]⟩ : ByteArray).size ≤ maxLen := by decide

theorem long2 (b : Nat) (ka kb : Int) (sa sb : ByteArray) (w : World) (za : sa.size ≤ maxLen) (zb : sb.size ≤ maxLen) (h : w.heap[b]? = some (.cells #[.int .i64 ka, .string sa, .int .i64 kb, .string sb] 23 (0, 0))) :
    Calls Try.prog 16 #[.string ⟨#[]⟩, .slice (some ⟨b, 0, none⟩) 2 2] w fun e w' => e = .returned (.bool (Pl.longT ⟨#[]⟩ [⟨ka, sa⟩, ⟨kb, sb⟩])) ∧ w = w' :=
  long ⟨#[]⟩ (some ⟨b, 0, none⟩) 2 [⟨ka, sa⟩, ⟨kb, sb⟩] w (two b w ka kb sa sb za zb h) empty_size two_len

set_option maxHeartbeats 1600000 in
theorem walk_long (ka : Int) (sa : ByteArray) (kb : Int) (sb : ByteArray) (w : World) (za : sa.size ≤ maxLen) (zb : sb.size ≤ maxLen) (hl : Pl.longT ⟨#[]⟩ [⟨ka, sa⟩, ⟨kb, sb⟩] = true) :
    Calls Try.prog 3 #[.agg #[.int .i64 ka, .string sa], .agg #[.int .i64 kb, .string sb]] w fun e w' => e = .returned (.bool true) ∧ Lo w w' := by
  have HL := Lib.hid hl
  clear hl
  go_enter Try.func3, Try.ntmps3
  go_wp2_with (first
    | (go_at_call 16; refine (long2 _ ka kb sa sb _ za zb ?_).mono ?_; (exact heap_new_at (by simp)); rintro e w' ⟨rfl, rfl⟩; rw [HL.out])
    | (go_at_call 17; refine (awake _).mono ?_; rintro e w1 ⟨rfl, hb⟩))
  go_ret
  exact ⟨rfl, (by repeat (first | exact Lo.refl _ | assumption | refine Lo.drew ?_ | refine Lo.alloc ?_ _ | refine Lo.setCell ?_ (by first | (dsimp only; omega) | (simp; omega) | (simp; done)) _ | refine Lo.trans ?_ (by assumption)))⟩

theorem bool_true_and (a b : Bool) (h1 : a = true) (h2 : b = true) : (a && b) = true := by simp [h1, h2]

set_option maxHeartbeats 1600000 in
theorem walk_none (ka : Int) (sa : ByteArray) (kb : Int) (sb : ByteArray) (w : World) (za : sa.size ≤ maxLen) (zb : sb.size ≤ maxLen) (hl : Pl.longT ⟨#[]⟩ [⟨ka, sa⟩, ⟨kb, sb⟩] = false) (hn : Pl.beside ka sa.toList kb sb.toList = none) :
    Calls Try.prog 3 #[.agg #[.int .i64 ka, .string sa], .agg #[.int .i64 kb, .string sb]] w fun e w' => e = .returned (.bool true) ∧ Lo w w' := by
  have HL := Lib.hid hl
  have HR := Lib.hid ((Pl.beside_none_iff _ _ _ _).1 hn)
  have HI := Lib.hid (show Pl.implies ka sa.toList kb sb.toList = true by unfold Pl.implies; rw [hn]; rfl)
  have HB := Lib.hid (show besV (Pl.beside ka sa.toList kb sb.toList) = .tuple #[.string ⟨#[]⟩, .bool false] by rw [hn]; rfl)
  clear hl hn
  go_enter Try.func3, Try.ntmps3
  go_wp2_with (first
    | (go_at_call 16; refine (long2 _ ka kb sa sb _ za zb ?_).mono ?_; (exact heap_new_at (by simp)); rintro e w' ⟨rfl, rfl⟩; rw [HL.out])
    | (go_at_call 18; refine (refImplies _ _ _ _ _ za zb).mono ?_; rintro e w1 ⟨rfl, hb⟩; obtain ⟨hc, hf, hz⟩ := hb.facts; have hz0 := hz w.heap.size (by first | assumption | (simp; done) | (simp; omega)); have hq0 := fun o => hc w.heap.size o (by first | assumption | (simp; done) | (simp; omega)); have hz1 := hz (w.heap.size + 1) (by first | assumption | (simp; done) | (simp; omega)); have hq1 := fun o => hc (w.heap.size + 1) o (by first | assumption | (simp; done) | (simp; omega)); rw [HR.out])
    | (go_at_call 19; refine (beside _ _ _ _ _ za zb).mono ?_; rw [HB.out]; rintro e w1 ⟨rfl, hb⟩; obtain ⟨hc, hf, hz⟩ := hb.facts; have hz0 := hz w.heap.size (by first | assumption | (simp; done) | (simp; omega)); have hq0 := fun o => hc w.heap.size o (by first | assumption | (simp; done) | (simp; omega)); have hz1 := hz (w.heap.size + 1) (by first | assumption | (simp; done) | (simp; omega)); have hq1 := fun o => hc (w.heap.size + 1) o (by first | assumption | (simp; done) | (simp; omega)))
    | (go_at_call 20; refine (implies _ _ _ _ _ za zb).mono ?_; rintro e w1 ⟨rfl, hb⟩; obtain ⟨hc, hf, hz⟩ := hb.facts; have hz0 := hz w.heap.size (by first | assumption | (simp; done) | (simp; omega)); have hq0 := fun o => hc w.heap.size o (by first | assumption | (simp; done) | (simp; omega)); have hz1 := hz (w.heap.size + 1) (by first | assumption | (simp; done) | (simp; omega)); have hq1 := fun o => hc (w.heap.size + 1) o (by first | assumption | (simp; done) | (simp; omega)); rw [HI.out])
    | (go_at_call 17; refine (awake _).mono ?_; rintro e w1 ⟨rfl, hb⟩))
  go_ret
  exact ⟨rfl, (by repeat (first | exact Lo.refl _ | assumption | refine Lo.drew ?_ | refine Lo.alloc ?_ _ | refine Lo.setCell ?_ (by first | (dsimp only; omega) | (simp; omega) | (simp; done)) _ | refine Lo.trans ?_ (by assumption)))⟩

set_option maxHeartbeats 1600000 in
theorem walk_some (ka : Int) (sa : ByteArray) (kb : Int) (sb : ByteArray) (t : ByteArray) (w : World) (za : sa.size ≤ maxLen) (zb : sb.size ≤ maxLen) (hl : Pl.longT ⟨#[]⟩ [⟨ka, sa⟩, ⟨kb, sb⟩] = false) (hn : Pl.beside ka sa.toList kb sb.toList = some t.toList) :
    Calls Try.prog 3 #[.agg #[.int .i64 ka, .string sa], .agg #[.int .i64 kb, .string sb]] w fun e w' => e = .returned (.bool true) ∧ Lo w w' := by
  have HL := Lib.hid hl
  have HR := Lib.hid (show Pl.refImplies ka sa.toList kb sb.toList = false by rw [Bool.eq_false_iff]; intro h; rw [← Pl.beside_none_iff, hn] at h; cases h)
  have HI := Lib.hid (show Pl.implies ka sa.toList kb sb.toList = false by unfold Pl.implies; rw [hn]; rfl)
  have HB := Lib.hid (show besV (Pl.beside ka sa.toList kb sb.toList) = .tuple #[.string t, .bool true] by rw [hn]; unfold besV; simp [toList_bs])
  obtain ⟨_, hm1, hm2⟩ := Pl.beside_some hn
  have HM1 := Lib.hid hm1
  have HM2 := Lib.hid hm2
  obtain ⟨ht, hr⟩ := Pl.beside_fit hn
  rw [toList_len] at ht
  have htm : t.size ≤ maxLen := by unfold maxLen; omega
  have HT := Lib.hid (fun (n : Nat) (hn : n < t.size) => hr t[n] (List.mem_of_getElem? (toList_get t n hn)))
  clear hl hn hm1 hm2 hr
  go_enter Try.func3, Try.ntmps3
  go_wp2_with (first
    | (go_at_call 16; refine (long2 _ ka kb sa sb _ za zb ?_).mono ?_; (exact heap_new_at (by simp)); rintro e w' ⟨rfl, rfl⟩; rw [HL.out])
    | (go_at_call 18; refine (refImplies _ _ _ _ _ za zb).mono ?_; rintro e w1 ⟨rfl, hb⟩; obtain ⟨hc, hf, hz⟩ := hb.facts; have hz0 := hz w.heap.size (by first | assumption | (simp; done) | (simp; omega)); have hq0 := fun o => hc w.heap.size o (by first | assumption | (simp; done) | (simp; omega)); have hz1 := hz (w.heap.size + 1) (by first | assumption | (simp; done) | (simp; omega)); have hq1 := fun o => hc (w.heap.size + 1) o (by first | assumption | (simp; done) | (simp; omega)); rw [HR.out])
    | (go_at_call 19; refine (beside _ _ _ _ _ za zb).mono ?_; rw [HB.out]; rintro e w1 ⟨rfl, hb⟩; obtain ⟨hc, hf, hz⟩ := hb.facts; have hz0 := hz w.heap.size (by first | assumption | (simp; done) | (simp; omega)); have hq0 := fun o => hc w.heap.size o (by first | assumption | (simp; done) | (simp; omega)); have hz1 := hz (w.heap.size + 1) (by first | assumption | (simp; done) | (simp; omega)); have hq1 := fun o => hc (w.heap.size + 1) o (by first | assumption | (simp; done) | (simp; omega)))
    | (go_at_call 20; refine (implies _ _ _ _ _ za zb).mono ?_; rintro e w1 ⟨rfl, hb⟩; obtain ⟨hc, hf, hz⟩ := hb.facts; have hz0 := hz w.heap.size (by first | assumption | (simp; done) | (simp; omega)); have hq0 := fun o => hc w.heap.size o (by first | assumption | (simp; done) | (simp; omega)); have hz1 := hz (w.heap.size + 1) (by first | assumption | (simp; done) | (simp; omega)); have hq1 := fun o => hc (w.heap.size + 1) o (by first | assumption | (simp; done) | (simp; omega)); rw [HI.out]))
  go_loop [8] (fun i => ∃ n : Nat, n ≤ t.size ∧ i = .int .i64 n) (fun i => t.size - (intOf i).toNat)
  case atStart => exact ⟨0, Nat.zero_le _, rfl⟩
  case round =>
    obtain ⟨n, hn, rfl⟩ := hrel
    by_cases hlt : n < t.size
    · obtain ⟨hlo, hhi⟩ := HT.out n hlt
      have hlo' : (33 : Int) ≤ (t[n].toNat : Int) := by omega
      have hhi' : (t[n].toNat : Int) ≤ 126 := by omega
      go_wp2
      go_round
      case rel => exact ⟨n + 1, by omega, by go_num⟩
      case measure => simp [intOf]; omega
    · go_wp2_with (first
        | (go_at_call 21; refine (refMatches _ _ _ _ (by assumption) (by assumption)).mono ?_; rintro e w1 ⟨rfl, hb⟩; obtain ⟨hc, hf, hz⟩ := hb.facts; have hz0 := hz w.heap.size (by first | assumption | (simp; done) | (simp; omega)); have hq0 := fun o => hc w.heap.size o (by first | assumption | (simp; done) | (simp; omega)); have hz1 := hz (w.heap.size + 1) (by first | assumption | (simp; done) | (simp; omega)); have hq1 := fun o => hc (w.heap.size + 1) o (by first | assumption | (simp; done) | (simp; omega)); (first | rw [HM1.out] | rw [HM2.out]))
        | (go_at_call 17; refine (awake _).mono ?_; rintro e w1 ⟨rfl, hb⟩))
      go_ret
      exact ⟨rfl, (by repeat (first | exact Lo.refl _ | assumption | refine Lo.drew ?_ | refine Lo.alloc ?_ _ | refine Lo.setCell ?_ (by first | (dsimp only; omega) | (simp; omega) | (simp; done)) _ | refine Lo.trans ?_ (by assumption)))⟩

theorem walk (ka : Int) (sa : ByteArray) (kb : Int) (sb : ByteArray) (w : World) (za : sa.size ≤ maxLen) (zb : sb.size ≤ maxLen) :
    Calls Try.prog 3 #[.agg #[.int .i64 ka, .string sa], .agg #[.int .i64 kb, .string sb]] w fun e w' => e = .returned (.bool true) ∧ Lo w w' := by
  cases hl : Pl.longT ⟨#[]⟩ [⟨ka, sa⟩, ⟨kb, sb⟩] with
  | true => exact walk_long ka sa kb sb w za zb hl
  | false =>
    cases hn : Pl.beside ka sa.toList kb sb.toList with
    | none => exact walk_none ka sa kb sb w za zb hl hn
    | some t => exact walk_some ka sa kb sb (bs t) w za zb hl (by rw [hn, bs_toList])
end Go.Proofs.Ytlcecabfmemfeaa.MatchImplies
