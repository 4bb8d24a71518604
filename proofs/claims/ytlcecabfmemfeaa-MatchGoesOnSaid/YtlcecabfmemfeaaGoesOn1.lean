/- For every three terms and every text, the law MatchGoesOn returns true. (Written by mk_goeson.py.) -/
import Derived.Test.YtlcecabfmemfeaaWAwake07
import Derived.Test.YtlcecabfmemfeaaWMatch4
import Derived.Test.YtlcecabfmemfeaaPlMatch2
namespace Go.Proofs.Ytlcecabfmemfeaa.MatchGoesOn
set_option linter.unusedVariables false
set_option linter.unusedSimpArgs false
open Go.RowKit Mem BigFrame WMatch

theorem three_len {a b c : Pl.Term} : [a, b, c].length ≤ maxLen := by simp [maxLen]
theorem long3 (b : Nat) (s : ByteArray) (ka kb kc : Int) (sa sb sc : ByteArray) (w : World) (zs : s.size ≤ maxLen) (za : sa.size ≤ maxLen) (zb : sb.size ≤ maxLen) (zc : sc.size ≤ maxLen) (h : w.heap[b]? = some (.cells #[.int .i64 ka, .string sa, .int .i64 kb, .string sb, .int .i64 kc, .string sc] 23 (0, 0))) :
    Calls Try.prog 16 #[.string s, .slice (some ⟨b, 0, none⟩) 3 3] w fun e w' => e = .returned (.bool (Pl.longT s [⟨ka, sa⟩, ⟨kb, sb⟩, ⟨kc, sc⟩])) ∧ w = w' :=
  long s (some ⟨b, 0, none⟩) 3 [⟨ka, sa⟩, ⟨kb, sb⟩, ⟨kc, sc⟩] w (Terms.of_new (ts := [⟨ka, sa⟩, ⟨kb, sb⟩, ⟨kc, sc⟩]) h (by simp [za, zb, zc])) zs three_len

set_option maxHeartbeats 1600000 in
theorem walk_long (ka : Int) (sa : ByteArray) (kb : Int) (sb : ByteArray) (kc : Int) (sc : ByteArray) (s : ByteArray) (w : World) (za : sa.size ≤ maxLen) (zb : sb.size ≤ maxLen) (zc : sc.size ≤ maxLen) (zs : s.size ≤ maxLen) (hl : Pl.longT s [⟨ka, sa⟩, ⟨kb, sb⟩, ⟨kc, sc⟩] = true) :
    Calls Try.prog 4 #[.agg #[.int .i64 ka, .string sa], .agg #[.int .i64 kb, .string sb], .agg #[.int .i64 kc, .string sc], .string s] w fun e w' => e = .returned (.bool true) ∧ Lo w w' := by
  have HL := Lib.hid hl
  clear hl
  go_enter Try.func4, Try.ntmps4
  go_wp2_with (first
    | (go_at_call 16; refine (long3 _ s ka kb kc sa sb sc _ zs za zb zc ?_).mono ?_; (exact heap_new_at (by simp)); rintro e w' ⟨rfl, rfl⟩; rw [HL.out])
    | (go_at_call 17; refine (awake _).mono ?_; rintro e w1 ⟨rfl, hb⟩))
  go_ret
  exact ⟨rfl, (by repeat (first | exact Lo.refl _ | assumption | refine Lo.drew ?_ | refine Lo.alloc ?_ _ | refine Lo.setCell ?_ (by first | (dsimp only; omega) | (simp; omega) | (simp; done)) _ | refine Lo.trans ?_ (by assumption)))⟩

set_option maxHeartbeats 4000000 in
theorem walk_f_fx (ka : Int) (sa : ByteArray) (kb : Int) (sb : ByteArray) (kc : Int) (sc : ByteArray) (s : ByteArray) (w : World) (za : sa.size ≤ maxLen) (zb : sb.size ≤ maxLen) (zc : sc.size ≤ maxLen) (zs : s.size ≤ maxLen) (t : ByteArray) (zt : t.size ≤ maxLen) (h_bes : besV (Pl.beside ka sa.toList kb sb.toList) = .tuple #[.string t, .bool true]) (h_mat : Pl.matches_ ka sa.toList t.toList = true) (h_mbt : Pl.matches_ kb sb.toList t.toList = false) (hl : Pl.longT s [⟨ka, sa⟩, ⟨kb, sb⟩, ⟨kc, sc⟩] = false) (h_ab : Pl.implies ka sa.toList kb sb.toList = false) (h_aa : Pl.implies ka sa.toList ka sa.toList = true) (h_maya : Pl.may ka sa.toList = false) :
    Calls Try.prog 4 #[.agg #[.int .i64 ka, .string sa], .agg #[.int .i64 kb, .string sb], .agg #[.int .i64 kc, .string sc], .string s] w fun e w' => e = .returned (.bool true) ∧ Lo w w' := by
  have HL := Lib.hid hl
  have H_ab := Lib.hid h_ab
  have H_aa := Lib.hid h_aa
  have H_maya := Lib.hid h_maya
  have H_bes := Lib.hid h_bes
  have H_mat := Lib.hid h_mat
  have H_mbt := Lib.hid h_mbt
  clear hl h_ab h_aa h_maya h_bes h_mat h_mbt
  go_enter Try.func4, Try.ntmps4
  go_wp2_with (first
    | (go_at_call 16; refine (long3 _ s ka kb kc sa sb sc _ zs za zb zc ?_).mono ?_; (exact heap_new_at (by simp)); rintro e w' ⟨rfl, rfl⟩; rw [HL.out])
    | (go_at_call 20; refine (implies _ _ _ _ _ (by assumption) (by assumption)).mono ?_; rintro e w1 ⟨rfl, hb⟩; obtain ⟨hc, hf, hz⟩ := hb.facts; have hz0 := hz w.heap.size (by first | assumption | (simp; done) | (simp; omega)); have hq0 := fun o => hc w.heap.size o (by first | assumption | (simp; done) | (simp; omega)); have hz1 := hz (w.heap.size + 1) (by first | assumption | (simp; done) | (simp; omega)); have hq1 := fun o => hc (w.heap.size + 1) o (by first | assumption | (simp; done) | (simp; omega)); have hz2 := hz (w.heap.size + 2) (by first | assumption | (simp; done) | (simp; omega)); have hq2 := fun o => hc (w.heap.size + 2) o (by first | assumption | (simp; done) | (simp; omega)); (first | rw [H_ab.out] | rw [H_aa.out]))
    | (go_at_call 22; refine (matches_ _ _ _ _ (by assumption) (by assumption)).mono ?_; rintro e w1 ⟨rfl, hb⟩; obtain ⟨hc, hf, hz⟩ := hb.facts; have hz0 := hz w.heap.size (by first | assumption | (simp; done) | (simp; omega)); have hq0 := fun o => hc w.heap.size o (by first | assumption | (simp; done) | (simp; omega)); have hz1 := hz (w.heap.size + 1) (by first | assumption | (simp; done) | (simp; omega)); have hq1 := fun o => hc (w.heap.size + 1) o (by first | assumption | (simp; done) | (simp; omega)); have hz2 := hz (w.heap.size + 2) (by first | assumption | (simp; done) | (simp; omega)); have hq2 := fun o => hc (w.heap.size + 2) o (by first | assumption | (simp; done) | (simp; omega)); (first | rw [H_mat.out] | rw [H_mbt.out]))
    | (go_at_call 23; refine (may _ _ _ (by assumption)).mono ?_; rintro e w1 ⟨rfl, hb⟩; obtain ⟨hc, hf, hz⟩ := hb.facts; have hz0 := hz w.heap.size (by first | assumption | (simp; done) | (simp; omega)); have hq0 := fun o => hc w.heap.size o (by first | assumption | (simp; done) | (simp; omega)); have hz1 := hz (w.heap.size + 1) (by first | assumption | (simp; done) | (simp; omega)); have hq1 := fun o => hc (w.heap.size + 1) o (by first | assumption | (simp; done) | (simp; omega)); have hz2 := hz (w.heap.size + 2) (by first | assumption | (simp; done) | (simp; omega)); have hq2 := fun o => hc (w.heap.size + 2) o (by first | assumption | (simp; done) | (simp; omega)); (first | rw [H_maya.out]))
    | (go_at_call 19; refine (beside _ _ _ _ _ (by assumption) (by assumption)).mono ?_; rw [H_bes.out]; rintro e w1 ⟨rfl, hb⟩; obtain ⟨hc, hf, hz⟩ := hb.facts; have hz0 := hz w.heap.size (by first | assumption | (simp; done) | (simp; omega)); have hq0 := fun o => hc w.heap.size o (by first | assumption | (simp; done) | (simp; omega)); have hz1 := hz (w.heap.size + 1) (by first | assumption | (simp; done) | (simp; omega)); have hq1 := fun o => hc (w.heap.size + 1) o (by first | assumption | (simp; done) | (simp; omega)); have hz2 := hz (w.heap.size + 2) (by first | assumption | (simp; done) | (simp; omega)); have hq2 := fun o => hc (w.heap.size + 2) o (by first | assumption | (simp; done) | (simp; omega)))
    | (go_at_call 17; refine (awake _).mono ?_; rintro e w1 ⟨rfl, hb⟩))
  go_ret
  exact ⟨rfl, (by repeat (first | exact Lo.refl _ | assumption | refine Lo.drew ?_ | refine Lo.alloc ?_ _ | refine Lo.setCell ?_ (by first | (dsimp only; omega) | (simp; omega) | (simp; done)) _ | refine Lo.trans ?_ (by assumption)))⟩

set_option maxHeartbeats 4000000 in
theorem walk_f_tf (ka : Int) (sa : ByteArray) (kb : Int) (sb : ByteArray) (kc : Int) (sc : ByteArray) (s : ByteArray) (w : World) (za : sa.size ≤ maxLen) (zb : sb.size ≤ maxLen) (zc : sc.size ≤ maxLen) (zs : s.size ≤ maxLen) (t : ByteArray) (zt : t.size ≤ maxLen) (h_bes : besV (Pl.beside ka sa.toList kb sb.toList) = .tuple #[.string t, .bool true]) (h_mat : Pl.matches_ ka sa.toList t.toList = true) (h_mbt : Pl.matches_ kb sb.toList t.toList = false) (hl : Pl.longT s [⟨ka, sa⟩, ⟨kb, sb⟩, ⟨kc, sc⟩] = false) (h_ab : Pl.implies ka sa.toList kb sb.toList = false) (h_aa : Pl.implies ka sa.toList ka sa.toList = true) (h_maya : Pl.may ka sa.toList = true) (h_mayb : Pl.may kb sb.toList = false) :
    Calls Try.prog 4 #[.agg #[.int .i64 ka, .string sa], .agg #[.int .i64 kb, .string sb], .agg #[.int .i64 kc, .string sc], .string s] w fun e w' => e = .returned (.bool true) ∧ Lo w w' := by
  have HL := Lib.hid hl
  have H_ab := Lib.hid h_ab
  have H_aa := Lib.hid h_aa
  have H_maya := Lib.hid h_maya
  have H_mayb := Lib.hid h_mayb
  have H_bes := Lib.hid h_bes
  have H_mat := Lib.hid h_mat
  have H_mbt := Lib.hid h_mbt
  clear hl h_ab h_aa h_maya h_mayb h_bes h_mat h_mbt
  go_enter Try.func4, Try.ntmps4
  go_wp2_with (first
    | (go_at_call 16; refine (long3 _ s ka kb kc sa sb sc _ zs za zb zc ?_).mono ?_; (exact heap_new_at (by simp)); rintro e w' ⟨rfl, rfl⟩; rw [HL.out])
    | (go_at_call 20; refine (implies _ _ _ _ _ (by assumption) (by assumption)).mono ?_; rintro e w1 ⟨rfl, hb⟩; obtain ⟨hc, hf, hz⟩ := hb.facts; have hz0 := hz w.heap.size (by first | assumption | (simp; done) | (simp; omega)); have hq0 := fun o => hc w.heap.size o (by first | assumption | (simp; done) | (simp; omega)); have hz1 := hz (w.heap.size + 1) (by first | assumption | (simp; done) | (simp; omega)); have hq1 := fun o => hc (w.heap.size + 1) o (by first | assumption | (simp; done) | (simp; omega)); have hz2 := hz (w.heap.size + 2) (by first | assumption | (simp; done) | (simp; omega)); have hq2 := fun o => hc (w.heap.size + 2) o (by first | assumption | (simp; done) | (simp; omega)); (first | rw [H_ab.out] | rw [H_aa.out]))
    | (go_at_call 22; refine (matches_ _ _ _ _ (by assumption) (by assumption)).mono ?_; rintro e w1 ⟨rfl, hb⟩; obtain ⟨hc, hf, hz⟩ := hb.facts; have hz0 := hz w.heap.size (by first | assumption | (simp; done) | (simp; omega)); have hq0 := fun o => hc w.heap.size o (by first | assumption | (simp; done) | (simp; omega)); have hz1 := hz (w.heap.size + 1) (by first | assumption | (simp; done) | (simp; omega)); have hq1 := fun o => hc (w.heap.size + 1) o (by first | assumption | (simp; done) | (simp; omega)); have hz2 := hz (w.heap.size + 2) (by first | assumption | (simp; done) | (simp; omega)); have hq2 := fun o => hc (w.heap.size + 2) o (by first | assumption | (simp; done) | (simp; omega)); (first | rw [H_mat.out] | rw [H_mbt.out]))
    | (go_at_call 23; refine (may _ _ _ (by assumption)).mono ?_; rintro e w1 ⟨rfl, hb⟩; obtain ⟨hc, hf, hz⟩ := hb.facts; have hz0 := hz w.heap.size (by first | assumption | (simp; done) | (simp; omega)); have hq0 := fun o => hc w.heap.size o (by first | assumption | (simp; done) | (simp; omega)); have hz1 := hz (w.heap.size + 1) (by first | assumption | (simp; done) | (simp; omega)); have hq1 := fun o => hc (w.heap.size + 1) o (by first | assumption | (simp; done) | (simp; omega)); have hz2 := hz (w.heap.size + 2) (by first | assumption | (simp; done) | (simp; omega)); have hq2 := fun o => hc (w.heap.size + 2) o (by first | assumption | (simp; done) | (simp; omega)); (first | rw [H_maya.out] | rw [H_mayb.out]))
    | (go_at_call 19; refine (beside _ _ _ _ _ (by assumption) (by assumption)).mono ?_; rw [H_bes.out]; rintro e w1 ⟨rfl, hb⟩; obtain ⟨hc, hf, hz⟩ := hb.facts; have hz0 := hz w.heap.size (by first | assumption | (simp; done) | (simp; omega)); have hq0 := fun o => hc w.heap.size o (by first | assumption | (simp; done) | (simp; omega)); have hz1 := hz (w.heap.size + 1) (by first | assumption | (simp; done) | (simp; omega)); have hq1 := fun o => hc (w.heap.size + 1) o (by first | assumption | (simp; done) | (simp; omega)); have hz2 := hz (w.heap.size + 2) (by first | assumption | (simp; done) | (simp; omega)); have hq2 := fun o => hc (w.heap.size + 2) o (by first | assumption | (simp; done) | (simp; omega)))
    | (go_at_call 17; refine (awake _).mono ?_; rintro e w1 ⟨rfl, hb⟩))
  go_ret
  exact ⟨rfl, (by repeat (first | exact Lo.refl _ | assumption | refine Lo.drew ?_ | refine Lo.alloc ?_ _ | refine Lo.setCell ?_ (by first | (dsimp only; omega) | (simp; omega) | (simp; done)) _ | refine Lo.trans ?_ (by assumption)))⟩

set_option maxHeartbeats 4000000 in
theorem walk_f_tt (ka : Int) (sa : ByteArray) (kb : Int) (sb : ByteArray) (kc : Int) (sc : ByteArray) (s : ByteArray) (w : World) (za : sa.size ≤ maxLen) (zb : sb.size ≤ maxLen) (zc : sc.size ≤ maxLen) (zs : s.size ≤ maxLen) (t : ByteArray) (zt : t.size ≤ maxLen) (h_bes : besV (Pl.beside ka sa.toList kb sb.toList) = .tuple #[.string t, .bool true]) (h_mat : Pl.matches_ ka sa.toList t.toList = true) (h_mbt : Pl.matches_ kb sb.toList t.toList = false) (hl : Pl.longT s [⟨ka, sa⟩, ⟨kb, sb⟩, ⟨kc, sc⟩] = false) (h_ab : Pl.implies ka sa.toList kb sb.toList = false) (h_aa : Pl.implies ka sa.toList ka sa.toList = true) (h_maya : Pl.may ka sa.toList = true) (h_mayb : Pl.may kb sb.toList = true) :
    Calls Try.prog 4 #[.agg #[.int .i64 ka, .string sa], .agg #[.int .i64 kb, .string sb], .agg #[.int .i64 kc, .string sc], .string s] w fun e w' => e = .returned (.bool true) ∧ Lo w w' := by
  have HL := Lib.hid hl
  have H_ab := Lib.hid h_ab
  have H_aa := Lib.hid h_aa
  have H_maya := Lib.hid h_maya
  have H_mayb := Lib.hid h_mayb
  have H_bes := Lib.hid h_bes
  have H_mat := Lib.hid h_mat
  have H_mbt := Lib.hid h_mbt
  clear hl h_ab h_aa h_maya h_mayb h_bes h_mat h_mbt
  go_enter Try.func4, Try.ntmps4
  go_wp2_with (first
    | (go_at_call 16; refine (long3 _ s ka kb kc sa sb sc _ zs za zb zc ?_).mono ?_; (exact heap_new_at (by simp)); rintro e w' ⟨rfl, rfl⟩; rw [HL.out])
    | (go_at_call 20; refine (implies _ _ _ _ _ (by assumption) (by assumption)).mono ?_; rintro e w1 ⟨rfl, hb⟩; obtain ⟨hc, hf, hz⟩ := hb.facts; have hz0 := hz w.heap.size (by first | assumption | (simp; done) | (simp; omega)); have hq0 := fun o => hc w.heap.size o (by first | assumption | (simp; done) | (simp; omega)); have hz1 := hz (w.heap.size + 1) (by first | assumption | (simp; done) | (simp; omega)); have hq1 := fun o => hc (w.heap.size + 1) o (by first | assumption | (simp; done) | (simp; omega)); have hz2 := hz (w.heap.size + 2) (by first | assumption | (simp; done) | (simp; omega)); have hq2 := fun o => hc (w.heap.size + 2) o (by first | assumption | (simp; done) | (simp; omega)); (first | rw [H_ab.out] | rw [H_aa.out]))
    | (go_at_call 22; refine (matches_ _ _ _ _ (by assumption) (by assumption)).mono ?_; rintro e w1 ⟨rfl, hb⟩; obtain ⟨hc, hf, hz⟩ := hb.facts; have hz0 := hz w.heap.size (by first | assumption | (simp; done) | (simp; omega)); have hq0 := fun o => hc w.heap.size o (by first | assumption | (simp; done) | (simp; omega)); have hz1 := hz (w.heap.size + 1) (by first | assumption | (simp; done) | (simp; omega)); have hq1 := fun o => hc (w.heap.size + 1) o (by first | assumption | (simp; done) | (simp; omega)); have hz2 := hz (w.heap.size + 2) (by first | assumption | (simp; done) | (simp; omega)); have hq2 := fun o => hc (w.heap.size + 2) o (by first | assumption | (simp; done) | (simp; omega)); (first | rw [H_mat.out] | rw [H_mbt.out]))
    | (go_at_call 23; refine (may _ _ _ (by assumption)).mono ?_; rintro e w1 ⟨rfl, hb⟩; obtain ⟨hc, hf, hz⟩ := hb.facts; have hz0 := hz w.heap.size (by first | assumption | (simp; done) | (simp; omega)); have hq0 := fun o => hc w.heap.size o (by first | assumption | (simp; done) | (simp; omega)); have hz1 := hz (w.heap.size + 1) (by first | assumption | (simp; done) | (simp; omega)); have hq1 := fun o => hc (w.heap.size + 1) o (by first | assumption | (simp; done) | (simp; omega)); have hz2 := hz (w.heap.size + 2) (by first | assumption | (simp; done) | (simp; omega)); have hq2 := fun o => hc (w.heap.size + 2) o (by first | assumption | (simp; done) | (simp; omega)); (first | rw [H_maya.out] | rw [H_mayb.out]))
    | (go_at_call 19; refine (beside _ _ _ _ _ (by assumption) (by assumption)).mono ?_; rw [H_bes.out]; rintro e w1 ⟨rfl, hb⟩; obtain ⟨hc, hf, hz⟩ := hb.facts; have hz0 := hz w.heap.size (by first | assumption | (simp; done) | (simp; omega)); have hq0 := fun o => hc w.heap.size o (by first | assumption | (simp; done) | (simp; omega)); have hz1 := hz (w.heap.size + 1) (by first | assumption | (simp; done) | (simp; omega)); have hq1 := fun o => hc (w.heap.size + 1) o (by first | assumption | (simp; done) | (simp; omega)); have hz2 := hz (w.heap.size + 2) (by first | assumption | (simp; done) | (simp; omega)); have hq2 := fun o => hc (w.heap.size + 2) o (by first | assumption | (simp; done) | (simp; omega)))
    | (go_at_call 17; refine (awake _).mono ?_; rintro e w1 ⟨rfl, hb⟩))
  go_ret
  exact ⟨rfl, (by repeat (first | exact Lo.refl _ | assumption | refine Lo.drew ?_ | refine Lo.alloc ?_ _ | refine Lo.setCell ?_ (by first | (dsimp only; omega) | (simp; omega) | (simp; done)) _ | refine Lo.trans ?_ (by assumption)))⟩

set_option maxHeartbeats 4000000 in
theorem walk_t_tt_fxx (ka : Int) (sa : ByteArray) (kb : Int) (sb : ByteArray) (kc : Int) (sc : ByteArray) (s : ByteArray) (w : World) (za : sa.size ≤ maxLen) (zb : sb.size ≤ maxLen) (zc : sc.size ≤ maxLen) (zs : s.size ≤ maxLen) (h_bes : besV (Pl.beside ka sa.toList kb sb.toList) = .tuple #[.string ⟨#[]⟩, .bool false]) (hl : Pl.longT s [⟨ka, sa⟩, ⟨kb, sb⟩, ⟨kc, sc⟩] = false) (h_ab : Pl.implies ka sa.toList kb sb.toList = true) (h_mas : Pl.matches_ ka sa.toList s.toList = true) (h_mbs : Pl.matches_ kb sb.toList s.toList = true) (h_bc : Pl.implies kb sb.toList kc sc.toList = true) (h_ac : Pl.implies ka sa.toList kc sc.toList = true) (h_aa : Pl.implies ka sa.toList ka sa.toList = true) (h_maya : Pl.may ka sa.toList = false) :
    Calls Try.prog 4 #[.agg #[.int .i64 ka, .string sa], .agg #[.int .i64 kb, .string sb], .agg #[.int .i64 kc, .string sc], .string s] w fun e w' => e = .returned (.bool true) ∧ Lo w w' := by
  have HL := Lib.hid hl
  have H_ab := Lib.hid h_ab
  have H_mas := Lib.hid h_mas
  have H_mbs := Lib.hid h_mbs
  have H_bc := Lib.hid h_bc
  have H_ac := Lib.hid h_ac
  have H_aa := Lib.hid h_aa
  have H_maya := Lib.hid h_maya
  have H_bes := Lib.hid h_bes
  clear hl h_ab h_mas h_mbs h_bc h_ac h_aa h_maya h_bes
  go_enter Try.func4, Try.ntmps4
  go_wp2_with (first
    | (go_at_call 16; refine (long3 _ s ka kb kc sa sb sc _ zs za zb zc ?_).mono ?_; (exact heap_new_at (by simp)); rintro e w' ⟨rfl, rfl⟩; rw [HL.out])
    | (go_at_call 20; refine (implies _ _ _ _ _ (by assumption) (by assumption)).mono ?_; rintro e w1 ⟨rfl, hb⟩; obtain ⟨hc, hf, hz⟩ := hb.facts; have hz0 := hz w.heap.size (by first | assumption | (simp; done) | (simp; omega)); have hq0 := fun o => hc w.heap.size o (by first | assumption | (simp; done) | (simp; omega)); have hz1 := hz (w.heap.size + 1) (by first | assumption | (simp; done) | (simp; omega)); have hq1 := fun o => hc (w.heap.size + 1) o (by first | assumption | (simp; done) | (simp; omega)); have hz2 := hz (w.heap.size + 2) (by first | assumption | (simp; done) | (simp; omega)); have hq2 := fun o => hc (w.heap.size + 2) o (by first | assumption | (simp; done) | (simp; omega)); (first | rw [H_ab.out] | rw [H_bc.out] | rw [H_ac.out] | rw [H_aa.out]))
    | (go_at_call 22; refine (matches_ _ _ _ _ (by assumption) (by assumption)).mono ?_; rintro e w1 ⟨rfl, hb⟩; obtain ⟨hc, hf, hz⟩ := hb.facts; have hz0 := hz w.heap.size (by first | assumption | (simp; done) | (simp; omega)); have hq0 := fun o => hc w.heap.size o (by first | assumption | (simp; done) | (simp; omega)); have hz1 := hz (w.heap.size + 1) (by first | assumption | (simp; done) | (simp; omega)); have hq1 := fun o => hc (w.heap.size + 1) o (by first | assumption | (simp; done) | (simp; omega)); have hz2 := hz (w.heap.size + 2) (by first | assumption | (simp; done) | (simp; omega)); have hq2 := fun o => hc (w.heap.size + 2) o (by first | assumption | (simp; done) | (simp; omega)); (first | rw [H_mas.out] | rw [H_mbs.out]))
    | (go_at_call 23; refine (may _ _ _ (by assumption)).mono ?_; rintro e w1 ⟨rfl, hb⟩; obtain ⟨hc, hf, hz⟩ := hb.facts; have hz0 := hz w.heap.size (by first | assumption | (simp; done) | (simp; omega)); have hq0 := fun o => hc w.heap.size o (by first | assumption | (simp; done) | (simp; omega)); have hz1 := hz (w.heap.size + 1) (by first | assumption | (simp; done) | (simp; omega)); have hq1 := fun o => hc (w.heap.size + 1) o (by first | assumption | (simp; done) | (simp; omega)); have hz2 := hz (w.heap.size + 2) (by first | assumption | (simp; done) | (simp; omega)); have hq2 := fun o => hc (w.heap.size + 2) o (by first | assumption | (simp; done) | (simp; omega)); (first | rw [H_maya.out]))
    | (go_at_call 19; refine (beside _ _ _ _ _ (by assumption) (by assumption)).mono ?_; rw [H_bes.out]; rintro e w1 ⟨rfl, hb⟩; obtain ⟨hc, hf, hz⟩ := hb.facts; have hz0 := hz w.heap.size (by first | assumption | (simp; done) | (simp; omega)); have hq0 := fun o => hc w.heap.size o (by first | assumption | (simp; done) | (simp; omega)); have hz1 := hz (w.heap.size + 1) (by first | assumption | (simp; done) | (simp; omega)); have hq1 := fun o => hc (w.heap.size + 1) o (by first | assumption | (simp; done) | (simp; omega)); have hz2 := hz (w.heap.size + 2) (by first | assumption | (simp; done) | (simp; omega)); have hq2 := fun o => hc (w.heap.size + 2) o (by first | assumption | (simp; done) | (simp; omega)))
    | (go_at_call 17; refine (awake _).mono ?_; rintro e w1 ⟨rfl, hb⟩))
  go_ret
  exact ⟨rfl, (by repeat (first | exact Lo.refl _ | assumption | refine Lo.drew ?_ | refine Lo.alloc ?_ _ | refine Lo.setCell ?_ (by first | (dsimp only; omega) | (simp; omega) | (simp; done)) _ | refine Lo.trans ?_ (by assumption)))⟩

set_option maxHeartbeats 4000000 in
theorem walk_t_tt_tfx (ka : Int) (sa : ByteArray) (kb : Int) (sb : ByteArray) (kc : Int) (sc : ByteArray) (s : ByteArray) (w : World) (za : sa.size ≤ maxLen) (zb : sb.size ≤ maxLen) (zc : sc.size ≤ maxLen) (zs : s.size ≤ maxLen) (h_bes : besV (Pl.beside ka sa.toList kb sb.toList) = .tuple #[.string ⟨#[]⟩, .bool false]) (hl : Pl.longT s [⟨ka, sa⟩, ⟨kb, sb⟩, ⟨kc, sc⟩] = false) (h_ab : Pl.implies ka sa.toList kb sb.toList = true) (h_mas : Pl.matches_ ka sa.toList s.toList = true) (h_mbs : Pl.matches_ kb sb.toList s.toList = true) (h_bc : Pl.implies kb sb.toList kc sc.toList = true) (h_ac : Pl.implies ka sa.toList kc sc.toList = true) (h_aa : Pl.implies ka sa.toList ka sa.toList = true) (h_maya : Pl.may ka sa.toList = true) (h_mayb : Pl.may kb sb.toList = false) :
    Calls Try.prog 4 #[.agg #[.int .i64 ka, .string sa], .agg #[.int .i64 kb, .string sb], .agg #[.int .i64 kc, .string sc], .string s] w fun e w' => e = .returned (.bool true) ∧ Lo w w' := by
  have HL := Lib.hid hl
  have H_ab := Lib.hid h_ab
  have H_mas := Lib.hid h_mas
  have H_mbs := Lib.hid h_mbs
  have H_bc := Lib.hid h_bc
  have H_ac := Lib.hid h_ac
  have H_aa := Lib.hid h_aa
  have H_maya := Lib.hid h_maya
  have H_mayb := Lib.hid h_mayb
  have H_bes := Lib.hid h_bes
  clear hl h_ab h_mas h_mbs h_bc h_ac h_aa h_maya h_mayb h_bes
  go_enter Try.func4, Try.ntmps4
  go_wp2_with (first
    | (go_at_call 16; refine (long3 _ s ka kb kc sa sb sc _ zs za zb zc ?_).mono ?_; (exact heap_new_at (by simp)); rintro e w' ⟨rfl, rfl⟩; rw [HL.out])
    | (go_at_call 20; refine (implies _ _ _ _ _ (by assumption) (by assumption)).mono ?_; rintro e w1 ⟨rfl, hb⟩; obtain ⟨hc, hf, hz⟩ := hb.facts; have hz0 := hz w.heap.size (by first | assumption | (simp; done) | (simp; omega)); have hq0 := fun o => hc w.heap.size o (by first | assumption | (simp; done) | (simp; omega)); have hz1 := hz (w.heap.size + 1) (by first | assumption | (simp; done) | (simp; omega)); have hq1 := fun o => hc (w.heap.size + 1) o (by first | assumption | (simp; done) | (simp; omega)); have hz2 := hz (w.heap.size + 2) (by first | assumption | (simp; done) | (simp; omega)); have hq2 := fun o => hc (w.heap.size + 2) o (by first | assumption | (simp; done) | (simp; omega)); (first | rw [H_ab.out] | rw [H_bc.out] | rw [H_ac.out] | rw [H_aa.out]))
    | (go_at_call 22; refine (matches_ _ _ _ _ (by assumption) (by assumption)).mono ?_; rintro e w1 ⟨rfl, hb⟩; obtain ⟨hc, hf, hz⟩ := hb.facts; have hz0 := hz w.heap.size (by first | assumption | (simp; done) | (simp; omega)); have hq0 := fun o => hc w.heap.size o (by first | assumption | (simp; done) | (simp; omega)); have hz1 := hz (w.heap.size + 1) (by first | assumption | (simp; done) | (simp; omega)); have hq1 := fun o => hc (w.heap.size + 1) o (by first | assumption | (simp; done) | (simp; omega)); have hz2 := hz (w.heap.size + 2) (by first | assumption | (simp; done) | (simp; omega)); have hq2 := fun o => hc (w.heap.size + 2) o (by first | assumption | (simp; done) | (simp; omega)); (first | rw [H_mas.out] | rw [H_mbs.out]))
    | (go_at_call 23; refine (may _ _ _ (by assumption)).mono ?_; rintro e w1 ⟨rfl, hb⟩; obtain ⟨hc, hf, hz⟩ := hb.facts; have hz0 := hz w.heap.size (by first | assumption | (simp; done) | (simp; omega)); have hq0 := fun o => hc w.heap.size o (by first | assumption | (simp; done) | (simp; omega)); have hz1 := hz (w.heap.size + 1) (by first | assumption | (simp; done) | (simp; omega)); have hq1 := fun o => hc (w.heap.size + 1) o (by first | assumption | (simp; done) | (simp; omega)); have hz2 := hz (w.heap.size + 2) (by first | assumption | (simp; done) | (simp; omega)); have hq2 := fun o => hc (w.heap.size + 2) o (by first | assumption | (simp; done) | (simp; omega)); (first | rw [H_maya.out] | rw [H_mayb.out]))
    | (go_at_call 19; refine (beside _ _ _ _ _ (by assumption) (by assumption)).mono ?_; rw [H_bes.out]; rintro e w1 ⟨rfl, hb⟩; obtain ⟨hc, hf, hz⟩ := hb.facts; have hz0 := hz w.heap.size (by first | assumption | (simp; done) | (simp; omega)); have hq0 := fun o => hc w.heap.size o (by first | assumption | (simp; done) | (simp; omega)); have hz1 := hz (w.heap.size + 1) (by first | assumption | (simp; done) | (simp; omega)); have hq1 := fun o => hc (w.heap.size + 1) o (by first | assumption | (simp; done) | (simp; omega)); have hz2 := hz (w.heap.size + 2) (by first | assumption | (simp; done) | (simp; omega)); have hq2 := fun o => hc (w.heap.size + 2) o (by first | assumption | (simp; done) | (simp; omega)))
    | (go_at_call 17; refine (awake _).mono ?_; rintro e w1 ⟨rfl, hb⟩))
  go_ret
  exact ⟨rfl, (by repeat (first | exact Lo.refl _ | assumption | refine Lo.drew ?_ | refine Lo.alloc ?_ _ | refine Lo.setCell ?_ (by first | (dsimp only; omega) | (simp; omega) | (simp; done)) _ | refine Lo.trans ?_ (by assumption)))⟩

set_option maxHeartbeats 4000000 in
theorem walk_t_tt_ttf (ka : Int) (sa : ByteArray) (kb : Int) (sb : ByteArray) (kc : Int) (sc : ByteArray) (s : ByteArray) (w : World) (za : sa.size ≤ maxLen) (zb : sb.size ≤ maxLen) (zc : sc.size ≤ maxLen) (zs : s.size ≤ maxLen) (h_bes : besV (Pl.beside ka sa.toList kb sb.toList) = .tuple #[.string ⟨#[]⟩, .bool false]) (hl : Pl.longT s [⟨ka, sa⟩, ⟨kb, sb⟩, ⟨kc, sc⟩] = false) (h_ab : Pl.implies ka sa.toList kb sb.toList = true) (h_mas : Pl.matches_ ka sa.toList s.toList = true) (h_mbs : Pl.matches_ kb sb.toList s.toList = true) (h_bc : Pl.implies kb sb.toList kc sc.toList = true) (h_ac : Pl.implies ka sa.toList kc sc.toList = true) (h_aa : Pl.implies ka sa.toList ka sa.toList = true) (h_maya : Pl.may ka sa.toList = true) (h_mayb : Pl.may kb sb.toList = true) (h_ba : Pl.implies kb sb.toList ka sa.toList = false) :
    Calls Try.prog 4 #[.agg #[.int .i64 ka, .string sa], .agg #[.int .i64 kb, .string sb], .agg #[.int .i64 kc, .string sc], .string s] w fun e w' => e = .returned (.bool true) ∧ Lo w w' := by
  have HL := Lib.hid hl
  have H_ab := Lib.hid h_ab
  have H_mas := Lib.hid h_mas
  have H_mbs := Lib.hid h_mbs
  have H_bc := Lib.hid h_bc
  have H_ac := Lib.hid h_ac
  have H_aa := Lib.hid h_aa
  have H_maya := Lib.hid h_maya
  have H_mayb := Lib.hid h_mayb
  have H_ba := Lib.hid h_ba
  have H_bes := Lib.hid h_bes
  clear hl h_ab h_mas h_mbs h_bc h_ac h_aa h_maya h_mayb h_ba h_bes
  go_enter Try.func4, Try.ntmps4
  go_wp2_with (first
    | (go_at_call 16; refine (long3 _ s ka kb kc sa sb sc _ zs za zb zc ?_).mono ?_; (exact heap_new_at (by simp)); rintro e w' ⟨rfl, rfl⟩; rw [HL.out])
    | (go_at_call 20; refine (implies _ _ _ _ _ (by assumption) (by assumption)).mono ?_; rintro e w1 ⟨rfl, hb⟩; obtain ⟨hc, hf, hz⟩ := hb.facts; have hz0 := hz w.heap.size (by first | assumption | (simp; done) | (simp; omega)); have hq0 := fun o => hc w.heap.size o (by first | assumption | (simp; done) | (simp; omega)); have hz1 := hz (w.heap.size + 1) (by first | assumption | (simp; done) | (simp; omega)); have hq1 := fun o => hc (w.heap.size + 1) o (by first | assumption | (simp; done) | (simp; omega)); have hz2 := hz (w.heap.size + 2) (by first | assumption | (simp; done) | (simp; omega)); have hq2 := fun o => hc (w.heap.size + 2) o (by first | assumption | (simp; done) | (simp; omega)); (first | rw [H_ab.out] | rw [H_bc.out] | rw [H_ac.out] | rw [H_aa.out] | rw [H_ba.out]))
    | (go_at_call 22; refine (matches_ _ _ _ _ (by assumption) (by assumption)).mono ?_; rintro e w1 ⟨rfl, hb⟩; obtain ⟨hc, hf, hz⟩ := hb.facts; have hz0 := hz w.heap.size (by first | assumption | (simp; done) | (simp; omega)); have hq0 := fun o => hc w.heap.size o (by first | assumption | (simp; done) | (simp; omega)); have hz1 := hz (w.heap.size + 1) (by first | assumption | (simp; done) | (simp; omega)); have hq1 := fun o => hc (w.heap.size + 1) o (by first | assumption | (simp; done) | (simp; omega)); have hz2 := hz (w.heap.size + 2) (by first | assumption | (simp; done) | (simp; omega)); have hq2 := fun o => hc (w.heap.size + 2) o (by first | assumption | (simp; done) | (simp; omega)); (first | rw [H_mas.out] | rw [H_mbs.out]))
    | (go_at_call 23; refine (may _ _ _ (by assumption)).mono ?_; rintro e w1 ⟨rfl, hb⟩; obtain ⟨hc, hf, hz⟩ := hb.facts; have hz0 := hz w.heap.size (by first | assumption | (simp; done) | (simp; omega)); have hq0 := fun o => hc w.heap.size o (by first | assumption | (simp; done) | (simp; omega)); have hz1 := hz (w.heap.size + 1) (by first | assumption | (simp; done) | (simp; omega)); have hq1 := fun o => hc (w.heap.size + 1) o (by first | assumption | (simp; done) | (simp; omega)); have hz2 := hz (w.heap.size + 2) (by first | assumption | (simp; done) | (simp; omega)); have hq2 := fun o => hc (w.heap.size + 2) o (by first | assumption | (simp; done) | (simp; omega)); (first | rw [H_maya.out] | rw [H_mayb.out]))
    | (go_at_call 19; refine (beside _ _ _ _ _ (by assumption) (by assumption)).mono ?_; rw [H_bes.out]; rintro e w1 ⟨rfl, hb⟩; obtain ⟨hc, hf, hz⟩ := hb.facts; have hz0 := hz w.heap.size (by first | assumption | (simp; done) | (simp; omega)); have hq0 := fun o => hc w.heap.size o (by first | assumption | (simp; done) | (simp; omega)); have hz1 := hz (w.heap.size + 1) (by first | assumption | (simp; done) | (simp; omega)); have hq1 := fun o => hc (w.heap.size + 1) o (by first | assumption | (simp; done) | (simp; omega)); have hz2 := hz (w.heap.size + 2) (by first | assumption | (simp; done) | (simp; omega)); have hq2 := fun o => hc (w.heap.size + 2) o (by first | assumption | (simp; done) | (simp; omega)))
    | (go_at_call 17; refine (awake _).mono ?_; rintro e w1 ⟨rfl, hb⟩))
  go_ret
  exact ⟨rfl, (by repeat (first | exact Lo.refl _ | assumption | refine Lo.drew ?_ | refine Lo.alloc ?_ _ | refine Lo.setCell ?_ (by first | (dsimp only; omega) | (simp; omega) | (simp; done)) _ | refine Lo.trans ?_ (by assumption)))⟩

set_option maxHeartbeats 4000000 in
theorem walk_t_tf_fxx (ka : Int) (sa : ByteArray) (kb : Int) (sb : ByteArray) (kc : Int) (sc : ByteArray) (s : ByteArray) (w : World) (za : sa.size ≤ maxLen) (zb : sb.size ≤ maxLen) (zc : sc.size ≤ maxLen) (zs : s.size ≤ maxLen) (h_bes : besV (Pl.beside ka sa.toList kb sb.toList) = .tuple #[.string ⟨#[]⟩, .bool false]) (hl : Pl.longT s [⟨ka, sa⟩, ⟨kb, sb⟩, ⟨kc, sc⟩] = false) (h_ab : Pl.implies ka sa.toList kb sb.toList = true) (h_mas : Pl.matches_ ka sa.toList s.toList = true) (h_mbs : Pl.matches_ kb sb.toList s.toList = true) (h_bc : Pl.implies kb sb.toList kc sc.toList = false) (h_aa : Pl.implies ka sa.toList ka sa.toList = true) (h_maya : Pl.may ka sa.toList = false) :
    Calls Try.prog 4 #[.agg #[.int .i64 ka, .string sa], .agg #[.int .i64 kb, .string sb], .agg #[.int .i64 kc, .string sc], .string s] w fun e w' => e = .returned (.bool true) ∧ Lo w w' := by
  have HL := Lib.hid hl
  have H_ab := Lib.hid h_ab
  have H_mas := Lib.hid h_mas
  have H_mbs := Lib.hid h_mbs
  have H_bc := Lib.hid h_bc
  have H_aa := Lib.hid h_aa
  have H_maya := Lib.hid h_maya
  have H_bes := Lib.hid h_bes
  clear hl h_ab h_mas h_mbs h_bc h_aa h_maya h_bes
  go_enter Try.func4, Try.ntmps4
  go_wp2_with (first
    | (go_at_call 16; refine (long3 _ s ka kb kc sa sb sc _ zs za zb zc ?_).mono ?_; (exact heap_new_at (by simp)); rintro e w' ⟨rfl, rfl⟩; rw [HL.out])
    | (go_at_call 20; refine (implies _ _ _ _ _ (by assumption) (by assumption)).mono ?_; rintro e w1 ⟨rfl, hb⟩; obtain ⟨hc, hf, hz⟩ := hb.facts; have hz0 := hz w.heap.size (by first | assumption | (simp; done) | (simp; omega)); have hq0 := fun o => hc w.heap.size o (by first | assumption | (simp; done) | (simp; omega)); have hz1 := hz (w.heap.size + 1) (by first | assumption | (simp; done) | (simp; omega)); have hq1 := fun o => hc (w.heap.size + 1) o (by first | assumption | (simp; done) | (simp; omega)); have hz2 := hz (w.heap.size + 2) (by first | assumption | (simp; done) | (simp; omega)); have hq2 := fun o => hc (w.heap.size + 2) o (by first | assumption | (simp; done) | (simp; omega)); (first | rw [H_ab.out] | rw [H_bc.out] | rw [H_aa.out]))
    | (go_at_call 22; refine (matches_ _ _ _ _ (by assumption) (by assumption)).mono ?_; rintro e w1 ⟨rfl, hb⟩; obtain ⟨hc, hf, hz⟩ := hb.facts; have hz0 := hz w.heap.size (by first | assumption | (simp; done) | (simp; omega)); have hq0 := fun o => hc w.heap.size o (by first | assumption | (simp; done) | (simp; omega)); have hz1 := hz (w.heap.size + 1) (by first | assumption | (simp; done) | (simp; omega)); have hq1 := fun o => hc (w.heap.size + 1) o (by first | assumption | (simp; done) | (simp; omega)); have hz2 := hz (w.heap.size + 2) (by first | assumption | (simp; done) | (simp; omega)); have hq2 := fun o => hc (w.heap.size + 2) o (by first | assumption | (simp; done) | (simp; omega)); (first | rw [H_mas.out] | rw [H_mbs.out]))
    | (go_at_call 23; refine (may _ _ _ (by assumption)).mono ?_; rintro e w1 ⟨rfl, hb⟩; obtain ⟨hc, hf, hz⟩ := hb.facts; have hz0 := hz w.heap.size (by first | assumption | (simp; done) | (simp; omega)); have hq0 := fun o => hc w.heap.size o (by first | assumption | (simp; done) | (simp; omega)); have hz1 := hz (w.heap.size + 1) (by first | assumption | (simp; done) | (simp; omega)); have hq1 := fun o => hc (w.heap.size + 1) o (by first | assumption | (simp; done) | (simp; omega)); have hz2 := hz (w.heap.size + 2) (by first | assumption | (simp; done) | (simp; omega)); have hq2 := fun o => hc (w.heap.size + 2) o (by first | assumption | (simp; done) | (simp; omega)); (first | rw [H_maya.out]))
    | (go_at_call 19; refine (beside _ _ _ _ _ (by assumption) (by assumption)).mono ?_; rw [H_bes.out]; rintro e w1 ⟨rfl, hb⟩; obtain ⟨hc, hf, hz⟩ := hb.facts; have hz0 := hz w.heap.size (by first | assumption | (simp; done) | (simp; omega)); have hq0 := fun o => hc w.heap.size o (by first | assumption | (simp; done) | (simp; omega)); have hz1 := hz (w.heap.size + 1) (by first | assumption | (simp; done) | (simp; omega)); have hq1 := fun o => hc (w.heap.size + 1) o (by first | assumption | (simp; done) | (simp; omega)); have hz2 := hz (w.heap.size + 2) (by first | assumption | (simp; done) | (simp; omega)); have hq2 := fun o => hc (w.heap.size + 2) o (by first | assumption | (simp; done) | (simp; omega)))
    | (go_at_call 17; refine (awake _).mono ?_; rintro e w1 ⟨rfl, hb⟩))
  go_ret
  exact ⟨rfl, (by repeat (first | exact Lo.refl _ | assumption | refine Lo.drew ?_ | refine Lo.alloc ?_ _ | refine Lo.setCell ?_ (by first | (dsimp only; omega) | (simp; omega) | (simp; done)) _ | refine Lo.trans ?_ (by assumption)))⟩

set_option maxHeartbeats 4000000 in
theorem walk_t_tf_tfx (ka : Int) (sa : ByteArray) (kb : Int) (sb : ByteArray) (kc : Int) (sc : ByteArray) (s : ByteArray) (w : World) (za : sa.size ≤ maxLen) (zb : sb.size ≤ maxLen) (zc : sc.size ≤ maxLen) (zs : s.size ≤ maxLen) (h_bes : besV (Pl.beside ka sa.toList kb sb.toList) = .tuple #[.string ⟨#[]⟩, .bool false]) (hl : Pl.longT s [⟨ka, sa⟩, ⟨kb, sb⟩, ⟨kc, sc⟩] = false) (h_ab : Pl.implies ka sa.toList kb sb.toList = true) (h_mas : Pl.matches_ ka sa.toList s.toList = true) (h_mbs : Pl.matches_ kb sb.toList s.toList = true) (h_bc : Pl.implies kb sb.toList kc sc.toList = false) (h_aa : Pl.implies ka sa.toList ka sa.toList = true) (h_maya : Pl.may ka sa.toList = true) (h_mayb : Pl.may kb sb.toList = false) :
    Calls Try.prog 4 #[.agg #[.int .i64 ka, .string sa], .agg #[.int .i64 kb, .string sb], .agg #[.int .i64 kc, .string sc], .string s] w fun e w' => e = .returned (.bool true) ∧ Lo w w' := by
  have HL := Lib.hid hl
  have H_ab := Lib.hid h_ab
  have H_mas := Lib.hid h_mas
  have H_mbs := Lib.hid h_mbs
  have H_bc := Lib.hid h_bc
  have H_aa := Lib.hid h_aa
  have H_maya := Lib.hid h_maya
  have H_mayb := Lib.hid h_mayb
  have H_bes := Lib.hid h_bes
  clear hl h_ab h_mas h_mbs h_bc h_aa h_maya h_mayb h_bes
  go_enter Try.func4, Try.ntmps4
  go_wp2_with (first
    | (go_at_call 16; refine (long3 _ s ka kb kc sa sb sc _ zs za zb zc ?_).mono ?_; (exact heap_new_at (by simp)); rintro e w' ⟨rfl, rfl⟩; rw [HL.out])
    | (go_at_call 20; refine (implies _ _ _ _ _ (by assumption) (by assumption)).mono ?_; rintro e w1 ⟨rfl, hb⟩; obtain ⟨hc, hf, hz⟩ := hb.facts; have hz0 := hz w.heap.size (by first | assumption | (simp; done) | (simp; omega)); have hq0 := fun o => hc w.heap.size o (by first | assumption | (simp; done) | (simp; omega)); have hz1 := hz (w.heap.size + 1) (by first | assumption | (simp; done) | (simp; omega)); have hq1 := fun o => hc (w.heap.size + 1) o (by first | assumption | (simp; done) | (simp; omega)); have hz2 := hz (w.heap.size + 2) (by first | assumption | (simp; done) | (simp; omega)); have hq2 := fun o => hc (w.heap.size + 2) o (by first | assumption | (simp; done) | (simp; omega)); (first | rw [H_ab.out] | rw [H_bc.out] | rw [H_aa.out]))
    | (go_at_call 22; refine (matches_ _ _ _ _ (by assumption) (by assumption)).mono ?_; rintro e w1 ⟨rfl, hb⟩; obtain ⟨hc, hf, hz⟩ := hb.facts; have hz0 := hz w.heap.size (by first | assumption | (simp; done) | (simp; omega)); have hq0 := fun o => hc w.heap.size o (by first | assumption | (simp; done) | (simp; omega)); have hz1 := hz (w.heap.size + 1) (by first | assumption | (simp; done) | (simp; omega)); have hq1 := fun o => hc (w.heap.size + 1) o (by first | assumption | (simp; done) | (simp; omega)); have hz2 := hz (w.heap.size + 2) (by first | assumption | (simp; done) | (simp; omega)); have hq2 := fun o => hc (w.heap.size + 2) o (by first | assumption | (simp; done) | (simp; omega)); (first | rw [H_mas.out] | rw [H_mbs.out]))
    | (go_at_call 23; refine (may _ _ _ (by assumption)).mono ?_; rintro e w1 ⟨rfl, hb⟩; obtain ⟨hc, hf, hz⟩ := hb.facts; have hz0 := hz w.heap.size (by first | assumption | (simp; done) | (simp; omega)); have hq0 := fun o => hc w.heap.size o (by first | assumption | (simp; done) | (simp; omega)); have hz1 := hz (w.heap.size + 1) (by first | assumption | (simp; done) | (simp; omega)); have hq1 := fun o => hc (w.heap.size + 1) o (by first | assumption | (simp; done) | (simp; omega)); have hz2 := hz (w.heap.size + 2) (by first | assumption | (simp; done) | (simp; omega)); have hq2 := fun o => hc (w.heap.size + 2) o (by first | assumption | (simp; done) | (simp; omega)); (first | rw [H_maya.out] | rw [H_mayb.out]))
    | (go_at_call 19; refine (beside _ _ _ _ _ (by assumption) (by assumption)).mono ?_; rw [H_bes.out]; rintro e w1 ⟨rfl, hb⟩; obtain ⟨hc, hf, hz⟩ := hb.facts; have hz0 := hz w.heap.size (by first | assumption | (simp; done) | (simp; omega)); have hq0 := fun o => hc w.heap.size o (by first | assumption | (simp; done) | (simp; omega)); have hz1 := hz (w.heap.size + 1) (by first | assumption | (simp; done) | (simp; omega)); have hq1 := fun o => hc (w.heap.size + 1) o (by first | assumption | (simp; done) | (simp; omega)); have hz2 := hz (w.heap.size + 2) (by first | assumption | (simp; done) | (simp; omega)); have hq2 := fun o => hc (w.heap.size + 2) o (by first | assumption | (simp; done) | (simp; omega)))
    | (go_at_call 17; refine (awake _).mono ?_; rintro e w1 ⟨rfl, hb⟩))
  go_ret
  exact ⟨rfl, (by repeat (first | exact Lo.refl _ | assumption | refine Lo.drew ?_ | refine Lo.alloc ?_ _ | refine Lo.setCell ?_ (by first | (dsimp only; omega) | (simp; omega) | (simp; done)) _ | refine Lo.trans ?_ (by assumption)))⟩

set_option maxHeartbeats 4000000 in
theorem walk_t_tf_ttf (ka : Int) (sa : ByteArray) (kb : Int) (sb : ByteArray) (kc : Int) (sc : ByteArray) (s : ByteArray) (w : World) (za : sa.size ≤ maxLen) (zb : sb.size ≤ maxLen) (zc : sc.size ≤ maxLen) (zs : s.size ≤ maxLen) (h_bes : besV (Pl.beside ka sa.toList kb sb.toList) = .tuple #[.string ⟨#[]⟩, .bool false]) (hl : Pl.longT s [⟨ka, sa⟩, ⟨kb, sb⟩, ⟨kc, sc⟩] = false) (h_ab : Pl.implies ka sa.toList kb sb.toList = true) (h_mas : Pl.matches_ ka sa.toList s.toList = true) (h_mbs : Pl.matches_ kb sb.toList s.toList = true) (h_bc : Pl.implies kb sb.toList kc sc.toList = false) (h_aa : Pl.implies ka sa.toList ka sa.toList = true) (h_maya : Pl.may ka sa.toList = true) (h_mayb : Pl.may kb sb.toList = true) (h_ba : Pl.implies kb sb.toList ka sa.toList = false) :
    Calls Try.prog 4 #[.agg #[.int .i64 ka, .string sa], .agg #[.int .i64 kb, .string sb], .agg #[.int .i64 kc, .string sc], .string s] w fun e w' => e = .returned (.bool true) ∧ Lo w w' := by
  have HL := Lib.hid hl
  have H_ab := Lib.hid h_ab
  have H_mas := Lib.hid h_mas
  have H_mbs := Lib.hid h_mbs
  have H_bc := Lib.hid h_bc
  have H_aa := Lib.hid h_aa
  have H_maya := Lib.hid h_maya
  have H_mayb := Lib.hid h_mayb
  have H_ba := Lib.hid h_ba
  have H_bes := Lib.hid h_bes
  clear hl h_ab h_mas h_mbs h_bc h_aa h_maya h_mayb h_ba h_bes
  go_enter Try.func4, Try.ntmps4
  go_wp2_with (first
    | (go_at_call 16; refine (long3 _ s ka kb kc sa sb sc _ zs za zb zc ?_).mono ?_; (exact heap_new_at (by simp)); rintro e w' ⟨rfl, rfl⟩; rw [HL.out])
    | (go_at_call 20; refine (implies _ _ _ _ _ (by assumption) (by assumption)).mono ?_; rintro e w1 ⟨rfl, hb⟩; obtain ⟨hc, hf, hz⟩ := hb.facts; have hz0 := hz w.heap.size (by first | assumption | (simp; done) | (simp; omega)); have hq0 := fun o => hc w.heap.size o (by first | assumption | (simp; done) | (simp; omega)); have hz1 := hz (w.heap.size + 1) (by first | assumption | (simp; done) | (simp; omega)); have hq1 := fun o => hc (w.heap.size + 1) o (by first | assumption | (simp; done) | (simp; omega)); have hz2 := hz (w.heap.size + 2) (by first | assumption | (simp; done) | (simp; omega)); have hq2 := fun o => hc (w.heap.size + 2) o (by first | assumption | (simp; done) | (simp; omega)); (first | rw [H_ab.out] | rw [H_bc.out] | rw [H_aa.out] | rw [H_ba.out]))
    | (go_at_call 22; refine (matches_ _ _ _ _ (by assumption) (by assumption)).mono ?_; rintro e w1 ⟨rfl, hb⟩; obtain ⟨hc, hf, hz⟩ := hb.facts; have hz0 := hz w.heap.size (by first | assumption | (simp; done) | (simp; omega)); have hq0 := fun o => hc w.heap.size o (by first | assumption | (simp; done) | (simp; omega)); have hz1 := hz (w.heap.size + 1) (by first | assumption | (simp; done) | (simp; omega)); have hq1 := fun o => hc (w.heap.size + 1) o (by first | assumption | (simp; done) | (simp; omega)); have hz2 := hz (w.heap.size + 2) (by first | assumption | (simp; done) | (simp; omega)); have hq2 := fun o => hc (w.heap.size + 2) o (by first | assumption | (simp; done) | (simp; omega)); (first | rw [H_mas.out] | rw [H_mbs.out]))
    | (go_at_call 23; refine (may _ _ _ (by assumption)).mono ?_; rintro e w1 ⟨rfl, hb⟩; obtain ⟨hc, hf, hz⟩ := hb.facts; have hz0 := hz w.heap.size (by first | assumption | (simp; done) | (simp; omega)); have hq0 := fun o => hc w.heap.size o (by first | assumption | (simp; done) | (simp; omega)); have hz1 := hz (w.heap.size + 1) (by first | assumption | (simp; done) | (simp; omega)); have hq1 := fun o => hc (w.heap.size + 1) o (by first | assumption | (simp; done) | (simp; omega)); have hz2 := hz (w.heap.size + 2) (by first | assumption | (simp; done) | (simp; omega)); have hq2 := fun o => hc (w.heap.size + 2) o (by first | assumption | (simp; done) | (simp; omega)); (first | rw [H_maya.out] | rw [H_mayb.out]))
    | (go_at_call 19; refine (beside _ _ _ _ _ (by assumption) (by assumption)).mono ?_; rw [H_bes.out]; rintro e w1 ⟨rfl, hb⟩; obtain ⟨hc, hf, hz⟩ := hb.facts; have hz0 := hz w.heap.size (by first | assumption | (simp; done) | (simp; omega)); have hq0 := fun o => hc w.heap.size o (by first | assumption | (simp; done) | (simp; omega)); have hz1 := hz (w.heap.size + 1) (by first | assumption | (simp; done) | (simp; omega)); have hq1 := fun o => hc (w.heap.size + 1) o (by first | assumption | (simp; done) | (simp; omega)); have hz2 := hz (w.heap.size + 2) (by first | assumption | (simp; done) | (simp; omega)); have hq2 := fun o => hc (w.heap.size + 2) o (by first | assumption | (simp; done) | (simp; omega)))
    | (go_at_call 17; refine (awake _).mono ?_; rintro e w1 ⟨rfl, hb⟩))
  go_ret
  exact ⟨rfl, (by repeat (first | exact Lo.refl _ | assumption | refine Lo.drew ?_ | refine Lo.alloc ?_ _ | refine Lo.setCell ?_ (by first | (dsimp only; omega) | (simp; omega) | (simp; done)) _ | refine Lo.trans ?_ (by assumption)))⟩

set_option maxHeartbeats 4000000 in
theorem walk_t_ft_fxx (ka : Int) (sa : ByteArray) (kb : Int) (sb : ByteArray) (kc : Int) (sc : ByteArray) (s : ByteArray) (w : World) (za : sa.size ≤ maxLen) (zb : sb.size ≤ maxLen) (zc : sc.size ≤ maxLen) (zs : s.size ≤ maxLen) (h_bes : besV (Pl.beside ka sa.toList kb sb.toList) = .tuple #[.string ⟨#[]⟩, .bool false]) (hl : Pl.longT s [⟨ka, sa⟩, ⟨kb, sb⟩, ⟨kc, sc⟩] = false) (h_ab : Pl.implies ka sa.toList kb sb.toList = true) (h_mas : Pl.matches_ ka sa.toList s.toList = false) (h_bc : Pl.implies kb sb.toList kc sc.toList = true) (h_ac : Pl.implies ka sa.toList kc sc.toList = true) (h_aa : Pl.implies ka sa.toList ka sa.toList = true) (h_maya : Pl.may ka sa.toList = false) :
    Calls Try.prog 4 #[.agg #[.int .i64 ka, .string sa], .agg #[.int .i64 kb, .string sb], .agg #[.int .i64 kc, .string sc], .string s] w fun e w' => e = .returned (.bool true) ∧ Lo w w' := by
  have HL := Lib.hid hl
  have H_ab := Lib.hid h_ab
  have H_mas := Lib.hid h_mas
  have H_bc := Lib.hid h_bc
  have H_ac := Lib.hid h_ac
  have H_aa := Lib.hid h_aa
  have H_maya := Lib.hid h_maya
  have H_bes := Lib.hid h_bes
  clear hl h_ab h_mas h_bc h_ac h_aa h_maya h_bes
  go_enter Try.func4, Try.ntmps4
  go_wp2_with (first
    | (go_at_call 16; refine (long3 _ s ka kb kc sa sb sc _ zs za zb zc ?_).mono ?_; (exact heap_new_at (by simp)); rintro e w' ⟨rfl, rfl⟩; rw [HL.out])
    | (go_at_call 20; refine (implies _ _ _ _ _ (by assumption) (by assumption)).mono ?_; rintro e w1 ⟨rfl, hb⟩; obtain ⟨hc, hf, hz⟩ := hb.facts; have hz0 := hz w.heap.size (by first | assumption | (simp; done) | (simp; omega)); have hq0 := fun o => hc w.heap.size o (by first | assumption | (simp; done) | (simp; omega)); have hz1 := hz (w.heap.size + 1) (by first | assumption | (simp; done) | (simp; omega)); have hq1 := fun o => hc (w.heap.size + 1) o (by first | assumption | (simp; done) | (simp; omega)); have hz2 := hz (w.heap.size + 2) (by first | assumption | (simp; done) | (simp; omega)); have hq2 := fun o => hc (w.heap.size + 2) o (by first | assumption | (simp; done) | (simp; omega)); (first | rw [H_ab.out] | rw [H_bc.out] | rw [H_ac.out] | rw [H_aa.out]))
    | (go_at_call 22; refine (matches_ _ _ _ _ (by assumption) (by assumption)).mono ?_; rintro e w1 ⟨rfl, hb⟩; obtain ⟨hc, hf, hz⟩ := hb.facts; have hz0 := hz w.heap.size (by first | assumption | (simp; done) | (simp; omega)); have hq0 := fun o => hc w.heap.size o (by first | assumption | (simp; done) | (simp; omega)); have hz1 := hz (w.heap.size + 1) (by first | assumption | (simp; done) | (simp; omega)); have hq1 := fun o => hc (w.heap.size + 1) o (by first | assumption | (simp; done) | (simp; omega)); have hz2 := hz (w.heap.size + 2) (by first | assumption | (simp; done) | (simp; omega)); have hq2 := fun o => hc (w.heap.size + 2) o (by first | assumption | (simp; done) | (simp; omega)); (first | rw [H_mas.out]))
    | (go_at_call 23; refine (may _ _ _ (by assumption)).mono ?_; rintro e w1 ⟨rfl, hb⟩; obtain ⟨hc, hf, hz⟩ := hb.facts; have hz0 := hz w.heap.size (by first | assumption | (simp; done) | (simp; omega)); have hq0 := fun o => hc w.heap.size o (by first | assumption | (simp; done) | (simp; omega)); have hz1 := hz (w.heap.size + 1) (by first | assumption | (simp; done) | (simp; omega)); have hq1 := fun o => hc (w.heap.size + 1) o (by first | assumption | (simp; done) | (simp; omega)); have hz2 := hz (w.heap.size + 2) (by first | assumption | (simp; done) | (simp; omega)); have hq2 := fun o => hc (w.heap.size + 2) o (by first | assumption | (simp; done) | (simp; omega)); (first | rw [H_maya.out]))
    | (go_at_call 19; refine (beside _ _ _ _ _ (by assumption) (by assumption)).mono ?_; rw [H_bes.out]; rintro e w1 ⟨rfl, hb⟩; obtain ⟨hc, hf, hz⟩ := hb.facts; have hz0 := hz w.heap.size (by first | assumption | (simp; done) | (simp; omega)); have hq0 := fun o => hc w.heap.size o (by first | assumption | (simp; done) | (simp; omega)); have hz1 := hz (w.heap.size + 1) (by first | assumption | (simp; done) | (simp; omega)); have hq1 := fun o => hc (w.heap.size + 1) o (by first | assumption | (simp; done) | (simp; omega)); have hz2 := hz (w.heap.size + 2) (by first | assumption | (simp; done) | (simp; omega)); have hq2 := fun o => hc (w.heap.size + 2) o (by first | assumption | (simp; done) | (simp; omega)))
    | (go_at_call 17; refine (awake _).mono ?_; rintro e w1 ⟨rfl, hb⟩))
  go_ret
  exact ⟨rfl, (by repeat (first | exact Lo.refl _ | assumption | refine Lo.drew ?_ | refine Lo.alloc ?_ _ | refine Lo.setCell ?_ (by first | (dsimp only; omega) | (simp; omega) | (simp; done)) _ | refine Lo.trans ?_ (by assumption)))⟩

set_option maxHeartbeats 4000000 in
theorem walk_t_ft_tfx (ka : Int) (sa : ByteArray) (kb : Int) (sb : ByteArray) (kc : Int) (sc : ByteArray) (s : ByteArray) (w : World) (za : sa.size ≤ maxLen) (zb : sb.size ≤ maxLen) (zc : sc.size ≤ maxLen) (zs : s.size ≤ maxLen) (h_bes : besV (Pl.beside ka sa.toList kb sb.toList) = .tuple #[.string ⟨#[]⟩, .bool false]) (hl : Pl.longT s [⟨ka, sa⟩, ⟨kb, sb⟩, ⟨kc, sc⟩] = false) (h_ab : Pl.implies ka sa.toList kb sb.toList = true) (h_mas : Pl.matches_ ka sa.toList s.toList = false) (h_bc : Pl.implies kb sb.toList kc sc.toList = true) (h_ac : Pl.implies ka sa.toList kc sc.toList = true) (h_aa : Pl.implies ka sa.toList ka sa.toList = true) (h_maya : Pl.may ka sa.toList = true) (h_mayb : Pl.may kb sb.toList = false) :
    Calls Try.prog 4 #[.agg #[.int .i64 ka, .string sa], .agg #[.int .i64 kb, .string sb], .agg #[.int .i64 kc, .string sc], .string s] w fun e w' => e = .returned (.bool true) ∧ Lo w w' := by
  have HL := Lib.hid hl
  have H_ab := Lib.hid h_ab
  have H_mas := Lib.hid h_mas
  have H_bc := Lib.hid h_bc
  have H_ac := Lib.hid h_ac
  have H_aa := Lib.hid h_aa
  have H_maya := Lib.hid h_maya
  have H_mayb := Lib.hid h_mayb
  have H_bes := Lib.hid h_bes
  clear hl h_ab h_mas h_bc h_ac h_aa h_maya h_mayb h_bes
  go_enter Try.func4, Try.ntmps4
  go_wp2_with (first
    | (go_at_call 16; refine (long3 _ s ka kb kc sa sb sc _ zs za zb zc ?_).mono ?_; (exact heap_new_at (by simp)); rintro e w' ⟨rfl, rfl⟩; rw [HL.out])
    | (go_at_call 20; refine (implies _ _ _ _ _ (by assumption) (by assumption)).mono ?_; rintro e w1 ⟨rfl, hb⟩; obtain ⟨hc, hf, hz⟩ := hb.facts; have hz0 := hz w.heap.size (by first | assumption | (simp; done) | (simp; omega)); have hq0 := fun o => hc w.heap.size o (by first | assumption | (simp; done) | (simp; omega)); have hz1 := hz (w.heap.size + 1) (by first | assumption | (simp; done) | (simp; omega)); have hq1 := fun o => hc (w.heap.size + 1) o (by first | assumption | (simp; done) | (simp; omega)); have hz2 := hz (w.heap.size + 2) (by first | assumption | (simp; done) | (simp; omega)); have hq2 := fun o => hc (w.heap.size + 2) o (by first | assumption | (simp; done) | (simp; omega)); (first | rw [H_ab.out] | rw [H_bc.out] | rw [H_ac.out] | rw [H_aa.out]))
    | (go_at_call 22; refine (matches_ _ _ _ _ (by assumption) (by assumption)).mono ?_; rintro e w1 ⟨rfl, hb⟩; obtain ⟨hc, hf, hz⟩ := hb.facts; have hz0 := hz w.heap.size (by first | assumption | (simp; done) | (simp; omega)); have hq0 := fun o => hc w.heap.size o (by first | assumption | (simp; done) | (simp; omega)); have hz1 := hz (w.heap.size + 1) (by first | assumption | (simp; done) | (simp; omega)); have hq1 := fun o => hc (w.heap.size + 1) o (by first | assumption | (simp; done) | (simp; omega)); have hz2 := hz (w.heap.size + 2) (by first | assumption | (simp; done) | (simp; omega)); have hq2 := fun o => hc (w.heap.size + 2) o (by first | assumption | (simp; done) | (simp; omega)); (first | rw [H_mas.out]))
    | (go_at_call 23; refine (may _ _ _ (by assumption)).mono ?_; rintro e w1 ⟨rfl, hb⟩; obtain ⟨hc, hf, hz⟩ := hb.facts; have hz0 := hz w.heap.size (by first | assumption | (simp; done) | (simp; omega)); have hq0 := fun o => hc w.heap.size o (by first | assumption | (simp; done) | (simp; omega)); have hz1 := hz (w.heap.size + 1) (by first | assumption | (simp; done) | (simp; omega)); have hq1 := fun o => hc (w.heap.size + 1) o (by first | assumption | (simp; done) | (simp; omega)); have hz2 := hz (w.heap.size + 2) (by first | assumption | (simp; done) | (simp; omega)); have hq2 := fun o => hc (w.heap.size + 2) o (by first | assumption | (simp; done) | (simp; omega)); (first | rw [H_maya.out] | rw [H_mayb.out]))
    | (go_at_call 19; refine (beside _ _ _ _ _ (by assumption) (by assumption)).mono ?_; rw [H_bes.out]; rintro e w1 ⟨rfl, hb⟩; obtain ⟨hc, hf, hz⟩ := hb.facts; have hz0 := hz w.heap.size (by first | assumption | (simp; done) | (simp; omega)); have hq0 := fun o => hc w.heap.size o (by first | assumption | (simp; done) | (simp; omega)); have hz1 := hz (w.heap.size + 1) (by first | assumption | (simp; done) | (simp; omega)); have hq1 := fun o => hc (w.heap.size + 1) o (by first | assumption | (simp; done) | (simp; omega)); have hz2 := hz (w.heap.size + 2) (by first | assumption | (simp; done) | (simp; omega)); have hq2 := fun o => hc (w.heap.size + 2) o (by first | assumption | (simp; done) | (simp; omega)))
    | (go_at_call 17; refine (awake _).mono ?_; rintro e w1 ⟨rfl, hb⟩))
  go_ret
  exact ⟨rfl, (by repeat (first | exact Lo.refl _ | assumption | refine Lo.drew ?_ | refine Lo.alloc ?_ _ | refine Lo.setCell ?_ (by first | (dsimp only; omega) | (simp; omega) | (simp; done)) _ | refine Lo.trans ?_ (by assumption)))⟩

set_option maxHeartbeats 4000000 in
theorem walk_t_ft_ttf (ka : Int) (sa : ByteArray) (kb : Int) (sb : ByteArray) (kc : Int) (sc : ByteArray) (s : ByteArray) (w : World) (za : sa.size ≤ maxLen) (zb : sb.size ≤ maxLen) (zc : sc.size ≤ maxLen) (zs : s.size ≤ maxLen) (h_bes : besV (Pl.beside ka sa.toList kb sb.toList) = .tuple #[.string ⟨#[]⟩, .bool false]) (hl : Pl.longT s [⟨ka, sa⟩, ⟨kb, sb⟩, ⟨kc, sc⟩] = false) (h_ab : Pl.implies ka sa.toList kb sb.toList = true) (h_mas : Pl.matches_ ka sa.toList s.toList = false) (h_bc : Pl.implies kb sb.toList kc sc.toList = true) (h_ac : Pl.implies ka sa.toList kc sc.toList = true) (h_aa : Pl.implies ka sa.toList ka sa.toList = true) (h_maya : Pl.may ka sa.toList = true) (h_mayb : Pl.may kb sb.toList = true) (h_ba : Pl.implies kb sb.toList ka sa.toList = false) :
    Calls Try.prog 4 #[.agg #[.int .i64 ka, .string sa], .agg #[.int .i64 kb, .string sb], .agg #[.int .i64 kc, .string sc], .string s] w fun e w' => e = .returned (.bool true) ∧ Lo w w' := by
  have HL := Lib.hid hl
  have H_ab := Lib.hid h_ab
  have H_mas := Lib.hid h_mas
  have H_bc := Lib.hid h_bc
  have H_ac := Lib.hid h_ac
  have H_aa := Lib.hid h_aa
  have H_maya := Lib.hid h_maya
  have H_mayb := Lib.hid h_mayb
  have H_ba := Lib.hid h_ba
  have H_bes := Lib.hid h_bes
  clear hl h_ab h_mas h_bc h_ac h_aa h_maya h_mayb h_ba h_bes
  go_enter Try.func4, Try.ntmps4
  go_wp2_with (first
    | (go_at_call 16; refine (long3 _ s ka kb kc sa sb sc _ zs za zb zc ?_).mono ?_; (exact heap_new_at (by simp)); rintro e w' ⟨rfl, rfl⟩; rw [HL.out])
    | (go_at_call 20; refine (implies _ _ _ _ _ (by assumption) (by assumption)).mono ?_; rintro e w1 ⟨rfl, hb⟩; obtain ⟨hc, hf, hz⟩ := hb.facts; have hz0 := hz w.heap.size (by first | assumption | (simp; done) | (simp; omega)); have hq0 := fun o => hc w.heap.size o (by first | assumption | (simp; done) | (simp; omega)); have hz1 := hz (w.heap.size + 1) (by first | assumption | (simp; done) | (simp; omega)); have hq1 := fun o => hc (w.heap.size + 1) o (by first | assumption | (simp; done) | (simp; omega)); have hz2 := hz (w.heap.size + 2) (by first | assumption | (simp; done) | (simp; omega)); have hq2 := fun o => hc (w.heap.size + 2) o (by first | assumption | (simp; done) | (simp; omega)); (first | rw [H_ab.out] | rw [H_bc.out] | rw [H_ac.out] | rw [H_aa.out] | rw [H_ba.out]))
    | (go_at_call 22; refine (matches_ _ _ _ _ (by assumption) (by assumption)).mono ?_; rintro e w1 ⟨rfl, hb⟩; obtain ⟨hc, hf, hz⟩ := hb.facts; have hz0 := hz w.heap.size (by first | assumption | (simp; done) | (simp; omega)); have hq0 := fun o => hc w.heap.size o (by first | assumption | (simp; done) | (simp; omega)); have hz1 := hz (w.heap.size + 1) (by first | assumption | (simp; done) | (simp; omega)); have hq1 := fun o => hc (w.heap.size + 1) o (by first | assumption | (simp; done) | (simp; omega)); have hz2 := hz (w.heap.size + 2) (by first | assumption | (simp; done) | (simp; omega)); have hq2 := fun o => hc (w.heap.size + 2) o (by first | assumption | (simp; done) | (simp; omega)); (first | rw [H_mas.out]))
    | (go_at_call 23; refine (may _ _ _ (by assumption)).mono ?_; rintro e w1 ⟨rfl, hb⟩; obtain ⟨hc, hf, hz⟩ := hb.facts; have hz0 := hz w.heap.size (by first | assumption | (simp; done) | (simp; omega)); have hq0 := fun o => hc w.heap.size o (by first | assumption | (simp; done) | (simp; omega)); have hz1 := hz (w.heap.size + 1) (by first | assumption | (simp; done) | (simp; omega)); have hq1 := fun o => hc (w.heap.size + 1) o (by first | assumption | (simp; done) | (simp; omega)); have hz2 := hz (w.heap.size + 2) (by first | assumption | (simp; done) | (simp; omega)); have hq2 := fun o => hc (w.heap.size + 2) o (by first | assumption | (simp; done) | (simp; omega)); (first | rw [H_maya.out] | rw [H_mayb.out]))
    | (go_at_call 19; refine (beside _ _ _ _ _ (by assumption) (by assumption)).mono ?_; rw [H_bes.out]; rintro e w1 ⟨rfl, hb⟩; obtain ⟨hc, hf, hz⟩ := hb.facts; have hz0 := hz w.heap.size (by first | assumption | (simp; done) | (simp; omega)); have hq0 := fun o => hc w.heap.size o (by first | assumption | (simp; done) | (simp; omega)); have hz1 := hz (w.heap.size + 1) (by first | assumption | (simp; done) | (simp; omega)); have hq1 := fun o => hc (w.heap.size + 1) o (by first | assumption | (simp; done) | (simp; omega)); have hz2 := hz (w.heap.size + 2) (by first | assumption | (simp; done) | (simp; omega)); have hq2 := fun o => hc (w.heap.size + 2) o (by first | assumption | (simp; done) | (simp; omega)))
    | (go_at_call 17; refine (awake _).mono ?_; rintro e w1 ⟨rfl, hb⟩))
  go_ret
  exact ⟨rfl, (by repeat (first | exact Lo.refl _ | assumption | refine Lo.drew ?_ | refine Lo.alloc ?_ _ | refine Lo.setCell ?_ (by first | (dsimp only; omega) | (simp; omega) | (simp; done)) _ | refine Lo.trans ?_ (by assumption)))⟩

set_option maxHeartbeats 4000000 in
theorem walk_t_ff_fxx (ka : Int) (sa : ByteArray) (kb : Int) (sb : ByteArray) (kc : Int) (sc : ByteArray) (s : ByteArray) (w : World) (za : sa.size ≤ maxLen) (zb : sb.size ≤ maxLen) (zc : sc.size ≤ maxLen) (zs : s.size ≤ maxLen) (h_bes : besV (Pl.beside ka sa.toList kb sb.toList) = .tuple #[.string ⟨#[]⟩, .bool false]) (hl : Pl.longT s [⟨ka, sa⟩, ⟨kb, sb⟩, ⟨kc, sc⟩] = false) (h_ab : Pl.implies ka sa.toList kb sb.toList = true) (h_mas : Pl.matches_ ka sa.toList s.toList = false) (h_bc : Pl.implies kb sb.toList kc sc.toList = false) (h_aa : Pl.implies ka sa.toList ka sa.toList = true) (h_maya : Pl.may ka sa.toList = false) :
    Calls Try.prog 4 #[.agg #[.int .i64 ka, .string sa], .agg #[.int .i64 kb, .string sb], .agg #[.int .i64 kc, .string sc], .string s] w fun e w' => e = .returned (.bool true) ∧ Lo w w' := by
  have HL := Lib.hid hl
  have H_ab := Lib.hid h_ab
  have H_mas := Lib.hid h_mas
  have H_bc := Lib.hid h_bc
  have H_aa := Lib.hid h_aa
  have H_maya := Lib.hid h_maya
  have H_bes := Lib.hid h_bes
  clear hl h_ab h_mas h_bc h_aa h_maya h_bes
  go_enter Try.func4, Try.ntmps4
  go_wp2_with (first
    | (go_at_call 16; refine (long3 _ s ka kb kc sa sb sc _ zs za zb zc ?_).mono ?_; (exact heap_new_at (by simp)); rintro e w' ⟨rfl, rfl⟩; rw [HL.out])
    | (go_at_call 20; refine (implies _ _ _ _ _ (by assumption) (by assumption)).mono ?_; rintro e w1 ⟨rfl, hb⟩; obtain ⟨hc, hf, hz⟩ := hb.facts; have hz0 := hz w.heap.size (by first | assumption | (simp; done) | (simp; omega)); have hq0 := fun o => hc w.heap.size o (by first | assumption | (simp; done) | (simp; omega)); have hz1 := hz (w.heap.size + 1) (by first | assumption | (simp; done) | (simp; omega)); have hq1 := fun o => hc (w.heap.size + 1) o (by first | assumption | (simp; done) | (simp; omega)); have hz2 := hz (w.heap.size + 2) (by first | assumption | (simp; done) | (simp; omega)); have hq2 := fun o => hc (w.heap.size + 2) o (by first | assumption | (simp; done) | (simp; omega)); (first | rw [H_ab.out] | rw [H_bc.out] | rw [H_aa.out]))
    | (go_at_call 22; refine (matches_ _ _ _ _ (by assumption) (by assumption)).mono ?_; rintro e w1 ⟨rfl, hb⟩; obtain ⟨hc, hf, hz⟩ := hb.facts; have hz0 := hz w.heap.size (by first | assumption | (simp; done) | (simp; omega)); have hq0 := fun o => hc w.heap.size o (by first | assumption | (simp; done) | (simp; omega)); have hz1 := hz (w.heap.size + 1) (by first | assumption | (simp; done) | (simp; omega)); have hq1 := fun o => hc (w.heap.size + 1) o (by first | assumption | (simp; done) | (simp; omega)); have hz2 := hz (w.heap.size + 2) (by first | assumption | (simp; done) | (simp; omega)); have hq2 := fun o => hc (w.heap.size + 2) o (by first | assumption | (simp; done) | (simp; omega)); (first | rw [H_mas.out]))
    | (go_at_call 23; refine (may _ _ _ (by assumption)).mono ?_; rintro e w1 ⟨rfl, hb⟩; obtain ⟨hc, hf, hz⟩ := hb.facts; have hz0 := hz w.heap.size (by first | assumption | (simp; done) | (simp; omega)); have hq0 := fun o => hc w.heap.size o (by first | assumption | (simp; done) | (simp; omega)); have hz1 := hz (w.heap.size + 1) (by first | assumption | (simp; done) | (simp; omega)); have hq1 := fun o => hc (w.heap.size + 1) o (by first | assumption | (simp; done) | (simp; omega)); have hz2 := hz (w.heap.size + 2) (by first | assumption | (simp; done) | (simp; omega)); have hq2 := fun o => hc (w.heap.size + 2) o (by first | assumption | (simp; done) | (simp; omega)); (first | rw [H_maya.out]))
    | (go_at_call 19; refine (beside _ _ _ _ _ (by assumption) (by assumption)).mono ?_; rw [H_bes.out]; rintro e w1 ⟨rfl, hb⟩; obtain ⟨hc, hf, hz⟩ := hb.facts; have hz0 := hz w.heap.size (by first | assumption | (simp; done) | (simp; omega)); have hq0 := fun o => hc w.heap.size o (by first | assumption | (simp; done) | (simp; omega)); have hz1 := hz (w.heap.size + 1) (by first | assumption | (simp; done) | (simp; omega)); have hq1 := fun o => hc (w.heap.size + 1) o (by first | assumption | (simp; done) | (simp; omega)); have hz2 := hz (w.heap.size + 2) (by first | assumption | (simp; done) | (simp; omega)); have hq2 := fun o => hc (w.heap.size + 2) o (by first | assumption | (simp; done) | (simp; omega)))
    | (go_at_call 17; refine (awake _).mono ?_; rintro e w1 ⟨rfl, hb⟩))
  go_ret
  exact ⟨rfl, (by repeat (first | exact Lo.refl _ | assumption | refine Lo.drew ?_ | refine Lo.alloc ?_ _ | refine Lo.setCell ?_ (by first | (dsimp only; omega) | (simp; omega) | (simp; done)) _ | refine Lo.trans ?_ (by assumption)))⟩

set_option maxHeartbeats 4000000 in
theorem walk_t_ff_tfx (ka : Int) (sa : ByteArray) (kb : Int) (sb : ByteArray) (kc : Int) (sc : ByteArray) (s : ByteArray) (w : World) (za : sa.size ≤ maxLen) (zb : sb.size ≤ maxLen) (zc : sc.size ≤ maxLen) (zs : s.size ≤ maxLen) (h_bes : besV (Pl.beside ka sa.toList kb sb.toList) = .tuple #[.string ⟨#[]⟩, .bool false]) (hl : Pl.longT s [⟨ka, sa⟩, ⟨kb, sb⟩, ⟨kc, sc⟩] = false) (h_ab : Pl.implies ka sa.toList kb sb.toList = true) (h_mas : Pl.matches_ ka sa.toList s.toList = false) (h_bc : Pl.implies kb sb.toList kc sc.toList = false) (h_aa : Pl.implies ka sa.toList ka sa.toList = true) (h_maya : Pl.may ka sa.toList = true) (h_mayb : Pl.may kb sb.toList = false) :
    Calls Try.prog 4 #[.agg #[.int .i64 ka, .string sa], .agg #[.int .i64 kb, .string sb], .agg #[.int .i64 kc, .string sc], .string s] w fun e w' => e = .returned (.bool true) ∧ Lo w w' := by
  have HL := Lib.hid hl
  have H_ab := Lib.hid h_ab
  have H_mas := Lib.hid h_mas
  have H_bc := Lib.hid h_bc
  have H_aa := Lib.hid h_aa
  have H_maya := Lib.hid h_maya
  have H_mayb := Lib.hid h_mayb
  have H_bes := Lib.hid h_bes
  clear hl h_ab h_mas h_bc h_aa h_maya h_mayb h_bes
  go_enter Try.func4, Try.ntmps4
  go_wp2_with (first
    | (go_at_call 16; refine (long3 _ s ka kb kc sa sb sc _ zs za zb zc ?_).mono ?_; (exact heap_new_at (by simp)); rintro e w' ⟨rfl, rfl⟩; rw [HL.out])
    | (go_at_call 20; refine (implies _ _ _ _ _ (by assumption) (by assumption)).mono ?_; rintro e w1 ⟨rfl, hb⟩; obtain ⟨hc, hf, hz⟩ := hb.facts; have hz0 := hz w.heap.size (by first | assumption | (simp; done) | (simp; omega)); have hq0 := fun o => hc w.heap.size o (by first | assumption | (simp; done) | (simp; omega)); have hz1 := hz (w.heap.size + 1) (by first | assumption | (simp; done) | (simp; omega)); have hq1 := fun o => hc (w.heap.size + 1) o (by first | assumption | (simp; done) | (simp; omega)); have hz2 := hz (w.heap.size + 2) (by first | assumption | (simp; done) | (simp; omega)); have hq2 := fun o => hc (w.heap.size + 2) o (by first | assumption | (simp; done) | (simp; omega)); (first | rw [H_ab.out] | rw [H_bc.out] | rw [H_aa.out]))
    | (go_at_call 22; refine (matches_ _ _ _ _ (by assumption) (by assumption)).mono ?_; rintro e w1 ⟨rfl, hb⟩; obtain ⟨hc, hf, hz⟩ := hb.facts; have hz0 := hz w.heap.size (by first | assumption | (simp; done) | (simp; omega)); have hq0 := fun o => hc w.heap.size o (by first | assumption | (simp; done) | (simp; omega)); have hz1 := hz (w.heap.size + 1) (by first | assumption | (simp; done) | (simp; omega)); have hq1 := fun o => hc (w.heap.size + 1) o (by first | assumption | (simp; done) | (simp; omega)); have hz2 := hz (w.heap.size + 2) (by first | assumption | (simp; done) | (simp; omega)); have hq2 := fun o => hc (w.heap.size + 2) o (by first | assumption | (simp; done) | (simp; omega)); (first | rw [H_mas.out]))
    | (go_at_call 23; refine (may _ _ _ (by assumption)).mono ?_; rintro e w1 ⟨rfl, hb⟩; obtain ⟨hc, hf, hz⟩ := hb.facts; have hz0 := hz w.heap.size (by first | assumption | (simp; done) | (simp; omega)); have hq0 := fun o => hc w.heap.size o (by first | assumption | (simp; done) | (simp; omega)); have hz1 := hz (w.heap.size + 1) (by first | assumption | (simp; done) | (simp; omega)); have hq1 := fun o => hc (w.heap.size + 1) o (by first | assumption | (simp; done) | (simp; omega)); have hz2 := hz (w.heap.size + 2) (by first | assumption | (simp; done) | (simp; omega)); have hq2 := fun o => hc (w.heap.size + 2) o (by first | assumption | (simp; done) | (simp; omega)); (first | rw [H_maya.out] | rw [H_mayb.out]))
    | (go_at_call 19; refine (beside _ _ _ _ _ (by assumption) (by assumption)).mono ?_; rw [H_bes.out]; rintro e w1 ⟨rfl, hb⟩; obtain ⟨hc, hf, hz⟩ := hb.facts; have hz0 := hz w.heap.size (by first | assumption | (simp; done) | (simp; omega)); have hq0 := fun o => hc w.heap.size o (by first | assumption | (simp; done) | (simp; omega)); have hz1 := hz (w.heap.size + 1) (by first | assumption | (simp; done) | (simp; omega)); have hq1 := fun o => hc (w.heap.size + 1) o (by first | assumption | (simp; done) | (simp; omega)); have hz2 := hz (w.heap.size + 2) (by first | assumption | (simp; done) | (simp; omega)); have hq2 := fun o => hc (w.heap.size + 2) o (by first | assumption | (simp; done) | (simp; omega)))
    | (go_at_call 17; refine (awake _).mono ?_; rintro e w1 ⟨rfl, hb⟩))
  go_ret
  exact ⟨rfl, (by repeat (first | exact Lo.refl _ | assumption | refine Lo.drew ?_ | refine Lo.alloc ?_ _ | refine Lo.setCell ?_ (by first | (dsimp only; omega) | (simp; omega) | (simp; done)) _ | refine Lo.trans ?_ (by assumption)))⟩

set_option maxHeartbeats 4000000 in
theorem walk_t_ff_ttf (ka : Int) (sa : ByteArray) (kb : Int) (sb : ByteArray) (kc : Int) (sc : ByteArray) (s : ByteArray) (w : World) (za : sa.size ≤ maxLen) (zb : sb.size ≤ maxLen) (zc : sc.size ≤ maxLen) (zs : s.size ≤ maxLen) (h_bes : besV (Pl.beside ka sa.toList kb sb.toList) = .tuple #[.string ⟨#[]⟩, .bool false]) (hl : Pl.longT s [⟨ka, sa⟩, ⟨kb, sb⟩, ⟨kc, sc⟩] = false) (h_ab : Pl.implies ka sa.toList kb sb.toList = true) (h_mas : Pl.matches_ ka sa.toList s.toList = false) (h_bc : Pl.implies kb sb.toList kc sc.toList = false) (h_aa : Pl.implies ka sa.toList ka sa.toList = true) (h_maya : Pl.may ka sa.toList = true) (h_mayb : Pl.may kb sb.toList = true) (h_ba : Pl.implies kb sb.toList ka sa.toList = false) :
    Calls Try.prog 4 #[.agg #[.int .i64 ka, .string sa], .agg #[.int .i64 kb, .string sb], .agg #[.int .i64 kc, .string sc], .string s] w fun e w' => e = .returned (.bool true) ∧ Lo w w' := by
  have HL := Lib.hid hl
  have H_ab := Lib.hid h_ab
  have H_mas := Lib.hid h_mas
  have H_bc := Lib.hid h_bc
  have H_aa := Lib.hid h_aa
  have H_maya := Lib.hid h_maya
  have H_mayb := Lib.hid h_mayb
  have H_ba := Lib.hid h_ba
  have H_bes := Lib.hid h_bes
  clear hl h_ab h_mas h_bc h_aa h_maya h_mayb h_ba h_bes
  go_enter Try.func4, Try.ntmps4
  go_wp2_with (first
    | (go_at_call 16; refine (long3 _ s ka kb kc sa sb sc _ zs za zb zc ?_).mono ?_; (exact heap_new_at (by simp)); rintro e w' ⟨rfl, rfl⟩; rw [HL.out])
    | (go_at_call 20; refine (implies _ _ _ _ _ (by assumption) (by assumption)).mono ?_; rintro e w1 ⟨rfl, hb⟩; obtain ⟨hc, hf, hz⟩ := hb.facts; have hz0 := hz w.heap.size (by first | assumption | (simp; done) | (simp; omega)); have hq0 := fun o => hc w.heap.size o (by first | assumption | (simp; done) | (simp; omega)); have hz1 := hz (w.heap.size + 1) (by first | assumption | (simp; done) | (simp; omega)); have hq1 := fun o => hc (w.heap.size + 1) o (by first | assumption | (simp; done) | (simp; omega)); have hz2 := hz (w.heap.size + 2) (by first | assumption | (simp; done) | (simp; omega)); have hq2 := fun o => hc (w.heap.size + 2) o (by first | assumption | (simp; done) | (simp; omega)); (first | rw [H_ab.out] | rw [H_bc.out] | rw [H_aa.out] | rw [H_ba.out]))
    | (go_at_call 22; refine (matches_ _ _ _ _ (by assumption) (by assumption)).mono ?_; rintro e w1 ⟨rfl, hb⟩; obtain ⟨hc, hf, hz⟩ := hb.facts; have hz0 := hz w.heap.size (by first | assumption | (simp; done) | (simp; omega)); have hq0 := fun o => hc w.heap.size o (by first | assumption | (simp; done) | (simp; omega)); have hz1 := hz (w.heap.size + 1) (by first | assumption | (simp; done) | (simp; omega)); have hq1 := fun o => hc (w.heap.size + 1) o (by first | assumption | (simp; done) | (simp; omega)); have hz2 := hz (w.heap.size + 2) (by first | assumption | (simp; done) | (simp; omega)); have hq2 := fun o => hc (w.heap.size + 2) o (by first | assumption | (simp; done) | (simp; omega)); (first | rw [H_mas.out]))
    | (go_at_call 23; refine (may _ _ _ (by assumption)).mono ?_; rintro e w1 ⟨rfl, hb⟩; obtain ⟨hc, hf, hz⟩ := hb.facts; have hz0 := hz w.heap.size (by first | assumption | (simp; done) | (simp; omega)); have hq0 := fun o => hc w.heap.size o (by first | assumption | (simp; done) | (simp; omega)); have hz1 := hz (w.heap.size + 1) (by first | assumption | (simp; done) | (simp; omega)); have hq1 := fun o => hc (w.heap.size + 1) o (by first | assumption | (simp; done) | (simp; omega)); have hz2 := hz (w.heap.size + 2) (by first | assumption | (simp; done) | (simp; omega)); have hq2 := fun o => hc (w.heap.size + 2) o (by first | assumption | (simp; done) | (simp; omega)); (first | rw [H_maya.out] | rw [H_mayb.out]))
    | (go_at_call 19; refine (beside _ _ _ _ _ (by assumption) (by assumption)).mono ?_; rw [H_bes.out]; rintro e w1 ⟨rfl, hb⟩; obtain ⟨hc, hf, hz⟩ := hb.facts; have hz0 := hz w.heap.size (by first | assumption | (simp; done) | (simp; omega)); have hq0 := fun o => hc w.heap.size o (by first | assumption | (simp; done) | (simp; omega)); have hz1 := hz (w.heap.size + 1) (by first | assumption | (simp; done) | (simp; omega)); have hq1 := fun o => hc (w.heap.size + 1) o (by first | assumption | (simp; done) | (simp; omega)); have hz2 := hz (w.heap.size + 2) (by first | assumption | (simp; done) | (simp; omega)); have hq2 := fun o => hc (w.heap.size + 2) o (by first | assumption | (simp; done) | (simp; omega)))
    | (go_at_call 17; refine (awake _).mono ?_; rintro e w1 ⟨rfl, hb⟩))
  go_ret
  exact ⟨rfl, (by repeat (first | exact Lo.refl _ | assumption | refine Lo.drew ?_ | refine Lo.alloc ?_ _ | refine Lo.setCell ?_ (by first | (dsimp only; omega) | (simp; omega) | (simp; done)) _ | refine Lo.trans ?_ (by assumption)))⟩

set_option maxHeartbeats 4000000 in
theorem walk_e_tt (ka : Int) (sa : ByteArray) (kc : Int) (sc : ByteArray) (s : ByteArray) (w : World) (za : sa.size ≤ maxLen) (zc : sc.size ≤ maxLen) (zs : s.size ≤ maxLen) (h_bes : besV (Pl.beside ka sa.toList ka sa.toList) = .tuple #[.string ⟨#[]⟩, .bool false]) (hl : Pl.longT s [⟨ka, sa⟩, ⟨ka, sa⟩, ⟨kc, sc⟩] = false) (h_mas : Pl.matches_ ka sa.toList s.toList = true) (h_bc : Pl.implies ka sa.toList kc sc.toList = true) (h_aa : Pl.implies ka sa.toList ka sa.toList = true) (h_maya : Pl.may ka sa.toList = true) :
    Calls Try.prog 4 #[.agg #[.int .i64 ka, .string sa], .agg #[.int .i64 ka, .string sa], .agg #[.int .i64 kc, .string sc], .string s] w fun e w' => e = .returned (.bool true) ∧ Lo w w' := by
  have HL := Lib.hid hl
  have H_mas := Lib.hid h_mas
  have H_bc := Lib.hid h_bc
  have H_aa := Lib.hid h_aa
  have H_maya := Lib.hid h_maya
  have H_bes := Lib.hid h_bes
  clear hl h_mas h_bc h_aa h_maya h_bes
  go_enter Try.func4, Try.ntmps4
  go_wp2_with (first
    | (go_at_call 16; refine (long3 _ s ka ka kc sa sa sc _ zs za za zc ?_).mono ?_; (exact heap_new_at (by simp)); rintro e w' ⟨rfl, rfl⟩; rw [HL.out])
    | (go_at_call 20; refine (implies _ _ _ _ _ (by assumption) (by assumption)).mono ?_; rintro e w1 ⟨rfl, hb⟩; obtain ⟨hc, hf, hz⟩ := hb.facts; have hz0 := hz w.heap.size (by first | assumption | (simp; done) | (simp; omega)); have hq0 := fun o => hc w.heap.size o (by first | assumption | (simp; done) | (simp; omega)); have hz1 := hz (w.heap.size + 1) (by first | assumption | (simp; done) | (simp; omega)); have hq1 := fun o => hc (w.heap.size + 1) o (by first | assumption | (simp; done) | (simp; omega)); have hz2 := hz (w.heap.size + 2) (by first | assumption | (simp; done) | (simp; omega)); have hq2 := fun o => hc (w.heap.size + 2) o (by first | assumption | (simp; done) | (simp; omega)); (first | rw [H_bc.out] | rw [H_aa.out]))
    | (go_at_call 22; refine (matches_ _ _ _ _ (by assumption) (by assumption)).mono ?_; rintro e w1 ⟨rfl, hb⟩; obtain ⟨hc, hf, hz⟩ := hb.facts; have hz0 := hz w.heap.size (by first | assumption | (simp; done) | (simp; omega)); have hq0 := fun o => hc w.heap.size o (by first | assumption | (simp; done) | (simp; omega)); have hz1 := hz (w.heap.size + 1) (by first | assumption | (simp; done) | (simp; omega)); have hq1 := fun o => hc (w.heap.size + 1) o (by first | assumption | (simp; done) | (simp; omega)); have hz2 := hz (w.heap.size + 2) (by first | assumption | (simp; done) | (simp; omega)); have hq2 := fun o => hc (w.heap.size + 2) o (by first | assumption | (simp; done) | (simp; omega)); (first | rw [H_mas.out]))
    | (go_at_call 23; refine (may _ _ _ (by assumption)).mono ?_; rintro e w1 ⟨rfl, hb⟩; obtain ⟨hc, hf, hz⟩ := hb.facts; have hz0 := hz w.heap.size (by first | assumption | (simp; done) | (simp; omega)); have hq0 := fun o => hc w.heap.size o (by first | assumption | (simp; done) | (simp; omega)); have hz1 := hz (w.heap.size + 1) (by first | assumption | (simp; done) | (simp; omega)); have hq1 := fun o => hc (w.heap.size + 1) o (by first | assumption | (simp; done) | (simp; omega)); have hz2 := hz (w.heap.size + 2) (by first | assumption | (simp; done) | (simp; omega)); have hq2 := fun o => hc (w.heap.size + 2) o (by first | assumption | (simp; done) | (simp; omega)); (first | rw [H_maya.out]))
    | (go_at_call 19; refine (beside _ _ _ _ _ (by assumption) (by assumption)).mono ?_; rw [H_bes.out]; rintro e w1 ⟨rfl, hb⟩; obtain ⟨hc, hf, hz⟩ := hb.facts; have hz0 := hz w.heap.size (by first | assumption | (simp; done) | (simp; omega)); have hq0 := fun o => hc w.heap.size o (by first | assumption | (simp; done) | (simp; omega)); have hz1 := hz (w.heap.size + 1) (by first | assumption | (simp; done) | (simp; omega)); have hq1 := fun o => hc (w.heap.size + 1) o (by first | assumption | (simp; done) | (simp; omega)); have hz2 := hz (w.heap.size + 2) (by first | assumption | (simp; done) | (simp; omega)); have hq2 := fun o => hc (w.heap.size + 2) o (by first | assumption | (simp; done) | (simp; omega)))
    | (go_at_call 17; refine (awake _).mono ?_; rintro e w1 ⟨rfl, hb⟩))
  go_ret
  exact ⟨rfl, (by repeat (first | exact Lo.refl _ | assumption | refine Lo.drew ?_ | refine Lo.alloc ?_ _ | refine Lo.setCell ?_ (by first | (dsimp only; omega) | (simp; omega) | (simp; done)) _ | refine Lo.trans ?_ (by assumption)))⟩

set_option maxHeartbeats 4000000 in
theorem walk_e_tf (ka : Int) (sa : ByteArray) (kc : Int) (sc : ByteArray) (s : ByteArray) (w : World) (za : sa.size ≤ maxLen) (zc : sc.size ≤ maxLen) (zs : s.size ≤ maxLen) (h_bes : besV (Pl.beside ka sa.toList ka sa.toList) = .tuple #[.string ⟨#[]⟩, .bool false]) (hl : Pl.longT s [⟨ka, sa⟩, ⟨ka, sa⟩, ⟨kc, sc⟩] = false) (h_mas : Pl.matches_ ka sa.toList s.toList = true) (h_bc : Pl.implies ka sa.toList kc sc.toList = false) (h_aa : Pl.implies ka sa.toList ka sa.toList = true) (h_maya : Pl.may ka sa.toList = true) :
    Calls Try.prog 4 #[.agg #[.int .i64 ka, .string sa], .agg #[.int .i64 ka, .string sa], .agg #[.int .i64 kc, .string sc], .string s] w fun e w' => e = .returned (.bool true) ∧ Lo w w' := by
  have HL := Lib.hid hl
  have H_mas := Lib.hid h_mas
  have H_bc := Lib.hid h_bc
  have H_aa := Lib.hid h_aa
  have H_maya := Lib.hid h_maya
  have H_bes := Lib.hid h_bes
  clear hl h_mas h_bc h_aa h_maya h_bes
  go_enter Try.func4, Try.ntmps4
  go_wp2_with (first
    | (go_at_call 16; refine (long3 _ s ka ka kc sa sa sc _ zs za za zc ?_).mono ?_; (exact heap_new_at (by simp)); rintro e w' ⟨rfl, rfl⟩; rw [HL.out])
    | (go_at_call 20; refine (implies _ _ _ _ _ (by assumption) (by assumption)).mono ?_; rintro e w1 ⟨rfl, hb⟩; obtain ⟨hc, hf, hz⟩ := hb.facts; have hz0 := hz w.heap.size (by first | assumption | (simp; done) | (simp; omega)); have hq0 := fun o => hc w.heap.size o (by first | assumption | (simp; done) | (simp; omega)); have hz1 := hz (w.heap.size + 1) (by first | assumption | (simp; done) | (simp; omega)); have hq1 := fun o => hc (w.heap.size + 1) o (by first | assumption | (simp; done) | (simp; omega)); have hz2 := hz (w.heap.size + 2) (by first | assumption | (simp; done) | (simp; omega)); have hq2 := fun o => hc (w.heap.size + 2) o (by first | assumption | (simp; done) | (simp; omega)); (first | rw [H_bc.out] | rw [H_aa.out]))
    | (go_at_call 22; refine (matches_ _ _ _ _ (by assumption) (by assumption)).mono ?_; rintro e w1 ⟨rfl, hb⟩; obtain ⟨hc, hf, hz⟩ := hb.facts; have hz0 := hz w.heap.size (by first | assumption | (simp; done) | (simp; omega)); have hq0 := fun o => hc w.heap.size o (by first | assumption | (simp; done) | (simp; omega)); have hz1 := hz (w.heap.size + 1) (by first | assumption | (simp; done) | (simp; omega)); have hq1 := fun o => hc (w.heap.size + 1) o (by first | assumption | (simp; done) | (simp; omega)); have hz2 := hz (w.heap.size + 2) (by first | assumption | (simp; done) | (simp; omega)); have hq2 := fun o => hc (w.heap.size + 2) o (by first | assumption | (simp; done) | (simp; omega)); (first | rw [H_mas.out]))
    | (go_at_call 23; refine (may _ _ _ (by assumption)).mono ?_; rintro e w1 ⟨rfl, hb⟩; obtain ⟨hc, hf, hz⟩ := hb.facts; have hz0 := hz w.heap.size (by first | assumption | (simp; done) | (simp; omega)); have hq0 := fun o => hc w.heap.size o (by first | assumption | (simp; done) | (simp; omega)); have hz1 := hz (w.heap.size + 1) (by first | assumption | (simp; done) | (simp; omega)); have hq1 := fun o => hc (w.heap.size + 1) o (by first | assumption | (simp; done) | (simp; omega)); have hz2 := hz (w.heap.size + 2) (by first | assumption | (simp; done) | (simp; omega)); have hq2 := fun o => hc (w.heap.size + 2) o (by first | assumption | (simp; done) | (simp; omega)); (first | rw [H_maya.out]))
    | (go_at_call 19; refine (beside _ _ _ _ _ (by assumption) (by assumption)).mono ?_; rw [H_bes.out]; rintro e w1 ⟨rfl, hb⟩; obtain ⟨hc, hf, hz⟩ := hb.facts; have hz0 := hz w.heap.size (by first | assumption | (simp; done) | (simp; omega)); have hq0 := fun o => hc w.heap.size o (by first | assumption | (simp; done) | (simp; omega)); have hz1 := hz (w.heap.size + 1) (by first | assumption | (simp; done) | (simp; omega)); have hq1 := fun o => hc (w.heap.size + 1) o (by first | assumption | (simp; done) | (simp; omega)); have hz2 := hz (w.heap.size + 2) (by first | assumption | (simp; done) | (simp; omega)); have hq2 := fun o => hc (w.heap.size + 2) o (by first | assumption | (simp; done) | (simp; omega)))
    | (go_at_call 17; refine (awake _).mono ?_; rintro e w1 ⟨rfl, hb⟩))
  go_ret
  exact ⟨rfl, (by repeat (first | exact Lo.refl _ | assumption | refine Lo.drew ?_ | refine Lo.alloc ?_ _ | refine Lo.setCell ?_ (by first | (dsimp only; omega) | (simp; omega) | (simp; done)) _ | refine Lo.trans ?_ (by assumption)))⟩

set_option maxHeartbeats 4000000 in
theorem walk_e_ft (ka : Int) (sa : ByteArray) (kc : Int) (sc : ByteArray) (s : ByteArray) (w : World) (za : sa.size ≤ maxLen) (zc : sc.size ≤ maxLen) (zs : s.size ≤ maxLen) (h_bes : besV (Pl.beside ka sa.toList ka sa.toList) = .tuple #[.string ⟨#[]⟩, .bool false]) (hl : Pl.longT s [⟨ka, sa⟩, ⟨ka, sa⟩, ⟨kc, sc⟩] = false) (h_mas : Pl.matches_ ka sa.toList s.toList = false) (h_bc : Pl.implies ka sa.toList kc sc.toList = true) (h_aa : Pl.implies ka sa.toList ka sa.toList = true) (h_maya : Pl.may ka sa.toList = true) :
    Calls Try.prog 4 #[.agg #[.int .i64 ka, .string sa], .agg #[.int .i64 ka, .string sa], .agg #[.int .i64 kc, .string sc], .string s] w fun e w' => e = .returned (.bool true) ∧ Lo w w' := by
  have HL := Lib.hid hl
  have H_mas := Lib.hid h_mas
  have H_bc := Lib.hid h_bc
  have H_aa := Lib.hid h_aa
  have H_maya := Lib.hid h_maya
  have H_bes := Lib.hid h_bes
  clear hl h_mas h_bc h_aa h_maya h_bes
  go_enter Try.func4, Try.ntmps4
  go_wp2_with (first
    | (go_at_call 16; refine (long3 _ s ka ka kc sa sa sc _ zs za za zc ?_).mono ?_; (exact heap_new_at (by simp)); rintro e w' ⟨rfl, rfl⟩; rw [HL.out])
    | (go_at_call 20; refine (implies _ _ _ _ _ (by assumption) (by assumption)).mono ?_; rintro e w1 ⟨rfl, hb⟩; obtain ⟨hc, hf, hz⟩ := hb.facts; have hz0 := hz w.heap.size (by first | assumption | (simp; done) | (simp; omega)); have hq0 := fun o => hc w.heap.size o (by first | assumption | (simp; done) | (simp; omega)); have hz1 := hz (w.heap.size + 1) (by first | assumption | (simp; done) | (simp; omega)); have hq1 := fun o => hc (w.heap.size + 1) o (by first | assumption | (simp; done) | (simp; omega)); have hz2 := hz (w.heap.size + 2) (by first | assumption | (simp; done) | (simp; omega)); have hq2 := fun o => hc (w.heap.size + 2) o (by first | assumption | (simp; done) | (simp; omega)); (first | rw [H_bc.out] | rw [H_aa.out]))
    | (go_at_call 22; refine (matches_ _ _ _ _ (by assumption) (by assumption)).mono ?_; rintro e w1 ⟨rfl, hb⟩; obtain ⟨hc, hf, hz⟩ := hb.facts; have hz0 := hz w.heap.size (by first | assumption | (simp; done) | (simp; omega)); have hq0 := fun o => hc w.heap.size o (by first | assumption | (simp; done) | (simp; omega)); have hz1 := hz (w.heap.size + 1) (by first | assumption | (simp; done) | (simp; omega)); have hq1 := fun o => hc (w.heap.size + 1) o (by first | assumption | (simp; done) | (simp; omega)); have hz2 := hz (w.heap.size + 2) (by first | assumption | (simp; done) | (simp; omega)); have hq2 := fun o => hc (w.heap.size + 2) o (by first | assumption | (simp; done) | (simp; omega)); (first | rw [H_mas.out]))
    | (go_at_call 23; refine (may _ _ _ (by assumption)).mono ?_; rintro e w1 ⟨rfl, hb⟩; obtain ⟨hc, hf, hz⟩ := hb.facts; have hz0 := hz w.heap.size (by first | assumption | (simp; done) | (simp; omega)); have hq0 := fun o => hc w.heap.size o (by first | assumption | (simp; done) | (simp; omega)); have hz1 := hz (w.heap.size + 1) (by first | assumption | (simp; done) | (simp; omega)); have hq1 := fun o => hc (w.heap.size + 1) o (by first | assumption | (simp; done) | (simp; omega)); have hz2 := hz (w.heap.size + 2) (by first | assumption | (simp; done) | (simp; omega)); have hq2 := fun o => hc (w.heap.size + 2) o (by first | assumption | (simp; done) | (simp; omega)); (first | rw [H_maya.out]))
    | (go_at_call 19; refine (beside _ _ _ _ _ (by assumption) (by assumption)).mono ?_; rw [H_bes.out]; rintro e w1 ⟨rfl, hb⟩; obtain ⟨hc, hf, hz⟩ := hb.facts; have hz0 := hz w.heap.size (by first | assumption | (simp; done) | (simp; omega)); have hq0 := fun o => hc w.heap.size o (by first | assumption | (simp; done) | (simp; omega)); have hz1 := hz (w.heap.size + 1) (by first | assumption | (simp; done) | (simp; omega)); have hq1 := fun o => hc (w.heap.size + 1) o (by first | assumption | (simp; done) | (simp; omega)); have hz2 := hz (w.heap.size + 2) (by first | assumption | (simp; done) | (simp; omega)); have hq2 := fun o => hc (w.heap.size + 2) o (by first | assumption | (simp; done) | (simp; omega)))
    | (go_at_call 17; refine (awake _).mono ?_; rintro e w1 ⟨rfl, hb⟩))
  go_ret
  exact ⟨rfl, (by repeat (first | exact Lo.refl _ | assumption | refine Lo.drew ?_ | refine Lo.alloc ?_ _ | refine Lo.setCell ?_ (by first | (dsimp only; omega) | (simp; omega) | (simp; done)) _ | refine Lo.trans ?_ (by assumption)))⟩

set_option maxHeartbeats 4000000 in
theorem walk_e_ff (ka : Int) (sa : ByteArray) (kc : Int) (sc : ByteArray) (s : ByteArray) (w : World) (za : sa.size ≤ maxLen) (zc : sc.size ≤ maxLen) (zs : s.size ≤ maxLen) (h_bes : besV (Pl.beside ka sa.toList ka sa.toList) = .tuple #[.string ⟨#[]⟩, .bool false]) (hl : Pl.longT s [⟨ka, sa⟩, ⟨ka, sa⟩, ⟨kc, sc⟩] = false) (h_mas : Pl.matches_ ka sa.toList s.toList = false) (h_bc : Pl.implies ka sa.toList kc sc.toList = false) (h_aa : Pl.implies ka sa.toList ka sa.toList = true) (h_maya : Pl.may ka sa.toList = true) :
    Calls Try.prog 4 #[.agg #[.int .i64 ka, .string sa], .agg #[.int .i64 ka, .string sa], .agg #[.int .i64 kc, .string sc], .string s] w fun e w' => e = .returned (.bool true) ∧ Lo w w' := by
  have HL := Lib.hid hl
  have H_mas := Lib.hid h_mas
  have H_bc := Lib.hid h_bc
  have H_aa := Lib.hid h_aa
  have H_maya := Lib.hid h_maya
  have H_bes := Lib.hid h_bes
  clear hl h_mas h_bc h_aa h_maya h_bes
  go_enter Try.func4, Try.ntmps4
  go_wp2_with (first
    | (go_at_call 16; refine (long3 _ s ka ka kc sa sa sc _ zs za za zc ?_).mono ?_; (exact heap_new_at (by simp)); rintro e w' ⟨rfl, rfl⟩; rw [HL.out])
    | (go_at_call 20; refine (implies _ _ _ _ _ (by assumption) (by assumption)).mono ?_; rintro e w1 ⟨rfl, hb⟩; obtain ⟨hc, hf, hz⟩ := hb.facts; have hz0 := hz w.heap.size (by first | assumption | (simp; done) | (simp; omega)); have hq0 := fun o => hc w.heap.size o (by first | assumption | (simp; done) | (simp; omega)); have hz1 := hz (w.heap.size + 1) (by first | assumption | (simp; done) | (simp; omega)); have hq1 := fun o => hc (w.heap.size + 1) o (by first | assumption | (simp; done) | (simp; omega)); have hz2 := hz (w.heap.size + 2) (by first | assumption | (simp; done) | (simp; omega)); have hq2 := fun o => hc (w.heap.size + 2) o (by first | assumption | (simp; done) | (simp; omega)); (first | rw [H_bc.out] | rw [H_aa.out]))
    | (go_at_call 22; refine (matches_ _ _ _ _ (by assumption) (by assumption)).mono ?_; rintro e w1 ⟨rfl, hb⟩; obtain ⟨hc, hf, hz⟩ := hb.facts; have hz0 := hz w.heap.size (by first | assumption | (simp; done) | (simp; omega)); have hq0 := fun o => hc w.heap.size o (by first | assumption | (simp; done) | (simp; omega)); have hz1 := hz (w.heap.size + 1) (by first | assumption | (simp; done) | (simp; omega)); have hq1 := fun o => hc (w.heap.size + 1) o (by first | assumption | (simp; done) | (simp; omega)); have hz2 := hz (w.heap.size + 2) (by first | assumption | (simp; done) | (simp; omega)); have hq2 := fun o => hc (w.heap.size + 2) o (by first | assumption | (simp; done) | (simp; omega)); (first | rw [H_mas.out]))
    | (go_at_call 23; refine (may _ _ _ (by assumption)).mono ?_; rintro e w1 ⟨rfl, hb⟩; obtain ⟨hc, hf, hz⟩ := hb.facts; have hz0 := hz w.heap.size (by first | assumption | (simp; done) | (simp; omega)); have hq0 := fun o => hc w.heap.size o (by first | assumption | (simp; done) | (simp; omega)); have hz1 := hz (w.heap.size + 1) (by first | assumption | (simp; done) | (simp; omega)); have hq1 := fun o => hc (w.heap.size + 1) o (by first | assumption | (simp; done) | (simp; omega)); have hz2 := hz (w.heap.size + 2) (by first | assumption | (simp; done) | (simp; omega)); have hq2 := fun o => hc (w.heap.size + 2) o (by first | assumption | (simp; done) | (simp; omega)); (first | rw [H_maya.out]))
    | (go_at_call 19; refine (beside _ _ _ _ _ (by assumption) (by assumption)).mono ?_; rw [H_bes.out]; rintro e w1 ⟨rfl, hb⟩; obtain ⟨hc, hf, hz⟩ := hb.facts; have hz0 := hz w.heap.size (by first | assumption | (simp; done) | (simp; omega)); have hq0 := fun o => hc w.heap.size o (by first | assumption | (simp; done) | (simp; omega)); have hz1 := hz (w.heap.size + 1) (by first | assumption | (simp; done) | (simp; omega)); have hq1 := fun o => hc (w.heap.size + 1) o (by first | assumption | (simp; done) | (simp; omega)); have hz2 := hz (w.heap.size + 2) (by first | assumption | (simp; done) | (simp; omega)); have hq2 := fun o => hc (w.heap.size + 2) o (by first | assumption | (simp; done) | (simp; omega)))
    | (go_at_call 17; refine (awake _).mono ?_; rintro e w1 ⟨rfl, hb⟩))
  go_ret
  exact ⟨rfl, (by repeat (first | exact Lo.refl _ | assumption | refine Lo.drew ?_ | refine Lo.alloc ?_ _ | refine Lo.setCell ?_ (by first | (dsimp only; omega) | (simp; omega) | (simp; done)) _ | refine Lo.trans ?_ (by assumption)))⟩
end Go.Proofs.Ytlcecabfmemfeaa.MatchGoesOn
