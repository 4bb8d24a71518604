/- For every two terms and every text, the law MatchBack returns true. (Written by mk_back.py.) -/
import Derived.Test.YtlcecabfmemfeaaWAwake07
import Derived.Test.YtlcecabfmemfeaaPlMatch2
namespace Go.Proofs.Ytlcecabfmemfeaa.MatchBack
set_option linter.unusedVariables false
set_option linter.unusedSimpArgs false
open Go.RowKit Mem BigFrame WMatch

theorem two_len {a b : Pl.Term} : [a, b].length ≤ maxLen := by simp [maxLen]
theorem long2 (b : Nat) (s : ByteArray) (ka kb : Int) (sa sb : ByteArray) (w : World) (zs : s.size ≤ maxLen) (za : sa.size ≤ maxLen) (zb : sb.size ≤ maxLen) (h : w.heap[b]? = some (.cells #[.int .i64 ka, .string sa, .int .i64 kb, .string sb] 23 (0, 0))) :
    Calls Try.prog 16 #[.string s, .slice (some ⟨b, 0, none⟩) 2 2] w fun e w' => e = .returned (.bool (Pl.longT s [⟨ka, sa⟩, ⟨kb, sb⟩])) ∧ w = w' :=
  long s (some ⟨b, 0, none⟩) 2 [⟨ka, sa⟩, ⟨kb, sb⟩] w (Terms.of_new (ts := [⟨ka, sa⟩, ⟨kb, sb⟩]) h (by simp [za, zb])) zs two_len
abbrev PrintTo (k : Int) (s : ByteArray) (v : Value) : Prop := ∀ w : World, Calls Try.prog 24 #[.agg #[.int .i64 k, .string s]] w fun e w' => e = .returned v ∧ Lo w w'
theorem PrintTo.no {k : Int} {s : ByteArray} (hs : s.size ≤ maxLen) (h : Pl.may k s.toList = false) : PrintTo k s (.tuple #[.string ⟨#[]⟩, .int .i64 1]) := fun w => by
  have := print k s w hs; rw [h] at this; exact this
theorem PrintTo.yes {k : Int} {s x : ByteArray} (hs : s.size ≤ maxLen) (h : Pl.may k s.toList = true) (hx : x.toList = Pl.text k s.toList) : PrintTo k s (.tuple #[.string x, .int .i64 0]) := fun w => by
  have := print k s w hs; rw [h] at this; simp only [if_true] at this; rw [← hx, toList_bs] at this; exact this
abbrev ParseTo (s : ByteArray) (v : Value) : Prop := ∀ w : World, Calls Try.prog 25 #[.string s] w fun e w' => e = .returned v ∧ Lo w w'
theorem ParseTo.no {s : ByteArray} (hs : s.size ≤ maxLen) (h : Pl.parse s.toList = none) : ParseTo s (.tuple #[.agg #[.int .i64 0, .string ⟨#[]⟩], .int .i64 2]) := fun w => by
  have := parse s w hs; rw [h] at this; exact this
theorem ParseTo.yes {s t : ByteArray} {k : Int} (hs : s.size ≤ maxLen) (h : Pl.parse s.toList = some (k, t.toList)) : ParseTo s (.tuple #[.agg #[.int .i64 k, .string t], .int .i64 0]) := fun w => by
  have := parse s w hs; rw [h] at this; have e : parW (some (k, t.toList)) = .tuple #[.agg #[.int .i64 k, .string t], .int .i64 0] := by simp [parW, toList_bs]
  rw [e] at this; exact this

set_option maxHeartbeats 1600000 in
theorem walk_long (ka : Int) (sa : ByteArray) (kb : Int) (sb : ByteArray) (s : ByteArray) (w : World) (za : sa.size ≤ maxLen) (zb : sb.size ≤ maxLen) (zs : s.size ≤ maxLen) (hl : Pl.longT s [⟨ka, sa⟩, ⟨kb, sb⟩] = true) :
    Calls Try.prog 5 #[.agg #[.int .i64 ka, .string sa], .agg #[.int .i64 kb, .string sb], .string s] w fun e w' => e = .returned (.bool true) ∧ Lo w w' := by
  have HL := Lib.hid hl
  clear hl
  go_enter Try.func5, Try.ntmps5
  go_wp2_with (first
    | (go_at_call 16; refine (long2 _ s ka kb sa sb _ zs za zb ?_).mono ?_; (exact heap_new_at (by simp)); rintro e w' ⟨rfl, rfl⟩; rw [HL.out])
    | (go_at_call 17; refine (awake _).mono ?_; rintro e w1 ⟨rfl, hb⟩))
  go_ret
  exact ⟨rfl, (by repeat (first | exact Lo.refl _ | assumption | refine Lo.drew ?_ | refine Lo.alloc ?_ _ | refine Lo.setCell ?_ (by first | (dsimp only; omega) | (simp; omega) | (simp; done)) _ | refine Lo.trans ?_ (by assumption)))⟩

set_option maxHeartbeats 4000000 in
theorem walk_nn0n (ka : Int) (sa : ByteArray) (kb : Int) (sb : ByteArray) (s : ByteArray) (w : World) (za : sa.size ≤ maxLen) (zb : sb.size ≤ maxLen) (zs : s.size ≤ maxLen) (hl : Pl.longT s [⟨ka, sa⟩, ⟨kb, sb⟩] = false) (hPA : PrintTo ka sa (.tuple #[.string ⟨#[]⟩, .int .i64 1])) (hPB : PrintTo kb sb (.tuple #[.string ⟨#[]⟩, .int .i64 1])) (hPS : ParseTo s (.tuple #[.agg #[.int .i64 0, .string ⟨#[]⟩], .int .i64 2])) :
    Calls Try.prog 5 #[.agg #[.int .i64 ka, .string sa], .agg #[.int .i64 kb, .string sb], .string s] w fun e w' => e = .returned (.bool true) ∧ Lo w w' := by
  have HL := Lib.hid hl
  have HPA := Lib.hid hPA
  have HPB := Lib.hid hPB
  have HPS := Lib.hid hPS
  clear hl hPA hPB hPS
  go_enter Try.func5, Try.ntmps5
  go_wp2_with (first
    | (go_at_call 16; refine (long2 _ s ka kb sa sb _ zs za zb ?_).mono ?_; (exact heap_new_at (by simp)); rintro e w' ⟨rfl, rfl⟩; rw [HL.out])
    | (go_at_call 24; first | ((with_reducible refine (HPA.out _).mono ?_); rintro e w1 ⟨rfl, hb⟩; obtain ⟨hc, hf, hz⟩ := hb.facts; have hz0 := hz w.heap.size (by first | assumption | (simp; done) | (simp; omega)); have hq0 := fun o => hc w.heap.size o (by first | assumption | (simp; done) | (simp; omega)); have hz1 := hz (w.heap.size + 1) (by first | assumption | (simp; done) | (simp; omega)); have hq1 := fun o => hc (w.heap.size + 1) o (by first | assumption | (simp; done) | (simp; omega))) | ((with_reducible refine (HPB.out _).mono ?_); rintro e w1 ⟨rfl, hb⟩; obtain ⟨hc, hf, hz⟩ := hb.facts; have hz0 := hz w.heap.size (by first | assumption | (simp; done) | (simp; omega)); have hq0 := fun o => hc w.heap.size o (by first | assumption | (simp; done) | (simp; omega)); have hz1 := hz (w.heap.size + 1) (by first | assumption | (simp; done) | (simp; omega)); have hq1 := fun o => hc (w.heap.size + 1) o (by first | assumption | (simp; done) | (simp; omega)))))
  refine (HPS.out _).mono ?_; rintro e wp ⟨rfl, hb⟩; obtain ⟨hc, hf, hz⟩ := hb.facts; have hz0 := hz w.heap.size (by first | assumption | (simp; done) | (simp; omega)); have hq0 := fun o => hc w.heap.size o (by first | assumption | (simp; done) | (simp; omega)); have hz1 := hz (w.heap.size + 1) (by first | assumption | (simp; done) | (simp; omega)); have hq1 := fun o => hc (w.heap.size + 1) o (by first | assumption | (simp; done) | (simp; omega))
  go_wp2_with (go_at_call 17; refine (awake _).mono ?_; rintro e w1 ⟨rfl, hb⟩)
  go_ret
  exact ⟨rfl, (by repeat (first | exact Lo.refl _ | assumption | refine Lo.drew ?_ | refine Lo.alloc ?_ _ | refine Lo.setCell ?_ (by first | (dsimp only; omega) | (simp; omega) | (simp; done)) _ | refine Lo.trans ?_ (by assumption)))⟩

set_option maxHeartbeats 4000000 in
theorem walk_nn0y (ka : Int) (sa : ByteArray) (kb : Int) (sb : ByteArray) (s : ByteArray) (w : World) (za : sa.size ≤ maxLen) (zb : sb.size ≤ maxLen) (zs : s.size ≤ maxLen) (k : Int) (t : ByteArray) (zt : t.size ≤ maxLen) (hl : Pl.longT s [⟨ka, sa⟩, ⟨kb, sb⟩] = false) (hPA : PrintTo ka sa (.tuple #[.string ⟨#[]⟩, .int .i64 1])) (hPB : PrintTo kb sb (.tuple #[.string ⟨#[]⟩, .int .i64 1])) (hPS : ParseTo s (.tuple #[.agg #[.int .i64 k, .string t], .int .i64 0])) (hPT : PrintTo k t (.tuple #[.string s, .int .i64 0])) (hPM : Pl.may k t.toList = true) :
    Calls Try.prog 5 #[.agg #[.int .i64 ka, .string sa], .agg #[.int .i64 kb, .string sb], .string s] w fun e w' => e = .returned (.bool true) ∧ Lo w w' := by
  have HL := Lib.hid hl
  have HPA := Lib.hid hPA
  have HPB := Lib.hid hPB
  have HPS := Lib.hid hPS
  have HPT := Lib.hid hPT
  have HPM := Lib.hid hPM
  clear hl hPA hPB hPS hPT hPM
  go_enter Try.func5, Try.ntmps5
  go_wp2_with (first
    | (go_at_call 16; refine (long2 _ s ka kb sa sb _ zs za zb ?_).mono ?_; (exact heap_new_at (by simp)); rintro e w' ⟨rfl, rfl⟩; rw [HL.out])
    | (go_at_call 24; first | ((with_reducible refine (HPA.out _).mono ?_); rintro e w1 ⟨rfl, hb⟩; obtain ⟨hc, hf, hz⟩ := hb.facts; have hz0 := hz w.heap.size (by first | assumption | (simp; done) | (simp; omega)); have hq0 := fun o => hc w.heap.size o (by first | assumption | (simp; done) | (simp; omega)); have hz1 := hz (w.heap.size + 1) (by first | assumption | (simp; done) | (simp; omega)); have hq1 := fun o => hc (w.heap.size + 1) o (by first | assumption | (simp; done) | (simp; omega))) | ((with_reducible refine (HPB.out _).mono ?_); rintro e w1 ⟨rfl, hb⟩; obtain ⟨hc, hf, hz⟩ := hb.facts; have hz0 := hz w.heap.size (by first | assumption | (simp; done) | (simp; omega)); have hq0 := fun o => hc w.heap.size o (by first | assumption | (simp; done) | (simp; omega)); have hz1 := hz (w.heap.size + 1) (by first | assumption | (simp; done) | (simp; omega)); have hq1 := fun o => hc (w.heap.size + 1) o (by first | assumption | (simp; done) | (simp; omega))) | ((with_reducible refine (HPT.out _).mono ?_); rintro e w1 ⟨rfl, hb⟩; obtain ⟨hc, hf, hz⟩ := hb.facts; have hz0 := hz w.heap.size (by first | assumption | (simp; done) | (simp; omega)); have hq0 := fun o => hc w.heap.size o (by first | assumption | (simp; done) | (simp; omega)); have hz1 := hz (w.heap.size + 1) (by first | assumption | (simp; done) | (simp; omega)); have hq1 := fun o => hc (w.heap.size + 1) o (by first | assumption | (simp; done) | (simp; omega)))))
  refine (HPS.out _).mono ?_; rintro e wp ⟨rfl, hb⟩; obtain ⟨hc, hf, hz⟩ := hb.facts; have hz0 := hz w.heap.size (by first | assumption | (simp; done) | (simp; omega)); have hq0 := fun o => hc w.heap.size o (by first | assumption | (simp; done) | (simp; omega)); have hz1 := hz (w.heap.size + 1) (by first | assumption | (simp; done) | (simp; omega)); have hq1 := fun o => hc (w.heap.size + 1) o (by first | assumption | (simp; done) | (simp; omega))
  go_wp2_with (first
    | (go_at_call 24; first | ((with_reducible refine (HPA.out _).mono ?_); rintro e w1 ⟨rfl, hb⟩; obtain ⟨hc, hf, hz⟩ := hb.facts; have hz0 := hz w.heap.size (by first | assumption | (simp; done) | (simp; omega)); have hq0 := fun o => hc w.heap.size o (by first | assumption | (simp; done) | (simp; omega)); have hz1 := hz (w.heap.size + 1) (by first | assumption | (simp; done) | (simp; omega)); have hq1 := fun o => hc (w.heap.size + 1) o (by first | assumption | (simp; done) | (simp; omega)); have hz2 := hz wp.heap.size (by first | assumption | (simp; done) | (simp; omega)); have hq2 := fun o => hc wp.heap.size o (by first | assumption | (simp; done) | (simp; omega))) | ((with_reducible refine (HPB.out _).mono ?_); rintro e w1 ⟨rfl, hb⟩; obtain ⟨hc, hf, hz⟩ := hb.facts; have hz0 := hz w.heap.size (by first | assumption | (simp; done) | (simp; omega)); have hq0 := fun o => hc w.heap.size o (by first | assumption | (simp; done) | (simp; omega)); have hz1 := hz (w.heap.size + 1) (by first | assumption | (simp; done) | (simp; omega)); have hq1 := fun o => hc (w.heap.size + 1) o (by first | assumption | (simp; done) | (simp; omega)); have hz2 := hz wp.heap.size (by first | assumption | (simp; done) | (simp; omega)); have hq2 := fun o => hc wp.heap.size o (by first | assumption | (simp; done) | (simp; omega))) | ((with_reducible refine (HPT.out _).mono ?_); rintro e w1 ⟨rfl, hb⟩; obtain ⟨hc, hf, hz⟩ := hb.facts; have hz0 := hz w.heap.size (by first | assumption | (simp; done) | (simp; omega)); have hq0 := fun o => hc w.heap.size o (by first | assumption | (simp; done) | (simp; omega)); have hz1 := hz (w.heap.size + 1) (by first | assumption | (simp; done) | (simp; omega)); have hq1 := fun o => hc (w.heap.size + 1) o (by first | assumption | (simp; done) | (simp; omega)); have hz2 := hz wp.heap.size (by first | assumption | (simp; done) | (simp; omega)); have hq2 := fun o => hc wp.heap.size o (by first | assumption | (simp; done) | (simp; omega))))
    | (go_at_call 23; refine (may _ _ _ (by assumption)).mono ?_; rintro e w1 ⟨rfl, hb⟩; obtain ⟨hc, hf, hz⟩ := hb.facts; have hz0 := hz w.heap.size (by first | assumption | (simp; done) | (simp; omega)); have hq0 := fun o => hc w.heap.size o (by first | assumption | (simp; done) | (simp; omega)); have hz1 := hz (w.heap.size + 1) (by first | assumption | (simp; done) | (simp; omega)); have hq1 := fun o => hc (w.heap.size + 1) o (by first | assumption | (simp; done) | (simp; omega)); rw [HPM.out])
    | (go_at_call 17; refine (awake _).mono ?_; rintro e w1 ⟨rfl, hb⟩))
  go_ret
  exact ⟨rfl, (by repeat (first | exact Lo.refl _ | assumption | refine Lo.drew ?_ | refine Lo.alloc ?_ _ | refine Lo.setCell ?_ (by first | (dsimp only; omega) | (simp; omega) | (simp; done)) _ | refine Lo.trans ?_ (by assumption)))⟩

set_option maxHeartbeats 4000000 in
theorem walk_ny0n (ka : Int) (sa : ByteArray) (kb : Int) (sb : ByteArray) (s : ByteArray) (w : World) (za : sa.size ≤ maxLen) (zb : sb.size ≤ maxLen) (zs : s.size ≤ maxLen) (y : ByteArray) (hl : Pl.longT s [⟨ka, sa⟩, ⟨kb, sb⟩] = false) (hPA : PrintTo ka sa (.tuple #[.string ⟨#[]⟩, .int .i64 1])) (hPB : PrintTo kb sb (.tuple #[.string y, .int .i64 0])) (hPS : ParseTo s (.tuple #[.agg #[.int .i64 0, .string ⟨#[]⟩], .int .i64 2])) :
    Calls Try.prog 5 #[.agg #[.int .i64 ka, .string sa], .agg #[.int .i64 kb, .string sb], .string s] w fun e w' => e = .returned (.bool true) ∧ Lo w w' := by
  have HL := Lib.hid hl
  have HPA := Lib.hid hPA
  have HPB := Lib.hid hPB
  have HPS := Lib.hid hPS
  clear hl hPA hPB hPS
  go_enter Try.func5, Try.ntmps5
  go_wp2_with (first
    | (go_at_call 16; refine (long2 _ s ka kb sa sb _ zs za zb ?_).mono ?_; (exact heap_new_at (by simp)); rintro e w' ⟨rfl, rfl⟩; rw [HL.out])
    | (go_at_call 24; first | ((with_reducible refine (HPA.out _).mono ?_); rintro e w1 ⟨rfl, hb⟩; obtain ⟨hc, hf, hz⟩ := hb.facts; have hz0 := hz w.heap.size (by first | assumption | (simp; done) | (simp; omega)); have hq0 := fun o => hc w.heap.size o (by first | assumption | (simp; done) | (simp; omega)); have hz1 := hz (w.heap.size + 1) (by first | assumption | (simp; done) | (simp; omega)); have hq1 := fun o => hc (w.heap.size + 1) o (by first | assumption | (simp; done) | (simp; omega))) | ((with_reducible refine (HPB.out _).mono ?_); rintro e w1 ⟨rfl, hb⟩; obtain ⟨hc, hf, hz⟩ := hb.facts; have hz0 := hz w.heap.size (by first | assumption | (simp; done) | (simp; omega)); have hq0 := fun o => hc w.heap.size o (by first | assumption | (simp; done) | (simp; omega)); have hz1 := hz (w.heap.size + 1) (by first | assumption | (simp; done) | (simp; omega)); have hq1 := fun o => hc (w.heap.size + 1) o (by first | assumption | (simp; done) | (simp; omega)))))
  refine (HPS.out _).mono ?_; rintro e wp ⟨rfl, hb⟩; obtain ⟨hc, hf, hz⟩ := hb.facts; have hz0 := hz w.heap.size (by first | assumption | (simp; done) | (simp; omega)); have hq0 := fun o => hc w.heap.size o (by first | assumption | (simp; done) | (simp; omega)); have hz1 := hz (w.heap.size + 1) (by first | assumption | (simp; done) | (simp; omega)); have hq1 := fun o => hc (w.heap.size + 1) o (by first | assumption | (simp; done) | (simp; omega))
  go_wp2_with (go_at_call 17; refine (awake _).mono ?_; rintro e w1 ⟨rfl, hb⟩)
  go_ret
  exact ⟨rfl, (by repeat (first | exact Lo.refl _ | assumption | refine Lo.drew ?_ | refine Lo.alloc ?_ _ | refine Lo.setCell ?_ (by first | (dsimp only; omega) | (simp; omega) | (simp; done)) _ | refine Lo.trans ?_ (by assumption)))⟩

set_option maxHeartbeats 4000000 in
theorem walk_ny0y (ka : Int) (sa : ByteArray) (kb : Int) (sb : ByteArray) (s : ByteArray) (w : World) (za : sa.size ≤ maxLen) (zb : sb.size ≤ maxLen) (zs : s.size ≤ maxLen) (y : ByteArray) (k : Int) (t : ByteArray) (zt : t.size ≤ maxLen) (hl : Pl.longT s [⟨ka, sa⟩, ⟨kb, sb⟩] = false) (hPA : PrintTo ka sa (.tuple #[.string ⟨#[]⟩, .int .i64 1])) (hPB : PrintTo kb sb (.tuple #[.string y, .int .i64 0])) (hPS : ParseTo s (.tuple #[.agg #[.int .i64 k, .string t], .int .i64 0])) (hPT : PrintTo k t (.tuple #[.string s, .int .i64 0])) (hPM : Pl.may k t.toList = true) :
    Calls Try.prog 5 #[.agg #[.int .i64 ka, .string sa], .agg #[.int .i64 kb, .string sb], .string s] w fun e w' => e = .returned (.bool true) ∧ Lo w w' := by
  have HL := Lib.hid hl
  have HPA := Lib.hid hPA
  have HPB := Lib.hid hPB
  have HPS := Lib.hid hPS
  have HPT := Lib.hid hPT
  have HPM := Lib.hid hPM
  clear hl hPA hPB hPS hPT hPM
  go_enter Try.func5, Try.ntmps5
  go_wp2_with (first
    | (go_at_call 16; refine (long2 _ s ka kb sa sb _ zs za zb ?_).mono ?_; (exact heap_new_at (by simp)); rintro e w' ⟨rfl, rfl⟩; rw [HL.out])
    | (go_at_call 24; first | ((with_reducible refine (HPA.out _).mono ?_); rintro e w1 ⟨rfl, hb⟩; obtain ⟨hc, hf, hz⟩ := hb.facts; have hz0 := hz w.heap.size (by first | assumption | (simp; done) | (simp; omega)); have hq0 := fun o => hc w.heap.size o (by first | assumption | (simp; done) | (simp; omega)); have hz1 := hz (w.heap.size + 1) (by first | assumption | (simp; done) | (simp; omega)); have hq1 := fun o => hc (w.heap.size + 1) o (by first | assumption | (simp; done) | (simp; omega))) | ((with_reducible refine (HPB.out _).mono ?_); rintro e w1 ⟨rfl, hb⟩; obtain ⟨hc, hf, hz⟩ := hb.facts; have hz0 := hz w.heap.size (by first | assumption | (simp; done) | (simp; omega)); have hq0 := fun o => hc w.heap.size o (by first | assumption | (simp; done) | (simp; omega)); have hz1 := hz (w.heap.size + 1) (by first | assumption | (simp; done) | (simp; omega)); have hq1 := fun o => hc (w.heap.size + 1) o (by first | assumption | (simp; done) | (simp; omega))) | ((with_reducible refine (HPT.out _).mono ?_); rintro e w1 ⟨rfl, hb⟩; obtain ⟨hc, hf, hz⟩ := hb.facts; have hz0 := hz w.heap.size (by first | assumption | (simp; done) | (simp; omega)); have hq0 := fun o => hc w.heap.size o (by first | assumption | (simp; done) | (simp; omega)); have hz1 := hz (w.heap.size + 1) (by first | assumption | (simp; done) | (simp; omega)); have hq1 := fun o => hc (w.heap.size + 1) o (by first | assumption | (simp; done) | (simp; omega)))))
  refine (HPS.out _).mono ?_; rintro e wp ⟨rfl, hb⟩; obtain ⟨hc, hf, hz⟩ := hb.facts; have hz0 := hz w.heap.size (by first | assumption | (simp; done) | (simp; omega)); have hq0 := fun o => hc w.heap.size o (by first | assumption | (simp; done) | (simp; omega)); have hz1 := hz (w.heap.size + 1) (by first | assumption | (simp; done) | (simp; omega)); have hq1 := fun o => hc (w.heap.size + 1) o (by first | assumption | (simp; done) | (simp; omega))
  go_wp2_with (first
    | (go_at_call 24; first | ((with_reducible refine (HPA.out _).mono ?_); rintro e w1 ⟨rfl, hb⟩; obtain ⟨hc, hf, hz⟩ := hb.facts; have hz0 := hz w.heap.size (by first | assumption | (simp; done) | (simp; omega)); have hq0 := fun o => hc w.heap.size o (by first | assumption | (simp; done) | (simp; omega)); have hz1 := hz (w.heap.size + 1) (by first | assumption | (simp; done) | (simp; omega)); have hq1 := fun o => hc (w.heap.size + 1) o (by first | assumption | (simp; done) | (simp; omega)); have hz2 := hz wp.heap.size (by first | assumption | (simp; done) | (simp; omega)); have hq2 := fun o => hc wp.heap.size o (by first | assumption | (simp; done) | (simp; omega))) | ((with_reducible refine (HPB.out _).mono ?_); rintro e w1 ⟨rfl, hb⟩; obtain ⟨hc, hf, hz⟩ := hb.facts; have hz0 := hz w.heap.size (by first | assumption | (simp; done) | (simp; omega)); have hq0 := fun o => hc w.heap.size o (by first | assumption | (simp; done) | (simp; omega)); have hz1 := hz (w.heap.size + 1) (by first | assumption | (simp; done) | (simp; omega)); have hq1 := fun o => hc (w.heap.size + 1) o (by first | assumption | (simp; done) | (simp; omega)); have hz2 := hz wp.heap.size (by first | assumption | (simp; done) | (simp; omega)); have hq2 := fun o => hc wp.heap.size o (by first | assumption | (simp; done) | (simp; omega))) | ((with_reducible refine (HPT.out _).mono ?_); rintro e w1 ⟨rfl, hb⟩; obtain ⟨hc, hf, hz⟩ := hb.facts; have hz0 := hz w.heap.size (by first | assumption | (simp; done) | (simp; omega)); have hq0 := fun o => hc w.heap.size o (by first | assumption | (simp; done) | (simp; omega)); have hz1 := hz (w.heap.size + 1) (by first | assumption | (simp; done) | (simp; omega)); have hq1 := fun o => hc (w.heap.size + 1) o (by first | assumption | (simp; done) | (simp; omega)); have hz2 := hz wp.heap.size (by first | assumption | (simp; done) | (simp; omega)); have hq2 := fun o => hc wp.heap.size o (by first | assumption | (simp; done) | (simp; omega))))
    | (go_at_call 23; refine (may _ _ _ (by assumption)).mono ?_; rintro e w1 ⟨rfl, hb⟩; obtain ⟨hc, hf, hz⟩ := hb.facts; have hz0 := hz w.heap.size (by first | assumption | (simp; done) | (simp; omega)); have hq0 := fun o => hc w.heap.size o (by first | assumption | (simp; done) | (simp; omega)); have hz1 := hz (w.heap.size + 1) (by first | assumption | (simp; done) | (simp; omega)); have hq1 := fun o => hc (w.heap.size + 1) o (by first | assumption | (simp; done) | (simp; omega)); rw [HPM.out])
    | (go_at_call 17; refine (awake _).mono ?_; rintro e w1 ⟨rfl, hb⟩))
  go_ret
  exact ⟨rfl, (by repeat (first | exact Lo.refl _ | assumption | refine Lo.drew ?_ | refine Lo.alloc ?_ _ | refine Lo.setCell ?_ (by first | (dsimp only; omega) | (simp; omega) | (simp; done)) _ | refine Lo.trans ?_ (by assumption)))⟩

set_option maxHeartbeats 4000000 in
theorem walk_yn0n (ka : Int) (sa : ByteArray) (kb : Int) (sb : ByteArray) (s : ByteArray) (w : World) (za : sa.size ≤ maxLen) (zb : sb.size ≤ maxLen) (zs : s.size ≤ maxLen) (x : ByteArray) (hl : Pl.longT s [⟨ka, sa⟩, ⟨kb, sb⟩] = false) (hPA : PrintTo ka sa (.tuple #[.string x, .int .i64 0])) (hPX : ParseTo x (.tuple #[.agg #[.int .i64 ka, .string sa], .int .i64 0])) (hPB : PrintTo kb sb (.tuple #[.string ⟨#[]⟩, .int .i64 1])) (hPS : ParseTo s (.tuple #[.agg #[.int .i64 0, .string ⟨#[]⟩], .int .i64 2])) :
    Calls Try.prog 5 #[.agg #[.int .i64 ka, .string sa], .agg #[.int .i64 kb, .string sb], .string s] w fun e w' => e = .returned (.bool true) ∧ Lo w w' := by
  have HL := Lib.hid hl
  have HPA := Lib.hid hPA
  have HPX := Lib.hid hPX
  have HPB := Lib.hid hPB
  have HPS := Lib.hid hPS
  clear hl hPA hPX hPB hPS
  go_enter Try.func5, Try.ntmps5
  go_wp2_with (first
    | (go_at_call 16; refine (long2 _ s ka kb sa sb _ zs za zb ?_).mono ?_; (exact heap_new_at (by simp)); rintro e w' ⟨rfl, rfl⟩; rw [HL.out])
    | (go_at_call 24; first | ((with_reducible refine (HPA.out _).mono ?_); rintro e w1 ⟨rfl, hb⟩; obtain ⟨hc, hf, hz⟩ := hb.facts; have hz0 := hz w.heap.size (by first | assumption | (simp; done) | (simp; omega)); have hq0 := fun o => hc w.heap.size o (by first | assumption | (simp; done) | (simp; omega)); have hz1 := hz (w.heap.size + 1) (by first | assumption | (simp; done) | (simp; omega)); have hq1 := fun o => hc (w.heap.size + 1) o (by first | assumption | (simp; done) | (simp; omega))) | ((with_reducible refine (HPB.out _).mono ?_); rintro e w1 ⟨rfl, hb⟩; obtain ⟨hc, hf, hz⟩ := hb.facts; have hz0 := hz w.heap.size (by first | assumption | (simp; done) | (simp; omega)); have hq0 := fun o => hc w.heap.size o (by first | assumption | (simp; done) | (simp; omega)); have hz1 := hz (w.heap.size + 1) (by first | assumption | (simp; done) | (simp; omega)); have hq1 := fun o => hc (w.heap.size + 1) o (by first | assumption | (simp; done) | (simp; omega)))))
  refine (HPX.out _).mono ?_; rintro e wx ⟨rfl, hb⟩; obtain ⟨hc, hf, hz⟩ := hb.facts; have hz0 := hz w.heap.size (by first | assumption | (simp; done) | (simp; omega)); have hq0 := fun o => hc w.heap.size o (by first | assumption | (simp; done) | (simp; omega)); have hz1 := hz (w.heap.size + 1) (by first | assumption | (simp; done) | (simp; omega)); have hq1 := fun o => hc (w.heap.size + 1) o (by first | assumption | (simp; done) | (simp; omega))
  go_wp2_with fail
  refine (HPS.out _).mono ?_; rintro e wp ⟨rfl, hb⟩; obtain ⟨hc, hf, hz⟩ := hb.facts; have hz0 := hz w.heap.size (by first | assumption | (simp; done) | (simp; omega)); have hq0 := fun o => hc w.heap.size o (by first | assumption | (simp; done) | (simp; omega)); have hz1 := hz (w.heap.size + 1) (by first | assumption | (simp; done) | (simp; omega)); have hq1 := fun o => hc (w.heap.size + 1) o (by first | assumption | (simp; done) | (simp; omega))
  go_wp2_with (go_at_call 17; refine (awake _).mono ?_; rintro e w1 ⟨rfl, hb⟩)
  go_ret
  exact ⟨rfl, (by repeat (first | exact Lo.refl _ | assumption | refine Lo.drew ?_ | refine Lo.alloc ?_ _ | refine Lo.setCell ?_ (by first | (dsimp only; omega) | (simp; omega) | (simp; done)) _ | refine Lo.trans ?_ (by assumption)))⟩

set_option maxHeartbeats 4000000 in
theorem walk_yn0y (ka : Int) (sa : ByteArray) (kb : Int) (sb : ByteArray) (s : ByteArray) (w : World) (za : sa.size ≤ maxLen) (zb : sb.size ≤ maxLen) (zs : s.size ≤ maxLen) (x : ByteArray) (k : Int) (t : ByteArray) (zt : t.size ≤ maxLen) (hl : Pl.longT s [⟨ka, sa⟩, ⟨kb, sb⟩] = false) (hPA : PrintTo ka sa (.tuple #[.string x, .int .i64 0])) (hPX : ParseTo x (.tuple #[.agg #[.int .i64 ka, .string sa], .int .i64 0])) (hPB : PrintTo kb sb (.tuple #[.string ⟨#[]⟩, .int .i64 1])) (hPS : ParseTo s (.tuple #[.agg #[.int .i64 k, .string t], .int .i64 0])) (hPT : PrintTo k t (.tuple #[.string s, .int .i64 0])) (hPM : Pl.may k t.toList = true) :
    Calls Try.prog 5 #[.agg #[.int .i64 ka, .string sa], .agg #[.int .i64 kb, .string sb], .string s] w fun e w' => e = .returned (.bool true) ∧ Lo w w' := by
  have HL := Lib.hid hl
  have HPA := Lib.hid hPA
  have HPX := Lib.hid hPX
  have HPB := Lib.hid hPB
  have HPS := Lib.hid hPS
  have HPT := Lib.hid hPT
  have HPM := Lib.hid hPM
  clear hl hPA hPX hPB hPS hPT hPM
  go_enter Try.func5, Try.ntmps5
  go_wp2_with (first
    | (go_at_call 16; refine (long2 _ s ka kb sa sb _ zs za zb ?_).mono ?_; (exact heap_new_at (by simp)); rintro e w' ⟨rfl, rfl⟩; rw [HL.out])
    | (go_at_call 24; first | ((with_reducible refine (HPA.out _).mono ?_); rintro e w1 ⟨rfl, hb⟩; obtain ⟨hc, hf, hz⟩ := hb.facts; have hz0 := hz w.heap.size (by first | assumption | (simp; done) | (simp; omega)); have hq0 := fun o => hc w.heap.size o (by first | assumption | (simp; done) | (simp; omega)); have hz1 := hz (w.heap.size + 1) (by first | assumption | (simp; done) | (simp; omega)); have hq1 := fun o => hc (w.heap.size + 1) o (by first | assumption | (simp; done) | (simp; omega))) | ((with_reducible refine (HPB.out _).mono ?_); rintro e w1 ⟨rfl, hb⟩; obtain ⟨hc, hf, hz⟩ := hb.facts; have hz0 := hz w.heap.size (by first | assumption | (simp; done) | (simp; omega)); have hq0 := fun o => hc w.heap.size o (by first | assumption | (simp; done) | (simp; omega)); have hz1 := hz (w.heap.size + 1) (by first | assumption | (simp; done) | (simp; omega)); have hq1 := fun o => hc (w.heap.size + 1) o (by first | assumption | (simp; done) | (simp; omega))) | ((with_reducible refine (HPT.out _).mono ?_); rintro e w1 ⟨rfl, hb⟩; obtain ⟨hc, hf, hz⟩ := hb.facts; have hz0 := hz w.heap.size (by first | assumption | (simp; done) | (simp; omega)); have hq0 := fun o => hc w.heap.size o (by first | assumption | (simp; done) | (simp; omega)); have hz1 := hz (w.heap.size + 1) (by first | assumption | (simp; done) | (simp; omega)); have hq1 := fun o => hc (w.heap.size + 1) o (by first | assumption | (simp; done) | (simp; omega)))))
  refine (HPX.out _).mono ?_; rintro e wx ⟨rfl, hb⟩; obtain ⟨hc, hf, hz⟩ := hb.facts; have hz0 := hz w.heap.size (by first | assumption | (simp; done) | (simp; omega)); have hq0 := fun o => hc w.heap.size o (by first | assumption | (simp; done) | (simp; omega)); have hz1 := hz (w.heap.size + 1) (by first | assumption | (simp; done) | (simp; omega)); have hq1 := fun o => hc (w.heap.size + 1) o (by first | assumption | (simp; done) | (simp; omega))
  go_wp2_with fail
  refine (HPS.out _).mono ?_; rintro e wp ⟨rfl, hb⟩; obtain ⟨hc, hf, hz⟩ := hb.facts; have hz0 := hz w.heap.size (by first | assumption | (simp; done) | (simp; omega)); have hq0 := fun o => hc w.heap.size o (by first | assumption | (simp; done) | (simp; omega)); have hz1 := hz (w.heap.size + 1) (by first | assumption | (simp; done) | (simp; omega)); have hq1 := fun o => hc (w.heap.size + 1) o (by first | assumption | (simp; done) | (simp; omega))
  go_wp2_with (first
    | (go_at_call 24; first | ((with_reducible refine (HPA.out _).mono ?_); rintro e w1 ⟨rfl, hb⟩; obtain ⟨hc, hf, hz⟩ := hb.facts; have hz0 := hz w.heap.size (by first | assumption | (simp; done) | (simp; omega)); have hq0 := fun o => hc w.heap.size o (by first | assumption | (simp; done) | (simp; omega)); have hz1 := hz (w.heap.size + 1) (by first | assumption | (simp; done) | (simp; omega)); have hq1 := fun o => hc (w.heap.size + 1) o (by first | assumption | (simp; done) | (simp; omega)); have hz2 := hz wp.heap.size (by first | assumption | (simp; done) | (simp; omega)); have hq2 := fun o => hc wp.heap.size o (by first | assumption | (simp; done) | (simp; omega))) | ((with_reducible refine (HPB.out _).mono ?_); rintro e w1 ⟨rfl, hb⟩; obtain ⟨hc, hf, hz⟩ := hb.facts; have hz0 := hz w.heap.size (by first | assumption | (simp; done) | (simp; omega)); have hq0 := fun o => hc w.heap.size o (by first | assumption | (simp; done) | (simp; omega)); have hz1 := hz (w.heap.size + 1) (by first | assumption | (simp; done) | (simp; omega)); have hq1 := fun o => hc (w.heap.size + 1) o (by first | assumption | (simp; done) | (simp; omega)); have hz2 := hz wp.heap.size (by first | assumption | (simp; done) | (simp; omega)); have hq2 := fun o => hc wp.heap.size o (by first | assumption | (simp; done) | (simp; omega))) | ((with_reducible refine (HPT.out _).mono ?_); rintro e w1 ⟨rfl, hb⟩; obtain ⟨hc, hf, hz⟩ := hb.facts; have hz0 := hz w.heap.size (by first | assumption | (simp; done) | (simp; omega)); have hq0 := fun o => hc w.heap.size o (by first | assumption | (simp; done) | (simp; omega)); have hz1 := hz (w.heap.size + 1) (by first | assumption | (simp; done) | (simp; omega)); have hq1 := fun o => hc (w.heap.size + 1) o (by first | assumption | (simp; done) | (simp; omega)); have hz2 := hz wp.heap.size (by first | assumption | (simp; done) | (simp; omega)); have hq2 := fun o => hc wp.heap.size o (by first | assumption | (simp; done) | (simp; omega))))
    | (go_at_call 23; refine (may _ _ _ (by assumption)).mono ?_; rintro e w1 ⟨rfl, hb⟩; obtain ⟨hc, hf, hz⟩ := hb.facts; have hz0 := hz w.heap.size (by first | assumption | (simp; done) | (simp; omega)); have hq0 := fun o => hc w.heap.size o (by first | assumption | (simp; done) | (simp; omega)); have hz1 := hz (w.heap.size + 1) (by first | assumption | (simp; done) | (simp; omega)); have hq1 := fun o => hc (w.heap.size + 1) o (by first | assumption | (simp; done) | (simp; omega)); rw [HPM.out])
    | (go_at_call 17; refine (awake _).mono ?_; rintro e w1 ⟨rfl, hb⟩))
  go_ret
  exact ⟨rfl, (by repeat (first | exact Lo.refl _ | assumption | refine Lo.drew ?_ | refine Lo.alloc ?_ _ | refine Lo.setCell ?_ (by first | (dsimp only; omega) | (simp; omega) | (simp; done)) _ | refine Lo.trans ?_ (by assumption)))⟩

set_option maxHeartbeats 4000000 in
theorem walk_yy1n (ka : Int) (sa : ByteArray) (kb : Int) (sb : ByteArray) (s : ByteArray) (w : World) (za : sa.size ≤ maxLen) (zb : sb.size ≤ maxLen) (zs : s.size ≤ maxLen) (x : ByteArray) (y : ByteArray) (hl : Pl.longT s [⟨ka, sa⟩, ⟨kb, sb⟩] = false) (hPA : PrintTo ka sa (.tuple #[.string x, .int .i64 0])) (hPX : ParseTo x (.tuple #[.agg #[.int .i64 ka, .string sa], .int .i64 0])) (hPB : PrintTo kb sb (.tuple #[.string y, .int .i64 0])) (hPS : ParseTo s (.tuple #[.agg #[.int .i64 0, .string ⟨#[]⟩], .int .i64 2])) (hxy : (x.toList == y.toList) = false) (hk : (ka == kb) = false) :
    Calls Try.prog 5 #[.agg #[.int .i64 ka, .string sa], .agg #[.int .i64 kb, .string sb], .string s] w fun e w' => e = .returned (.bool true) ∧ Lo w w' := by
  have HL := Lib.hid hl
  have HPA := Lib.hid hPA
  have HPX := Lib.hid hPX
  have HPB := Lib.hid hPB
  have HPS := Lib.hid hPS
  clear hl hPA hPX hPB hPS
  go_enter Try.func5, Try.ntmps5
  go_wp2_with (first
    | (go_at_call 16; refine (long2 _ s ka kb sa sb _ zs za zb ?_).mono ?_; (exact heap_new_at (by simp)); rintro e w' ⟨rfl, rfl⟩; rw [HL.out])
    | (go_at_call 24; first | ((with_reducible refine (HPA.out _).mono ?_); rintro e w1 ⟨rfl, hb⟩; obtain ⟨hc, hf, hz⟩ := hb.facts; have hz0 := hz w.heap.size (by first | assumption | (simp; done) | (simp; omega)); have hq0 := fun o => hc w.heap.size o (by first | assumption | (simp; done) | (simp; omega)); have hz1 := hz (w.heap.size + 1) (by first | assumption | (simp; done) | (simp; omega)); have hq1 := fun o => hc (w.heap.size + 1) o (by first | assumption | (simp; done) | (simp; omega))) | ((with_reducible refine (HPB.out _).mono ?_); rintro e w1 ⟨rfl, hb⟩; obtain ⟨hc, hf, hz⟩ := hb.facts; have hz0 := hz w.heap.size (by first | assumption | (simp; done) | (simp; omega)); have hq0 := fun o => hc w.heap.size o (by first | assumption | (simp; done) | (simp; omega)); have hz1 := hz (w.heap.size + 1) (by first | assumption | (simp; done) | (simp; omega)); have hq1 := fun o => hc (w.heap.size + 1) o (by first | assumption | (simp; done) | (simp; omega)))))
  refine (HPX.out _).mono ?_; rintro e wx ⟨rfl, hb⟩; obtain ⟨hc, hf, hz⟩ := hb.facts; have hz0 := hz w.heap.size (by first | assumption | (simp; done) | (simp; omega)); have hq0 := fun o => hc w.heap.size o (by first | assumption | (simp; done) | (simp; omega)); have hz1 := hz (w.heap.size + 1) (by first | assumption | (simp; done) | (simp; omega)); have hq1 := fun o => hc (w.heap.size + 1) o (by first | assumption | (simp; done) | (simp; omega))
  go_wp2_with fail
  refine (HPS.out _).mono ?_; rintro e wp ⟨rfl, hb⟩; obtain ⟨hc, hf, hz⟩ := hb.facts; have hz0 := hz w.heap.size (by first | assumption | (simp; done) | (simp; omega)); have hq0 := fun o => hc w.heap.size o (by first | assumption | (simp; done) | (simp; omega)); have hz1 := hz (w.heap.size + 1) (by first | assumption | (simp; done) | (simp; omega)); have hq1 := fun o => hc (w.heap.size + 1) o (by first | assumption | (simp; done) | (simp; omega))
  go_wp2_with (go_at_call 17; refine (awake _).mono ?_; rintro e w1 ⟨rfl, hb⟩)
  go_ret
  exact ⟨rfl, (by repeat (first | exact Lo.refl _ | assumption | refine Lo.drew ?_ | refine Lo.alloc ?_ _ | refine Lo.setCell ?_ (by first | (dsimp only; omega) | (simp; omega) | (simp; done)) _ | refine Lo.trans ?_ (by assumption)))⟩

set_option maxHeartbeats 4000000 in
theorem walk_yy1y (ka : Int) (sa : ByteArray) (kb : Int) (sb : ByteArray) (s : ByteArray) (w : World) (za : sa.size ≤ maxLen) (zb : sb.size ≤ maxLen) (zs : s.size ≤ maxLen) (x : ByteArray) (y : ByteArray) (k : Int) (t : ByteArray) (zt : t.size ≤ maxLen) (hl : Pl.longT s [⟨ka, sa⟩, ⟨kb, sb⟩] = false) (hPA : PrintTo ka sa (.tuple #[.string x, .int .i64 0])) (hPX : ParseTo x (.tuple #[.agg #[.int .i64 ka, .string sa], .int .i64 0])) (hPB : PrintTo kb sb (.tuple #[.string y, .int .i64 0])) (hPS : ParseTo s (.tuple #[.agg #[.int .i64 k, .string t], .int .i64 0])) (hPT : PrintTo k t (.tuple #[.string s, .int .i64 0])) (hPM : Pl.may k t.toList = true) (hxy : (x.toList == y.toList) = false) (hk : (ka == kb) = false) :
    Calls Try.prog 5 #[.agg #[.int .i64 ka, .string sa], .agg #[.int .i64 kb, .string sb], .string s] w fun e w' => e = .returned (.bool true) ∧ Lo w w' := by
  have HL := Lib.hid hl
  have HPA := Lib.hid hPA
  have HPX := Lib.hid hPX
  have HPB := Lib.hid hPB
  have HPS := Lib.hid hPS
  have HPT := Lib.hid hPT
  have HPM := Lib.hid hPM
  clear hl hPA hPX hPB hPS hPT hPM
  go_enter Try.func5, Try.ntmps5
  go_wp2_with (first
    | (go_at_call 16; refine (long2 _ s ka kb sa sb _ zs za zb ?_).mono ?_; (exact heap_new_at (by simp)); rintro e w' ⟨rfl, rfl⟩; rw [HL.out])
    | (go_at_call 24; first | ((with_reducible refine (HPA.out _).mono ?_); rintro e w1 ⟨rfl, hb⟩; obtain ⟨hc, hf, hz⟩ := hb.facts; have hz0 := hz w.heap.size (by first | assumption | (simp; done) | (simp; omega)); have hq0 := fun o => hc w.heap.size o (by first | assumption | (simp; done) | (simp; omega)); have hz1 := hz (w.heap.size + 1) (by first | assumption | (simp; done) | (simp; omega)); have hq1 := fun o => hc (w.heap.size + 1) o (by first | assumption | (simp; done) | (simp; omega))) | ((with_reducible refine (HPB.out _).mono ?_); rintro e w1 ⟨rfl, hb⟩; obtain ⟨hc, hf, hz⟩ := hb.facts; have hz0 := hz w.heap.size (by first | assumption | (simp; done) | (simp; omega)); have hq0 := fun o => hc w.heap.size o (by first | assumption | (simp; done) | (simp; omega)); have hz1 := hz (w.heap.size + 1) (by first | assumption | (simp; done) | (simp; omega)); have hq1 := fun o => hc (w.heap.size + 1) o (by first | assumption | (simp; done) | (simp; omega))) | ((with_reducible refine (HPT.out _).mono ?_); rintro e w1 ⟨rfl, hb⟩; obtain ⟨hc, hf, hz⟩ := hb.facts; have hz0 := hz w.heap.size (by first | assumption | (simp; done) | (simp; omega)); have hq0 := fun o => hc w.heap.size o (by first | assumption | (simp; done) | (simp; omega)); have hz1 := hz (w.heap.size + 1) (by first | assumption | (simp; done) | (simp; omega)); have hq1 := fun o => hc (w.heap.size + 1) o (by first | assumption | (simp; done) | (simp; omega)))))
  refine (HPX.out _).mono ?_; rintro e wx ⟨rfl, hb⟩; obtain ⟨hc, hf, hz⟩ := hb.facts; have hz0 := hz w.heap.size (by first | assumption | (simp; done) | (simp; omega)); have hq0 := fun o => hc w.heap.size o (by first | assumption | (simp; done) | (simp; omega)); have hz1 := hz (w.heap.size + 1) (by first | assumption | (simp; done) | (simp; omega)); have hq1 := fun o => hc (w.heap.size + 1) o (by first | assumption | (simp; done) | (simp; omega))
  go_wp2_with fail
  refine (HPS.out _).mono ?_; rintro e wp ⟨rfl, hb⟩; obtain ⟨hc, hf, hz⟩ := hb.facts; have hz0 := hz w.heap.size (by first | assumption | (simp; done) | (simp; omega)); have hq0 := fun o => hc w.heap.size o (by first | assumption | (simp; done) | (simp; omega)); have hz1 := hz (w.heap.size + 1) (by first | assumption | (simp; done) | (simp; omega)); have hq1 := fun o => hc (w.heap.size + 1) o (by first | assumption | (simp; done) | (simp; omega))
  go_wp2_with (first
    | (go_at_call 24; first | ((with_reducible refine (HPA.out _).mono ?_); rintro e w1 ⟨rfl, hb⟩; obtain ⟨hc, hf, hz⟩ := hb.facts; have hz0 := hz w.heap.size (by first | assumption | (simp; done) | (simp; omega)); have hq0 := fun o => hc w.heap.size o (by first | assumption | (simp; done) | (simp; omega)); have hz1 := hz (w.heap.size + 1) (by first | assumption | (simp; done) | (simp; omega)); have hq1 := fun o => hc (w.heap.size + 1) o (by first | assumption | (simp; done) | (simp; omega)); have hz2 := hz wp.heap.size (by first | assumption | (simp; done) | (simp; omega)); have hq2 := fun o => hc wp.heap.size o (by first | assumption | (simp; done) | (simp; omega))) | ((with_reducible refine (HPB.out _).mono ?_); rintro e w1 ⟨rfl, hb⟩; obtain ⟨hc, hf, hz⟩ := hb.facts; have hz0 := hz w.heap.size (by first | assumption | (simp; done) | (simp; omega)); have hq0 := fun o => hc w.heap.size o (by first | assumption | (simp; done) | (simp; omega)); have hz1 := hz (w.heap.size + 1) (by first | assumption | (simp; done) | (simp; omega)); have hq1 := fun o => hc (w.heap.size + 1) o (by first | assumption | (simp; done) | (simp; omega)); have hz2 := hz wp.heap.size (by first | assumption | (simp; done) | (simp; omega)); have hq2 := fun o => hc wp.heap.size o (by first | assumption | (simp; done) | (simp; omega))) | ((with_reducible refine (HPT.out _).mono ?_); rintro e w1 ⟨rfl, hb⟩; obtain ⟨hc, hf, hz⟩ := hb.facts; have hz0 := hz w.heap.size (by first | assumption | (simp; done) | (simp; omega)); have hq0 := fun o => hc w.heap.size o (by first | assumption | (simp; done) | (simp; omega)); have hz1 := hz (w.heap.size + 1) (by first | assumption | (simp; done) | (simp; omega)); have hq1 := fun o => hc (w.heap.size + 1) o (by first | assumption | (simp; done) | (simp; omega)); have hz2 := hz wp.heap.size (by first | assumption | (simp; done) | (simp; omega)); have hq2 := fun o => hc wp.heap.size o (by first | assumption | (simp; done) | (simp; omega))))
    | (go_at_call 23; refine (may _ _ _ (by assumption)).mono ?_; rintro e w1 ⟨rfl, hb⟩; obtain ⟨hc, hf, hz⟩ := hb.facts; have hz0 := hz w.heap.size (by first | assumption | (simp; done) | (simp; omega)); have hq0 := fun o => hc w.heap.size o (by first | assumption | (simp; done) | (simp; omega)); have hz1 := hz (w.heap.size + 1) (by first | assumption | (simp; done) | (simp; omega)); have hq1 := fun o => hc (w.heap.size + 1) o (by first | assumption | (simp; done) | (simp; omega)); rw [HPM.out])
    | (go_at_call 17; refine (awake _).mono ?_; rintro e w1 ⟨rfl, hb⟩))
  go_ret
  exact ⟨rfl, (by repeat (first | exact Lo.refl _ | assumption | refine Lo.drew ?_ | refine Lo.alloc ?_ _ | refine Lo.setCell ?_ (by first | (dsimp only; omega) | (simp; omega) | (simp; done)) _ | refine Lo.trans ?_ (by assumption)))⟩

set_option maxHeartbeats 4000000 in
theorem walk_yy2n (ka : Int) (sa : ByteArray) (kb : Int) (sb : ByteArray) (s : ByteArray) (w : World) (za : sa.size ≤ maxLen) (zb : sb.size ≤ maxLen) (zs : s.size ≤ maxLen) (x : ByteArray) (y : ByteArray) (hl : Pl.longT s [⟨ka, sa⟩, ⟨kb, sb⟩] = false) (hPA : PrintTo ka sa (.tuple #[.string x, .int .i64 0])) (hPX : ParseTo x (.tuple #[.agg #[.int .i64 ka, .string sa], .int .i64 0])) (hPB : PrintTo kb sb (.tuple #[.string y, .int .i64 0])) (hPS : ParseTo s (.tuple #[.agg #[.int .i64 0, .string ⟨#[]⟩], .int .i64 2])) (hxy : (x.toList == y.toList) = false) (hk : (ka == kb) = true) (hab : (sa.toList == sb.toList) = false) :
    Calls Try.prog 5 #[.agg #[.int .i64 ka, .string sa], .agg #[.int .i64 kb, .string sb], .string s] w fun e w' => e = .returned (.bool true) ∧ Lo w w' := by
  have HL := Lib.hid hl
  have HPA := Lib.hid hPA
  have HPX := Lib.hid hPX
  have HPB := Lib.hid hPB
  have HPS := Lib.hid hPS
  clear hl hPA hPX hPB hPS
  go_enter Try.func5, Try.ntmps5
  go_wp2_with (first
    | (go_at_call 16; refine (long2 _ s ka kb sa sb _ zs za zb ?_).mono ?_; (exact heap_new_at (by simp)); rintro e w' ⟨rfl, rfl⟩; rw [HL.out])
    | (go_at_call 24; first | ((with_reducible refine (HPA.out _).mono ?_); rintro e w1 ⟨rfl, hb⟩; obtain ⟨hc, hf, hz⟩ := hb.facts; have hz0 := hz w.heap.size (by first | assumption | (simp; done) | (simp; omega)); have hq0 := fun o => hc w.heap.size o (by first | assumption | (simp; done) | (simp; omega)); have hz1 := hz (w.heap.size + 1) (by first | assumption | (simp; done) | (simp; omega)); have hq1 := fun o => hc (w.heap.size + 1) o (by first | assumption | (simp; done) | (simp; omega))) | ((with_reducible refine (HPB.out _).mono ?_); rintro e w1 ⟨rfl, hb⟩; obtain ⟨hc, hf, hz⟩ := hb.facts; have hz0 := hz w.heap.size (by first | assumption | (simp; done) | (simp; omega)); have hq0 := fun o => hc w.heap.size o (by first | assumption | (simp; done) | (simp; omega)); have hz1 := hz (w.heap.size + 1) (by first | assumption | (simp; done) | (simp; omega)); have hq1 := fun o => hc (w.heap.size + 1) o (by first | assumption | (simp; done) | (simp; omega)))))
  refine (HPX.out _).mono ?_; rintro e wx ⟨rfl, hb⟩; obtain ⟨hc, hf, hz⟩ := hb.facts; have hz0 := hz w.heap.size (by first | assumption | (simp; done) | (simp; omega)); have hq0 := fun o => hc w.heap.size o (by first | assumption | (simp; done) | (simp; omega)); have hz1 := hz (w.heap.size + 1) (by first | assumption | (simp; done) | (simp; omega)); have hq1 := fun o => hc (w.heap.size + 1) o (by first | assumption | (simp; done) | (simp; omega))
  go_wp2_with fail
  refine (HPS.out _).mono ?_; rintro e wp ⟨rfl, hb⟩; obtain ⟨hc, hf, hz⟩ := hb.facts; have hz0 := hz w.heap.size (by first | assumption | (simp; done) | (simp; omega)); have hq0 := fun o => hc w.heap.size o (by first | assumption | (simp; done) | (simp; omega)); have hz1 := hz (w.heap.size + 1) (by first | assumption | (simp; done) | (simp; omega)); have hq1 := fun o => hc (w.heap.size + 1) o (by first | assumption | (simp; done) | (simp; omega))
  go_wp2_with (go_at_call 17; refine (awake _).mono ?_; rintro e w1 ⟨rfl, hb⟩)
  go_ret
  exact ⟨rfl, (by repeat (first | exact Lo.refl _ | assumption | refine Lo.drew ?_ | refine Lo.alloc ?_ _ | refine Lo.setCell ?_ (by first | (dsimp only; omega) | (simp; omega) | (simp; done)) _ | refine Lo.trans ?_ (by assumption)))⟩

set_option maxHeartbeats 4000000 in
theorem walk_yy2y (ka : Int) (sa : ByteArray) (kb : Int) (sb : ByteArray) (s : ByteArray) (w : World) (za : sa.size ≤ maxLen) (zb : sb.size ≤ maxLen) (zs : s.size ≤ maxLen) (x : ByteArray) (y : ByteArray) (k : Int) (t : ByteArray) (zt : t.size ≤ maxLen) (hl : Pl.longT s [⟨ka, sa⟩, ⟨kb, sb⟩] = false) (hPA : PrintTo ka sa (.tuple #[.string x, .int .i64 0])) (hPX : ParseTo x (.tuple #[.agg #[.int .i64 ka, .string sa], .int .i64 0])) (hPB : PrintTo kb sb (.tuple #[.string y, .int .i64 0])) (hPS : ParseTo s (.tuple #[.agg #[.int .i64 k, .string t], .int .i64 0])) (hPT : PrintTo k t (.tuple #[.string s, .int .i64 0])) (hPM : Pl.may k t.toList = true) (hxy : (x.toList == y.toList) = false) (hk : (ka == kb) = true) (hab : (sa.toList == sb.toList) = false) :
    Calls Try.prog 5 #[.agg #[.int .i64 ka, .string sa], .agg #[.int .i64 kb, .string sb], .string s] w fun e w' => e = .returned (.bool true) ∧ Lo w w' := by
  have HL := Lib.hid hl
  have HPA := Lib.hid hPA
  have HPX := Lib.hid hPX
  have HPB := Lib.hid hPB
  have HPS := Lib.hid hPS
  have HPT := Lib.hid hPT
  have HPM := Lib.hid hPM
  clear hl hPA hPX hPB hPS hPT hPM
  go_enter Try.func5, Try.ntmps5
  go_wp2_with (first
    | (go_at_call 16; refine (long2 _ s ka kb sa sb _ zs za zb ?_).mono ?_; (exact heap_new_at (by simp)); rintro e w' ⟨rfl, rfl⟩; rw [HL.out])
    | (go_at_call 24; first | ((with_reducible refine (HPA.out _).mono ?_); rintro e w1 ⟨rfl, hb⟩; obtain ⟨hc, hf, hz⟩ := hb.facts; have hz0 := hz w.heap.size (by first | assumption | (simp; done) | (simp; omega)); have hq0 := fun o => hc w.heap.size o (by first | assumption | (simp; done) | (simp; omega)); have hz1 := hz (w.heap.size + 1) (by first | assumption | (simp; done) | (simp; omega)); have hq1 := fun o => hc (w.heap.size + 1) o (by first | assumption | (simp; done) | (simp; omega))) | ((with_reducible refine (HPB.out _).mono ?_); rintro e w1 ⟨rfl, hb⟩; obtain ⟨hc, hf, hz⟩ := hb.facts; have hz0 := hz w.heap.size (by first | assumption | (simp; done) | (simp; omega)); have hq0 := fun o => hc w.heap.size o (by first | assumption | (simp; done) | (simp; omega)); have hz1 := hz (w.heap.size + 1) (by first | assumption | (simp; done) | (simp; omega)); have hq1 := fun o => hc (w.heap.size + 1) o (by first | assumption | (simp; done) | (simp; omega))) | ((with_reducible refine (HPT.out _).mono ?_); rintro e w1 ⟨rfl, hb⟩; obtain ⟨hc, hf, hz⟩ := hb.facts; have hz0 := hz w.heap.size (by first | assumption | (simp; done) | (simp; omega)); have hq0 := fun o => hc w.heap.size o (by first | assumption | (simp; done) | (simp; omega)); have hz1 := hz (w.heap.size + 1) (by first | assumption | (simp; done) | (simp; omega)); have hq1 := fun o => hc (w.heap.size + 1) o (by first | assumption | (simp; done) | (simp; omega)))))
  refine (HPX.out _).mono ?_; rintro e wx ⟨rfl, hb⟩; obtain ⟨hc, hf, hz⟩ := hb.facts; have hz0 := hz w.heap.size (by first | assumption | (simp; done) | (simp; omega)); have hq0 := fun o => hc w.heap.size o (by first | assumption | (simp; done) | (simp; omega)); have hz1 := hz (w.heap.size + 1) (by first | assumption | (simp; done) | (simp; omega)); have hq1 := fun o => hc (w.heap.size + 1) o (by first | assumption | (simp; done) | (simp; omega))
  go_wp2_with fail
  refine (HPS.out _).mono ?_; rintro e wp ⟨rfl, hb⟩; obtain ⟨hc, hf, hz⟩ := hb.facts; have hz0 := hz w.heap.size (by first | assumption | (simp; done) | (simp; omega)); have hq0 := fun o => hc w.heap.size o (by first | assumption | (simp; done) | (simp; omega)); have hz1 := hz (w.heap.size + 1) (by first | assumption | (simp; done) | (simp; omega)); have hq1 := fun o => hc (w.heap.size + 1) o (by first | assumption | (simp; done) | (simp; omega))
  go_wp2_with (first
    | (go_at_call 24; first | ((with_reducible refine (HPA.out _).mono ?_); rintro e w1 ⟨rfl, hb⟩; obtain ⟨hc, hf, hz⟩ := hb.facts; have hz0 := hz w.heap.size (by first | assumption | (simp; done) | (simp; omega)); have hq0 := fun o => hc w.heap.size o (by first | assumption | (simp; done) | (simp; omega)); have hz1 := hz (w.heap.size + 1) (by first | assumption | (simp; done) | (simp; omega)); have hq1 := fun o => hc (w.heap.size + 1) o (by first | assumption | (simp; done) | (simp; omega)); have hz2 := hz wp.heap.size (by first | assumption | (simp; done) | (simp; omega)); have hq2 := fun o => hc wp.heap.size o (by first | assumption | (simp; done) | (simp; omega))) | ((with_reducible refine (HPB.out _).mono ?_); rintro e w1 ⟨rfl, hb⟩; obtain ⟨hc, hf, hz⟩ := hb.facts; have hz0 := hz w.heap.size (by first | assumption | (simp; done) | (simp; omega)); have hq0 := fun o => hc w.heap.size o (by first | assumption | (simp; done) | (simp; omega)); have hz1 := hz (w.heap.size + 1) (by first | assumption | (simp; done) | (simp; omega)); have hq1 := fun o => hc (w.heap.size + 1) o (by first | assumption | (simp; done) | (simp; omega)); have hz2 := hz wp.heap.size (by first | assumption | (simp; done) | (simp; omega)); have hq2 := fun o => hc wp.heap.size o (by first | assumption | (simp; done) | (simp; omega))) | ((with_reducible refine (HPT.out _).mono ?_); rintro e w1 ⟨rfl, hb⟩; obtain ⟨hc, hf, hz⟩ := hb.facts; have hz0 := hz w.heap.size (by first | assumption | (simp; done) | (simp; omega)); have hq0 := fun o => hc w.heap.size o (by first | assumption | (simp; done) | (simp; omega)); have hz1 := hz (w.heap.size + 1) (by first | assumption | (simp; done) | (simp; omega)); have hq1 := fun o => hc (w.heap.size + 1) o (by first | assumption | (simp; done) | (simp; omega)); have hz2 := hz wp.heap.size (by first | assumption | (simp; done) | (simp; omega)); have hq2 := fun o => hc wp.heap.size o (by first | assumption | (simp; done) | (simp; omega))))
    | (go_at_call 23; refine (may _ _ _ (by assumption)).mono ?_; rintro e w1 ⟨rfl, hb⟩; obtain ⟨hc, hf, hz⟩ := hb.facts; have hz0 := hz w.heap.size (by first | assumption | (simp; done) | (simp; omega)); have hq0 := fun o => hc w.heap.size o (by first | assumption | (simp; done) | (simp; omega)); have hz1 := hz (w.heap.size + 1) (by first | assumption | (simp; done) | (simp; omega)); have hq1 := fun o => hc (w.heap.size + 1) o (by first | assumption | (simp; done) | (simp; omega)); rw [HPM.out])
    | (go_at_call 17; refine (awake _).mono ?_; rintro e w1 ⟨rfl, hb⟩))
  go_ret
  exact ⟨rfl, (by repeat (first | exact Lo.refl _ | assumption | refine Lo.drew ?_ | refine Lo.alloc ?_ _ | refine Lo.setCell ?_ (by first | (dsimp only; omega) | (simp; omega) | (simp; done)) _ | refine Lo.trans ?_ (by assumption)))⟩

set_option maxHeartbeats 4000000 in
theorem walk_ye0n (ka : Int) (sa : ByteArray) (s : ByteArray) (w : World) (za : sa.size ≤ maxLen) (zs : s.size ≤ maxLen) (x : ByteArray) (hl : Pl.longT s [⟨ka, sa⟩, ⟨ka, sa⟩] = false) (hPA : PrintTo ka sa (.tuple #[.string x, .int .i64 0])) (hPX : ParseTo x (.tuple #[.agg #[.int .i64 ka, .string sa], .int .i64 0])) (hPS : ParseTo s (.tuple #[.agg #[.int .i64 0, .string ⟨#[]⟩], .int .i64 2])) :
    Calls Try.prog 5 #[.agg #[.int .i64 ka, .string sa], .agg #[.int .i64 ka, .string sa], .string s] w fun e w' => e = .returned (.bool true) ∧ Lo w w' := by
  have HL := Lib.hid hl
  have HPA := Lib.hid hPA
  have HPX := Lib.hid hPX
  have HPS := Lib.hid hPS
  clear hl hPA hPX hPS
  go_enter Try.func5, Try.ntmps5
  go_wp2_with (first
    | (go_at_call 16; refine (long2 _ s ka ka sa sa _ zs za za ?_).mono ?_; (exact heap_new_at (by simp)); rintro e w' ⟨rfl, rfl⟩; rw [HL.out])
    | (go_at_call 24; first | ((with_reducible refine (HPA.out _).mono ?_); rintro e w1 ⟨rfl, hb⟩; obtain ⟨hc, hf, hz⟩ := hb.facts; have hz0 := hz w.heap.size (by first | assumption | (simp; done) | (simp; omega)); have hq0 := fun o => hc w.heap.size o (by first | assumption | (simp; done) | (simp; omega)); have hz1 := hz (w.heap.size + 1) (by first | assumption | (simp; done) | (simp; omega)); have hq1 := fun o => hc (w.heap.size + 1) o (by first | assumption | (simp; done) | (simp; omega)))))
  refine (HPX.out _).mono ?_; rintro e wx ⟨rfl, hb⟩; obtain ⟨hc, hf, hz⟩ := hb.facts; have hz0 := hz w.heap.size (by first | assumption | (simp; done) | (simp; omega)); have hq0 := fun o => hc w.heap.size o (by first | assumption | (simp; done) | (simp; omega)); have hz1 := hz (w.heap.size + 1) (by first | assumption | (simp; done) | (simp; omega)); have hq1 := fun o => hc (w.heap.size + 1) o (by first | assumption | (simp; done) | (simp; omega))
  go_wp2_with fail
  refine (HPS.out _).mono ?_; rintro e wp ⟨rfl, hb⟩; obtain ⟨hc, hf, hz⟩ := hb.facts; have hz0 := hz w.heap.size (by first | assumption | (simp; done) | (simp; omega)); have hq0 := fun o => hc w.heap.size o (by first | assumption | (simp; done) | (simp; omega)); have hz1 := hz (w.heap.size + 1) (by first | assumption | (simp; done) | (simp; omega)); have hq1 := fun o => hc (w.heap.size + 1) o (by first | assumption | (simp; done) | (simp; omega))
  go_wp2_with (go_at_call 17; refine (awake _).mono ?_; rintro e w1 ⟨rfl, hb⟩)
  go_ret
  exact ⟨rfl, (by repeat (first | exact Lo.refl _ | assumption | refine Lo.drew ?_ | refine Lo.alloc ?_ _ | refine Lo.setCell ?_ (by first | (dsimp only; omega) | (simp; omega) | (simp; done)) _ | refine Lo.trans ?_ (by assumption)))⟩

set_option maxHeartbeats 4000000 in
theorem walk_ye0y (ka : Int) (sa : ByteArray) (s : ByteArray) (w : World) (za : sa.size ≤ maxLen) (zs : s.size ≤ maxLen) (x : ByteArray) (k : Int) (t : ByteArray) (zt : t.size ≤ maxLen) (hl : Pl.longT s [⟨ka, sa⟩, ⟨ka, sa⟩] = false) (hPA : PrintTo ka sa (.tuple #[.string x, .int .i64 0])) (hPX : ParseTo x (.tuple #[.agg #[.int .i64 ka, .string sa], .int .i64 0])) (hPS : ParseTo s (.tuple #[.agg #[.int .i64 k, .string t], .int .i64 0])) (hPT : PrintTo k t (.tuple #[.string s, .int .i64 0])) (hPM : Pl.may k t.toList = true) :
    Calls Try.prog 5 #[.agg #[.int .i64 ka, .string sa], .agg #[.int .i64 ka, .string sa], .string s] w fun e w' => e = .returned (.bool true) ∧ Lo w w' := by
  have HL := Lib.hid hl
  have HPA := Lib.hid hPA
  have HPX := Lib.hid hPX
  have HPS := Lib.hid hPS
  have HPT := Lib.hid hPT
  have HPM := Lib.hid hPM
  clear hl hPA hPX hPS hPT hPM
  go_enter Try.func5, Try.ntmps5
  go_wp2_with (first
    | (go_at_call 16; refine (long2 _ s ka ka sa sa _ zs za za ?_).mono ?_; (exact heap_new_at (by simp)); rintro e w' ⟨rfl, rfl⟩; rw [HL.out])
    | (go_at_call 24; first | ((with_reducible refine (HPA.out _).mono ?_); rintro e w1 ⟨rfl, hb⟩; obtain ⟨hc, hf, hz⟩ := hb.facts; have hz0 := hz w.heap.size (by first | assumption | (simp; done) | (simp; omega)); have hq0 := fun o => hc w.heap.size o (by first | assumption | (simp; done) | (simp; omega)); have hz1 := hz (w.heap.size + 1) (by first | assumption | (simp; done) | (simp; omega)); have hq1 := fun o => hc (w.heap.size + 1) o (by first | assumption | (simp; done) | (simp; omega))) | ((with_reducible refine (HPT.out _).mono ?_); rintro e w1 ⟨rfl, hb⟩; obtain ⟨hc, hf, hz⟩ := hb.facts; have hz0 := hz w.heap.size (by first | assumption | (simp; done) | (simp; omega)); have hq0 := fun o => hc w.heap.size o (by first | assumption | (simp; done) | (simp; omega)); have hz1 := hz (w.heap.size + 1) (by first | assumption | (simp; done) | (simp; omega)); have hq1 := fun o => hc (w.heap.size + 1) o (by first | assumption | (simp; done) | (simp; omega)))))
  refine (HPX.out _).mono ?_; rintro e wx ⟨rfl, hb⟩; obtain ⟨hc, hf, hz⟩ := hb.facts; have hz0 := hz w.heap.size (by first | assumption | (simp; done) | (simp; omega)); have hq0 := fun o => hc w.heap.size o (by first | assumption | (simp; done) | (simp; omega)); have hz1 := hz (w.heap.size + 1) (by first | assumption | (simp; done) | (simp; omega)); have hq1 := fun o => hc (w.heap.size + 1) o (by first | assumption | (simp; done) | (simp; omega))
  go_wp2_with fail
  refine (HPS.out _).mono ?_; rintro e wp ⟨rfl, hb⟩; obtain ⟨hc, hf, hz⟩ := hb.facts; have hz0 := hz w.heap.size (by first | assumption | (simp; done) | (simp; omega)); have hq0 := fun o => hc w.heap.size o (by first | assumption | (simp; done) | (simp; omega)); have hz1 := hz (w.heap.size + 1) (by first | assumption | (simp; done) | (simp; omega)); have hq1 := fun o => hc (w.heap.size + 1) o (by first | assumption | (simp; done) | (simp; omega))
  go_wp2_with (first
    | (go_at_call 24; first | ((with_reducible refine (HPA.out _).mono ?_); rintro e w1 ⟨rfl, hb⟩; obtain ⟨hc, hf, hz⟩ := hb.facts; have hz0 := hz w.heap.size (by first | assumption | (simp; done) | (simp; omega)); have hq0 := fun o => hc w.heap.size o (by first | assumption | (simp; done) | (simp; omega)); have hz1 := hz (w.heap.size + 1) (by first | assumption | (simp; done) | (simp; omega)); have hq1 := fun o => hc (w.heap.size + 1) o (by first | assumption | (simp; done) | (simp; omega)); have hz2 := hz wp.heap.size (by first | assumption | (simp; done) | (simp; omega)); have hq2 := fun o => hc wp.heap.size o (by first | assumption | (simp; done) | (simp; omega))) | ((with_reducible refine (HPT.out _).mono ?_); rintro e w1 ⟨rfl, hb⟩; obtain ⟨hc, hf, hz⟩ := hb.facts; have hz0 := hz w.heap.size (by first | assumption | (simp; done) | (simp; omega)); have hq0 := fun o => hc w.heap.size o (by first | assumption | (simp; done) | (simp; omega)); have hz1 := hz (w.heap.size + 1) (by first | assumption | (simp; done) | (simp; omega)); have hq1 := fun o => hc (w.heap.size + 1) o (by first | assumption | (simp; done) | (simp; omega)); have hz2 := hz wp.heap.size (by first | assumption | (simp; done) | (simp; omega)); have hq2 := fun o => hc wp.heap.size o (by first | assumption | (simp; done) | (simp; omega))))
    | (go_at_call 23; refine (may _ _ _ (by assumption)).mono ?_; rintro e w1 ⟨rfl, hb⟩; obtain ⟨hc, hf, hz⟩ := hb.facts; have hz0 := hz w.heap.size (by first | assumption | (simp; done) | (simp; omega)); have hq0 := fun o => hc w.heap.size o (by first | assumption | (simp; done) | (simp; omega)); have hz1 := hz (w.heap.size + 1) (by first | assumption | (simp; done) | (simp; omega)); have hq1 := fun o => hc (w.heap.size + 1) o (by first | assumption | (simp; done) | (simp; omega)); rw [HPM.out])
    | (go_at_call 17; refine (awake _).mono ?_; rintro e w1 ⟨rfl, hb⟩))
  go_ret
  exact ⟨rfl, (by repeat (first | exact Lo.refl _ | assumption | refine Lo.drew ?_ | refine Lo.alloc ?_ _ | refine Lo.setCell ?_ (by first | (dsimp only; omega) | (simp; omega) | (simp; done)) _ | refine Lo.trans ?_ (by assumption)))⟩
end Go.Proofs.Ytlcecabfmemfeaa.MatchBack
