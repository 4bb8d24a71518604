/- The walks of chapter 7's functions, eighth part: Parse. -/
import Derived.Test.YtlcecabfmemfeaaWMatch
namespace Go.Proofs.Ytlcecabfmemfeaa.WMatch
set_option linter.unusedVariables false
set_option linter.unusedSimpArgs false
open Go.RowKit Mem BigFrame

theorem cutPrefix' (s p : ByteArray) (w : World) (hs : s.size ≤ maxLen) (hp : p.size ≤ maxLen) (h : Bool) (hh : Pl.hasPre s.toList p.toList = h) :
    Calls Try.prog 109 #[.string s, .string p] w fun e w' => e = .returned (.tuple #[.string (if h then s.extract p.size s.size else s), .bool h]) ∧ w = w' := by
  have HH := Lib.hid hh
  have hle : h = true → p.size ≤ s.size := fun e => by
    subst e
    rw [pre_val] at hh; simp at hh; exact hh.1
  clear hh
  cases h
  all_goals
    have hle' := hle
    clear hle
    simp at hle'
    have hs0 := hs
    have hp0 := hp
    unfold maxLen at hs hp
    go_enter Try.func109, Try.ntmps109
    go_wp2_with (go_at_call 136; refine (hasPrefix' _ _ _ hs0 hp0).mono ?_; rintro e w' ⟨rfl, rfl⟩; rw [HH.out])
    go_ret2
    exact ⟨by simp, rfl⟩
theorem cutSuffix' (s p : ByteArray) (w : World) (hs : s.size ≤ maxLen) (hp : p.size ≤ maxLen) (h : Bool) (hh : Pl.hasSuf s.toList p.toList = h) :
    Calls Try.prog 110 #[.string s, .string p] w fun e w' => e = .returned (.tuple #[.string (if h then s.extract 0 (s.size - p.size) else s), .bool h]) ∧ w = w' := by
  have HH := Lib.hid hh
  have hle : h = true → p.size ≤ s.size := fun e => by
    subst e
    rw [suf_val] at hh; simp at hh; exact hh.1
  clear hh
  cases h
  all_goals
    have hle' := hle
    clear hle
    simp at hle'
    have hs0 := hs
    have hp0 := hp
    unfold maxLen at hs hp
    go_enter Try.func110, Try.ntmps110
    go_wp2_with (go_at_call 137; refine (hasSuffix' _ _ _ hs0 hp0).mono ?_; rintro e w' ⟨rfl, rfl⟩; rw [HH.out])
    go_ret2
    exact ⟨by simp, rfl⟩
theorem cutPrefix (s p : ByteArray) (w : World) (hs : s.size ≤ maxLen) (hp : p.size ≤ maxLen) (h : Bool) (hh : Pl.hasPre s.toList p.toList = h) :
    Calls Try.prog 62 #[.string s, .string p] w fun e w' => e = .returned (.tuple #[.string (if h then s.extract p.size s.size else s), .bool h]) ∧ w = w' := by
  have HH := Lib.hid hh
  clear hh
  cases h
  all_goals
    go_enter Try.func62, Try.ntmps62
    go_wp2_with (go_at_call 109; refine (cutPrefix' _ _ _ hs hp _ HH.out).mono ?_; rintro e w' ⟨rfl, rfl⟩)
    go_ret2
    exact ⟨rfl, rfl⟩
theorem cutSuffix (s p : ByteArray) (w : World) (hs : s.size ≤ maxLen) (hp : p.size ≤ maxLen) (h : Bool) (hh : Pl.hasSuf s.toList p.toList = h) :
    Calls Try.prog 63 #[.string s, .string p] w fun e w' => e = .returned (.tuple #[.string (if h then s.extract 0 (s.size - p.size) else s), .bool h]) ∧ w = w' := by
  have HH := Lib.hid hh
  clear hh
  cases h
  all_goals
    go_enter Try.func63, Try.ntmps63
    go_wp2_with (go_at_call 110; refine (cutSuffix' _ _ _ hs hp _ HH.out).mono ?_; rintro e w' ⟨rfl, rfl⟩)
    go_ret2
    exact ⟨rfl, rfl⟩

/-- what Parse gives: the term, or none -/
def parV (k : Int) (t : ByteArray) (m : Bool) : Value := .tuple #[.agg #[.int .i64 (if m then k else 0), .string (if m then t else ⟨#[]⟩)], .int .i64 (if m then 0 else 2)]

theorem star_size : (⟨#[42]⟩ : ByteArray).size = 1 := rfl


set_option maxHeartbeats 1600000 in
theorem parse_a (s : ByteArray) (w : World) (hs : s.size ≤ maxLen) (hp : Pl.hasPre s.toList (⟨#[42]⟩ : ByteArray).toList = true) (he : s.extract 1 s.size = ⟨#[]⟩) (hm : Pl.may 4 (⟨#[]⟩ : ByteArray).toList = true) :
    Calls Try.prog 25 #[.string s] w fun e w' => e = .returned (parV 4 ⟨#[]⟩ true) ∧ Lo w w' := by
  have HM := Lib.hid hm
  have HP := Lib.hid hp
  clear hm hp
  have HE := Lib.hid he
  clear he
  have z1 : (⟨#[42]⟩ : ByteArray).size ≤ maxLen := by decide
  have z0 : (⟨#[]⟩ : ByteArray).size ≤ maxLen := by decide
  go_enter Try.func25, Try.ntmps25
  go_wp2_with (first
    | (go_at_call 62; refine (cutPrefix _ _ _ hs z1 true HP.out).mono ?_; rw [if_pos rfl, star_size, HE.out]; rintro e w' ⟨rfl, rfl⟩)
    | (go_at_call 23; refine (may _ _ _ (by assumption)).mono ?_; rintro e w1 ⟨rfl, hb⟩; obtain ⟨hc, hf, hz⟩ := hb.facts; have hz0 := hz w.heap.size (by first | assumption | (simp; done) | (simp; omega)); have hq0 := fun o => hc w.heap.size o (by first | assumption | (simp; done) | (simp; omega)); have hz1 := hz (w.heap.size + 1) (by first | assumption | (simp; done) | (simp; omega)); have hq1 := fun o => hc (w.heap.size + 1) o (by first | assumption | (simp; done) | (simp; omega)); rw [HM.out]))
  exact bodyPost_ret (v := parV 4 ⟨#[]⟩ true) (by simp [parV, results, Try.results25, go_sem, hq0, hq1]) rfl ⟨rfl, (by repeat (first | exact Lo.refl _ | assumption | refine Lo.drew ?_ | refine Lo.alloc ?_ _ | refine Lo.setCell ?_ (by first | (dsimp only; omega) | (simp; omega) | (simp; done)) _ | refine Lo.trans ?_ (by assumption)))⟩

set_option maxHeartbeats 1600000 in
theorem parse_b_true (s : ByteArray) (w : World) (hs : s.size ≤ maxLen) (t : ByteArray) (ht : t.size ≤ maxLen) (hp : Pl.hasPre s.toList (⟨#[42]⟩ : ByteArray).toList = true) (he : s.extract 1 s.size = t) (ht0 : t.toList.isEmpty = false) (hm : Pl.may 3 t.toList = true) :
    Calls Try.prog 25 #[.string s] w fun e w' => e = .returned (parV 3 t true) ∧ Lo w w' := by
  have HM := Lib.hid hm
  have HP := Lib.hid hp
  clear hm hp
  have HE := Lib.hid he
  clear he
  have z1 : (⟨#[42]⟩ : ByteArray).size ≤ maxLen := by decide
  have z0 : (⟨#[]⟩ : ByteArray).size ≤ maxLen := by decide
  go_enter Try.func25, Try.ntmps25
  go_wp2_with (first
    | (go_at_call 62; refine (cutPrefix _ _ _ hs z1 true HP.out).mono ?_; rw [if_pos rfl, star_size, HE.out]; rintro e w' ⟨rfl, rfl⟩)
    | (go_at_call 23; refine (may _ _ _ (by assumption)).mono ?_; rintro e w1 ⟨rfl, hb⟩; obtain ⟨hc, hf, hz⟩ := hb.facts; have hz0 := hz w.heap.size (by first | assumption | (simp; done) | (simp; omega)); have hq0 := fun o => hc w.heap.size o (by first | assumption | (simp; done) | (simp; omega)); have hz1 := hz (w.heap.size + 1) (by first | assumption | (simp; done) | (simp; omega)); have hq1 := fun o => hc (w.heap.size + 1) o (by first | assumption | (simp; done) | (simp; omega)); rw [HM.out]))
  exact bodyPost_ret (v := parV 3 t true) (by simp [parV, results, Try.results25, go_sem, hq0, hq1]) rfl ⟨rfl, (by repeat (first | exact Lo.refl _ | assumption | refine Lo.drew ?_ | refine Lo.alloc ?_ _ | refine Lo.setCell ?_ (by first | (dsimp only; omega) | (simp; omega) | (simp; done)) _ | refine Lo.trans ?_ (by assumption)))⟩

set_option maxHeartbeats 1600000 in
theorem parse_c_true (s : ByteArray) (w : World) (hs : s.size ≤ maxLen) (t : ByteArray) (ht : t.size ≤ maxLen) (hp : Pl.hasPre s.toList (⟨#[42]⟩ : ByteArray).toList = false) (hsf : Pl.hasSuf s.toList (⟨#[42]⟩ : ByteArray).toList = true) (he : s.extract 0 (s.size - 1) = t) (hm : Pl.may 2 t.toList = true) :
    Calls Try.prog 25 #[.string s] w fun e w' => e = .returned (parV 2 t true) ∧ Lo w w' := by
  have HM := Lib.hid hm
  have HP := Lib.hid hp
  clear hm hp
  have HE := Lib.hid he
  have HS := Lib.hid hsf
  clear he hsf
  have z1 : (⟨#[42]⟩ : ByteArray).size ≤ maxLen := by decide
  have z0 : (⟨#[]⟩ : ByteArray).size ≤ maxLen := by decide
  go_enter Try.func25, Try.ntmps25
  go_wp2_with (first
    | (go_at_call 62; refine (cutPrefix _ _ _ hs z1 false HP.out).mono ?_; rw [if_neg Bool.false_ne_true]; rintro e w' ⟨rfl, rfl⟩)
    | (go_at_call 63; refine (cutSuffix _ _ _ hs z1 true HS.out).mono ?_; rw [if_pos rfl, star_size, HE.out]; rintro e w' ⟨rfl, rfl⟩)
    | (go_at_call 23; refine (may _ _ _ (by assumption)).mono ?_; rintro e w1 ⟨rfl, hb⟩; obtain ⟨hc, hf, hz⟩ := hb.facts; have hz0 := hz w.heap.size (by first | assumption | (simp; done) | (simp; omega)); have hq0 := fun o => hc w.heap.size o (by first | assumption | (simp; done) | (simp; omega)); have hz1 := hz (w.heap.size + 1) (by first | assumption | (simp; done) | (simp; omega)); have hq1 := fun o => hc (w.heap.size + 1) o (by first | assumption | (simp; done) | (simp; omega)); rw [HM.out]))
  exact bodyPost_ret (v := parV 2 t true) (by simp [parV, results, Try.results25, go_sem, hq0, hq1]) rfl ⟨rfl, (by repeat (first | exact Lo.refl _ | assumption | refine Lo.drew ?_ | refine Lo.alloc ?_ _ | refine Lo.setCell ?_ (by first | (dsimp only; omega) | (simp; omega) | (simp; done)) _ | refine Lo.trans ?_ (by assumption)))⟩

set_option maxHeartbeats 1600000 in
theorem parse_d_true (s : ByteArray) (w : World) (hs : s.size ≤ maxLen) (hp : Pl.hasPre s.toList (⟨#[42]⟩ : ByteArray).toList = false) (hsf : Pl.hasSuf s.toList (⟨#[42]⟩ : ByteArray).toList = false) (hm : Pl.may 1 s.toList = true) :
    Calls Try.prog 25 #[.string s] w fun e w' => e = .returned (parV 1 s true) ∧ Lo w w' := by
  have HM := Lib.hid hm
  have HP := Lib.hid hp
  clear hm hp
  have HS := Lib.hid hsf
  clear hsf
  have z1 : (⟨#[42]⟩ : ByteArray).size ≤ maxLen := by decide
  have z0 : (⟨#[]⟩ : ByteArray).size ≤ maxLen := by decide
  go_enter Try.func25, Try.ntmps25
  go_wp2_with (first
    | (go_at_call 62; refine (cutPrefix _ _ _ hs z1 false HP.out).mono ?_; rw [if_neg Bool.false_ne_true]; rintro e w' ⟨rfl, rfl⟩)
    | (go_at_call 63; refine (cutSuffix _ _ _ hs z1 false HS.out).mono ?_; rw [if_neg Bool.false_ne_true]; rintro e w' ⟨rfl, rfl⟩)
    | (go_at_call 23; refine (may _ _ _ (by assumption)).mono ?_; rintro e w1 ⟨rfl, hb⟩; obtain ⟨hc, hf, hz⟩ := hb.facts; have hz0 := hz w.heap.size (by first | assumption | (simp; done) | (simp; omega)); have hq0 := fun o => hc w.heap.size o (by first | assumption | (simp; done) | (simp; omega)); have hz1 := hz (w.heap.size + 1) (by first | assumption | (simp; done) | (simp; omega)); have hq1 := fun o => hc (w.heap.size + 1) o (by first | assumption | (simp; done) | (simp; omega)); rw [HM.out]))
  exact bodyPost_ret (v := parV 1 s true) (by simp [parV, results, Try.results25, go_sem, hq0, hq1]) rfl ⟨rfl, (by repeat (first | exact Lo.refl _ | assumption | refine Lo.drew ?_ | refine Lo.alloc ?_ _ | refine Lo.setCell ?_ (by first | (dsimp only; omega) | (simp; omega) | (simp; done)) _ | refine Lo.trans ?_ (by assumption)))⟩

set_option maxHeartbeats 1600000 in
theorem parse_b_false (s : ByteArray) (w : World) (hs : s.size ≤ maxLen) (t : ByteArray) (ht : t.size ≤ maxLen) (hp : Pl.hasPre s.toList (⟨#[42]⟩ : ByteArray).toList = true) (he : s.extract 1 s.size = t) (ht0 : t.toList.isEmpty = false) (hm : Pl.may 3 t.toList = false) :
    Calls Try.prog 25 #[.string s] w fun e w' => e = .returned (parV 3 t false) ∧ Lo w w' := by
  have HM := Lib.hid hm
  have HP := Lib.hid hp
  clear hm hp
  have HE := Lib.hid he
  clear he
  have z1 : (⟨#[42]⟩ : ByteArray).size ≤ maxLen := by decide
  have z0 : (⟨#[]⟩ : ByteArray).size ≤ maxLen := by decide
  go_enter Try.func25, Try.ntmps25
  go_wp2_with (first
    | (go_at_call 62; refine (cutPrefix _ _ _ hs z1 true HP.out).mono ?_; rw [if_pos rfl, star_size, HE.out]; rintro e w' ⟨rfl, rfl⟩)
    | (go_at_call 23; refine (may _ _ _ (by assumption)).mono ?_; rintro e w1 ⟨rfl, hb⟩; obtain ⟨hc, hf, hz⟩ := hb.facts; have hz0 := hz w.heap.size (by first | assumption | (simp; done) | (simp; omega)); have hq0 := fun o => hc w.heap.size o (by first | assumption | (simp; done) | (simp; omega)); have hz1 := hz (w.heap.size + 1) (by first | assumption | (simp; done) | (simp; omega)); have hq1 := fun o => hc (w.heap.size + 1) o (by first | assumption | (simp; done) | (simp; omega)); rw [HM.out]))
  exact bodyPost_ret (v := parV 3 t false) (by simp [parV, results, Try.results25, go_sem, hq0, hq1]) rfl ⟨rfl, (by repeat (first | exact Lo.refl _ | assumption | refine Lo.drew ?_ | refine Lo.alloc ?_ _ | refine Lo.setCell ?_ (by first | (dsimp only; omega) | (simp; omega) | (simp; done)) _ | refine Lo.trans ?_ (by assumption)))⟩

set_option maxHeartbeats 1600000 in
theorem parse_c_false (s : ByteArray) (w : World) (hs : s.size ≤ maxLen) (t : ByteArray) (ht : t.size ≤ maxLen) (hp : Pl.hasPre s.toList (⟨#[42]⟩ : ByteArray).toList = false) (hsf : Pl.hasSuf s.toList (⟨#[42]⟩ : ByteArray).toList = true) (he : s.extract 0 (s.size - 1) = t) (hm : Pl.may 2 t.toList = false) :
    Calls Try.prog 25 #[.string s] w fun e w' => e = .returned (parV 2 t false) ∧ Lo w w' := by
  have HM := Lib.hid hm
  have HP := Lib.hid hp
  clear hm hp
  have HE := Lib.hid he
  have HS := Lib.hid hsf
  clear he hsf
  have z1 : (⟨#[42]⟩ : ByteArray).size ≤ maxLen := by decide
  have z0 : (⟨#[]⟩ : ByteArray).size ≤ maxLen := by decide
  go_enter Try.func25, Try.ntmps25
  go_wp2_with (first
    | (go_at_call 62; refine (cutPrefix _ _ _ hs z1 false HP.out).mono ?_; rw [if_neg Bool.false_ne_true]; rintro e w' ⟨rfl, rfl⟩)
    | (go_at_call 63; refine (cutSuffix _ _ _ hs z1 true HS.out).mono ?_; rw [if_pos rfl, star_size, HE.out]; rintro e w' ⟨rfl, rfl⟩)
    | (go_at_call 23; refine (may _ _ _ (by assumption)).mono ?_; rintro e w1 ⟨rfl, hb⟩; obtain ⟨hc, hf, hz⟩ := hb.facts; have hz0 := hz w.heap.size (by first | assumption | (simp; done) | (simp; omega)); have hq0 := fun o => hc w.heap.size o (by first | assumption | (simp; done) | (simp; omega)); have hz1 := hz (w.heap.size + 1) (by first | assumption | (simp; done) | (simp; omega)); have hq1 := fun o => hc (w.heap.size + 1) o (by first | assumption | (simp; done) | (simp; omega)); rw [HM.out]))
  exact bodyPost_ret (v := parV 2 t false) (by simp [parV, results, Try.results25, go_sem, hq0, hq1]) rfl ⟨rfl, (by repeat (first | exact Lo.refl _ | assumption | refine Lo.drew ?_ | refine Lo.alloc ?_ _ | refine Lo.setCell ?_ (by first | (dsimp only; omega) | (simp; omega) | (simp; done)) _ | refine Lo.trans ?_ (by assumption)))⟩

set_option maxHeartbeats 1600000 in
theorem parse_d_false (s : ByteArray) (w : World) (hs : s.size ≤ maxLen) (hp : Pl.hasPre s.toList (⟨#[42]⟩ : ByteArray).toList = false) (hsf : Pl.hasSuf s.toList (⟨#[42]⟩ : ByteArray).toList = false) (hm : Pl.may 1 s.toList = false) :
    Calls Try.prog 25 #[.string s] w fun e w' => e = .returned (parV 1 s false) ∧ Lo w w' := by
  have HM := Lib.hid hm
  have HP := Lib.hid hp
  clear hm hp
  have HS := Lib.hid hsf
  clear hsf
  have z1 : (⟨#[42]⟩ : ByteArray).size ≤ maxLen := by decide
  have z0 : (⟨#[]⟩ : ByteArray).size ≤ maxLen := by decide
  go_enter Try.func25, Try.ntmps25
  go_wp2_with (first
    | (go_at_call 62; refine (cutPrefix _ _ _ hs z1 false HP.out).mono ?_; rw [if_neg Bool.false_ne_true]; rintro e w' ⟨rfl, rfl⟩)
    | (go_at_call 63; refine (cutSuffix _ _ _ hs z1 false HS.out).mono ?_; rw [if_neg Bool.false_ne_true]; rintro e w' ⟨rfl, rfl⟩)
    | (go_at_call 23; refine (may _ _ _ (by assumption)).mono ?_; rintro e w1 ⟨rfl, hb⟩; obtain ⟨hc, hf, hz⟩ := hb.facts; have hz0 := hz w.heap.size (by first | assumption | (simp; done) | (simp; omega)); have hq0 := fun o => hc w.heap.size o (by first | assumption | (simp; done) | (simp; omega)); have hz1 := hz (w.heap.size + 1) (by first | assumption | (simp; done) | (simp; omega)); have hq1 := fun o => hc (w.heap.size + 1) o (by first | assumption | (simp; done) | (simp; omega)); rw [HM.out]))
  exact bodyPost_ret (v := parV 1 s false) (by simp [parV, results, Try.results25, go_sem, hq0, hq1]) rfl ⟨rfl, (by repeat (first | exact Lo.refl _ | assumption | refine Lo.drew ?_ | refine Lo.alloc ?_ _ | refine Lo.setCell ?_ (by first | (dsimp only; omega) | (simp; omega) | (simp; done)) _ | refine Lo.trans ?_ (by assumption)))⟩
end Go.Proofs.Ytlcecabfmemfeaa.WMatch
