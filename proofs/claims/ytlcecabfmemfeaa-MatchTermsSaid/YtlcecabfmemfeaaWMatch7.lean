/- The walks of chapter 7's functions, seventh part: Print. -/
import Derived.Test.YtlcecabfmemfeaaWMatch2
namespace Go.Proofs.Ytlcecabfmemfeaa.WMatch
set_option linter.unusedVariables false
set_option linter.unusedSimpArgs false
open Go.RowKit Mem BigFrame

@[go_sem, simp] theorem drew_size (w : World) : w.drew.heap.size = w.heap.size := rfl
set_option maxHeartbeats 800000 in
theorem print_no (k : Int) (s : ByteArray) (w : World) (hs : s.size ≤ maxLen) (hm : Pl.may k s.toList = false) :
    Calls Try.prog 24 #[.agg #[.int .i64 k, .string s]] w fun e w' => e = .returned (.tuple #[.string ⟨#[]⟩, .int .i64 1]) ∧ Lo w w' := by
  have HA := Lib.hid hm
  clear hm
  go_enter Try.func24, Try.ntmps24
  go_wp2_with (go_at_call 23; refine (may _ _ _ (by assumption)).mono ?_; rintro e w1 ⟨rfl, hb⟩; obtain ⟨hc, hf, hz⟩ := hb.facts; have hz0 := hz w.heap.size (by first | assumption | (simp; done) | (simp; omega)); have hq0 := fun o => hc w.heap.size o (by first | assumption | (simp; done) | (simp; omega)); rw [HA.out])
  go_ret2
  exact ⟨rfl, (by repeat (first | exact Lo.refl _ | assumption | refine Lo.drew ?_ | refine Lo.alloc ?_ _ | refine Lo.setCell ?_ (by first | (dsimp only; omega) | (simp; omega) | (simp; done)) _ | refine Lo.trans ?_ (by assumption)))⟩

theorem below_len {a b s : ByteArray} (ha : a.size ≤ 1) (hb : b.size ≤ 1) (hs : s.size ≤ 64) : (a ++ s ++ b).size ≤ 66 := by rw [size_app, size_app]; omega

set_option maxHeartbeats 4000000 in
theorem print_any (k : Int) (f : FuncId) (a b s : ByteArray) (w : World) (hs : s.size ≤ maxLen) (hm : Pl.may k s.toList = true) (h64 : s.size ≤ 64) (hsa : a.size ≤ 1) (hsb : b.size ≤ 1)
    (hi : ∀ w : World, (Instr.index 102 kindsV (.int .i64 k)).run Try.prog w = .ok (.agg #[.func (.func f) #[] #[], .string a, .string b]) w) :
    Calls Try.prog 24 #[.agg #[.int .i64 k, .string s]] w fun e w' => e = .returned (.tuple #[.string (a ++ s ++ b), .int .i64 0]) ∧ Lo w w' := by
  have HA := Lib.hid hm
  clear hm
  go_enter Try.func24, Try.ntmps24
  go_wp2_with (go_at_call 23; refine (may _ _ _ (by assumption)).mono ?_; rintro e w1 ⟨rfl, hb⟩; obtain ⟨hc, hf, hz⟩ := hb.facts; have hz0 := hz w.heap.size (by first | assumption | (simp; done) | (simp; omega)); have hq0 := fun o => hc w.heap.size o (by first | assumption | (simp; done) | (simp; omega)); rw [HA.out])
  go_region_with (go_at_call 61; refine (kinds _).mono ?_; rintro e w' ⟨rfl, hb⟩; obtain ⟨hc, hf, hz⟩ := hb.facts; have hz0 := hz w.heap.size (by first | assumption | (simp; done) | (simp; omega)); have hq0 := fun o => hc w.heap.size o (by first | assumption | (simp; done) | (simp; omega)))
  all_goals
    go_wp2
    all_goals
      go_ret2
      exact ⟨rfl, (by repeat (first | exact Lo.refl _ | assumption | refine Lo.drew ?_ | refine Lo.alloc ?_ _ | refine Lo.setCell ?_ (by first | (dsimp only; omega) | (simp; omega) | (simp; done)) _ | refine Lo.trans ?_ (by assumption)))⟩
theorem print (k : Int) (s : ByteArray) (w : World) (hs : s.size ≤ maxLen) :
    Calls Try.prog 24 #[.agg #[.int .i64 k, .string s]] w fun e w' => e = .returned (.tuple #[.string (bs (if Pl.may k s.toList then Pl.text k s.toList else [])), .int .i64 (if Pl.may k s.toList then 0 else 1)]) ∧ Lo w w' := by
  cases hm : Pl.may k s.toList with
  | false => exact print_no k s w hs hm
  | true =>
    have h64 := may_size hm
    have tl42 : (⟨#[42]⟩ : ByteArray).toList = [42] := ByteArray.toList_mk [42]
    have e : ∀ a b : ByteArray, bs (a.toList ++ s.toList ++ b.toList) = a ++ s ++ b := fun a b => by rw [← toList_append, ← toList_append, toList_bs]
    rcases Pl.may_kinds hm with rfl | rfl | rfl | rfl
    · have := print_any 1 _ _ _ s w hs hm h64 (by decide) (by decide) idx1
      rw [← e, tl0] at this; simpa [Pl.text] using this
    · have := print_any 2 _ _ _ s w hs hm h64 (by decide) (by decide) idx2
      rw [← e, tl0, tl42] at this; simpa [Pl.text] using this
    · have := print_any 3 _ _ _ s w hs hm h64 (by decide) (by decide) idx3
      rw [← e, tl0, tl42] at this; simpa [Pl.text] using this
    · have h0 := Pl.may_four hm
      have := print_any 4 _ _ _ s w hs hm h64 (by decide) (by decide) idx4
      rw [← e, tl0, tl42, h0] at this; simpa [Pl.text] using this
end Go.Proofs.Ytlcecabfmemfeaa.WMatch
