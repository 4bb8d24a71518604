/- The walks of chapter 7's functions, second part. -/
import Derived.Test.YtlcecabfmemfeaaGreatWMatch
namespace Go.Proofs.YtlcecabfmemfeaaGreat.WMatch
set_option linter.unusedVariables false
set_option linter.unusedSimpArgs false
open Go.RowKit Mem BigFrame


/-- what stands at a kind's place -/
def kindV (f : FuncId) (a b : ByteArray) : Value := .agg #[.func (.func f) #[] #[], .string a, .string b]
theorem idx1 (w : World) : (Instr.index 158 kindsV (.int .i64 1)).run Tryz.prog w = .ok (kindV 138 ⟨#[]⟩ ⟨#[]⟩) w := by kernel_rfl
theorem idx2 (w : World) : (Instr.index 158 kindsV (.int .i64 2)).run Tryz.prog w = .ok (kindV 139 ⟨#[]⟩ ⟨#[42]⟩) w := by kernel_rfl
theorem idx3 (w : World) : (Instr.index 158 kindsV (.int .i64 3)).run Tryz.prog w = .ok (kindV 140 ⟨#[42]⟩ ⟨#[]⟩) w := by kernel_rfl
theorem idx4 (w : World) : (Instr.index 158 kindsV (.int .i64 4)).run Tryz.prog w = .ok (kindV 141 ⟨#[42]⟩ ⟨#[]⟩) w := by kernel_rfl
theorem fld0 (f : FuncId) (a b : ByteArray) (w : World) : (Instr.field 157 (kindV f a b) 0).run Tryz.prog w = .ok (.func (.func f) #[] #[]) w := by kernel_rfl

set_option maxHeartbeats 800000 in
theorem matches_no (k : Int) (s t : ByteArray) (w : World) (hs : s.size ≤ maxLen) (hm : Pl.may k s.toList = false) :
    Calls Tryz.prog 127 #[.agg #[.int .i64 k, .string s], .string t] w fun e w' => e = .returned (.bool false) ∧ Lo w w' := by
  have hc : ∀ w : World, Calls Tryz.prog 136 #[.agg #[.int .i64 k, .string s]] w fun e w' => e = .returned (.bool false) ∧ Lo w w' := fun w => by
    have := may k s w hs; rwa [hm] at this
  clear hm
  have HC := Lib.hid hc
  clear hc
  go_enter Tryz.func127, Tryz.ntmps127
  go_wp2_with fail
  refine wp_region_ext (by kernel_rfl) (by kernel_rfl) ?_
  repeat (first | go_big_quiet_skip | (go_big_quiet_want; go_big_quiet_op; first | go_big_quiet_on | go_big_quiet_call ((go_at_call 136; exact quiet_ext (HC.out _)))))
  refine wpQuiet_nil ?_
  intro wq hq
  obtain ⟨hqc, hqf, hqz⟩ := hq.facts
  go_wp2
  go_ret
  exact ⟨rfl, (by repeat (first | exact Lo.refl _ | assumption | refine Lo.drew ?_ | refine Lo.alloc ?_ _ | refine Lo.setCell ?_ (by first | (dsimp only; omega) | (simp; omega) | (simp; done)) _ | refine Lo.trans ?_ (by assumption)))⟩

set_option maxHeartbeats 800000 in
theorem matches_1 (s t : ByteArray) (w : World) (hs : s.size ≤ maxLen) (ht : t.size ≤ maxLen) (hm : Pl.may 1 s.toList = true) :
    Calls Tryz.prog 127 #[.agg #[.int .i64 1, .string s], .string t] w fun e w' => e = .returned (.bool (Pl.hits 1 s.toList t.toList)) ∧ Lo w w' := by
  have hc : ∀ w : World, Calls Tryz.prog 136 #[.agg #[.int .i64 1, .string s]] w fun e w' => e = .returned (.bool true) ∧ Lo w w' := fun w => by
    have := may 1 s w hs; rwa [hm] at this
  clear hm
  have HC := Lib.hid hc
  clear hc
  have i1 := idx1
  have f0 := fld0
  go_enter Tryz.func127, Tryz.ntmps127
  go_wp2_with fail
  refine wp_region_ext (by kernel_rfl) (by kernel_rfl) ?_
  repeat (first | go_big_quiet_skip | (go_big_quiet_want; go_big_quiet_op; first | go_big_quiet_on | go_big_quiet_call ((first | (go_at_call 136; exact quiet_ext (HC.out _)) | (go_at_call 137; exact quiet_ext (kinds _)) | (go_at_call 138; exact quiet_ext_same (kinds1 _ _ _))))))
  refine wpQuiet_nil ?_
  intro wq hq
  obtain ⟨hqc, hqf, hqz⟩ := hq.facts
  go_wp2
  go_ret
  exact ⟨rfl, (by repeat (first | exact Lo.refl _ | assumption | refine Lo.drew ?_ | refine Lo.alloc ?_ _ | refine Lo.setCell ?_ (by first | (dsimp only; omega) | (simp; omega) | (simp; done)) _ | refine Lo.trans ?_ (by assumption)))⟩

set_option maxHeartbeats 800000 in
theorem matches_2 (s t : ByteArray) (w : World) (hs : s.size ≤ maxLen) (ht : t.size ≤ maxLen) (hm : Pl.may 2 s.toList = true) :
    Calls Tryz.prog 127 #[.agg #[.int .i64 2, .string s], .string t] w fun e w' => e = .returned (.bool (Pl.hits 2 s.toList t.toList)) ∧ Lo w w' := by
  have hc : ∀ w : World, Calls Tryz.prog 136 #[.agg #[.int .i64 2, .string s]] w fun e w' => e = .returned (.bool true) ∧ Lo w w' := fun w => by
    have := may 2 s w hs; rwa [hm] at this
  clear hm
  have HC := Lib.hid hc
  clear hc
  have i2 := idx2
  have f0 := fld0
  go_enter Tryz.func127, Tryz.ntmps127
  go_wp2_with fail
  refine wp_region_ext (by kernel_rfl) (by kernel_rfl) ?_
  repeat (first | go_big_quiet_skip | (go_big_quiet_want; go_big_quiet_op; first | go_big_quiet_on | go_big_quiet_call ((first | (go_at_call 136; exact quiet_ext (HC.out _)) | (go_at_call 137; exact quiet_ext (kinds _)) | (go_at_call 139; exact quiet_ext_same (hasPrefix _ _ _ ht hs))))))
  refine wpQuiet_nil ?_
  intro wq hq
  obtain ⟨hqc, hqf, hqz⟩ := hq.facts
  go_wp2
  go_ret
  exact ⟨rfl, (by repeat (first | exact Lo.refl _ | assumption | refine Lo.drew ?_ | refine Lo.alloc ?_ _ | refine Lo.setCell ?_ (by first | (dsimp only; omega) | (simp; omega) | (simp; done)) _ | refine Lo.trans ?_ (by assumption)))⟩

set_option maxHeartbeats 800000 in
theorem matches_3 (s t : ByteArray) (w : World) (hs : s.size ≤ maxLen) (ht : t.size ≤ maxLen) (hm : Pl.may 3 s.toList = true) :
    Calls Tryz.prog 127 #[.agg #[.int .i64 3, .string s], .string t] w fun e w' => e = .returned (.bool (Pl.hits 3 s.toList t.toList)) ∧ Lo w w' := by
  have hc : ∀ w : World, Calls Tryz.prog 136 #[.agg #[.int .i64 3, .string s]] w fun e w' => e = .returned (.bool true) ∧ Lo w w' := fun w => by
    have := may 3 s w hs; rwa [hm] at this
  clear hm
  have HC := Lib.hid hc
  clear hc
  have i3 := idx3
  have f0 := fld0
  go_enter Tryz.func127, Tryz.ntmps127
  go_wp2_with fail
  refine wp_region_ext (by kernel_rfl) (by kernel_rfl) ?_
  repeat (first | go_big_quiet_skip | (go_big_quiet_want; go_big_quiet_op; first | go_big_quiet_on | go_big_quiet_call ((first | (go_at_call 136; exact quiet_ext (HC.out _)) | (go_at_call 137; exact quiet_ext (kinds _)) | (go_at_call 140; exact quiet_ext_same (hasSuffix _ _ _ ht hs))))))
  refine wpQuiet_nil ?_
  intro wq hq
  obtain ⟨hqc, hqf, hqz⟩ := hq.facts
  go_wp2
  go_ret
  exact ⟨rfl, (by repeat (first | exact Lo.refl _ | assumption | refine Lo.drew ?_ | refine Lo.alloc ?_ _ | refine Lo.setCell ?_ (by first | (dsimp only; omega) | (simp; omega) | (simp; done)) _ | refine Lo.trans ?_ (by assumption)))⟩

set_option maxHeartbeats 800000 in
theorem matches_4 (s t : ByteArray) (w : World) (hs : s.size ≤ maxLen) (ht : t.size ≤ maxLen) (hm : Pl.may 4 s.toList = true) :
    Calls Tryz.prog 127 #[.agg #[.int .i64 4, .string s], .string t] w fun e w' => e = .returned (.bool (Pl.hits 4 s.toList t.toList)) ∧ Lo w w' := by
  have hc : ∀ w : World, Calls Tryz.prog 136 #[.agg #[.int .i64 4, .string s]] w fun e w' => e = .returned (.bool true) ∧ Lo w w' := fun w => by
    have := may 4 s w hs; rwa [hm] at this
  clear hm
  have HC := Lib.hid hc
  clear hc
  have i4 := idx4
  have f0 := fld0
  go_enter Tryz.func127, Tryz.ntmps127
  go_wp2_with fail
  refine wp_region_ext (by kernel_rfl) (by kernel_rfl) ?_
  repeat (first | go_big_quiet_skip | (go_big_quiet_want; go_big_quiet_op; first | go_big_quiet_on | go_big_quiet_call ((first | (go_at_call 136; exact quiet_ext (HC.out _)) | (go_at_call 137; exact quiet_ext (kinds _)) | (go_at_call 141; exact quiet_ext_same (kinds2 _ _ _))))))
  refine wpQuiet_nil ?_
  intro wq hq
  obtain ⟨hqc, hqf, hqz⟩ := hq.facts
  go_wp2
  go_ret
  exact ⟨rfl, (by repeat (first | exact Lo.refl _ | assumption | refine Lo.drew ?_ | refine Lo.alloc ?_ _ | refine Lo.setCell ?_ (by first | (dsimp only; omega) | (simp; omega) | (simp; done)) _ | refine Lo.trans ?_ (by assumption)))⟩

theorem matches_ (k : Int) (s t : ByteArray) (w : World) (hs : s.size ≤ maxLen) (ht : t.size ≤ maxLen) :
    Calls Tryz.prog 127 #[.agg #[.int .i64 k, .string s], .string t] w fun e w' => e = .returned (.bool (Pl.matches_ k s.toList t.toList)) ∧ Lo w w' := by
  by_cases hm : Pl.may k s.toList = true
  · rw [Pl.matches_of_may hm]
    rcases Pl.may_kinds hm with rfl | rfl | rfl | rfl
    · exact matches_1 s t w hs ht hm
    · exact matches_2 s t w hs ht hm
    · exact matches_3 s t w hs ht hm
    · exact matches_4 s t w hs ht hm
  · have hm' : Pl.may k s.toList = false := by simpa using hm
    have : Pl.matches_ k s.toList t.toList = false := by simp [Pl.matches_, hm']
    rw [this]
    exact matches_no k s t w hs hm'
end Go.Proofs.YtlcecabfmemfeaaGreat.WMatch
