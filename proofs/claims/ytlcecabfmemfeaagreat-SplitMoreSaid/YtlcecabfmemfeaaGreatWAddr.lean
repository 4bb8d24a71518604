/- The walks of addr: Mask, May, In. -/
import Derived.Test.YtlcecabfmemfeaaGreatRel13
namespace Go.Proofs.YtlcecabfmemfeaaGreat.WAddr
set_option linter.unusedVariables false
set_option linter.unusedSimpArgs false
open Go.RowKit Mem BigFrame

/-- bits cut to 0 .. 32 -/
def clamp (b : Int) : Nat := (min (max b 0) 32).toNat
def maskN (b : Int) : Int := (4294967296 - 2 ^ (32 - clamp b)) % 4294967296
theorem clamp_le (b : Int) : clamp b ≤ 32 := by unfold clamp; omega
theorem pow_le (n : Nat) (h : n ≤ 32) : 1 ≤ (2 : Int) ^ n ∧ (2 : Int) ^ n ≤ 4294967296 := by
  have h1 : (2 : Nat) ^ n ≤ 2 ^ 32 := Nat.pow_le_pow_right (by omega) h
  have h2 : 1 ≤ (2 : Nat) ^ n := Nat.one_le_two_pow
  have e : ((2 ^ n : Nat) : Int) = (2 : Int) ^ n := by simp
  rw [← e]
  omega

theorem mask (b : Int) (w : World) : Calls Tryz.prog 121 #[.int .i64 b] w fun e w' => e = .returned (.int .u32 (maskN b)) ∧ w = w' := by
  by_cases h0 : b < 0
  · have hv : maskN b = 0 := by
      have hc : clamp b = 0 := by unfold clamp; omega
      unfold maskN; rw [hc]; rfl
    rw [hv]
    clear hv
    go_enter Tryz.func121, Tryz.ntmps121
    go_wp2
    go_ret
    exact ⟨rfl, rfl⟩
  · by_cases h1 : 32 < b
    · have hv : maskN b = 4294967295 := by
        have hc : clamp b = 32 := by unfold clamp; omega
        unfold maskN; rw [hc]; rfl
      rw [hv]
      clear hv
      go_enter Tryz.func121, Tryz.ntmps121
      go_wp2
      go_ret
      exact ⟨rfl, rfl⟩
    · have he : (32 - b).toNat = 32 - b.toNat := by omega
      have hp := pow_le (32 - b.toNat) (by omega)
      have hv : maskN b = 4294967296 - 2 ^ (32 - b.toNat) := by
        have hc : clamp b = b.toNat := by unfold clamp; omega
        unfold maskN; rw [hc]
        generalize (2 : Int) ^ (32 - b.toNat) = y at *
        omega
      rw [hv]
      clear hv
      go_enter Tryz.func121, Tryz.ntmps121
      go_wp2
      go_ret
      exact ⟨rfl, rfl⟩

/-- may a net be? -/
def mayC (c : Pl.Cidr) : Bool := decide (0 ≤ c.bits) && decide (c.bits ≤ 32) && (bits .andNot .u32 c.addr (maskN c.bits) == 0)
def inC (c : Pl.Cidr) (a : Int) : Bool := mayC c && (bits .and .u32 a (maskN c.bits) == c.addr)

theorem mayA (c : Pl.Cidr) (w : World) : Calls Tryz.prog 120 #[.agg #[.int .u32 c.addr, .int .i64 c.bits]] w fun e w' => e = .returned (.bool (mayC c)) ∧ Lo w w' := by
  obtain ⟨a, b⟩ := c
  unfold mayC
  simp only
  by_cases h0 : 0 ≤ b
  · by_cases h1 : b ≤ 32
    · have hd0 : decide (0 ≤ b) = true := by simpa using h0
      have hd1 : decide (b ≤ 32) = true := by simpa using h1
      rw [hd0, hd1]
      go_enter Tryz.func120, Tryz.ntmps120
      go_wp2_with fail
      refine wp_region_ext (by kernel_rfl) (by kernel_rfl) ?_
      repeat (first | go_big_quiet_skip | (go_big_quiet_want; go_big_quiet_op; first | go_big_quiet_on | go_big_quiet_call (((go_at_call 121; exact quiet_ext_same (mask _ _))))))
      refine wpQuiet_nil ?_
      intro wq hq
      obtain ⟨hqc, hqf, hqz⟩ := hq.facts
      go_wp2
      go_ret
      exact ⟨rfl, (by repeat (first | exact Lo.refl _ | assumption | refine Lo.drew ?_ | refine Lo.alloc ?_ _ | refine Lo.setCell ?_ (by first | (dsimp only; omega) | (simp; omega) | (simp; done)) _ | refine Lo.trans ?_ (by assumption)))⟩
    · have hd0 : decide (0 ≤ b) = true := by simpa using h0
      have hd1 : decide (b ≤ 32) = false := by simpa using h1
      rw [hd0, hd1]
      go_enter Tryz.func120, Tryz.ntmps120
      go_wp2_with fail
      refine wp_region_ext (by kernel_rfl) (by kernel_rfl) ?_
      repeat (first | go_big_quiet_skip | (go_big_quiet_want; go_big_quiet_op; first | go_big_quiet_on | go_big_quiet_call (((go_at_call 121; exact quiet_ext_same (mask _ _))))))
      refine wpQuiet_nil ?_
      intro wq hq
      obtain ⟨hqc, hqf, hqz⟩ := hq.facts
      go_wp2
      go_ret
      exact ⟨rfl, (by repeat (first | exact Lo.refl _ | assumption | refine Lo.drew ?_ | refine Lo.alloc ?_ _ | refine Lo.setCell ?_ (by first | (dsimp only; omega) | (simp; omega) | (simp; done)) _ | refine Lo.trans ?_ (by assumption)))⟩
  · have hd0 : decide (0 ≤ b) = false := by simpa using h0
    rw [hd0]
    go_enter Tryz.func120, Tryz.ntmps120
    go_wp2_with fail
    refine wp_region_ext (by kernel_rfl) (by kernel_rfl) ?_
    repeat (first | go_big_quiet_skip | (go_big_quiet_want; go_big_quiet_op; first | go_big_quiet_on | go_big_quiet_call (((go_at_call 121; exact quiet_ext_same (mask _ _))))))
    refine wpQuiet_nil ?_
    intro wq hq
    obtain ⟨hqc, hqf, hqz⟩ := hq.facts
    go_wp2
    go_ret
    exact ⟨rfl, (by repeat (first | exact Lo.refl _ | assumption | refine Lo.drew ?_ | refine Lo.alloc ?_ _ | refine Lo.setCell ?_ (by first | (dsimp only; omega) | (simp; omega) | (simp; done)) _ | refine Lo.trans ?_ (by assumption)))⟩
theorem inA (c : Pl.Cidr) (x : Int) (w : World) : Calls Tryz.prog 94 #[.agg #[.int .u32 c.addr, .int .i64 c.bits], .int .u32 x] w fun e w' => e = .returned (.bool (inC c x)) ∧ Lo w w' := by
  unfold inC
  cases hm : mayC c
  all_goals
    have hc : ∀ w : World, Calls Tryz.prog 120 #[.agg #[.int .u32 c.addr, .int .i64 c.bits]] w fun e w' => e = .returned (.bool (mayC c)) ∧ Lo w w' := fun w => mayA c w
    rw [hm] at hc
    have HC := Lib.hid hc
    clear hc hm
    go_enter Tryz.func94, Tryz.ntmps94
    go_wp2_with fail
    refine wp_region_ext (by kernel_rfl) (by kernel_rfl) ?_
    repeat (first | go_big_quiet_skip | (go_big_quiet_want; go_big_quiet_op; first | go_big_quiet_on | go_big_quiet_call ((first | (go_at_call 120; exact quiet_ext (HC.out _)) | (go_at_call 121; exact quiet_ext_same (mask _ _))))))
    refine wpQuiet_nil ?_
    intro wq hq
    obtain ⟨hqc, hqf, hqz⟩ := hq.facts
    go_wp2
    go_ret
    exact ⟨rfl, (by repeat (first | exact Lo.refl _ | assumption | refine Lo.drew ?_ | refine Lo.alloc ?_ _ | refine Lo.setCell ?_ (by first | (dsimp only; omega) | (simp; omega) | (simp; done)) _ | refine Lo.trans ?_ (by assumption)))⟩
end Go.Proofs.YtlcecabfmemfeaaGreat.WAddr
