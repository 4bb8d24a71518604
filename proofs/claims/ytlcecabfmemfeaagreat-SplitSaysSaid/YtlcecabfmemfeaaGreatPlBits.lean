/- Plain: addresses and nets, bit by bit. -/
import Derived.Test.YtlcecabfmemfeaaGreatWAddr
namespace Go.Proofs.YtlcecabfmemfeaaGreat.Pl
set_option linter.unusedVariables false
set_option linter.unusedSimpArgs false
open Go Go.RowKit WAddr
def bit (a : Int) (i : Nat) : Bool := a.toNat.testBit (31 - i)
def refMayC (c : Cidr) : Bool := decide (0 ≤ c.bits) && decide (c.bits ≤ 32) && (List.range 32).all fun i => decide ((i : Int) < c.bits) || !bit c.addr i
def refInC (c : Cidr) (a : Int) : Bool := ((List.range 32).all fun i => decide (c.bits ≤ (i : Int)) || bit a i == bit c.addr i) && refMayC c
theorem mask_bit {k j : Nat} (hk : k ≤ 32) : (4294967296 - 2 ^ k : Nat).testBit j = (decide (k ≤ j) && decide (j < 32)) := by
  have hp : 1 ≤ 2 ^ k := Nat.one_le_two_pow
  have hq : 2 ^ k ≤ 2 ^ 32 := Nat.pow_le_pow_right (by omega) hk
  have e : (4294967296 - 2 ^ k : Nat) = 2 ^ 32 - ((2 ^ k - 1) + 1) := by omega
  rw [e, Nat.testBit_two_pow_sub_succ (by omega), Nat.testBit_two_pow_sub_one]
  by_cases h : j < k <;> by_cases h2 : j < 32 <;> simp [h, h2] <;> omega
theorem low_zero {x k : Nat} (hk : k ≤ 32) : (x % 2 ^ k = 0) ↔ ∀ i, i < 32 → 32 - k ≤ i → x.testBit (31 - i) = false := by
  constructor
  · intro h i hi hb
    have := Nat.testBit_mod_two_pow x k (31 - i)
    rw [h] at this
    simpa [show 31 - i < k by omega] using this.symm
  · intro h
    refine Nat.eq_of_testBit_eq fun j => ?_
    rw [Nat.testBit_mod_two_pow, Nat.zero_testBit]
    by_cases hj : j < k
    · have := h (31 - j) (by omega) (by omega)
      rw [show 31 - (31 - j) = j by omega] at this
      simp [this]
    · simp [hj]
theorem high_eq {a x k : Nat} (hk : k ≤ 32) (ha : a < 2 ^ 32) (hx : x < 2 ^ 32) (h0 : x % 2 ^ k = 0) : (a &&& (4294967296 - 2 ^ k) = x) ↔ ∀ i, i < 32 → i < 32 - k → a.testBit (31 - i) = x.testBit (31 - i) := by
  constructor
  · intro h i hi hb
    rw [← h, Nat.testBit_and, mask_bit hk]
    simp [show k ≤ 31 - i by omega, show 31 - i < 32 by omega]
  · intro h
    refine Nat.eq_of_testBit_eq fun j => ?_
    rw [Nat.testBit_and, mask_bit hk]
    by_cases h32 : j < 32
    · by_cases hj : k ≤ j
      · have := h (31 - j) (by omega) (by omega)
        rw [show 31 - (31 - j) = j by omega] at this
        simp [this, hj, h32]
      · have := (low_zero hk).1 h0 (31 - j) (by omega) (by omega)
        rw [show 31 - (31 - j) = j by omega] at this
        simp [this, hj]
    · have : x.testBit j = false := Nat.testBit_lt_two_pow (Nat.lt_of_lt_of_le hx (Nat.pow_le_pow_right (by omega) (by omega)))
      simp [this, h32]
theorem wf_u32 {n : Int} (h : (Lit.int .u32 n).wf = true) : 0 ≤ n ∧ n ≤ 4294967295 := by
  simp [Lit.wf, IntKind.min, IntKind.max, IntKind.signed, IntKind.bits] at h
  omega
theorem wrap_u32 {n : Int} (h : 0 ≤ n ∧ n ≤ 4294967295) : IntKind.u32.wrap n = n := by
  unfold IntKind.wrap IntKind.signed IntKind.bits
  simp only [Bool.false_and, Bool.false_eq_true, if_false]
  exact Int.emod_eq_of_lt h.1 (by omega)
theorem ofInt_toNat {n : Nat} (h : n < 2 ^ 32) : (BitVec.ofInt 32 (n : Int)).toNat = n := by
  rw [BitVec.ofInt_natCast, BitVec.toNat_ofNat]; exact Nat.mod_eq_of_lt h
theorem maskN_nat {b : Int} (h0 : 0 ≤ b) (h1 : b ≤ 32) : maskN b = (((4294967296 - 2 ^ (32 - b.toNat)) % 4294967296 : Nat) : Int) := by
  have hc : clamp b = b.toNat := by unfold clamp; omega
  have hq : (2 : Nat) ^ (32 - b.toNat) ≤ 2 ^ 32 := Nat.pow_le_pow_right (by omega) (by omega)
  unfold maskN
  rw [hc, Int.natCast_emod, Int.ofNat_sub hq]
  simp
theorem and_mask {a : Nat} {b : Int} (ha : a < 2 ^ 32) (h0 : 0 ≤ b) (h1 : b ≤ 32) : bits .and .u32 (a : Int) (maskN b) = ((a &&& (4294967296 - 2 ^ (32 - b.toNat)) : Nat) : Int) := by
  rw [maskN_nat h0 h1]
  have hp : 1 ≤ 2 ^ (32 - b.toNat) := Nat.one_le_two_pow
  have hm : (4294967296 - 2 ^ (32 - b.toNat)) % 4294967296 = 4294967296 - 2 ^ (32 - b.toNat) := Nat.mod_eq_of_lt (by omega)
  rw [hm]
  show IntKind.u32.wrap ((BitVec.ofInt 32 (a : Int) &&& BitVec.ofInt 32 ((4294967296 - 2 ^ (32 - b.toNat) : Nat) : Int)).toNat : Int) = _
  rw [BitVec.toNat_and, ofInt_toNat ha, ofInt_toNat (by omega)]
  have : a &&& (4294967296 - 2 ^ (32 - b.toNat)) ≤ a := Nat.and_le_left
  exact wrap_u32 (by omega)
theorem andNot_mask {a : Nat} {b : Int} (ha : a < 2 ^ 32) (h0 : 0 ≤ b) (h1 : b ≤ 32) : bits .andNot .u32 (a : Int) (maskN b) = ((a % 2 ^ (32 - b.toNat) : Nat) : Int) := by
  rw [maskN_nat h0 h1]
  have hp : 1 ≤ 2 ^ (32 - b.toNat) := Nat.one_le_two_pow
  have hq : (2 : Nat) ^ (32 - b.toNat) ≤ 2 ^ 32 := Nat.pow_le_pow_right (by omega) (by omega)
  have hm : (4294967296 - 2 ^ (32 - b.toNat)) % 4294967296 = 4294967296 - 2 ^ (32 - b.toNat) := Nat.mod_eq_of_lt (by omega)
  rw [hm]
  show IntKind.u32.wrap ((BitVec.ofInt 32 (a : Int) &&& ~~~BitVec.ofInt 32 ((4294967296 - 2 ^ (32 - b.toNat) : Nat) : Int)).toNat : Int) = _
  rw [BitVec.toNat_and, BitVec.toNat_not, ofInt_toNat ha, ofInt_toNat (by omega)]
  have e : 2 ^ 32 - 1 - (4294967296 - 2 ^ (32 - b.toNat)) = 2 ^ (32 - b.toNat) - 1 := by omega
  rw [e, Nat.and_two_pow_sub_one_eq_mod]
  have := Nat.mod_le a (2 ^ (32 - b.toNat))
  exact wrap_u32 (by omega)
theorem refMayC_eq (c : Cidr) (hc : (Lit.int .u32 c.addr).wf = true) : refMayC c = mayC c := by
  obtain ⟨ha0, ha1⟩ := wf_u32 hc
  unfold refMayC mayC
  by_cases h0 : 0 ≤ c.bits
  · by_cases h1 : c.bits ≤ 32
    · rw [decide_eq_true h0, decide_eq_true h1, Bool.eq_iff_iff]
      obtain ⟨a, e⟩ : ∃ a : Nat, c.addr = a := ⟨c.addr.toNat, by omega⟩
      rw [e, andNot_mask (by omega) h0 h1]
      simp only [Bool.true_and, List.all_eq_true, List.mem_range, Bool.or_eq_true, decide_eq_true_eq, Bool.not_eq_true', beq_iff_eq]
      rw [Int.natCast_eq_zero, low_zero (by omega)]
      unfold bit
      simp only [Int.toNat_natCast]
      constructor
      · intro h i hi hb; exact (h i hi).resolve_left (by omega)
      · intro h i hi
        by_cases hb : (i : Int) < c.bits
        · exact .inl hb
        · exact .inr (h i hi (by omega))
    · simp [h1]
  · simp [h0]
theorem refInC_eq (c : Cidr) (x : Int) (hc : (Lit.int .u32 c.addr).wf = true) (hx : (Lit.int .u32 x).wf = true) : refInC c x = inC c x := by
  unfold refInC inC
  rw [refMayC_eq c hc]
  cases hm : mayC c with
  | false => simp
  | true =>
    rw [Bool.and_true, Bool.true_and]
    obtain ⟨ha0, ha1⟩ := wf_u32 hc
    obtain ⟨hb0, hb1⟩ := wf_u32 hx
    unfold mayC at hm
    simp only [Bool.and_eq_true, decide_eq_true_eq, beq_iff_eq] at hm
    obtain ⟨⟨h0, h1⟩, h2⟩ := hm
    obtain ⟨a, e⟩ : ∃ a : Nat, c.addr = a := ⟨c.addr.toNat, by omega⟩
    obtain ⟨y, e'⟩ : ∃ y : Nat, x = y := ⟨x.toNat, by omega⟩
    rw [e] at h2 ⊢
    rw [e']
    rw [andNot_mask (by omega) h0 h1, Int.natCast_eq_zero] at h2
    rw [and_mask (by omega) h0 h1, Bool.eq_iff_iff]
    simp only [List.all_eq_true, List.mem_range, Bool.or_eq_true, decide_eq_true_eq, beq_iff_eq, Int.natCast_inj]
    rw [high_eq (by omega) (by omega) (by omega) h2]
    unfold bit
    simp only [Int.toNat_natCast]
    constructor
    · intro h i hi hb; exact (h i hi).resolve_left (by omega)
    · intro h i hi
      by_cases hb : c.bits ≤ (i : Int)
      · exact .inl hb
      · exact .inr (h i hi (by omega))
end Go.Proofs.YtlcecabfmemfeaaGreat.Pl
