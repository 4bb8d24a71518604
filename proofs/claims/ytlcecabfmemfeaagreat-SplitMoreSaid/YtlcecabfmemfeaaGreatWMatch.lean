/- The walks of chapter 7's functions. -/
import Derived.Test.YtlcecabfmemfeaaGreatMem
import Derived.Test.YtlcecabfmemfeaaGreatPlMatch
namespace Go.Proofs.YtlcecabfmemfeaaGreat.WMatch
set_option linter.unusedVariables false
set_option linter.unusedSimpArgs false
open Go.RowKit Mem

theorem extract_list (s : ByteArray) (a b : Nat) : (s.extract a b).toList = (s.toList.drop a).take (b - a) := by
  have h : s = ByteArray.mk s.toList.toArray := by rw [ByteArray.toList_eq]
  conv => lhs; rw [h, ByteArray.extract_mk]
  rw [ByteArray.toList_mk]
theorem pre_val (s p : ByteArray) : Pl.hasPre s.toList p.toList = (decide (p.size ≤ s.size) && ((s.extract 0 p.size).toList == p.toList)) := by
  unfold Pl.hasPre
  rw [extract_list]
  simp [toList_len]
theorem suf_val (s p : ByteArray) : Pl.hasSuf s.toList p.toList = (decide (p.size ≤ s.size) && ((s.extract (s.size - p.size) s.size).toList == p.toList)) := by
  unfold Pl.hasSuf
  rw [extract_list]
  simp only [toList_len]
  by_cases h : p.size ≤ s.size
  · rw [List.take_of_length_le (by rw [List.length_drop, toList_len]; omega)]
  · simp [h]
theorem okc_false {c : UInt8} (h : (((c.toNat : Int) < 33 ∨ 126 < (c.toNat : Int)) ∨ ((c.toNat : Int) == 42) = true) ∨ ((c.toNat : Int) == 44) = true) : Pl.okc c = false := by
  simp only [beq_iff_eq] at h
  simp [Pl.okc]; omega
theorem okc_true {c : UInt8} (h : ((33 ≤ (c.toNat : Int) ∧ (c.toNat : Int) ≤ 126) ∧ ((c.toNat : Int) == 42) = false) ∧ ((c.toNat : Int) == 44) = false) : Pl.okc c = true := by
  simp only [beq_eq_false_iff_ne] at h
  simp [Pl.okc]; omega
theorem may_bad (k : Int) {s : ByteArray} {n : Nat} (hn : n < s.size) (h : Pl.okc s[n] = false) : Pl.may k s.toList = false := by
  unfold Pl.may; rw [all_bad hn h]; simp
theorem may_end (k : Int) {s : ByteArray} (h : s.toList.all Pl.okc = true) : Pl.may k s.toList = (if k = 4 then s.toList.isEmpty else decide (1 ≤ k) && decide (k ≤ 3) && decide (1 ≤ s.size) && decide (s.size ≤ 64)) := by
  unfold Pl.may; rw [h, toList_len]; simp

theorem may_size {k : Int} {s : ByteArray} (h : Pl.may k s.toList = true) : s.size ≤ 64 := by rw [← toList_len]; exact Pl.may_len h
theorem tl0 : (⟨#[]⟩ : ByteArray).toList = [] := ByteArray.toList_mk []
theorem bs0 : bs [] = ⟨#[]⟩ := rfl
theorem app_nil (s : ByteArray) : (s ++ (⟨#[]⟩ : ByteArray)) = s := bs_inj (by rw [toList_append, tl0]; simp)
theorem nil_app (s : ByteArray) : ((⟨#[]⟩ : ByteArray) ++ s) = s := bs_inj (by rw [toList_append, tl0]; simp)
theorem tl120 : (⟨#[120]⟩ : ByteArray).toList = [120] := ByteArray.toList_mk [120]
theorem tl121 : (⟨#[121]⟩ : ByteArray).toList = [121] := ByteArray.toList_mk [121]
theorem size_app (a b : ByteArray) : (a ++ b).size = a.size + b.size := by rw [← toList_len, toList_append, List.length_append, toList_len, toList_len]

theorem hasPrefix' (s p : ByteArray) (w : World) (hs : s.size ≤ maxLen) (hp : p.size ≤ maxLen) :
    Calls Tryz.prog 142 #[.string s, .string p] w fun e w' => e = .returned (.bool (Pl.hasPre s.toList p.toList)) ∧ w = w' := by
  unfold maxLen at hs hp
  have hv := pre_val s p
  by_cases h : p.size ≤ s.size
  all_goals
    rw [hv]
    clear hv
    go_enter Tryz.func142, Tryz.ntmps142
    go_wp2
    go_ret
    exact ⟨ret_bool (by simp [h]), rfl⟩

set_option maxHeartbeats 400000 in
theorem may (k : Int) (s : ByteArray) (w : World) (hs : s.size ≤ maxLen) :
    Calls Tryz.prog 136 #[.agg #[.int .i64 k, .string s]] w fun e w' => e = .returned (.bool (Pl.may k s.toList)) ∧ Lo w w' := by
  unfold maxLen at hs
  go_enter Tryz.func136, Tryz.ntmps136
  go_wp2
  go_loop [3, 4] (fun i c => ∃ n : Nat, n ≤ s.size ∧ i = .int .i64 n ∧ (s.toList.take n).all Pl.okc = true) (fun i _ => s.size - (intOf i).toNat)
  case atStart => exact ⟨0, Nat.zero_le _, rfl, rfl⟩
  case round =>
    obtain ⟨n, hn, rfl, hall⟩ := hrel
    have HA := Lib.hid hall
    clear hall
    by_cases hlt : n < s.size
    · go_wp2
      all_goals first
        | (go_ret
           exact ⟨ret_bool (by rw [may_bad k hlt (okc_false (by first | assumption | (simp only [beq_iff_eq]; omega)))]), (by repeat (first | exact Lo.refl _ | assumption | refine Lo.drew ?_ | refine Lo.alloc ?_ _ | refine Lo.setCell ?_ (by first | (dsimp only; omega) | (simp; omega) | (simp; done)) _ | refine Lo.trans ?_ (by assumption)))⟩)
        | (go_round
           case rel => exact ⟨n + 1, by omega, by go_num, all_snoc HA.out hlt (okc_true (by assumption))⟩
           case measure => simp [intOf]; omega)
        | skip
      go_ways
    · have HF : s.toList.all Pl.okc = true := by have := HA.out; rwa [take_full s hlt] at this
      have HG := Lib.hid (may_end k HF)
      clear HF
      go_wp2
      all_goals first
        | (go_ret
           refine ⟨ret_bool ?_, (by repeat (first | exact Lo.refl _ | assumption | refine Lo.drew ?_ | refine Lo.alloc ?_ _ | refine Lo.setCell ?_ (by first | (dsimp only; omega) | (simp; omega) | (simp; done)) _ | refine Lo.trans ?_ (by assumption)))⟩
           rw [HG.out]
           first
             | (have h4 : k = 4 := by simpa using (show (k == 4) = true by assumption)
                rw [if_pos h4]; done)
             | (have h4 : k = 4 := by simpa using (show (k == 4) = true by assumption)
                rw [if_pos h4]; simp; done)
             | (have h4 : ¬ k = 4 := by simpa using (show (k == 4) = false by assumption)
                rw [if_neg h4, Bool.eq_iff_iff]; simp; omega))

theorem hasSuffix' (s p : ByteArray) (w : World) (hs : s.size ≤ maxLen) (hp : p.size ≤ maxLen) :
    Calls Tryz.prog 143 #[.string s, .string p] w fun e w' => e = .returned (.bool (Pl.hasSuf s.toList p.toList)) ∧ w = w' := by
  unfold maxLen at hs hp
  have hv := suf_val s p
  by_cases h : p.size ≤ s.size
  all_goals
    rw [hv]
    clear hv
    go_enter Tryz.func143, Tryz.ntmps143
    go_wp2
    go_ret
    exact ⟨ret_bool (by simp [h]), rfl⟩
theorem hasPrefix (s p : ByteArray) (w : World) (hs : s.size ≤ maxLen) (hp : p.size ≤ maxLen) :
    Calls Tryz.prog 139 #[.string s, .string p] w fun e w' => e = .returned (.bool (Pl.hasPre s.toList p.toList)) ∧ w = w' := by
  go_enter Tryz.func139, Tryz.ntmps139
  go_wp2_with (go_at_call 142; refine (hasPrefix' _ _ _ hs hp).mono ?_; rintro e w' ⟨rfl, rfl⟩)
  go_ret
  exact ⟨rfl, rfl⟩
theorem hasSuffix (s p : ByteArray) (w : World) (hs : s.size ≤ maxLen) (hp : p.size ≤ maxLen) :
    Calls Tryz.prog 140 #[.string s, .string p] w fun e w' => e = .returned (.bool (Pl.hasSuf s.toList p.toList)) ∧ w = w' := by
  go_enter Tryz.func140, Tryz.ntmps140
  go_wp2_with (go_at_call 143; refine (hasSuffix' _ _ _ hs hp).mono ?_; rintro e w' ⟨rfl, rfl⟩)
  go_ret
  exact ⟨rfl, rfl⟩
theorem kinds1 (s p : ByteArray) (w : World) :
    Calls Tryz.prog 138 #[.string s, .string p] w fun e w' => e = .returned (.bool (s.toList == p.toList)) ∧ w = w' := by
  go_enter Tryz.func138, Tryz.ntmps138
  go_wp2
  go_ret
  exact ⟨rfl, rfl⟩
theorem kinds2 (s p : ByteArray) (w : World) :
    Calls Tryz.prog 141 #[.string s, .string p] w fun e w' => e = .returned (.bool (!s.toList.isEmpty)) ∧ w = w' := by
  go_enter Tryz.func141, Tryz.ntmps141
  go_wp2
  go_ret
  exact ⟨ret_bool (by simp), rfl⟩
def kindsV : Value := .agg #[.nilFunc, .string ⟨#[]⟩, .string ⟨#[]⟩, .func (.func 138) #[] #[], .string ⟨#[]⟩, .string ⟨#[]⟩, .func (.func 139) #[] #[], .string ⟨#[]⟩, .string ⟨#[42]⟩, .func (.func 140) #[] #[], .string ⟨#[42]⟩, .string ⟨#[]⟩, .func (.func 141) #[] #[], .string ⟨#[42]⟩, .string ⟨#[]⟩]
set_option maxHeartbeats 400000 in
theorem kinds (w : World) :
    Calls Tryz.prog 137 #[] w fun e w' => e = .returned kindsV ∧ Lo w w' := by
  go_enter Tryz.func137, Tryz.ntmps137
  go_wp2
  go_outline
  exact bodyPost_ret (v := kindsV) (by simp [results, Tryz.results137, go_sem, kindsV]) rfl ⟨rfl, (by repeat (first | exact Lo.refl _ | assumption | refine Lo.drew ?_ | refine Lo.alloc ?_ _ | refine Lo.setCell ?_ (by first | (dsimp only; omega) | (simp; omega) | (simp; done)) _ | refine Lo.trans ?_ (by assumption)))⟩
end Go.Proofs.YtlcecabfmemfeaaGreat.WMatch
