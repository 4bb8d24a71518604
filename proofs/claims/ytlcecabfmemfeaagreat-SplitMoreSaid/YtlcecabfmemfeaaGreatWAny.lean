/- The walks of chapter 7's functions over rows of terms: Any, Lets, MayAll, and the reference's. -/
import Derived.Test.YtlcecabfmemfeaaGreatWTerm
import Derived.Test.YtlcecabfmemfeaaGreatWIdxTerm
import Derived.Test.YtlcecabfmemfeaaGreatWMatch4
namespace Go.Proofs.YtlcecabfmemfeaaGreat.WMatch
set_option linter.unusedVariables false
set_option linter.unusedSimpArgs false
open Go.RowKit Mem BigFrame

def anyT (s : ByteArray) (ts : List Pl.Term) : Bool := ts.any fun t => Pl.matches_ t.k t.s.toList s.toList
def letsT (s : ByteArray) (ts : List Pl.Term) : Bool := ts.isEmpty || anyT s ts
def mayAllT (ts : List Pl.Term) : Bool := decide (ts.length ≤ 6) && !(ts.any fun t => !Pl.may t.k t.s.toList)

theorem any1 (k : Int) (t s : ByteArray) (b : Nat) (w : World) (zt : t.size ≤ maxLen) (zs : s.size ≤ maxLen) (hc : w.cell? ⟨b, 0, none⟩ = some (.string s)) (hb : b < w.heap.size) :
    Calls Tryz.prog 126 #[.agg #[.int .i64 k, .string t], .pointer (some ⟨b, 0, none⟩)] w fun e w' => e = .returned (.bool (Pl.matches_ k t.toList s.toList)) ∧ Lo w w' := by
  go_enter Tryz.func126, Tryz.ntmps126
  go_wp2_with (go_at_call 127; refine (matches_ _ _ _ _ (by assumption) (by assumption)).mono ?_; rintro e w1 ⟨rfl, hb⟩)
  go_ret
  exact ⟨rfl, (by repeat (first | exact Lo.refl _ | assumption | refine Lo.drew ?_ | refine Lo.alloc ?_ _ | refine Lo.setCell ?_ (by first | (dsimp only; omega) | (simp; omega) | (simp; done)) _ | refine Lo.trans ?_ (by assumption)))⟩
theorem enters_any1 : Enters Tryz.prog 126 := enters_of Tryz.func126 (by kernel_rfl) rfl
theorem any (s : ByteArray) (A : Option Addr) (cap : Nat) (ts : List Pl.Term) {B : Nat} (w : World) (hB : B ≤ w.heap.size) (hA : Terms B w A ts) (zs : s.size ≤ maxLen) (hn : ts.length ≤ maxLen) :
    Calls Tryz.prog 102 #[.string s, .slice A ts.length cap] w fun e w' => e = .returned (.bool (anyT s ts)) ∧ Lo w w' := by
  have hA1 : Terms B (w.alloc (.cells #[.string s] 9)) A ts := hA.lo ((Lo.refl _).alloc _) hB
  have hc : (w.alloc (.cells #[.string s] 9)).cell? ⟨w.heap.size, 0, none⟩ = some (.string s) := by simp
  have hS : WIdxTerm.Says TermR B (w.alloc (.cells #[.string s] 9)) ts 126 #[.pointer (some ⟨w.heap.size, 0, none⟩)] (fun t => Pl.matches_ t.k t.s.toList s.toList) := by
    intro w' x c0 c1 hx hlo hr
    obtain ⟨he, hz⟩ := hr
    injection he with e0 he; injection he with e1 he; subst e0 e1
    exact any1 _ _ _ _ _ hz zs (lo_keep hlo hc) (hlo.facts.2.2 _ (by simp))
  have HC := Lib.hid (WIdxTerm.containsFunc TermR.kept cap (w.alloc (.cells #[.string s] 9)) (by simp; omega) hA1 hn enters_any1 hS)
  clear hc hS hA1
  go_enter Tryz.func102, Tryz.ntmps102
  go_wp2_with (go_at_call 125; refine (HC.out).mono ?_; rintro e w1 ⟨rfl, hb⟩)
  go_ret
  exact ⟨rfl, (by repeat (first | exact Lo.refl _ | assumption | refine Lo.drew ?_ | refine Lo.alloc ?_ _ | refine Lo.setCell ?_ (by first | (dsimp only; omega) | (simp; omega) | (simp; done)) _ | refine Lo.trans ?_ (by assumption)))⟩
theorem lets (s : ByteArray) (A : Option Addr) (cap : Nat) (ts : List Pl.Term) {B : Nat} (w : World) (hB : B ≤ w.heap.size) (hA : Terms B w A ts) (zs : s.size ≤ maxLen) (hn : ts.length ≤ maxLen) :
    Calls Tryz.prog 91 #[.string s, .slice A ts.length cap] w fun e w' => e = .returned (.bool (letsT s ts)) ∧ Lo w w' := by
  have HC := Lib.hid (any s A cap ts w hB hA zs hn)
  unfold letsT
  unfold maxLen at hn
  cases ts with
  | nil =>
    go_enter Tryz.func91, Tryz.ntmps91
    go_wp2
    go_ret
    exact ⟨rfl, (by repeat (first | exact Lo.refl _ | assumption | refine Lo.drew ?_ | refine Lo.alloc ?_ _ | refine Lo.setCell ?_ (by first | (dsimp only; omega) | (simp; omega) | (simp; done)) _ | refine Lo.trans ?_ (by assumption)))⟩
  | cons t r =>
    have h0 : ((((t :: r).length : Nat) : Int) == 0) = false := by rw [beq_eq_false_iff_ne]; simp; omega
    obtain ⟨n, hN⟩ : ∃ n, (t :: r).length = n := ⟨_, rfl⟩
    rw [hN] at h0 HC hn ⊢
    clear hN
    go_enter Tryz.func91, Tryz.ntmps91
    go_wp2_with (go_at_call 102; refine (HC.out).mono ?_; rintro e w1 ⟨rfl, hb⟩)
    go_ret
    exact ⟨rfl, (by repeat (first | exact Lo.refl _ | assumption | refine Lo.drew ?_ | refine Lo.alloc ?_ _ | refine Lo.setCell ?_ (by first | (dsimp only; omega) | (simp; omega) | (simp; done)) _ | refine Lo.trans ?_ (by assumption)))⟩
set_option maxHeartbeats 800000 in
theorem refAny (s : ByteArray) (A : Option Addr) (cap : Nat) (ts : List Pl.Term) {B : Nat} (w : World) (hB : B ≤ w.heap.size) (hA : Terms B w A ts) (zs : s.size ≤ maxLen) (hn : ts.length ≤ maxLen) :
    Calls Tryz.prog 77 #[.string s, .slice A ts.length cap] w fun e w' => e = .returned (.bool (anyT s ts)) ∧ Lo w w' := by
  unfold maxLen at hn
  unfold anyT
  go_enter Tryz.func77, Tryz.ntmps77
  go_wp2
  go_loopw [5] (fun i wr => ∃ k : Nat, k ≤ ts.length ∧ i = .int .i64 k ∧ Lo w wr ∧ Hid ((ts.take k).any (fun t => Pl.matches_ t.k t.s.toList s.toList) = false)) (fun i _ => ts.length - (intOf i).toNat)
  case atStart => exact ⟨0, Nat.zero_le _, rfl, Lo.refl _, Lib.hid rfl⟩
  case round =>
    obtain ⟨k, hk, rfl, hlo, hall⟩ := hrel
    by_cases hlt : k < ts.length
    · obtain ⟨b, off, rfl, hb, hc0, hc1, hz⟩ := (hA.lo hlo hB).at_ hlt
      cases hp : Pl.matches_ ts[k].k ts[k].s.toList s.toList
      all_goals
        have HP := Lib.hid hp
        clear hp
        go_wp2_with (go_at_call 106; refine (refMatches _ _ _ _ (by assumption) (by assumption)).mono ?_; rintro e w1 ⟨rfl, hb1⟩; rw [HP.out])
        first
          | (go_ret
             exact ⟨ret_bool (any_bad (p := fun t => Pl.matches_ t.k t.s.toList s.toList) hlt HP.out).symm, (by repeat (first | exact Lo.refl _ | assumption | refine Lo.drew ?_ | refine Lo.alloc ?_ _ | refine Lo.setCell ?_ (by first | (dsimp only; omega) | (simp; omega) | (simp; done)) _ | refine Lo.trans ?_ (by assumption)))⟩)
          | (go_roundw
             case rel => exact ⟨k + 1, by omega, by go_num, (by repeat (first | exact Lo.refl _ | assumption | refine Lo.drew ?_ | refine Lo.alloc ?_ _ | refine Lo.setCell ?_ (by first | (dsimp only; omega) | (simp; omega) | (simp; done)) _ | refine Lo.trans ?_ (by assumption))), Lib.hid (any_snoc (p := fun t => Pl.matches_ t.k t.s.toList s.toList) hall.out hlt HP.out)⟩
             case measure => simp [intOf]; omega)
    · have HF := hall.out
      rw [List.take_of_length_le (by omega)] at HF
      have HG := Lib.hid HF
      clear HF
      go_wp2
      go_ret
      exact ⟨ret_bool HG.out.symm, (by repeat (first | exact Lo.refl _ | assumption | refine Lo.drew ?_ | refine Lo.alloc ?_ _ | refine Lo.setCell ?_ (by first | (dsimp only; omega) | (simp; omega) | (simp; done)) _ | refine Lo.trans ?_ (by assumption)))⟩
end Go.Proofs.YtlcecabfmemfeaaGreat.WMatch
