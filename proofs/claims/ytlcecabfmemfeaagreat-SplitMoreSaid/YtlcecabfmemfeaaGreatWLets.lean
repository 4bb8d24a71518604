/- The walks of auth.lets and auth.all, and of addr.In behind a function value. -/
import Derived.Test.YtlcecabfmemfeaaGreatWIdxSource
import Derived.Test.YtlcecabfmemfeaaGreatWIdxTarget
import Derived.Test.YtlcecabfmemfeaaGreatWIdxWhen
import Derived.Test.YtlcecabfmemfeaaGreatWIdxCidr
import Derived.Test.YtlcecabfmemfeaaGreatWIdxInt
import Derived.Test.YtlcecabfmemfeaaGreatWIdxStr
import Derived.Test.YtlcecabfmemfeaaGreatWAddr
import Derived.Test.YtlcecabfmemfeaaGreatWName
import Derived.Test.YtlcecabfmemfeaaGreatWAny
namespace Go.Proofs.YtlcecabfmemfeaaGreat.WAuth
set_option linter.unusedVariables false
set_option linter.unusedSimpArgs false
open Go.RowKit Mem BigFrame

theorem letsSource {α : Type} {R : Rel α} (hR : Kept R) {B : Nat} {A : Option Addr} (cap : Nat) {xs : List α} {g : FuncId} {caps : Array Value} {p : α → Bool} (w : World) (hB : B ≤ w.heap.size) (hA : SliceAt R 3 B w A xs) (hn : xs.length ≤ maxLen) (eg : Go.Proofs.Enters Tryz.prog g) (hf : WIdxSource.Says R B w xs g caps p) :
    Calls Tryz.prog 64 #[.slice A xs.length cap, .func (.func g) #[] caps] w fun e w' => e = .returned (.bool (xs.isEmpty || xs.any p)) ∧ Lo w w' := by
  have HC := Lib.hid (WIdxSource.containsFunc hR cap w hB hA hn eg hf)
  unfold maxLen at hn
  cases xs with
  | nil =>
    go_enter Tryz.func64, Tryz.ntmps64
    go_wp2
    go_ret
    exact ⟨rfl, (by repeat (first | exact Lo.refl _ | assumption | refine Lo.drew ?_ | refine Lo.alloc ?_ _ | refine Lo.setCell ?_ (by first | (dsimp only; omega) | (simp; omega) | (simp; done)) _ | refine Lo.trans ?_ (by assumption)))⟩
  | cons t r =>
    have h0 : ((((t :: r).length : Nat) : Int) == 0) = false := by rw [beq_eq_false_iff_ne]; simp; omega
    obtain ⟨n, hN⟩ : ∃ n, (t :: r).length = n := ⟨_, rfl⟩
    rw [hN] at h0 HC hn ⊢
    clear hN hA
    go_enter Tryz.func64, Tryz.ntmps64
    go_wp2_with (go_at_call 89; refine (HC.out).mono ?_; rintro e w1 ⟨rfl, hb⟩)
    go_ret
    exact ⟨rfl, (by repeat (first | exact Lo.refl _ | assumption | refine Lo.drew ?_ | refine Lo.alloc ?_ _ | refine Lo.setCell ?_ (by first | (dsimp only; omega) | (simp; omega) | (simp; done)) _ | refine Lo.trans ?_ (by assumption)))⟩
theorem letsTarget {α : Type} {R : Rel α} (hR : Kept R) {B : Nat} {A : Option Addr} (cap : Nat) {xs : List α} {g : FuncId} {caps : Array Value} {p : α → Bool} (w : World) (hB : B ≤ w.heap.size) (hA : SliceAt R 4 B w A xs) (hn : xs.length ≤ maxLen) (eg : Go.Proofs.Enters Tryz.prog g) (hf : WIdxTarget.Says R B w xs g caps p) :
    Calls Tryz.prog 67 #[.slice A xs.length cap, .func (.func g) #[] caps] w fun e w' => e = .returned (.bool (xs.isEmpty || xs.any p)) ∧ Lo w w' := by
  have HC := Lib.hid (WIdxTarget.containsFunc hR cap w hB hA hn eg hf)
  unfold maxLen at hn
  cases xs with
  | nil =>
    go_enter Tryz.func67, Tryz.ntmps67
    go_wp2
    go_ret
    exact ⟨rfl, (by repeat (first | exact Lo.refl _ | assumption | refine Lo.drew ?_ | refine Lo.alloc ?_ _ | refine Lo.setCell ?_ (by first | (dsimp only; omega) | (simp; omega) | (simp; done)) _ | refine Lo.trans ?_ (by assumption)))⟩
  | cons t r =>
    have h0 : ((((t :: r).length : Nat) : Int) == 0) = false := by rw [beq_eq_false_iff_ne]; simp; omega
    obtain ⟨n, hN⟩ : ∃ n, (t :: r).length = n := ⟨_, rfl⟩
    rw [hN] at h0 HC hn ⊢
    clear hN hA
    go_enter Tryz.func67, Tryz.ntmps67
    go_wp2_with (go_at_call 81; refine (HC.out).mono ?_; rintro e w1 ⟨rfl, hb⟩)
    go_ret
    exact ⟨rfl, (by repeat (first | exact Lo.refl _ | assumption | refine Lo.drew ?_ | refine Lo.alloc ?_ _ | refine Lo.setCell ?_ (by first | (dsimp only; omega) | (simp; omega) | (simp; done)) _ | refine Lo.trans ?_ (by assumption)))⟩
theorem letsCidr {α : Type} {R : Rel α} (hR : Kept R) {B : Nat} {A : Option Addr} (cap : Nat) {xs : List α} {g : FuncId} {caps : Array Value} {p : α → Bool} (w : World) (hB : B ≤ w.heap.size) (hA : SliceAt R 2 B w A xs) (hn : xs.length ≤ maxLen) (eg : Go.Proofs.Enters Tryz.prog g) (hf : WIdxCidr.Says R B w xs g caps p) :
    Calls Tryz.prog 92 #[.slice A xs.length cap, .func (.func g) #[] caps] w fun e w' => e = .returned (.bool (xs.isEmpty || xs.any p)) ∧ Lo w w' := by
  have HC := Lib.hid (WIdxCidr.containsFunc hR cap w hB hA hn eg hf)
  unfold maxLen at hn
  cases xs with
  | nil =>
    go_enter Tryz.func92, Tryz.ntmps92
    go_wp2
    go_ret
    exact ⟨rfl, (by repeat (first | exact Lo.refl _ | assumption | refine Lo.drew ?_ | refine Lo.alloc ?_ _ | refine Lo.setCell ?_ (by first | (dsimp only; omega) | (simp; omega) | (simp; done)) _ | refine Lo.trans ?_ (by assumption)))⟩
  | cons t r =>
    have h0 : ((((t :: r).length : Nat) : Int) == 0) = false := by rw [beq_eq_false_iff_ne]; simp; omega
    obtain ⟨n, hN⟩ : ∃ n, (t :: r).length = n := ⟨_, rfl⟩
    rw [hN] at h0 HC hn ⊢
    clear hN hA
    go_enter Tryz.func92, Tryz.ntmps92
    go_wp2_with (go_at_call 119; refine (HC.out).mono ?_; rintro e w1 ⟨rfl, hb⟩)
    go_ret
    exact ⟨rfl, (by repeat (first | exact Lo.refl _ | assumption | refine Lo.drew ?_ | refine Lo.alloc ?_ _ | refine Lo.setCell ?_ (by first | (dsimp only; omega) | (simp; omega) | (simp; done)) _ | refine Lo.trans ?_ (by assumption)))⟩
theorem letsInt {α : Type} {R : Rel α} (hR : Kept R) {B : Nat} {A : Option Addr} (cap : Nat) {xs : List α} {g : FuncId} {caps : Array Value} {p : α → Bool} (w : World) (hB : B ≤ w.heap.size) (hA : SliceAt R 1 B w A xs) (hn : xs.length ≤ maxLen) (eg : Go.Proofs.Enters Tryz.prog g) (hf : WIdxInt.Says R B w xs g caps p) :
    Calls Tryz.prog 95 #[.slice A xs.length cap, .func (.func g) #[] caps] w fun e w' => e = .returned (.bool (xs.isEmpty || xs.any p)) ∧ Lo w w' := by
  have HC := Lib.hid (WIdxInt.containsFunc hR cap w hB hA hn eg hf)
  unfold maxLen at hn
  cases xs with
  | nil =>
    go_enter Tryz.func95, Tryz.ntmps95
    go_wp2
    go_ret
    exact ⟨rfl, (by repeat (first | exact Lo.refl _ | assumption | refine Lo.drew ?_ | refine Lo.alloc ?_ _ | refine Lo.setCell ?_ (by first | (dsimp only; omega) | (simp; omega) | (simp; done)) _ | refine Lo.trans ?_ (by assumption)))⟩
  | cons t r =>
    have h0 : ((((t :: r).length : Nat) : Int) == 0) = false := by rw [beq_eq_false_iff_ne]; simp; omega
    obtain ⟨n, hN⟩ : ∃ n, (t :: r).length = n := ⟨_, rfl⟩
    rw [hN] at h0 HC hn ⊢
    clear hN hA
    go_enter Tryz.func95, Tryz.ntmps95
    go_wp2_with (go_at_call 122; refine (HC.out).mono ?_; rintro e w1 ⟨rfl, hb⟩)
    go_ret
    exact ⟨rfl, (by repeat (first | exact Lo.refl _ | assumption | refine Lo.drew ?_ | refine Lo.alloc ?_ _ | refine Lo.setCell ?_ (by first | (dsimp only; omega) | (simp; omega) | (simp; done)) _ | refine Lo.trans ?_ (by assumption)))⟩
end Go.Proofs.YtlcecabfmemfeaaGreat.WAuth
