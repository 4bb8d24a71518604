/- The walks of auth.lets and auth.all, and of addr.In behind a function value. -/
import Derived.Test.YtlcecabfmemfeaaWIdxSource
import Derived.Test.YtlcecabfmemfeaaWIdxTarget
import Derived.Test.YtlcecabfmemfeaaWIdxWhen
import Derived.Test.YtlcecabfmemfeaaWIdxCidr
import Derived.Test.YtlcecabfmemfeaaWIdxInt
import Derived.Test.YtlcecabfmemfeaaWIdxStr
import Derived.Test.YtlcecabfmemfeaaWAddr
import Derived.Test.YtlcecabfmemfeaaWName
import Derived.Test.YtlcecabfmemfeaaWAny
namespace Go.Proofs.Ytlcecabfmemfeaa.WAuth
set_option linter.unusedVariables false
set_option linter.unusedSimpArgs false
open Go.RowKit Mem BigFrame

theorem letsSource {α : Type} {R : Rel α} (hR : Kept R) {B : Nat} {A : Option Addr} (cap : Nat) {xs : List α} {g : FuncId} {caps : Array Value} {p : α → Bool} (w : World) (hB : B ≤ w.heap.size) (hA : SliceAt R 3 B w A xs) (hn : xs.length ≤ maxLen) (eg : Go.Proofs.Enters Try.prog g) (hf : WIdxSource.Says R B w xs g caps p) :
    Calls Try.prog 75 #[.slice A xs.length cap, .func (.func g) #[] caps] w fun e w' => e = .returned (.bool (xs.isEmpty || xs.any p)) ∧ Lo w w' := by
  have HC := Lib.hid (WIdxSource.containsFunc hR cap w hB hA hn eg hf)
  unfold maxLen at hn
  cases xs with
  | nil =>
    go_enter Try.func75, Try.ntmps75
    go_wp2
    go_ret
    exact ⟨rfl, (by repeat (first | exact Lo.refl _ | assumption | refine Lo.drew ?_ | refine Lo.alloc ?_ _ | refine Lo.setCell ?_ (by first | (dsimp only; omega) | (simp; omega) | (simp; done)) _ | refine Lo.trans ?_ (by assumption)))⟩
  | cons t r =>
    have h0 : ((((t :: r).length : Nat) : Int) == 0) = false := by rw [beq_eq_false_iff_ne]; simp; omega
    obtain ⟨n, hN⟩ : ∃ n, (t :: r).length = n := ⟨_, rfl⟩
    rw [hN] at h0 HC hn ⊢
    clear hN hA
    go_enter Try.func75, Try.ntmps75
    go_wp2_with (go_at_call 115; refine (HC.out).mono ?_; rintro e w1 ⟨rfl, hb⟩)
    go_ret
    exact ⟨rfl, (by repeat (first | exact Lo.refl _ | assumption | refine Lo.drew ?_ | refine Lo.alloc ?_ _ | refine Lo.setCell ?_ (by first | (dsimp only; omega) | (simp; omega) | (simp; done)) _ | refine Lo.trans ?_ (by assumption)))⟩
theorem letsTarget {α : Type} {R : Rel α} (hR : Kept R) {B : Nat} {A : Option Addr} (cap : Nat) {xs : List α} {g : FuncId} {caps : Array Value} {p : α → Bool} (w : World) (hB : B ≤ w.heap.size) (hA : SliceAt R 4 B w A xs) (hn : xs.length ≤ maxLen) (eg : Go.Proofs.Enters Try.prog g) (hf : WIdxTarget.Says R B w xs g caps p) :
    Calls Try.prog 77 #[.slice A xs.length cap, .func (.func g) #[] caps] w fun e w' => e = .returned (.bool (xs.isEmpty || xs.any p)) ∧ Lo w w' := by
  have HC := Lib.hid (WIdxTarget.containsFunc hR cap w hB hA hn eg hf)
  unfold maxLen at hn
  cases xs with
  | nil =>
    go_enter Try.func77, Try.ntmps77
    go_wp2
    go_ret
    exact ⟨rfl, (by repeat (first | exact Lo.refl _ | assumption | refine Lo.drew ?_ | refine Lo.alloc ?_ _ | refine Lo.setCell ?_ (by first | (dsimp only; omega) | (simp; omega) | (simp; done)) _ | refine Lo.trans ?_ (by assumption)))⟩
  | cons t r =>
    have h0 : ((((t :: r).length : Nat) : Int) == 0) = false := by rw [beq_eq_false_iff_ne]; simp; omega
    obtain ⟨n, hN⟩ : ∃ n, (t :: r).length = n := ⟨_, rfl⟩
    rw [hN] at h0 HC hn ⊢
    clear hN hA
    go_enter Try.func77, Try.ntmps77
    go_wp2_with (go_at_call 95; refine (HC.out).mono ?_; rintro e w1 ⟨rfl, hb⟩)
    go_ret
    exact ⟨rfl, (by repeat (first | exact Lo.refl _ | assumption | refine Lo.drew ?_ | refine Lo.alloc ?_ _ | refine Lo.setCell ?_ (by first | (dsimp only; omega) | (simp; omega) | (simp; done)) _ | refine Lo.trans ?_ (by assumption)))⟩
theorem letsCidr {α : Type} {R : Rel α} (hR : Kept R) {B : Nat} {A : Option Addr} (cap : Nat) {xs : List α} {g : FuncId} {caps : Array Value} {p : α → Bool} (w : World) (hB : B ≤ w.heap.size) (hA : SliceAt R 2 B w A xs) (hn : xs.length ≤ maxLen) (eg : Go.Proofs.Enters Try.prog g) (hf : WIdxCidr.Says R B w xs g caps p) :
    Calls Try.prog 82 #[.slice A xs.length cap, .func (.func g) #[] caps] w fun e w' => e = .returned (.bool (xs.isEmpty || xs.any p)) ∧ Lo w w' := by
  have HC := Lib.hid (WIdxCidr.containsFunc hR cap w hB hA hn eg hf)
  unfold maxLen at hn
  cases xs with
  | nil =>
    go_enter Try.func82, Try.ntmps82
    go_wp2
    go_ret
    exact ⟨rfl, (by repeat (first | exact Lo.refl _ | assumption | refine Lo.drew ?_ | refine Lo.alloc ?_ _ | refine Lo.setCell ?_ (by first | (dsimp only; omega) | (simp; omega) | (simp; done)) _ | refine Lo.trans ?_ (by assumption)))⟩
  | cons t r =>
    have h0 : ((((t :: r).length : Nat) : Int) == 0) = false := by rw [beq_eq_false_iff_ne]; simp; omega
    obtain ⟨n, hN⟩ : ∃ n, (t :: r).length = n := ⟨_, rfl⟩
    rw [hN] at h0 HC hn ⊢
    clear hN hA
    go_enter Try.func82, Try.ntmps82
    go_wp2_with (go_at_call 119; refine (HC.out).mono ?_; rintro e w1 ⟨rfl, hb⟩)
    go_ret
    exact ⟨rfl, (by repeat (first | exact Lo.refl _ | assumption | refine Lo.drew ?_ | refine Lo.alloc ?_ _ | refine Lo.setCell ?_ (by first | (dsimp only; omega) | (simp; omega) | (simp; done)) _ | refine Lo.trans ?_ (by assumption)))⟩
theorem letsInt {α : Type} {R : Rel α} (hR : Kept R) {B : Nat} {A : Option Addr} (cap : Nat) {xs : List α} {g : FuncId} {caps : Array Value} {p : α → Bool} (w : World) (hB : B ≤ w.heap.size) (hA : SliceAt R 1 B w A xs) (hn : xs.length ≤ maxLen) (eg : Go.Proofs.Enters Try.prog g) (hf : WIdxInt.Says R B w xs g caps p) :
    Calls Try.prog 89 #[.slice A xs.length cap, .func (.func g) #[] caps] w fun e w' => e = .returned (.bool (xs.isEmpty || xs.any p)) ∧ Lo w w' := by
  have HC := Lib.hid (WIdxInt.containsFunc hR cap w hB hA hn eg hf)
  unfold maxLen at hn
  cases xs with
  | nil =>
    go_enter Try.func89, Try.ntmps89
    go_wp2
    go_ret
    exact ⟨rfl, (by repeat (first | exact Lo.refl _ | assumption | refine Lo.drew ?_ | refine Lo.alloc ?_ _ | refine Lo.setCell ?_ (by first | (dsimp only; omega) | (simp; omega) | (simp; done)) _ | refine Lo.trans ?_ (by assumption)))⟩
  | cons t r =>
    have h0 : ((((t :: r).length : Nat) : Int) == 0) = false := by rw [beq_eq_false_iff_ne]; simp; omega
    obtain ⟨n, hN⟩ : ∃ n, (t :: r).length = n := ⟨_, rfl⟩
    rw [hN] at h0 HC hn ⊢
    clear hN hA
    go_enter Try.func89, Try.ntmps89
    go_wp2_with (go_at_call 125; refine (HC.out).mono ?_; rintro e w1 ⟨rfl, hb⟩)
    go_ret
    exact ⟨rfl, (by repeat (first | exact Lo.refl _ | assumption | refine Lo.drew ?_ | refine Lo.alloc ?_ _ | refine Lo.setCell ?_ (by first | (dsimp only; omega) | (simp; omega) | (simp; done)) _ | refine Lo.trans ?_ (by assumption)))⟩
end Go.Proofs.Ytlcecabfmemfeaa.WAuth
