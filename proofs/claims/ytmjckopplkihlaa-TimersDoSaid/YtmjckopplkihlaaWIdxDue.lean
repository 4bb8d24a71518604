/- slices.IndexFunc and ContainsFunc at gatepost/api.Due: a row of elements, a function value. (Written by mk_index.py.) -/
import Derived.Test.YtmjckopplkihlaaMem
import Derived.Shelf.Abstract
namespace Go.Proofs.Ytmjckopplkihlaa.WIdxDue
set_option linter.unusedVariables false
set_option linter.unusedSimpArgs false
open Go.RowKit Mem BigFrame

def findI {α : Type} (p : α → Bool) (xs : List α) : Int := match xs.findIdx? p with | some k => (k : Int) | none => -1
theorem findI_at {α : Type} {p : α → Bool} {xs : List α} {k : Nat} (hk : k < xs.length) (hp : p xs[k] = true) (h : (xs.take k).any p = false) : findI p xs = (k : Int) := by
  unfold findI
  have : xs.findIdx? p = some k := by
    rw [List.findIdx?_eq_some_iff_getElem]
    refine ⟨hk, hp, fun j hj => ?_⟩
    rw [List.any_eq_false] at h
    have hm : xs[j]'(by omega) ∈ xs.take k := by
      rw [List.mem_take_iff_getElem]
      exact ⟨j, by omega, rfl⟩
    simpa using h _ hm
  rw [this]
theorem findI_none {α : Type} {p : α → Bool} {xs : List α} (h : xs.any p = false) : findI p xs = -1 := by
  unfold findI
  have : xs.findIdx? p = none := by
    rw [List.findIdx?_eq_none_iff]
    rw [List.any_eq_false] at h
    intro x hx; simpa using h x hx
  rw [this]
theorem findI_any {α : Type} {p : α → Bool} {xs : List α} : decide (0 ≤ findI p xs) = xs.any p := by
  unfold findI
  cases h : xs.findIdx? p with
  | none =>
    rw [List.findIdx?_eq_none_iff] at h
    have : xs.any p = false := by rw [List.any_eq_false]; intro x hx; simp [h x hx]
    rw [this]; rfl
  | some k =>
    rw [List.findIdx?_eq_some_iff_getElem] at h
    obtain ⟨hk, hp, _⟩ := h
    have : xs.any p = true := by rw [List.any_eq_true]; exact ⟨_, List.getElem_mem hk, hp⟩
    rw [this]; simp
theorem any_snoc' {α : Type} {l : List α} {p : α → Bool} {n : Nat} (h : (l.take n).any p = false) (hn : n < l.length) (hp : p l[n] = false) : (l.take (n + 1)).any p = false := by
  rw [List.take_succ_eq_append_getElem hn, List.any_append, h]; simp [hp]

/-- what a function value gives, at each element of the row, in each later world -/
def Says {α : Type} (R : Rel α) (B : Nat) (w : World) (xs : List α) (g : FuncId) (caps : Array Value) (p : α → Bool) : Prop :=
  ∀ (w' : World) (x : α) (c0 c1 c2 : Value), x ∈ xs → Lo w w' → R B w' x [c0, c1, c2] → Calls Try.prog g (#[.agg #[c0, c1, c2]] ++ caps) w' fun e w'' => e = .returned (.bool (p x)) ∧ Lo w' w''

set_option maxRecDepth 100000 in
set_option maxHeartbeats 800000 in
theorem indexFunc {α : Type} {R : Rel α} (hR : Kept R) {B : Nat} {A : Option Addr} (cap : Nat) {xs : List α} {g : FuncId} {caps : Array Value} {p : α → Bool} (w : World) (hB : B ≤ w.heap.size) (hA : SliceAt R 3 B w A xs) (hn : xs.length ≤ maxLen) (eg : Go.Proofs.Enters Try.prog g) (hf : Says R B w xs g caps p) :
    Calls Try.prog 41 #[.slice A xs.length cap, .func (.func g) #[] caps] w fun e w' => e = .returned (.int .i64 (findI p xs)) ∧ Lo w w' := by
  unfold maxLen at hn
  unfold Go.Proofs.Enters at eg
  go_enter Try.func41, Try.ntmps41
  go_wp2
  go_loopw [5, 8] (fun _ i wr => ∃ k : Nat, k ≤ xs.length ∧ i = .int .i64 k ∧ Lo w wr ∧ Hid ((xs.take k).any p = false)) (fun _ i _ => xs.length - (intOf i).toNat)
  case atStart => exact ⟨0, Nat.zero_le _, rfl, Lo.refl _, Lib.hid rfl⟩
  case round =>
    obtain ⟨k, hk, rfl, hlo, hall⟩ := hrel
    by_cases hlt : k < xs.length
    · obtain ⟨b, off, cs, rfl, hb, hl, hc, hr⟩ := (hA.lo hR hlo hB) k xs[k] (List.getElem?_eq_getElem hlt)
      obtain ⟨c0, c1, c2, rfl⟩ : ∃ c0 c1 c2, cs = [c0, c1, c2] := by
        match cs, hl with
        | [c0, c1, c2], _ => exact ⟨c0, c1, c2, rfl⟩
      have hc0 : wr.cell? ⟨b, off + k * 3, none⟩ = some c0 := hc 0 _ rfl
      have hc1 : wr.cell? ⟨b, off + k * 3 + 1, none⟩ = some c1 := hc 1 _ rfl
      have hc2 : wr.cell? ⟨b, off + k * 3 + 2, none⟩ = some c2 := hc 2 _ rfl
      have HF := Lib.hid (hf wr xs[k] c0 c1 c2 (List.getElem_mem hlt) hlo hr)
      clear hc hr
      cases hp : p xs[k]
      all_goals
        have HP := Lib.hid hp
        clear hp
        go_wp2_with fail
        refine (HF.out).mono ?_
        rw [HP.out]
        rintro e w1 ⟨rfl, hb1⟩
        go_wp2
        first
          | (go_ret
             exact ⟨ret_int (findI_at hlt HP.out hall.out).symm, (by repeat (first | exact Lo.refl _ | assumption | refine Lo.drew ?_ | refine Lo.alloc ?_ _ | refine Lo.setCell ?_ (by first | (dsimp only; omega) | (simp; omega) | (simp; done)) _ | refine Lo.trans ?_ (by assumption)))⟩)
          | (go_roundw
             case rel => exact ⟨k + 1, by omega, by go_num, (by repeat (first | exact Lo.refl _ | assumption | refine Lo.drew ?_ | refine Lo.alloc ?_ _ | refine Lo.setCell ?_ (by first | (dsimp only; omega) | (simp; omega) | (simp; done)) _ | refine Lo.trans ?_ (by assumption))), Lib.hid (any_snoc' hall.out hlt HP.out)⟩
             case measure => simp [intOf]; omega)
    · have HF := hall.out
      rw [List.take_of_length_le (by omega)] at HF
      have HG := Lib.hid HF
      clear HF
      go_wp2
      go_ret
      exact ⟨ret_int (findI_none HG.out).symm, (by repeat (first | exact Lo.refl _ | assumption | refine Lo.drew ?_ | refine Lo.alloc ?_ _ | refine Lo.setCell ?_ (by first | (dsimp only; omega) | (simp; omega) | (simp; done)) _ | refine Lo.trans ?_ (by assumption)))⟩

theorem containsFunc {α : Type} {R : Rel α} (hR : Kept R) {B : Nat} {A : Option Addr} (cap : Nat) {xs : List α} {g : FuncId} {caps : Array Value} {p : α → Bool} (w : World) (hB : B ≤ w.heap.size) (hA : SliceAt R 3 B w A xs) (hn : xs.length ≤ maxLen) (eg : Go.Proofs.Enters Try.prog g) (hf : Says R B w xs g caps p) :
    Calls Try.prog 27 #[.slice A xs.length cap, .func (.func g) #[] caps] w fun e w' => e = .returned (.bool (xs.any p)) ∧ Lo w w' := by
  have hn' := hn
  unfold maxLen at hn
  go_enter Try.func27, Try.ntmps27
  go_wp2_with (go_at_call 41; refine (indexFunc hR cap w hB hA hn' eg hf).mono ?_; rintro e w1 ⟨rfl, hb⟩)
  go_ret
  exact ⟨ret_bool findI_any, (by repeat (first | exact Lo.refl _ | assumption | refine Lo.drew ?_ | refine Lo.alloc ?_ _ | refine Lo.setCell ?_ (by first | (dsimp only; omega) | (simp; omega) | (simp; done)) _ | refine Lo.trans ?_ (by assumption)))⟩
end Go.Proofs.Ytmjckopplkihlaa.WIdxDue
