/- Merged by bundles.py: WIdxWhen, WIdxCidr, WIdxInt, WIdxStr, WIdxTerm, WMatch2, WAny. -/
import Derived.Test.YtnclifgiakmmoaaC0
import Derived.Shelf.Abstract
import Derived.Test.YtnclifgiakmmoaaC7
/- slices.IndexFunc and ContainsFunc at gatepost/api.When: a row of elements, a function value. (Written by mk_index.py.) -/
namespace Go.Proofs.Ytnclifgiakmmoaa.WIdxWhen
set_option linter.unusedVariables false
set_option linter.unusedSimpArgs false
open Go.RowKit Mem BigFrame

def findI {α : Type} (p : α → Bool) (xs : List α) : Int := match xs.findIdx? p with | some k => (k : Int) | none => -1
theorem findI_at {α : Type} {p : α → Bool} {xs : List α} {k : Nat} (hk : k < xs.length) (hp : p xs[k] = true) (h : (xs.take k).any p = false) : findI p xs = (k : Int) := by
  unfold findI
  have : xs.findIdx? p = some k := by
    rw [List.findIdx?_eq_some_iff_getElem]
    refine ⟨hk, hp, fun j hj => ?_⟩
    rw [List.any_eq_false] at h
    have hm : xs[j]'(by omega) ∈ xs.take k := by
      rw [List.mem_take_iff_getElem]
      exact ⟨j, by omega, rfl⟩
    simpa using h _ hm
  rw [this]
theorem findI_none {α : Type} {p : α → Bool} {xs : List α} (h : xs.any p = false) : findI p xs = -1 := by
  unfold findI
  have : xs.findIdx? p = none := by
    rw [List.findIdx?_eq_none_iff]
    rw [List.any_eq_false] at h
    intro x hx; simpa using h x hx
  rw [this]
theorem findI_any {α : Type} {p : α → Bool} {xs : List α} : decide (0 ≤ findI p xs) = xs.any p := by
  unfold findI
  cases h : xs.findIdx? p with
  | none =>
    rw [List.findIdx?_eq_none_iff] at h
    have : xs.any p = false := by rw [List.any_eq_false]; intro x hx; simp [h x hx]
    rw [this]; rfl
  | some k =>
    rw [List.findIdx?_eq_some_iff_getElem] at h
    obtain ⟨hk, hp, _⟩ := h
    have : xs.any p = true := by rw [List.any_eq_true]; exact ⟨_, List.getElem_mem hk, hp⟩
    rw [this]; simp
theorem any_snoc' {α : Type} {l : List α} {p : α → Bool} {n : Nat} (h : (l.take n).any p = false) (hn : n < l.length) (hp : p l[n] = false) : (l.take (n + 1)).any p = false := by
  rw [List.take_succ_eq_append_getElem hn, List.any_append, h]; simp [hp]

/-- what a function value gives, at each element of the row, in each later world -/
def Says {α : Type} (R : Rel α) (B : Nat) (w : World) (xs : List α) (g : FuncId) (caps : Array Value) (p : α → Bool) : Prop :=
  ∀ (w' : World) (x : α) (c0 c1 : Value), x ∈ xs → Lo w w' → R B w' x [c0, c1] → Calls Try.prog g (#[.agg #[c0, c1]] ++ caps) w' fun e w'' => e = .returned (.bool (p x)) ∧ Lo w' w''

set_option maxRecDepth 100000 in
set_option maxHeartbeats 800000 in
theorem indexFunc {α : Type} {R : Rel α} (hR : Kept R) {B : Nat} {A : Option Addr} (cap : Nat) {xs : List α} {g : FuncId} {caps : Array Value} {p : α → Bool} (w : World) (hB : B ≤ w.heap.size) (hA : SliceAt R 2 B w A xs) (hn : xs.length ≤ maxLen) (eg : Go.Proofs.Enters Try.prog g) (hf : Says R B w xs g caps p) :
    Calls Try.prog 50 #[.slice A xs.length cap, .func (.func g) #[] caps] w fun e w' => e = .returned (.int .i64 (findI p xs)) ∧ Lo w w' := by
  unfold maxLen at hn
  unfold Go.Proofs.Enters at eg
  go_enter Try.func50, Try.ntmps50
  go_wp2
  go_loopw [5, 8] (fun _ i wr => ∃ k : Nat, k ≤ xs.length ∧ i = .int .i64 k ∧ Lo w wr ∧ Hid ((xs.take k).any p = false)) (fun _ i _ => xs.length - (intOf i).toNat)
  case atStart => exact ⟨0, Nat.zero_le _, rfl, Lo.refl _, Lib.hid rfl⟩
  case round =>
    obtain ⟨k, hk, rfl, hlo, hall⟩ := hrel
    by_cases hlt : k < xs.length
    · obtain ⟨b, off, cs, rfl, hb, hl, hc, hr⟩ := (hA.lo hR hlo hB) k xs[k] (List.getElem?_eq_getElem hlt)
      obtain ⟨c0, c1, rfl⟩ : ∃ c0 c1, cs = [c0, c1] := by
        match cs, hl with
        | [c0, c1], _ => exact ⟨c0, c1, rfl⟩
      have hc0 : wr.cell? ⟨b, off + k * 2, none⟩ = some c0 := hc 0 _ rfl
      have hc1 : wr.cell? ⟨b, off + k * 2 + 1, none⟩ = some c1 := hc 1 _ rfl
      have HF := Lib.hid (hf wr xs[k] c0 c1 (List.getElem_mem hlt) hlo hr)
      clear hc hr
      cases hp : p xs[k]
      all_goals
        have HP := Lib.hid hp
        clear hp
        go_wp2_with fail
        refine (HF.out).mono ?_
        rw [HP.out]
        rintro e w1 ⟨rfl, hb1⟩
        go_wp2
        first
          | (go_ret
             exact ⟨ret_int (findI_at hlt HP.out hall.out).symm, (by repeat (first | exact Lo.refl _ | assumption | refine Lo.drew ?_ | refine Lo.alloc ?_ _ | refine Lo.setCell ?_ (by first | (dsimp only; omega) | (simp; omega) | (simp; done)) _ | refine Lo.trans ?_ (by assumption)))⟩)
          | (go_roundw
             case rel => exact ⟨k + 1, by omega, by go_num, (by repeat (first | exact Lo.refl _ | assumption | refine Lo.drew ?_ | refine Lo.alloc ?_ _ | refine Lo.setCell ?_ (by first | (dsimp only; omega) | (simp; omega) | (simp; done)) _ | refine Lo.trans ?_ (by assumption))), Lib.hid (any_snoc' hall.out hlt HP.out)⟩
             case measure => simp [intOf]; omega)
    · have HF := hall.out
      rw [List.take_of_length_le (by omega)] at HF
      have HG := Lib.hid HF
      clear HF
      go_wp2
      go_ret
      exact ⟨ret_int (findI_none HG.out).symm, (by repeat (first | exact Lo.refl _ | assumption | refine Lo.drew ?_ | refine Lo.alloc ?_ _ | refine Lo.setCell ?_ (by first | (dsimp only; omega) | (simp; omega) | (simp; done)) _ | refine Lo.trans ?_ (by assumption)))⟩

theorem containsFunc {α : Type} {R : Rel α} (hR : Kept R) {B : Nat} {A : Option Addr} (cap : Nat) {xs : List α} {g : FuncId} {caps : Array Value} {p : α → Bool} (w : World) (hB : B ≤ w.heap.size) (hA : SliceAt R 2 B w A xs) (hn : xs.length ≤ maxLen) (eg : Go.Proofs.Enters Try.prog g) (hf : Says R B w xs g caps p) :
    Calls Try.prog 37 #[.slice A xs.length cap, .func (.func g) #[] caps] w fun e w' => e = .returned (.bool (xs.any p)) ∧ Lo w w' := by
  have hn' := hn
  unfold maxLen at hn
  go_enter Try.func37, Try.ntmps37
  go_wp2_with (go_at_call 50; refine (indexFunc hR cap w hB hA hn' eg hf).mono ?_; rintro e w1 ⟨rfl, hb⟩)
  go_ret
  exact ⟨ret_bool findI_any, (by repeat (first | exact Lo.refl _ | assumption | refine Lo.drew ?_ | refine Lo.alloc ?_ _ | refine Lo.setCell ?_ (by first | (dsimp only; omega) | (simp; omega) | (simp; done)) _ | refine Lo.trans ?_ (by assumption)))⟩
end Go.Proofs.Ytnclifgiakmmoaa.WIdxWhen

/- slices.IndexFunc and ContainsFunc at gatepost/api.Cidr: a row of elements, a function value. (Written by mk_index.py.) -/
namespace Go.Proofs.Ytnclifgiakmmoaa.WIdxCidr
set_option linter.unusedVariables false
set_option linter.unusedSimpArgs false
open Go.RowKit Mem BigFrame

def findI {α : Type} (p : α → Bool) (xs : List α) : Int := match xs.findIdx? p with | some k => (k : Int) | none => -1
theorem findI_at {α : Type} {p : α → Bool} {xs : List α} {k : Nat} (hk : k < xs.length) (hp : p xs[k] = true) (h : (xs.take k).any p = false) : findI p xs = (k : Int) := by
  unfold findI
  have : xs.findIdx? p = some k := by
    rw [List.findIdx?_eq_some_iff_getElem]
    refine ⟨hk, hp, fun j hj => ?_⟩
    rw [List.any_eq_false] at h
    have hm : xs[j]'(by omega) ∈ xs.take k := by
      rw [List.mem_take_iff_getElem]
      exact ⟨j, by omega, rfl⟩
    simpa using h _ hm
  rw [this]
theorem findI_none {α : Type} {p : α → Bool} {xs : List α} (h : xs.any p = false) : findI p xs = -1 := by
  unfold findI
  have : xs.findIdx? p = none := by
    rw [List.findIdx?_eq_none_iff]
    rw [List.any_eq_false] at h
    intro x hx; simpa using h x hx
  rw [this]
theorem findI_any {α : Type} {p : α → Bool} {xs : List α} : decide (0 ≤ findI p xs) = xs.any p := by
  unfold findI
  cases h : xs.findIdx? p with
  | none =>
    rw [List.findIdx?_eq_none_iff] at h
    have : xs.any p = false := by rw [List.any_eq_false]; intro x hx; simp [h x hx]
    rw [this]; rfl
  | some k =>
    rw [List.findIdx?_eq_some_iff_getElem] at h
    obtain ⟨hk, hp, _⟩ := h
    have : xs.any p = true := by rw [List.any_eq_true]; exact ⟨_, List.getElem_mem hk, hp⟩
    rw [this]; simp
theorem any_snoc' {α : Type} {l : List α} {p : α → Bool} {n : Nat} (h : (l.take n).any p = false) (hn : n < l.length) (hp : p l[n] = false) : (l.take (n + 1)).any p = false := by
  rw [List.take_succ_eq_append_getElem hn, List.any_append, h]; simp [hp]

/-- what a function value gives, at each element of the row, in each later world -/
def Says {α : Type} (R : Rel α) (B : Nat) (w : World) (xs : List α) (g : FuncId) (caps : Array Value) (p : α → Bool) : Prop :=
  ∀ (w' : World) (x : α) (c0 c1 : Value), x ∈ xs → Lo w w' → R B w' x [c0, c1] → Calls Try.prog g (#[.agg #[c0, c1]] ++ caps) w' fun e w'' => e = .returned (.bool (p x)) ∧ Lo w' w''

set_option maxRecDepth 100000 in
set_option maxHeartbeats 800000 in
theorem indexFunc {α : Type} {R : Rel α} (hR : Kept R) {B : Nat} {A : Option Addr} (cap : Nat) {xs : List α} {g : FuncId} {caps : Array Value} {p : α → Bool} (w : World) (hB : B ≤ w.heap.size) (hA : SliceAt R 2 B w A xs) (hn : xs.length ≤ maxLen) (eg : Go.Proofs.Enters Try.prog g) (hf : Says R B w xs g caps p) :
    Calls Try.prog 56 #[.slice A xs.length cap, .func (.func g) #[] caps] w fun e w' => e = .returned (.int .i64 (findI p xs)) ∧ Lo w w' := by
  unfold maxLen at hn
  unfold Go.Proofs.Enters at eg
  go_enter Try.func56, Try.ntmps56
  go_wp2
  go_loopw [5, 8] (fun _ i wr => ∃ k : Nat, k ≤ xs.length ∧ i = .int .i64 k ∧ Lo w wr ∧ Hid ((xs.take k).any p = false)) (fun _ i _ => xs.length - (intOf i).toNat)
  case atStart => exact ⟨0, Nat.zero_le _, rfl, Lo.refl _, Lib.hid rfl⟩
  case round =>
    obtain ⟨k, hk, rfl, hlo, hall⟩ := hrel
    by_cases hlt : k < xs.length
    · obtain ⟨b, off, cs, rfl, hb, hl, hc, hr⟩ := (hA.lo hR hlo hB) k xs[k] (List.getElem?_eq_getElem hlt)
      obtain ⟨c0, c1, rfl⟩ : ∃ c0 c1, cs = [c0, c1] := by
        match cs, hl with
        | [c0, c1], _ => exact ⟨c0, c1, rfl⟩
      have hc0 : wr.cell? ⟨b, off + k * 2, none⟩ = some c0 := hc 0 _ rfl
      have hc1 : wr.cell? ⟨b, off + k * 2 + 1, none⟩ = some c1 := hc 1 _ rfl
      have HF := Lib.hid (hf wr xs[k] c0 c1 (List.getElem_mem hlt) hlo hr)
      clear hc hr
      cases hp : p xs[k]
      all_goals
        have HP := Lib.hid hp
        clear hp
        go_wp2_with fail
        refine (HF.out).mono ?_
        rw [HP.out]
        rintro e w1 ⟨rfl, hb1⟩
        go_wp2
        first
          | (go_ret
             exact ⟨ret_int (findI_at hlt HP.out hall.out).symm, (by repeat (first | exact Lo.refl _ | assumption | refine Lo.drew ?_ | refine Lo.alloc ?_ _ | refine Lo.setCell ?_ (by first | (dsimp only; omega) | (simp; omega) | (simp; done)) _ | refine Lo.trans ?_ (by assumption)))⟩)
          | (go_roundw
             case rel => exact ⟨k + 1, by omega, by go_num, (by repeat (first | exact Lo.refl _ | assumption | refine Lo.drew ?_ | refine Lo.alloc ?_ _ | refine Lo.setCell ?_ (by first | (dsimp only; omega) | (simp; omega) | (simp; done)) _ | refine Lo.trans ?_ (by assumption))), Lib.hid (any_snoc' hall.out hlt HP.out)⟩
             case measure => simp [intOf]; omega)
    · have HF := hall.out
      rw [List.take_of_length_le (by omega)] at HF
      have HG := Lib.hid HF
      clear HF
      go_wp2
      go_ret
      exact ⟨ret_int (findI_none HG.out).symm, (by repeat (first | exact Lo.refl _ | assumption | refine Lo.drew ?_ | refine Lo.alloc ?_ _ | refine Lo.setCell ?_ (by first | (dsimp only; omega) | (simp; omega) | (simp; done)) _ | refine Lo.trans ?_ (by assumption)))⟩

theorem containsFunc {α : Type} {R : Rel α} (hR : Kept R) {B : Nat} {A : Option Addr} (cap : Nat) {xs : List α} {g : FuncId} {caps : Array Value} {p : α → Bool} (w : World) (hB : B ≤ w.heap.size) (hA : SliceAt R 2 B w A xs) (hn : xs.length ≤ maxLen) (eg : Go.Proofs.Enters Try.prog g) (hf : Says R B w xs g caps p) :
    Calls Try.prog 45 #[.slice A xs.length cap, .func (.func g) #[] caps] w fun e w' => e = .returned (.bool (xs.any p)) ∧ Lo w w' := by
  have hn' := hn
  unfold maxLen at hn
  go_enter Try.func45, Try.ntmps45
  go_wp2_with (go_at_call 56; refine (indexFunc hR cap w hB hA hn' eg hf).mono ?_; rintro e w1 ⟨rfl, hb⟩)
  go_ret
  exact ⟨ret_bool findI_any, (by repeat (first | exact Lo.refl _ | assumption | refine Lo.drew ?_ | refine Lo.alloc ?_ _ | refine Lo.setCell ?_ (by first | (dsimp only; omega) | (simp; omega) | (simp; done)) _ | refine Lo.trans ?_ (by assumption)))⟩
end Go.Proofs.Ytnclifgiakmmoaa.WIdxCidr

/- slices.IndexFunc and ContainsFunc at int: a row of elements, a function value. (Written by mk_index.py.) -/
namespace Go.Proofs.Ytnclifgiakmmoaa.WIdxInt
set_option linter.unusedVariables false
set_option linter.unusedSimpArgs false
open Go.RowKit Mem BigFrame

def findI {α : Type} (p : α → Bool) (xs : List α) : Int := match xs.findIdx? p with | some k => (k : Int) | none => -1
theorem findI_at {α : Type} {p : α → Bool} {xs : List α} {k : Nat} (hk : k < xs.length) (hp : p xs[k] = true) (h : (xs.take k).any p = false) : findI p xs = (k : Int) := by
  unfold findI
  have : xs.findIdx? p = some k := by
    rw [List.findIdx?_eq_some_iff_getElem]
    refine ⟨hk, hp, fun j hj => ?_⟩
    rw [List.any_eq_false] at h
    have hm : xs[j]'(by omega) ∈ xs.take k := by
      rw [List.mem_take_iff_getElem]
      exact ⟨j, by omega, rfl⟩
    simpa using h _ hm
  rw [this]
theorem findI_none {α : Type} {p : α → Bool} {xs : List α} (h : xs.any p = false) : findI p xs = -1 := by
  unfold findI
  have : xs.findIdx? p = none := by
    rw [List.findIdx?_eq_none_iff]
    rw [List.any_eq_false] at h
    intro x hx; simpa using h x hx
  rw [this]
theorem findI_any {α : Type} {p : α → Bool} {xs : List α} : decide (0 ≤ findI p xs) = xs.any p := by
  unfold findI
  cases h : xs.findIdx? p with
  | none =>
    rw [List.findIdx?_eq_none_iff] at h
    have : xs.any p = false := by rw [List.any_eq_false]; intro x hx; simp [h x hx]
    rw [this]; rfl
  | some k =>
    rw [List.findIdx?_eq_some_iff_getElem] at h
    obtain ⟨hk, hp, _⟩ := h
    have : xs.any p = true := by rw [List.any_eq_true]; exact ⟨_, List.getElem_mem hk, hp⟩
    rw [this]; simp
theorem any_snoc' {α : Type} {l : List α} {p : α → Bool} {n : Nat} (h : (l.take n).any p = false) (hn : n < l.length) (hp : p l[n] = false) : (l.take (n + 1)).any p = false := by
  rw [List.take_succ_eq_append_getElem hn, List.any_append, h]; simp [hp]

/-- what a function value gives, at each element of the row, in each later world -/
def Says {α : Type} (R : Rel α) (B : Nat) (w : World) (xs : List α) (g : FuncId) (caps : Array Value) (p : α → Bool) : Prop :=
  ∀ (w' : World) (x : α) (c0 : Value), x ∈ xs → Lo w w' → R B w' x [c0] → Calls Try.prog g (#[c0] ++ caps) w' fun e w'' => e = .returned (.bool (p x)) ∧ Lo w' w''

set_option maxRecDepth 100000 in
set_option maxHeartbeats 800000 in
theorem indexFunc {α : Type} {R : Rel α} (hR : Kept R) {B : Nat} {A : Option Addr} (cap : Nat) {xs : List α} {g : FuncId} {caps : Array Value} {p : α → Bool} (w : World) (hB : B ≤ w.heap.size) (hA : SliceAt R 1 B w A xs) (hn : xs.length ≤ maxLen) (eg : Go.Proofs.Enters Try.prog g) (hf : Says R B w xs g caps p) :
    Calls Try.prog 57 #[.slice A xs.length cap, .func (.func g) #[] caps] w fun e w' => e = .returned (.int .i64 (findI p xs)) ∧ Lo w w' := by
  unfold maxLen at hn
  unfold Go.Proofs.Enters at eg
  go_enter Try.func57, Try.ntmps57
  go_wp2
  go_loopw [5, 8] (fun _ i wr => ∃ k : Nat, k ≤ xs.length ∧ i = .int .i64 k ∧ Lo w wr ∧ Hid ((xs.take k).any p = false)) (fun _ i _ => xs.length - (intOf i).toNat)
  case atStart => exact ⟨0, Nat.zero_le _, rfl, Lo.refl _, Lib.hid rfl⟩
  case round =>
    obtain ⟨k, hk, rfl, hlo, hall⟩ := hrel
    by_cases hlt : k < xs.length
    · obtain ⟨b, off, cs, rfl, hb, hl, hc, hr⟩ := (hA.lo hR hlo hB) k xs[k] (List.getElem?_eq_getElem hlt)
      obtain ⟨c0, rfl⟩ : ∃ c0, cs = [c0] := by
        match cs, hl with
        | [c0], _ => exact ⟨c0, rfl⟩
      have hc0 : wr.cell? ⟨b, off + k, none⟩ = some c0 := by have := hc 0 c0 rfl; simpa using this
      have HF := Lib.hid (hf wr xs[k] c0 (List.getElem_mem hlt) hlo hr)
      clear hc hr
      cases hp : p xs[k]
      all_goals
        have HP := Lib.hid hp
        clear hp
        go_wp2_with fail
        refine (HF.out).mono ?_
        rw [HP.out]
        rintro e w1 ⟨rfl, hb1⟩
        go_wp2
        first
          | (go_ret
             exact ⟨ret_int (findI_at hlt HP.out hall.out).symm, (by repeat (first | exact Lo.refl _ | assumption | refine Lo.drew ?_ | refine Lo.alloc ?_ _ | refine Lo.setCell ?_ (by first | (dsimp only; omega) | (simp; omega) | (simp; done)) _ | refine Lo.trans ?_ (by assumption)))⟩)
          | (go_roundw
             case rel => exact ⟨k + 1, by omega, by go_num, (by repeat (first | exact Lo.refl _ | assumption | refine Lo.drew ?_ | refine Lo.alloc ?_ _ | refine Lo.setCell ?_ (by first | (dsimp only; omega) | (simp; omega) | (simp; done)) _ | refine Lo.trans ?_ (by assumption))), Lib.hid (any_snoc' hall.out hlt HP.out)⟩
             case measure => simp [intOf]; omega)
    · have HF := hall.out
      rw [List.take_of_length_le (by omega)] at HF
      have HG := Lib.hid HF
      clear HF
      go_wp2
      go_ret
      exact ⟨ret_int (findI_none HG.out).symm, (by repeat (first | exact Lo.refl _ | assumption | refine Lo.drew ?_ | refine Lo.alloc ?_ _ | refine Lo.setCell ?_ (by first | (dsimp only; omega) | (simp; omega) | (simp; done)) _ | refine Lo.trans ?_ (by assumption)))⟩

theorem containsFunc {α : Type} {R : Rel α} (hR : Kept R) {B : Nat} {A : Option Addr} (cap : Nat) {xs : List α} {g : FuncId} {caps : Array Value} {p : α → Bool} (w : World) (hB : B ≤ w.heap.size) (hA : SliceAt R 1 B w A xs) (hn : xs.length ≤ maxLen) (eg : Go.Proofs.Enters Try.prog g) (hf : Says R B w xs g caps p) :
    Calls Try.prog 49 #[.slice A xs.length cap, .func (.func g) #[] caps] w fun e w' => e = .returned (.bool (xs.any p)) ∧ Lo w w' := by
  have hn' := hn
  unfold maxLen at hn
  go_enter Try.func49, Try.ntmps49
  go_wp2_with (go_at_call 57; refine (indexFunc hR cap w hB hA hn' eg hf).mono ?_; rintro e w1 ⟨rfl, hb⟩)
  go_ret
  exact ⟨ret_bool findI_any, (by repeat (first | exact Lo.refl _ | assumption | refine Lo.drew ?_ | refine Lo.alloc ?_ _ | refine Lo.setCell ?_ (by first | (dsimp only; omega) | (simp; omega) | (simp; done)) _ | refine Lo.trans ?_ (by assumption)))⟩
end Go.Proofs.Ytnclifgiakmmoaa.WIdxInt

/- slices.IndexFunc and ContainsFunc at string: a row of elements, a function value. (Written by mk_index.py.) -/
namespace Go.Proofs.Ytnclifgiakmmoaa.WIdxStr
set_option linter.unusedVariables false
set_option linter.unusedSimpArgs false
open Go.RowKit Mem BigFrame

def findI {α : Type} (p : α → Bool) (xs : List α) : Int := match xs.findIdx? p with | some k => (k : Int) | none => -1
theorem findI_at {α : Type} {p : α → Bool} {xs : List α} {k : Nat} (hk : k < xs.length) (hp : p xs[k] = true) (h : (xs.take k).any p = false) : findI p xs = (k : Int) := by
  unfold findI
  have : xs.findIdx? p = some k := by
    rw [List.findIdx?_eq_some_iff_getElem]
    refine ⟨hk, hp, fun j hj => ?_⟩
    rw [List.any_eq_false] at h
    have hm : xs[j]'(by omega) ∈ xs.take k := by
      rw [List.mem_take_iff_getElem]
      exact ⟨j, by omega, rfl⟩
    simpa using h _ hm
  rw [this]
theorem findI_none {α : Type} {p : α → Bool} {xs : List α} (h : xs.any p = false) : findI p xs = -1 := by
  unfold findI
  have : xs.findIdx? p = none := by
    rw [List.findIdx?_eq_none_iff]
    rw [List.any_eq_false] at h
    intro x hx; simpa using h x hx
  rw [this]
theorem findI_any {α : Type} {p : α → Bool} {xs : List α} : decide (0 ≤ findI p xs) = xs.any p := by
  unfold findI
  cases h : xs.findIdx? p with
  | none =>
    rw [List.findIdx?_eq_none_iff] at h
    have : xs.any p = false := by rw [List.any_eq_false]; intro x hx; simp [h x hx]
    rw [this]; rfl
  | some k =>
    rw [List.findIdx?_eq_some_iff_getElem] at h
    obtain ⟨hk, hp, _⟩ := h
    have : xs.any p = true := by rw [List.any_eq_true]; exact ⟨_, List.getElem_mem hk, hp⟩
    rw [this]; simp
theorem any_snoc' {α : Type} {l : List α} {p : α → Bool} {n : Nat} (h : (l.take n).any p = false) (hn : n < l.length) (hp : p l[n] = false) : (l.take (n + 1)).any p = false := by
  rw [List.take_succ_eq_append_getElem hn, List.any_append, h]; simp [hp]

/-- what a function value gives, at each element of the row, in each later world -/
def Says {α : Type} (R : Rel α) (B : Nat) (w : World) (xs : List α) (g : FuncId) (caps : Array Value) (p : α → Bool) : Prop :=
  ∀ (w' : World) (x : α) (c0 : Value), x ∈ xs → Lo w w' → R B w' x [c0] → Calls Try.prog g (#[c0] ++ caps) w' fun e w'' => e = .returned (.bool (p x)) ∧ Lo w' w''

set_option maxRecDepth 100000 in
set_option maxHeartbeats 800000 in
theorem indexFunc {α : Type} {R : Rel α} (hR : Kept R) {B : Nat} {A : Option Addr} (cap : Nat) {xs : List α} {g : FuncId} {caps : Array Value} {p : α → Bool} (w : World) (hB : B ≤ w.heap.size) (hA : SliceAt R 1 B w A xs) (hn : xs.length ≤ maxLen) (eg : Go.Proofs.Enters Try.prog g) (hf : Says R B w xs g caps p) :
    Calls Try.prog 51 #[.slice A xs.length cap, .func (.func g) #[] caps] w fun e w' => e = .returned (.int .i64 (findI p xs)) ∧ Lo w w' := by
  unfold maxLen at hn
  unfold Go.Proofs.Enters at eg
  go_enter Try.func51, Try.ntmps51
  go_wp2
  go_loopw [5, 8] (fun _ i wr => ∃ k : Nat, k ≤ xs.length ∧ i = .int .i64 k ∧ Lo w wr ∧ Hid ((xs.take k).any p = false)) (fun _ i _ => xs.length - (intOf i).toNat)
  case atStart => exact ⟨0, Nat.zero_le _, rfl, Lo.refl _, Lib.hid rfl⟩
  case round =>
    obtain ⟨k, hk, rfl, hlo, hall⟩ := hrel
    by_cases hlt : k < xs.length
    · obtain ⟨b, off, cs, rfl, hb, hl, hc, hr⟩ := (hA.lo hR hlo hB) k xs[k] (List.getElem?_eq_getElem hlt)
      obtain ⟨c0, rfl⟩ : ∃ c0, cs = [c0] := by
        match cs, hl with
        | [c0], _ => exact ⟨c0, rfl⟩
      have hc0 : wr.cell? ⟨b, off + k, none⟩ = some c0 := by have := hc 0 c0 rfl; simpa using this
      have HF := Lib.hid (hf wr xs[k] c0 (List.getElem_mem hlt) hlo hr)
      clear hc hr
      cases hp : p xs[k]
      all_goals
        have HP := Lib.hid hp
        clear hp
        go_wp2_with fail
        refine (HF.out).mono ?_
        rw [HP.out]
        rintro e w1 ⟨rfl, hb1⟩
        go_wp2
        first
          | (go_ret
             exact ⟨ret_int (findI_at hlt HP.out hall.out).symm, (by repeat (first | exact Lo.refl _ | assumption | refine Lo.drew ?_ | refine Lo.alloc ?_ _ | refine Lo.setCell ?_ (by first | (dsimp only; omega) | (simp; omega) | (simp; done)) _ | refine Lo.trans ?_ (by assumption)))⟩)
          | (go_roundw
             case rel => exact ⟨k + 1, by omega, by go_num, (by repeat (first | exact Lo.refl _ | assumption | refine Lo.drew ?_ | refine Lo.alloc ?_ _ | refine Lo.setCell ?_ (by first | (dsimp only; omega) | (simp; omega) | (simp; done)) _ | refine Lo.trans ?_ (by assumption))), Lib.hid (any_snoc' hall.out hlt HP.out)⟩
             case measure => simp [intOf]; omega)
    · have HF := hall.out
      rw [List.take_of_length_le (by omega)] at HF
      have HG := Lib.hid HF
      clear HF
      go_wp2
      go_ret
      exact ⟨ret_int (findI_none HG.out).symm, (by repeat (first | exact Lo.refl _ | assumption | refine Lo.drew ?_ | refine Lo.alloc ?_ _ | refine Lo.setCell ?_ (by first | (dsimp only; omega) | (simp; omega) | (simp; done)) _ | refine Lo.trans ?_ (by assumption)))⟩

theorem containsFunc {α : Type} {R : Rel α} (hR : Kept R) {B : Nat} {A : Option Addr} (cap : Nat) {xs : List α} {g : FuncId} {caps : Array Value} {p : α → Bool} (w : World) (hB : B ≤ w.heap.size) (hA : SliceAt R 1 B w A xs) (hn : xs.length ≤ maxLen) (eg : Go.Proofs.Enters Try.prog g) (hf : Says R B w xs g caps p) :
    Calls Try.prog 39 #[.slice A xs.length cap, .func (.func g) #[] caps] w fun e w' => e = .returned (.bool (xs.any p)) ∧ Lo w w' := by
  have hn' := hn
  unfold maxLen at hn
  go_enter Try.func39, Try.ntmps39
  go_wp2_with (go_at_call 51; refine (indexFunc hR cap w hB hA hn' eg hf).mono ?_; rintro e w1 ⟨rfl, hb⟩)
  go_ret
  exact ⟨ret_bool findI_any, (by repeat (first | exact Lo.refl _ | assumption | refine Lo.drew ?_ | refine Lo.alloc ?_ _ | refine Lo.setCell ?_ (by first | (dsimp only; omega) | (simp; omega) | (simp; done)) _ | refine Lo.trans ?_ (by assumption)))⟩
end Go.Proofs.Ytnclifgiakmmoaa.WIdxStr

/- slices.IndexFunc and ContainsFunc at gatepost/api.Term: a row of elements, a function value. (Written by mk_index.py.) -/
namespace Go.Proofs.Ytnclifgiakmmoaa.WIdxTerm
set_option linter.unusedVariables false
set_option linter.unusedSimpArgs false
open Go.RowKit Mem BigFrame

def findI {α : Type} (p : α → Bool) (xs : List α) : Int := match xs.findIdx? p with | some k => (k : Int) | none => -1
theorem findI_at {α : Type} {p : α → Bool} {xs : List α} {k : Nat} (hk : k < xs.length) (hp : p xs[k] = true) (h : (xs.take k).any p = false) : findI p xs = (k : Int) := by
  unfold findI
  have : xs.findIdx? p = some k := by
    rw [List.findIdx?_eq_some_iff_getElem]
    refine ⟨hk, hp, fun j hj => ?_⟩
    rw [List.any_eq_false] at h
    have hm : xs[j]'(by omega) ∈ xs.take k := by
      rw [List.mem_take_iff_getElem]
      exact ⟨j, by omega, rfl⟩
    simpa using h _ hm
  rw [this]
theorem findI_none {α : Type} {p : α → Bool} {xs : List α} (h : xs.any p = false) : findI p xs = -1 := by
  unfold findI
  have : xs.findIdx? p = none := by
    rw [List.findIdx?_eq_none_iff]
    rw [List.any_eq_false] at h
    intro x hx; simpa using h x hx
  rw [this]
theorem findI_any {α : Type} {p : α → Bool} {xs : List α} : decide (0 ≤ findI p xs) = xs.any p := by
  unfold findI
  cases h : xs.findIdx? p with
  | none =>
    rw [List.findIdx?_eq_none_iff] at h
    have : xs.any p = false := by rw [List.any_eq_false]; intro x hx; simp [h x hx]
    rw [this]; rfl
  | some k =>
    rw [List.findIdx?_eq_some_iff_getElem] at h
    obtain ⟨hk, hp, _⟩ := h
    have : xs.any p = true := by rw [List.any_eq_true]; exact ⟨_, List.getElem_mem hk, hp⟩
    rw [this]; simp
theorem any_snoc' {α : Type} {l : List α} {p : α → Bool} {n : Nat} (h : (l.take n).any p = false) (hn : n < l.length) (hp : p l[n] = false) : (l.take (n + 1)).any p = false := by
  rw [List.take_succ_eq_append_getElem hn, List.any_append, h]; simp [hp]

/-- what a function value gives, at each element of the row, in each later world -/
def Says {α : Type} (R : Rel α) (B : Nat) (w : World) (xs : List α) (g : FuncId) (caps : Array Value) (p : α → Bool) : Prop :=
  ∀ (w' : World) (x : α) (c0 c1 : Value), x ∈ xs → Lo w w' → R B w' x [c0, c1] → Calls Try.prog g (#[.agg #[c0, c1]] ++ caps) w' fun e w'' => e = .returned (.bool (p x)) ∧ Lo w' w''

set_option maxRecDepth 100000 in
set_option maxHeartbeats 800000 in
theorem indexFunc {α : Type} {R : Rel α} (hR : Kept R) {B : Nat} {A : Option Addr} (cap : Nat) {xs : List α} {g : FuncId} {caps : Array Value} {p : α → Bool} (w : World) (hB : B ≤ w.heap.size) (hA : SliceAt R 2 B w A xs) (hn : xs.length ≤ maxLen) (eg : Go.Proofs.Enters Try.prog g) (hf : Says R B w xs g caps p) :
    Calls Try.prog 58 #[.slice A xs.length cap, .func (.func g) #[] caps] w fun e w' => e = .returned (.int .i64 (findI p xs)) ∧ Lo w w' := by
  unfold maxLen at hn
  unfold Go.Proofs.Enters at eg
  go_enter Try.func58, Try.ntmps58
  go_wp2
  go_loopw [5, 8] (fun _ i wr => ∃ k : Nat, k ≤ xs.length ∧ i = .int .i64 k ∧ Lo w wr ∧ Hid ((xs.take k).any p = false)) (fun _ i _ => xs.length - (intOf i).toNat)
  case atStart => exact ⟨0, Nat.zero_le _, rfl, Lo.refl _, Lib.hid rfl⟩
  case round =>
    obtain ⟨k, hk, rfl, hlo, hall⟩ := hrel
    by_cases hlt : k < xs.length
    · obtain ⟨b, off, cs, rfl, hb, hl, hc, hr⟩ := (hA.lo hR hlo hB) k xs[k] (List.getElem?_eq_getElem hlt)
      obtain ⟨c0, c1, rfl⟩ : ∃ c0 c1, cs = [c0, c1] := by
        match cs, hl with
        | [c0, c1], _ => exact ⟨c0, c1, rfl⟩
      have hc0 : wr.cell? ⟨b, off + k * 2, none⟩ = some c0 := hc 0 _ rfl
      have hc1 : wr.cell? ⟨b, off + k * 2 + 1, none⟩ = some c1 := hc 1 _ rfl
      have HF := Lib.hid (hf wr xs[k] c0 c1 (List.getElem_mem hlt) hlo hr)
      clear hc hr
      cases hp : p xs[k]
      all_goals
        have HP := Lib.hid hp
        clear hp
        go_wp2_with fail
        refine (HF.out).mono ?_
        rw [HP.out]
        rintro e w1 ⟨rfl, hb1⟩
        go_wp2
        first
          | (go_ret
             exact ⟨ret_int (findI_at hlt HP.out hall.out).symm, (by repeat (first | exact Lo.refl _ | assumption | refine Lo.drew ?_ | refine Lo.alloc ?_ _ | refine Lo.setCell ?_ (by first | (dsimp only; omega) | (simp; omega) | (simp; done)) _ | refine Lo.trans ?_ (by assumption)))⟩)
          | (go_roundw
             case rel => exact ⟨k + 1, by omega, by go_num, (by repeat (first | exact Lo.refl _ | assumption | refine Lo.drew ?_ | refine Lo.alloc ?_ _ | refine Lo.setCell ?_ (by first | (dsimp only; omega) | (simp; omega) | (simp; done)) _ | refine Lo.trans ?_ (by assumption))), Lib.hid (any_snoc' hall.out hlt HP.out)⟩
             case measure => simp [intOf]; omega)
    · have HF := hall.out
      rw [List.take_of_length_le (by omega)] at HF
      have HG := Lib.hid HF
      clear HF
      go_wp2
      go_ret
      exact ⟨ret_int (findI_none HG.out).symm, (by repeat (first | exact Lo.refl _ | assumption | refine Lo.drew ?_ | refine Lo.alloc ?_ _ | refine Lo.setCell ?_ (by first | (dsimp only; omega) | (simp; omega) | (simp; done)) _ | refine Lo.trans ?_ (by assumption)))⟩

theorem containsFunc {α : Type} {R : Rel α} (hR : Kept R) {B : Nat} {A : Option Addr} (cap : Nat) {xs : List α} {g : FuncId} {caps : Array Value} {p : α → Bool} (w : World) (hB : B ≤ w.heap.size) (hA : SliceAt R 2 B w A xs) (hn : xs.length ≤ maxLen) (eg : Go.Proofs.Enters Try.prog g) (hf : Says R B w xs g caps p) :
    Calls Try.prog 52 #[.slice A xs.length cap, .func (.func g) #[] caps] w fun e w' => e = .returned (.bool (xs.any p)) ∧ Lo w w' := by
  have hn' := hn
  unfold maxLen at hn
  go_enter Try.func52, Try.ntmps52
  go_wp2_with (go_at_call 58; refine (indexFunc hR cap w hB hA hn' eg hf).mono ?_; rintro e w1 ⟨rfl, hb⟩)
  go_ret
  exact ⟨ret_bool findI_any, (by repeat (first | exact Lo.refl _ | assumption | refine Lo.drew ?_ | refine Lo.alloc ?_ _ | refine Lo.setCell ?_ (by first | (dsimp only; omega) | (simp; omega) | (simp; done)) _ | refine Lo.trans ?_ (by assumption)))⟩
end Go.Proofs.Ytnclifgiakmmoaa.WIdxTerm

/- The walks of chapter 7's functions, second part. -/
namespace Go.Proofs.Ytnclifgiakmmoaa.WMatch
set_option linter.unusedVariables false
set_option linter.unusedSimpArgs false
open Go.RowKit Mem BigFrame


/-- what stands at a kind's place -/
def kindV (f : FuncId) (a b : ByteArray) : Value := .agg #[.func (.func f) #[] #[], .string a, .string b]
theorem idx1 (w : World) : (Instr.index 111 kindsV (.int .i64 1)).run Try.prog w = .ok (kindV 61 ⟨#[]⟩ ⟨#[]⟩) w := by kernel_rfl
theorem idx2 (w : World) : (Instr.index 111 kindsV (.int .i64 2)).run Try.prog w = .ok (kindV 62 ⟨#[]⟩ ⟨#[42]⟩) w := by kernel_rfl
theorem idx3 (w : World) : (Instr.index 111 kindsV (.int .i64 3)).run Try.prog w = .ok (kindV 63 ⟨#[42]⟩ ⟨#[]⟩) w := by kernel_rfl
theorem idx4 (w : World) : (Instr.index 111 kindsV (.int .i64 4)).run Try.prog w = .ok (kindV 64 ⟨#[42]⟩ ⟨#[]⟩) w := by kernel_rfl
theorem fld0 (f : FuncId) (a b : ByteArray) (w : World) : (Instr.field 110 (kindV f a b) 0).run Try.prog w = .ok (.func (.func f) #[] #[]) w := by kernel_rfl

set_option maxHeartbeats 800000 in
theorem matches_no (k : Int) (s t : ByteArray) (w : World) (hs : s.size ≤ maxLen) (hm : Pl.may k s.toList = false) :
    Calls Try.prog 54 #[.agg #[.int .i64 k, .string s], .string t] w fun e w' => e = .returned (.bool false) ∧ Lo w w' := by
  have hc : ∀ w : World, Calls Try.prog 59 #[.agg #[.int .i64 k, .string s]] w fun e w' => e = .returned (.bool false) ∧ Lo w w' := fun w => by
    have := may k s w hs; rwa [hm] at this
  clear hm
  have HC := Lib.hid hc
  clear hc
  go_enter Try.func54, Try.ntmps54
  go_wp2_with fail
  refine wp_region_ext (by kernel_rfl) (by kernel_rfl) ?_
  repeat (first | go_big_quiet_skip | (go_big_quiet_want; go_big_quiet_op; first | go_big_quiet_on | go_big_quiet_call ((go_at_call 59; exact quiet_ext (HC.out _)))))
  refine wpQuiet_nil ?_
  intro wq hq
  obtain ⟨hqc, hqf, hqz⟩ := hq.facts
  go_wp2
  go_ret
  exact ⟨rfl, (by repeat (first | exact Lo.refl _ | assumption | refine Lo.drew ?_ | refine Lo.alloc ?_ _ | refine Lo.setCell ?_ (by first | (dsimp only; omega) | (simp; omega) | (simp; done)) _ | refine Lo.trans ?_ (by assumption)))⟩

set_option maxHeartbeats 800000 in
theorem matches_1 (s t : ByteArray) (w : World) (hs : s.size ≤ maxLen) (ht : t.size ≤ maxLen) (hm : Pl.may 1 s.toList = true) :
    Calls Try.prog 54 #[.agg #[.int .i64 1, .string s], .string t] w fun e w' => e = .returned (.bool (Pl.hits 1 s.toList t.toList)) ∧ Lo w w' := by
  have hc : ∀ w : World, Calls Try.prog 59 #[.agg #[.int .i64 1, .string s]] w fun e w' => e = .returned (.bool true) ∧ Lo w w' := fun w => by
    have := may 1 s w hs; rwa [hm] at this
  clear hm
  have HC := Lib.hid hc
  clear hc
  have i1 := idx1
  have f0 := fld0
  go_enter Try.func54, Try.ntmps54
  go_wp2_with fail
  refine wp_region_ext (by kernel_rfl) (by kernel_rfl) ?_
  repeat (first | go_big_quiet_skip | (go_big_quiet_want; go_big_quiet_op; first | go_big_quiet_on | go_big_quiet_call ((first | (go_at_call 59; exact quiet_ext (HC.out _)) | (go_at_call 60; exact quiet_ext (kinds _)) | (go_at_call 61; exact quiet_ext_same (kinds1 _ _ _))))))
  refine wpQuiet_nil ?_
  intro wq hq
  obtain ⟨hqc, hqf, hqz⟩ := hq.facts
  go_wp2
  go_ret
  exact ⟨rfl, (by repeat (first | exact Lo.refl _ | assumption | refine Lo.drew ?_ | refine Lo.alloc ?_ _ | refine Lo.setCell ?_ (by first | (dsimp only; omega) | (simp; omega) | (simp; done)) _ | refine Lo.trans ?_ (by assumption)))⟩

set_option maxHeartbeats 800000 in
theorem matches_2 (s t : ByteArray) (w : World) (hs : s.size ≤ maxLen) (ht : t.size ≤ maxLen) (hm : Pl.may 2 s.toList = true) :
    Calls Try.prog 54 #[.agg #[.int .i64 2, .string s], .string t] w fun e w' => e = .returned (.bool (Pl.hits 2 s.toList t.toList)) ∧ Lo w w' := by
  have hc : ∀ w : World, Calls Try.prog 59 #[.agg #[.int .i64 2, .string s]] w fun e w' => e = .returned (.bool true) ∧ Lo w w' := fun w => by
    have := may 2 s w hs; rwa [hm] at this
  clear hm
  have HC := Lib.hid hc
  clear hc
  have i2 := idx2
  have f0 := fld0
  go_enter Try.func54, Try.ntmps54
  go_wp2_with fail
  refine wp_region_ext (by kernel_rfl) (by kernel_rfl) ?_
  repeat (first | go_big_quiet_skip | (go_big_quiet_want; go_big_quiet_op; first | go_big_quiet_on | go_big_quiet_call ((first | (go_at_call 59; exact quiet_ext (HC.out _)) | (go_at_call 60; exact quiet_ext (kinds _)) | (go_at_call 62; exact quiet_ext_same (hasPrefix _ _ _ ht hs))))))
  refine wpQuiet_nil ?_
  intro wq hq
  obtain ⟨hqc, hqf, hqz⟩ := hq.facts
  go_wp2
  go_ret
  exact ⟨rfl, (by repeat (first | exact Lo.refl _ | assumption | refine Lo.drew ?_ | refine Lo.alloc ?_ _ | refine Lo.setCell ?_ (by first | (dsimp only; omega) | (simp; omega) | (simp; done)) _ | refine Lo.trans ?_ (by assumption)))⟩

set_option maxHeartbeats 800000 in
theorem matches_3 (s t : ByteArray) (w : World) (hs : s.size ≤ maxLen) (ht : t.size ≤ maxLen) (hm : Pl.may 3 s.toList = true) :
    Calls Try.prog 54 #[.agg #[.int .i64 3, .string s], .string t] w fun e w' => e = .returned (.bool (Pl.hits 3 s.toList t.toList)) ∧ Lo w w' := by
  have hc : ∀ w : World, Calls Try.prog 59 #[.agg #[.int .i64 3, .string s]] w fun e w' => e = .returned (.bool true) ∧ Lo w w' := fun w => by
    have := may 3 s w hs; rwa [hm] at this
  clear hm
  have HC := Lib.hid hc
  clear hc
  have i3 := idx3
  have f0 := fld0
  go_enter Try.func54, Try.ntmps54
  go_wp2_with fail
  refine wp_region_ext (by kernel_rfl) (by kernel_rfl) ?_
  repeat (first | go_big_quiet_skip | (go_big_quiet_want; go_big_quiet_op; first | go_big_quiet_on | go_big_quiet_call ((first | (go_at_call 59; exact quiet_ext (HC.out _)) | (go_at_call 60; exact quiet_ext (kinds _)) | (go_at_call 63; exact quiet_ext_same (hasSuffix _ _ _ ht hs))))))
  refine wpQuiet_nil ?_
  intro wq hq
  obtain ⟨hqc, hqf, hqz⟩ := hq.facts
  go_wp2
  go_ret
  exact ⟨rfl, (by repeat (first | exact Lo.refl _ | assumption | refine Lo.drew ?_ | refine Lo.alloc ?_ _ | refine Lo.setCell ?_ (by first | (dsimp only; omega) | (simp; omega) | (simp; done)) _ | refine Lo.trans ?_ (by assumption)))⟩

set_option maxHeartbeats 800000 in
theorem matches_4 (s t : ByteArray) (w : World) (hs : s.size ≤ maxLen) (ht : t.size ≤ maxLen) (hm : Pl.may 4 s.toList = true) :
    Calls Try.prog 54 #[.agg #[.int .i64 4, .string s], .string t] w fun e w' => e = .returned (.bool (Pl.hits 4 s.toList t.toList)) ∧ Lo w w' := by
  have hc : ∀ w : World, Calls Try.prog 59 #[.agg #[.int .i64 4, .string s]] w fun e w' => e = .returned (.bool true) ∧ Lo w w' := fun w => by
    have := may 4 s w hs; rwa [hm] at this
  clear hm
  have HC := Lib.hid hc
  clear hc
  have i4 := idx4
  have f0 := fld0
  go_enter Try.func54, Try.ntmps54
  go_wp2_with fail
  refine wp_region_ext (by kernel_rfl) (by kernel_rfl) ?_
  repeat (first | go_big_quiet_skip | (go_big_quiet_want; go_big_quiet_op; first | go_big_quiet_on | go_big_quiet_call ((first | (go_at_call 59; exact quiet_ext (HC.out _)) | (go_at_call 60; exact quiet_ext (kinds _)) | (go_at_call 64; exact quiet_ext_same (kinds2 _ _ _))))))
  refine wpQuiet_nil ?_
  intro wq hq
  obtain ⟨hqc, hqf, hqz⟩ := hq.facts
  go_wp2
  go_ret
  exact ⟨rfl, (by repeat (first | exact Lo.refl _ | assumption | refine Lo.drew ?_ | refine Lo.alloc ?_ _ | refine Lo.setCell ?_ (by first | (dsimp only; omega) | (simp; omega) | (simp; done)) _ | refine Lo.trans ?_ (by assumption)))⟩

theorem matches_ (k : Int) (s t : ByteArray) (w : World) (hs : s.size ≤ maxLen) (ht : t.size ≤ maxLen) :
    Calls Try.prog 54 #[.agg #[.int .i64 k, .string s], .string t] w fun e w' => e = .returned (.bool (Pl.matches_ k s.toList t.toList)) ∧ Lo w w' := by
  by_cases hm : Pl.may k s.toList = true
  · rw [Pl.matches_of_may hm]
    rcases Pl.may_kinds hm with rfl | rfl | rfl | rfl
    · exact matches_1 s t w hs ht hm
    · exact matches_2 s t w hs ht hm
    · exact matches_3 s t w hs ht hm
    · exact matches_4 s t w hs ht hm
  · have hm' : Pl.may k s.toList = false := by simpa using hm
    have : Pl.matches_ k s.toList t.toList = false := by simp [Pl.matches_, hm']
    rw [this]
    exact matches_no k s t w hs hm'
end Go.Proofs.Ytnclifgiakmmoaa.WMatch

/- The walks of chapter 7's functions over rows of terms: Any, Lets, MayAll, and the reference's. -/
namespace Go.Proofs.Ytnclifgiakmmoaa.WMatch
set_option linter.unusedVariables false
set_option linter.unusedSimpArgs false
open Go.RowKit Mem BigFrame

def anyT (s : ByteArray) (ts : List Pl.Term) : Bool := ts.any fun t => Pl.matches_ t.k t.s.toList s.toList
def letsT (s : ByteArray) (ts : List Pl.Term) : Bool := ts.isEmpty || anyT s ts
theorem any1 (k : Int) (t s : ByteArray) (b : Nat) (w : World) (zt : t.size ≤ maxLen) (zs : s.size ≤ maxLen) (hc : w.cell? ⟨b, 0, none⟩ = some (.string s)) (hb : b < w.heap.size) :
    Calls Try.prog 53 #[.agg #[.int .i64 k, .string t], .pointer (some ⟨b, 0, none⟩)] w fun e w' => e = .returned (.bool (Pl.matches_ k t.toList s.toList)) ∧ Lo w w' := by
  go_enter Try.func53, Try.ntmps53
  go_wp2_with (go_at_call 54; refine (matches_ _ _ _ _ (by assumption) (by assumption)).mono ?_; rintro e w1 ⟨rfl, hb⟩)
  go_ret
  exact ⟨rfl, (by repeat (first | exact Lo.refl _ | assumption | refine Lo.drew ?_ | refine Lo.alloc ?_ _ | refine Lo.setCell ?_ (by first | (dsimp only; omega) | (simp; omega) | (simp; done)) _ | refine Lo.trans ?_ (by assumption)))⟩
theorem enters_any1 : Enters Try.prog 53 := enters_of Try.func53 (by kernel_rfl) rfl
theorem any (s : ByteArray) (A : Option Addr) (cap : Nat) (ts : List Pl.Term) {B : Nat} (w : World) (hB : B ≤ w.heap.size) (hA : Terms B w A ts) (zs : s.size ≤ maxLen) (hn : ts.length ≤ maxLen) :
    Calls Try.prog 42 #[.string s, .slice A ts.length cap] w fun e w' => e = .returned (.bool (anyT s ts)) ∧ Lo w w' := by
  have hA1 : Terms B (w.alloc (.cells #[.string s] 9)) A ts := hA.lo ((Lo.refl _).alloc _) hB
  have hc : (w.alloc (.cells #[.string s] 9)).cell? ⟨w.heap.size, 0, none⟩ = some (.string s) := by simp
  have hS : WIdxTerm.Says TermR B (w.alloc (.cells #[.string s] 9)) ts 53 #[.pointer (some ⟨w.heap.size, 0, none⟩)] (fun t => Pl.matches_ t.k t.s.toList s.toList) := by
    intro w' x c0 c1 hx hlo hr
    obtain ⟨he, hz⟩ := hr
    injection he with e0 he; injection he with e1 he; subst e0 e1
    exact any1 _ _ _ _ _ hz zs (lo_keep hlo hc) (hlo.facts.2.2 _ (by simp))
  have HC := Lib.hid (WIdxTerm.containsFunc TermR.kept cap (w.alloc (.cells #[.string s] 9)) (by simp; omega) hA1 hn enters_any1 hS)
  clear hc hS hA1
  go_enter Try.func42, Try.ntmps42
  go_wp2_with (go_at_call 52; refine (HC.out).mono ?_; rintro e w1 ⟨rfl, hb⟩)
  go_ret
  exact ⟨rfl, (by repeat (first | exact Lo.refl _ | assumption | refine Lo.drew ?_ | refine Lo.alloc ?_ _ | refine Lo.setCell ?_ (by first | (dsimp only; omega) | (simp; omega) | (simp; done)) _ | refine Lo.trans ?_ (by assumption)))⟩
theorem lets (s : ByteArray) (A : Option Addr) (cap : Nat) (ts : List Pl.Term) {B : Nat} (w : World) (hB : B ≤ w.heap.size) (hA : Terms B w A ts) (zs : s.size ≤ maxLen) (hn : ts.length ≤ maxLen) :
    Calls Try.prog 30 #[.string s, .slice A ts.length cap] w fun e w' => e = .returned (.bool (letsT s ts)) ∧ Lo w w' := by
  have HC := Lib.hid (any s A cap ts w hB hA zs hn)
  unfold letsT
  unfold maxLen at hn
  cases ts with
  | nil =>
    go_enter Try.func30, Try.ntmps30
    go_wp2
    go_ret
    exact ⟨rfl, (by repeat (first | exact Lo.refl _ | assumption | refine Lo.drew ?_ | refine Lo.alloc ?_ _ | refine Lo.setCell ?_ (by first | (dsimp only; omega) | (simp; omega) | (simp; done)) _ | refine Lo.trans ?_ (by assumption)))⟩
  | cons t r =>
    have h0 : ((((t :: r).length : Nat) : Int) == 0) = false := by rw [beq_eq_false_iff_ne]; simp; omega
    obtain ⟨n, hN⟩ : ∃ n, (t :: r).length = n := ⟨_, rfl⟩
    rw [hN] at h0 HC hn ⊢
    clear hN
    go_enter Try.func30, Try.ntmps30
    go_wp2_with (go_at_call 42; refine (HC.out).mono ?_; rintro e w1 ⟨rfl, hb⟩)
    go_ret
    exact ⟨rfl, (by repeat (first | exact Lo.refl _ | assumption | refine Lo.drew ?_ | refine Lo.alloc ?_ _ | refine Lo.setCell ?_ (by first | (dsimp only; omega) | (simp; omega) | (simp; done)) _ | refine Lo.trans ?_ (by assumption)))⟩
end Go.Proofs.Ytnclifgiakmmoaa.WMatch
