/- Merged by bundles.py: WIdxInt, WIdxStr, WAddr, WName, WIdxTerm, WMatch2. -/
import Derived.Test.YtnclifgiakmmoaaGreatH0
import Derived.Shelf.Abstract
import Derived.Test.YtnclifgiakmmoaaGreatH12
import Derived.Laws.RangeAny
/- slices.IndexFunc and ContainsFunc at int: a row of elements, a function value. (Written by mk_index.py.) -/
namespace Go.Proofs.YtnclifgiakmmoaaGreat.WIdxInt
set_option linter.unusedVariables false
set_option linter.unusedSimpArgs false
open Go.RowKit Mem BigFrame

def findI {α : Type} (p : α → Bool) (xs : List α) : Int := match xs.findIdx? p with | some k => (k : Int) | none => -1
theorem findI_at {α : Type} {p : α → Bool} {xs : List α} {k : Nat} (hk : k < xs.length) (hp : p xs[k] = true) (h : (xs.take k).any p = false) : findI p xs = (k : Int) := by
  unfold findI
  have : xs.findIdx? p = some k := by
    rw [List.findIdx?_eq_some_iff_getElem]
    refine ⟨hk, hp, fun j hj => ?_⟩
    rw [List.any_eq_false] at h
    have hm : xs[j]'(by omega) ∈ xs.take k := by
      rw [List.mem_take_iff_getElem]
      exact ⟨j, by omega, rfl⟩
    simpa using h _ hm
  rw [this]
theorem findI_none {α : Type} {p : α → Bool} {xs : List α} (h : xs.any p = false) : findI p xs = -1 := by
  unfold findI
  have : xs.findIdx? p = none := by
    rw [List.findIdx?_eq_none_iff]
    rw [List.any_eq_false] at h
    intro x hx; simpa using h x hx
  rw [this]
theorem findI_any {α : Type} {p : α → Bool} {xs : List α} : decide (0 ≤ findI p xs) = xs.any p := by
  unfold findI
  cases h : xs.findIdx? p with
  | none =>
    rw [List.findIdx?_eq_none_iff] at h
    have : xs.any p = false := by rw [List.any_eq_false]; intro x hx; simp [h x hx]
    rw [this]; rfl
  | some k =>
    rw [List.findIdx?_eq_some_iff_getElem] at h
    obtain ⟨hk, hp, _⟩ := h
    have : xs.any p = true := by rw [List.any_eq_true]; exact ⟨_, List.getElem_mem hk, hp⟩
    rw [this]; simp
theorem any_snoc' {α : Type} {l : List α} {p : α → Bool} {n : Nat} (h : (l.take n).any p = false) (hn : n < l.length) (hp : p l[n] = false) : (l.take (n + 1)).any p = false := by
  rw [List.take_succ_eq_append_getElem hn, List.any_append, h]; simp [hp]

/-- what a function value gives, at each element of the row, in each later world -/
def Says {α : Type} (R : Rel α) (B : Nat) (w : World) (xs : List α) (g : FuncId) (caps : Array Value) (p : α → Bool) : Prop :=
  ∀ (w' : World) (x : α) (c0 : Value), x ∈ xs → Lo w w' → R B w' x [c0] → Calls Tryz.prog g (#[c0] ++ caps) w' fun e w'' => e = .returned (.bool (p x)) ∧ Lo w' w''

set_option maxRecDepth 100000 in
set_option maxHeartbeats 800000 in
theorem indexFunc {α : Type} {R : Rel α} (hR : Kept R) {B : Nat} {A : Option Addr} (cap : Nat) {xs : List α} {g : FuncId} {caps : Array Value} {p : α → Bool} (w : World) (hB : B ≤ w.heap.size) (hA : SliceAt R 1 B w A xs) (hn : xs.length ≤ maxLen) (eg : Go.Proofs.Enters Tryz.prog g) (hf : Says R B w xs g caps p) :
    Calls Tryz.prog 114 #[.slice A xs.length cap, .func (.func g) #[] caps] w fun e w' => e = .returned (.int .i64 (findI p xs)) ∧ Lo w w' := by
  unfold maxLen at hn
  unfold Go.Proofs.Enters at eg
  go_enter Tryz.func114, Tryz.ntmps114
  go_wp2
  go_loopw [5, 8] (fun _ i wr => ∃ k : Nat, k ≤ xs.length ∧ i = .int .i64 k ∧ Lo w wr ∧ Hid ((xs.take k).any p = false)) (fun _ i _ => xs.length - (intOf i).toNat)
  case atStart => exact ⟨0, Nat.zero_le _, rfl, Lo.refl _, Lib.hid rfl⟩
  case round =>
    obtain ⟨k, hk, rfl, hlo, hall⟩ := hrel
    by_cases hlt : k < xs.length
    · obtain ⟨b, off, cs, rfl, hb, hl, hc, hr⟩ := (hA.lo hR hlo hB) k xs[k] (List.getElem?_eq_getElem hlt)
      obtain ⟨c0, rfl⟩ : ∃ c0, cs = [c0] := by
        match cs, hl with
        | [c0], _ => exact ⟨c0, rfl⟩
      have hc0 : wr.cell? ⟨b, off + k, none⟩ = some c0 := by have := hc 0 c0 rfl; simpa using this
      have HF := Lib.hid (hf wr xs[k] c0 (List.getElem_mem hlt) hlo hr)
      clear hc hr
      cases hp : p xs[k]
      all_goals
        have HP := Lib.hid hp
        clear hp
        go_wp2_with fail
        refine (HF.out).mono ?_
        rw [HP.out]
        rintro e w1 ⟨rfl, hb1⟩
        go_wp2
        first
          | (go_ret
             exact ⟨ret_int (findI_at hlt HP.out hall.out).symm, (by repeat (first | exact Lo.refl _ | assumption | refine Lo.drew ?_ | refine Lo.alloc ?_ _ | refine Lo.setCell ?_ (by first | (dsimp only; omega) | (simp; omega) | (simp; done)) _ | refine Lo.trans ?_ (by assumption)))⟩)
          | (go_roundw
             case rel => exact ⟨k + 1, by omega, by go_num, (by repeat (first | exact Lo.refl _ | assumption | refine Lo.drew ?_ | refine Lo.alloc ?_ _ | refine Lo.setCell ?_ (by first | (dsimp only; omega) | (simp; omega) | (simp; done)) _ | refine Lo.trans ?_ (by assumption))), Lib.hid (any_snoc' hall.out hlt HP.out)⟩
             case measure => simp [intOf]; omega)
    · have HF := hall.out
      rw [List.take_of_length_le (by omega)] at HF
      have HG := Lib.hid HF
      clear HF
      go_wp2
      go_ret
      exact ⟨ret_int (findI_none HG.out).symm, (by repeat (first | exact Lo.refl _ | assumption | refine Lo.drew ?_ | refine Lo.alloc ?_ _ | refine Lo.setCell ?_ (by first | (dsimp only; omega) | (simp; omega) | (simp; done)) _ | refine Lo.trans ?_ (by assumption)))⟩

theorem containsFunc {α : Type} {R : Rel α} (hR : Kept R) {B : Nat} {A : Option Addr} (cap : Nat) {xs : List α} {g : FuncId} {caps : Array Value} {p : α → Bool} (w : World) (hB : B ≤ w.heap.size) (hA : SliceAt R 1 B w A xs) (hn : xs.length ≤ maxLen) (eg : Go.Proofs.Enters Tryz.prog g) (hf : Says R B w xs g caps p) :
    Calls Tryz.prog 106 #[.slice A xs.length cap, .func (.func g) #[] caps] w fun e w' => e = .returned (.bool (xs.any p)) ∧ Lo w w' := by
  have hn' := hn
  unfold maxLen at hn
  go_enter Tryz.func106, Tryz.ntmps106
  go_wp2_with (go_at_call 114; refine (indexFunc hR cap w hB hA hn' eg hf).mono ?_; rintro e w1 ⟨rfl, hb⟩)
  go_ret
  exact ⟨ret_bool findI_any, (by repeat (first | exact Lo.refl _ | assumption | refine Lo.drew ?_ | refine Lo.alloc ?_ _ | refine Lo.setCell ?_ (by first | (dsimp only; omega) | (simp; omega) | (simp; done)) _ | refine Lo.trans ?_ (by assumption)))⟩
end Go.Proofs.YtnclifgiakmmoaaGreat.WIdxInt

/- slices.IndexFunc and ContainsFunc at string: a row of elements, a function value. (Written by mk_index.py.) -/
namespace Go.Proofs.YtnclifgiakmmoaaGreat.WIdxStr
set_option linter.unusedVariables false
set_option linter.unusedSimpArgs false
open Go.RowKit Mem BigFrame

def findI {α : Type} (p : α → Bool) (xs : List α) : Int := match xs.findIdx? p with | some k => (k : Int) | none => -1
theorem findI_at {α : Type} {p : α → Bool} {xs : List α} {k : Nat} (hk : k < xs.length) (hp : p xs[k] = true) (h : (xs.take k).any p = false) : findI p xs = (k : Int) := by
  unfold findI
  have : xs.findIdx? p = some k := by
    rw [List.findIdx?_eq_some_iff_getElem]
    refine ⟨hk, hp, fun j hj => ?_⟩
    rw [List.any_eq_false] at h
    have hm : xs[j]'(by omega) ∈ xs.take k := by
      rw [List.mem_take_iff_getElem]
      exact ⟨j, by omega, rfl⟩
    simpa using h _ hm
  rw [this]
theorem findI_none {α : Type} {p : α → Bool} {xs : List α} (h : xs.any p = false) : findI p xs = -1 := by
  unfold findI
  have : xs.findIdx? p = none := by
    rw [List.findIdx?_eq_none_iff]
    rw [List.any_eq_false] at h
    intro x hx; simpa using h x hx
  rw [this]
theorem findI_any {α : Type} {p : α → Bool} {xs : List α} : decide (0 ≤ findI p xs) = xs.any p := by
  unfold findI
  cases h : xs.findIdx? p with
  | none =>
    rw [List.findIdx?_eq_none_iff] at h
    have : xs.any p = false := by rw [List.any_eq_false]; intro x hx; simp [h x hx]
    rw [this]; rfl
  | some k =>
    rw [List.findIdx?_eq_some_iff_getElem] at h
    obtain ⟨hk, hp, _⟩ := h
    have : xs.any p = true := by rw [List.any_eq_true]; exact ⟨_, List.getElem_mem hk, hp⟩
    rw [this]; simp
theorem any_snoc' {α : Type} {l : List α} {p : α → Bool} {n : Nat} (h : (l.take n).any p = false) (hn : n < l.length) (hp : p l[n] = false) : (l.take (n + 1)).any p = false := by
  rw [List.take_succ_eq_append_getElem hn, List.any_append, h]; simp [hp]

/-- what a function value gives, at each element of the row, in each later world -/
def Says {α : Type} (R : Rel α) (B : Nat) (w : World) (xs : List α) (g : FuncId) (caps : Array Value) (p : α → Bool) : Prop :=
  ∀ (w' : World) (x : α) (c0 : Value), x ∈ xs → Lo w w' → R B w' x [c0] → Calls Tryz.prog g (#[c0] ++ caps) w' fun e w'' => e = .returned (.bool (p x)) ∧ Lo w' w''

set_option maxRecDepth 100000 in
set_option maxHeartbeats 800000 in
theorem indexFunc {α : Type} {R : Rel α} (hR : Kept R) {B : Nat} {A : Option Addr} (cap : Nat) {xs : List α} {g : FuncId} {caps : Array Value} {p : α → Bool} (w : World) (hB : B ≤ w.heap.size) (hA : SliceAt R 1 B w A xs) (hn : xs.length ≤ maxLen) (eg : Go.Proofs.Enters Tryz.prog g) (hf : Says R B w xs g caps p) :
    Calls Tryz.prog 108 #[.slice A xs.length cap, .func (.func g) #[] caps] w fun e w' => e = .returned (.int .i64 (findI p xs)) ∧ Lo w w' := by
  unfold maxLen at hn
  unfold Go.Proofs.Enters at eg
  go_enter Tryz.func108, Tryz.ntmps108
  go_wp2
  go_loopw [5, 8] (fun _ i wr => ∃ k : Nat, k ≤ xs.length ∧ i = .int .i64 k ∧ Lo w wr ∧ Hid ((xs.take k).any p = false)) (fun _ i _ => xs.length - (intOf i).toNat)
  case atStart => exact ⟨0, Nat.zero_le _, rfl, Lo.refl _, Lib.hid rfl⟩
  case round =>
    obtain ⟨k, hk, rfl, hlo, hall⟩ := hrel
    by_cases hlt : k < xs.length
    · obtain ⟨b, off, cs, rfl, hb, hl, hc, hr⟩ := (hA.lo hR hlo hB) k xs[k] (List.getElem?_eq_getElem hlt)
      obtain ⟨c0, rfl⟩ : ∃ c0, cs = [c0] := by
        match cs, hl with
        | [c0], _ => exact ⟨c0, rfl⟩
      have hc0 : wr.cell? ⟨b, off + k, none⟩ = some c0 := by have := hc 0 c0 rfl; simpa using this
      have HF := Lib.hid (hf wr xs[k] c0 (List.getElem_mem hlt) hlo hr)
      clear hc hr
      cases hp : p xs[k]
      all_goals
        have HP := Lib.hid hp
        clear hp
        go_wp2_with fail
        refine (HF.out).mono ?_
        rw [HP.out]
        rintro e w1 ⟨rfl, hb1⟩
        go_wp2
        first
          | (go_ret
             exact ⟨ret_int (findI_at hlt HP.out hall.out).symm, (by repeat (first | exact Lo.refl _ | assumption | refine Lo.drew ?_ | refine Lo.alloc ?_ _ | refine Lo.setCell ?_ (by first | (dsimp only; omega) | (simp; omega) | (simp; done)) _ | refine Lo.trans ?_ (by assumption)))⟩)
          | (go_roundw
             case rel => exact ⟨k + 1, by omega, by go_num, (by repeat (first | exact Lo.refl _ | assumption | refine Lo.drew ?_ | refine Lo.alloc ?_ _ | refine Lo.setCell ?_ (by first | (dsimp only; omega) | (simp; omega) | (simp; done)) _ | refine Lo.trans ?_ (by assumption))), Lib.hid (any_snoc' hall.out hlt HP.out)⟩
             case measure => simp [intOf]; omega)
    · have HF := hall.out
      rw [List.take_of_length_le (by omega)] at HF
      have HG := Lib.hid HF
      clear HF
      go_wp2
      go_ret
      exact ⟨ret_int (findI_none HG.out).symm, (by repeat (first | exact Lo.refl _ | assumption | refine Lo.drew ?_ | refine Lo.alloc ?_ _ | refine Lo.setCell ?_ (by first | (dsimp only; omega) | (simp; omega) | (simp; done)) _ | refine Lo.trans ?_ (by assumption)))⟩

theorem containsFunc {α : Type} {R : Rel α} (hR : Kept R) {B : Nat} {A : Option Addr} (cap : Nat) {xs : List α} {g : FuncId} {caps : Array Value} {p : α → Bool} (w : World) (hB : B ≤ w.heap.size) (hA : SliceAt R 1 B w A xs) (hn : xs.length ≤ maxLen) (eg : Go.Proofs.Enters Tryz.prog g) (hf : Says R B w xs g caps p) :
    Calls Tryz.prog 97 #[.slice A xs.length cap, .func (.func g) #[] caps] w fun e w' => e = .returned (.bool (xs.any p)) ∧ Lo w w' := by
  have hn' := hn
  unfold maxLen at hn
  go_enter Tryz.func97, Tryz.ntmps97
  go_wp2_with (go_at_call 108; refine (indexFunc hR cap w hB hA hn' eg hf).mono ?_; rintro e w1 ⟨rfl, hb⟩)
  go_ret
  exact ⟨ret_bool findI_any, (by repeat (first | exact Lo.refl _ | assumption | refine Lo.drew ?_ | refine Lo.alloc ?_ _ | refine Lo.setCell ?_ (by first | (dsimp only; omega) | (simp; omega) | (simp; done)) _ | refine Lo.trans ?_ (by assumption)))⟩
end Go.Proofs.YtnclifgiakmmoaaGreat.WIdxStr

/- The walks of addr: Mask, May, In. -/
namespace Go.Proofs.YtnclifgiakmmoaaGreat.WAddr
set_option linter.unusedVariables false
set_option linter.unusedSimpArgs false
open Go.RowKit Mem BigFrame

/-- bits cut to 0 .. 32 -/
def clamp (b : Int) : Nat := (min (max b 0) 32).toNat
def maskN (b : Int) : Int := (4294967296 - 2 ^ (32 - clamp b)) % 4294967296
theorem pow_le (n : Nat) (h : n ≤ 32) : 1 ≤ (2 : Int) ^ n ∧ (2 : Int) ^ n ≤ 4294967296 := by
  have h1 : (2 : Nat) ^ n ≤ 2 ^ 32 := Nat.pow_le_pow_right (by omega) h
  have h2 : 1 ≤ (2 : Nat) ^ n := Nat.one_le_two_pow
  have e : ((2 ^ n : Nat) : Int) = (2 : Int) ^ n := by simp
  rw [← e]
  omega

theorem mask (b : Int) (w : World) : Calls Tryz.prog 105 #[.int .i64 b] w fun e w' => e = .returned (.int .u32 (maskN b)) ∧ w = w' := by
  by_cases h0 : b < 0
  · have hv : maskN b = 0 := by
      have hc : clamp b = 0 := by unfold clamp; omega
      unfold maskN; rw [hc]; rfl
    rw [hv]
    clear hv
    go_enter Tryz.func105, Tryz.ntmps105
    go_wp2
    go_ret
    exact ⟨rfl, rfl⟩
  · by_cases h1 : 32 < b
    · have hv : maskN b = 4294967295 := by
        have hc : clamp b = 32 := by unfold clamp; omega
        unfold maskN; rw [hc]; rfl
      rw [hv]
      clear hv
      go_enter Tryz.func105, Tryz.ntmps105
      go_wp2
      go_ret
      exact ⟨rfl, rfl⟩
    · have he : (32 - b).toNat = 32 - b.toNat := by omega
      have hp := pow_le (32 - b.toNat) (by omega)
      have hv : maskN b = 4294967296 - 2 ^ (32 - b.toNat) := by
        have hc : clamp b = b.toNat := by unfold clamp; omega
        unfold maskN; rw [hc]
        generalize (2 : Int) ^ (32 - b.toNat) = y at *
        omega
      rw [hv]
      clear hv
      go_enter Tryz.func105, Tryz.ntmps105
      go_wp2
      go_ret
      exact ⟨rfl, rfl⟩

/-- may a net be? -/
def mayC (c : Pl.Cidr) : Bool := decide (0 ≤ c.bits) && decide (c.bits ≤ 32) && (bits .andNot .u32 c.addr (maskN c.bits) == 0)
def inC (c : Pl.Cidr) (a : Int) : Bool := mayC c && (bits .and .u32 a (maskN c.bits) == c.addr)

theorem mayA (c : Pl.Cidr) (w : World) : Calls Tryz.prog 104 #[.agg #[.int .u32 c.addr, .int .i64 c.bits]] w fun e w' => e = .returned (.bool (mayC c)) ∧ Lo w w' := by
  obtain ⟨a, b⟩ := c
  unfold mayC
  simp only
  by_cases h0 : 0 ≤ b
  · by_cases h1 : b ≤ 32
    · have hd0 : decide (0 ≤ b) = true := by simpa using h0
      have hd1 : decide (b ≤ 32) = true := by simpa using h1
      rw [hd0, hd1]
      go_enter Tryz.func104, Tryz.ntmps104
      go_wp2_with fail
      refine wp_region_ext (by kernel_rfl) (by kernel_rfl) ?_
      repeat (first | go_big_quiet_skip | (go_big_quiet_want; go_big_quiet_op; first | go_big_quiet_on | go_big_quiet_call (((go_at_call 105; exact quiet_ext_same (mask _ _))))))
      refine wpQuiet_nil ?_
      intro wq hq
      obtain ⟨hqc, hqf, hqz⟩ := hq.facts
      go_wp2
      go_ret
      exact ⟨rfl, (by repeat (first | exact Lo.refl _ | assumption | refine Lo.drew ?_ | refine Lo.alloc ?_ _ | refine Lo.setCell ?_ (by first | (dsimp only; omega) | (simp; omega) | (simp; done)) _ | refine Lo.trans ?_ (by assumption)))⟩
    · have hd0 : decide (0 ≤ b) = true := by simpa using h0
      have hd1 : decide (b ≤ 32) = false := by simpa using h1
      rw [hd0, hd1]
      go_enter Tryz.func104, Tryz.ntmps104
      go_wp2_with fail
      refine wp_region_ext (by kernel_rfl) (by kernel_rfl) ?_
      repeat (first | go_big_quiet_skip | (go_big_quiet_want; go_big_quiet_op; first | go_big_quiet_on | go_big_quiet_call (((go_at_call 105; exact quiet_ext_same (mask _ _))))))
      refine wpQuiet_nil ?_
      intro wq hq
      obtain ⟨hqc, hqf, hqz⟩ := hq.facts
      go_wp2
      go_ret
      exact ⟨rfl, (by repeat (first | exact Lo.refl _ | assumption | refine Lo.drew ?_ | refine Lo.alloc ?_ _ | refine Lo.setCell ?_ (by first | (dsimp only; omega) | (simp; omega) | (simp; done)) _ | refine Lo.trans ?_ (by assumption)))⟩
  · have hd0 : decide (0 ≤ b) = false := by simpa using h0
    rw [hd0]
    go_enter Tryz.func104, Tryz.ntmps104
    go_wp2_with fail
    refine wp_region_ext (by kernel_rfl) (by kernel_rfl) ?_
    repeat (first | go_big_quiet_skip | (go_big_quiet_want; go_big_quiet_op; first | go_big_quiet_on | go_big_quiet_call (((go_at_call 105; exact quiet_ext_same (mask _ _))))))
    refine wpQuiet_nil ?_
    intro wq hq
    obtain ⟨hqc, hqf, hqz⟩ := hq.facts
    go_wp2
    go_ret
    exact ⟨rfl, (by repeat (first | exact Lo.refl _ | assumption | refine Lo.drew ?_ | refine Lo.alloc ?_ _ | refine Lo.setCell ?_ (by first | (dsimp only; omega) | (simp; omega) | (simp; done)) _ | refine Lo.trans ?_ (by assumption)))⟩
theorem inA (c : Pl.Cidr) (x : Int) (w : World) : Calls Tryz.prog 92 #[.agg #[.int .u32 c.addr, .int .i64 c.bits], .int .u32 x] w fun e w' => e = .returned (.bool (inC c x)) ∧ Lo w w' := by
  unfold inC
  cases hm : mayC c
  all_goals
    have hc : ∀ w : World, Calls Tryz.prog 104 #[.agg #[.int .u32 c.addr, .int .i64 c.bits]] w fun e w' => e = .returned (.bool (mayC c)) ∧ Lo w w' := fun w => mayA c w
    rw [hm] at hc
    have HC := Lib.hid hc
    clear hc hm
    go_enter Tryz.func92, Tryz.ntmps92
    go_wp2_with fail
    refine wp_region_ext (by kernel_rfl) (by kernel_rfl) ?_
    repeat (first | go_big_quiet_skip | (go_big_quiet_want; go_big_quiet_op; first | go_big_quiet_on | go_big_quiet_call ((first | (go_at_call 104; exact quiet_ext (HC.out _)) | (go_at_call 105; exact quiet_ext_same (mask _ _))))))
    refine wpQuiet_nil ?_
    intro wq hq
    obtain ⟨hqc, hqf, hqz⟩ := hq.facts
    go_wp2
    go_ret
    exact ⟨rfl, (by repeat (first | exact Lo.refl _ | assumption | refine Lo.drew ?_ | refine Lo.alloc ?_ _ | refine Lo.setCell ?_ (by first | (dsimp only; omega) | (simp; omega) | (simp; done)) _ | refine Lo.trans ?_ (by assumption)))⟩
end Go.Proofs.YtnclifgiakmmoaaGreat.WAddr

/- The walks of name: MayLabel, May, Print. -/
namespace Go.Proofs.YtnclifgiakmmoaaGreat.WName
set_option linter.unusedVariables false
set_option linter.unusedSimpArgs false
open Go.RowKit Mem BigFrame

/-- may a label's letter be c, the i-th of n? -/
def lcN (n i c : Nat) : Bool := decide (97 ≤ c ∧ c ≤ 122) || decide (48 ≤ c ∧ c ≤ 57) || (decide (c = 45) && decide (i ≠ 0 ∧ i + 1 ≠ n))
def lcs (s : ByteArray) (i : Nat) : Bool := lcN s.size i ((s.toList.getD i 0).toNat)
def label (s : ByteArray) : Bool := (List.range s.size).all (lcs s) && decide (1 ≤ s.size) && decide (s.size ≤ 20)
theorem label_bad {s : ByteArray} {i : Nat} (hi : i < s.size) (h : lcs s i = false) : label s = false := by
  have : (List.range s.size).all (lcs s) = false := by
    rw [List.all_eq_false]; exact ⟨i, by simpa using hi, by simp [h]⟩
  simp [label, this]
theorem lcs_at {s : ByteArray} {i : Nat} (hi : i < s.size) : lcs s i = lcN s.size i (s[i]'hi).toNat := by
  unfold lcs
  rw [List.getD_eq_getElem?_getD, toList_get s i hi]; rfl
theorem range_more {f : Nat → Bool} {i : Nat} (h : (List.range i).all f = true) (hi : f i = true) : (List.range (i + 1)).all f = true := by
  rw [List.range_succ, List.all_append, h]; simp [hi]

theorem edge_or {a b c : Int} (h : (a == 0) = true ∨ (b == c) = true) : a = 0 ∨ b = c := by simpa only [beq_iff_eq] using h
theorem edge_and {a b c : Int} (h : (a == 0) = false ∧ (b == c) = false) : ¬ a = 0 ∧ ¬ b = c := by simpa only [beq_eq_false_iff_ne, ne_eq] using h

set_option maxRecDepth 100000 in
set_option maxHeartbeats 1600000 in
theorem mayLabel (s : ByteArray) (w : World) (hs : s.size ≤ maxLen) : Calls Tryz.prog 112 #[.string s] w fun e w' => e = .returned (.bool (label s)) ∧ Lo w w' := by
  unfold maxLen at hs
  have hlo : ∀ pos, Lo w (w.iter s pos) := fun pos => (Lo.refl w).alloc _
  have HL := Lib.hid hlo
  clear hlo
  go_enter Tryz.func112, Tryz.ntmps112
  go_wp2
  go_loopw [3] (fun _ w' => ∃ pos : Nat, w' = w.iter s pos ∧ pos ≤ s.size ∧ Hid ((List.range pos).all (lcs s) = true)) (fun _ w' => s.size - w'.iterPos w.heap.size)
  case atStart => exact ⟨0, rfl, Nat.zero_le _, Lib.hid rfl⟩
  case round =>
    obtain ⟨pos, rfl, hle, hall⟩ := hrel
    by_cases hp : pos < s.size
    · have hat := lcs_at hp
      by_cases ha : (s[pos]'hp).toNat < 128
      · have hnx : ∀ ty, (Instr.next (.pointer (some ⟨w.heap.size, 0, none⟩)) true ty).run Tryz.prog (w.iter s pos) = _ := fun ty => run_next_ascii w s pos ty hp ha
        have HAT := Lib.hid hat
        clear hat
        generalize (s[pos]'hp).toNat = c at *
        go_wp2
        all_goals
          (try have q1 : (c : Int) = 45 := eq_of_beq (by assumption))
          (try have q2 : ¬ (c : Int) = 45 := ne_of_beq_false (by assumption))
          (try have q3 : (pos : Int) = 0 := eq_of_beq (by assumption))
          (try have q4 : ¬ (pos : Int) = 0 := ne_of_beq_false (by assumption))
          (try have q5 : (pos : Int) + 1 = s.size := eq_of_beq (by assumption))
          (try have q7 := edge_or (by assumption))
          (try have q8 := edge_and (by assumption))
          (try have q6 : ¬ (pos : Int) + 1 = s.size := ne_of_beq_false (by assumption))
          first
            | (go_ret
               exact ⟨ret_bool (label_bad hp (by rw [HAT.out]; unfold lcN; simp only [Bool.or_eq_false_iff, Bool.and_eq_false_iff, decide_eq_false_iff_not]; omega)).symm, HL.out _⟩)
            | (refine ⟨⟨pos + 1, by first | rfl | (congr 1; omega), by omega, Lib.hid (range_more hall.out (by rw [HAT.out]; unfold lcN; simp only [Bool.or_eq_true, Bool.and_eq_true, decide_eq_true_eq]; omega))⟩, by simp; omega⟩)
            | (exfalso; omega)
            | (exfalso; rename_i hl; simp at hl; omega)
      · have hdh := decode_high s pos hp (by omega)
        have hnx : ∀ ty, (Instr.next (.pointer (some ⟨w.heap.size, 0, none⟩)) true ty).run Tryz.prog (w.iter s pos) = _ := fun ty => run_next_any w s pos ty hp
        have hf : lcs s pos = false := by
          rw [hat]; unfold lcN; simp only [Bool.or_eq_false_iff, Bool.and_eq_false_iff, decide_eq_false_iff_not]; omega
        have HF := Lib.hid (label_bad hp hf)
        clear hat hf
        generalize (Utf8.decode s pos).1 = c at *
        generalize (Utf8.decode s pos).2 = d at *
        have hc2 : ((c : Int) == 45) = false := by rw [beq_eq_false_iff_ne]; omega
        go_wp2
        all_goals first
          | (exfalso; omega)
          | (go_ret
             exact ⟨ret_bool HF.out.symm, HL.out _⟩)
          | (exfalso; rename_i hl; simp at hl; omega)
    · have hnx : ∀ ty, (Instr.next (.pointer (some ⟨w.heap.size, 0, none⟩)) true ty).run Tryz.prog (w.iter s pos) = _ := fun ty => run_next_end w s pos ty hp
      have hpe : pos = s.size := by omega
      have hlb : label s = (decide (1 ≤ s.size) && decide (s.size ≤ 20)) := by
        have := hall.out
        rw [hpe] at this
        unfold label; rw [this]; rfl
      have HLB := Lib.hid hlb
      clear hlb hpe
      go_wp2
      all_goals
        go_ret
        exact ⟨ret_bool (by rw [HLB.out, Bool.eq_iff_iff]; simp only [Bool.and_eq_true, decide_eq_true_eq, Bool.false_eq_true, iff_false, false_iff, true_iff, iff_true]; omega), HL.out _⟩

def mayN (ns sa : ByteArray) : Bool := label ns && label sa
set_option maxHeartbeats 800000 in
theorem mayName (ns sa : ByteArray) (w : World) (zn : ns.size ≤ maxLen) (zs : sa.size ≤ maxLen) : Calls Tryz.prog 102 #[.agg #[.string ns, .string sa]] w fun e w' => e = .returned (.bool (mayN ns sa)) ∧ Lo w w' := by
  unfold mayN
  obtain ⟨x, hx⟩ : ∃ x, label ns = x := ⟨_, rfl⟩
  obtain ⟨y, hy⟩ : ∃ y, label sa = y := ⟨_, rfl⟩
  have C1 : ∀ W, Calls Tryz.prog 112 #[.string ns] W fun e w' => e = .returned (.bool x) ∧ Lo W w' := fun W => by rw [← hx]; exact mayLabel ns W zn
  have C2 : ∀ W, Calls Tryz.prog 112 #[.string sa] W fun e w' => e = .returned (.bool y) ∧ Lo W w' := fun W => by rw [← hy]; exact mayLabel sa W zs
  rw [hx, hy]
  have H1 := Lib.hid C1
  have H2 := Lib.hid C2
  clear C1 C2 hx hy
  cases x
  all_goals
    go_enter Tryz.func102, Tryz.ntmps102
    go_wp2_with (go_at_call 112; first
      | ((with_reducible refine (H1.out _).mono ?_); rintro e w1 ⟨rfl, hb⟩; obtain ⟨hc, hf, hz⟩ := hb.facts; have hz0 := hz w.heap.size (by first | assumption | (simp; done) | (simp; omega)); have hq0 := fun o => hc w.heap.size o (by first | assumption | (simp; done) | (simp; omega)))
      | ((with_reducible refine (H2.out _).mono ?_); rintro e w1 ⟨rfl, hb⟩; obtain ⟨hc, hf, hz⟩ := hb.facts; have hz0 := hz w.heap.size (by first | assumption | (simp; done) | (simp; omega)); have hq0 := fun o => hc w.heap.size o (by first | assumption | (simp; done) | (simp; omega))))
    go_ret
    exact ⟨ret_bool (by simp), (by repeat (first | exact Lo.refl _ | assumption | refine Lo.drew ?_ | refine Lo.alloc ?_ _ | refine Lo.setCell ?_ (by first | (dsimp only; omega) | (simp; omega) | (simp; done)) _ | refine Lo.trans ?_ (by assumption)))⟩

def pre1 : ByteArray := ⟨#[115, 112, 105, 102, 102, 101, 58, 47, 47, 109, 101, 115, 104, 47, 110, 115, 47]⟩
def pre2 : ByteArray := ⟨#[47, 115, 97, 47]⟩
/-- a name's text, none where it may not be -/
def nameText (ns sa : ByteArray) : ByteArray := if mayN ns sa then pre1 ++ ns ++ pre2 ++ sa else ⟨#[]⟩
theorem mayN_len {ns sa : ByteArray} (h : mayN ns sa = true) : ns.size ≤ 20 ∧ sa.size ≤ 20 := by
  simp [mayN, label] at h; omega
theorem nameText_len (ns sa : ByteArray) : (nameText ns sa).size ≤ 61 := by
  unfold nameText
  split
  · rename_i h
    have := mayN_len h
    have h1 : pre1.size = 17 := rfl
    have h2 : pre2.size = 4 := rfl
    simp [h1, h2]; omega
  · exact Nat.zero_le _
set_option maxHeartbeats 800000 in
theorem printName (ns sa : ByteArray) (w : World) (zn : ns.size ≤ maxLen) (zs : sa.size ≤ maxLen) : Calls Tryz.prog 88 #[.agg #[.string ns, .string sa]] w fun e w' => e = .returned (.tuple #[.string (nameText ns sa), .int .i64 (if mayN ns sa then 0 else 1)]) ∧ Lo w w' := by
  unfold nameText
  obtain ⟨x, hx⟩ : ∃ x, mayN ns sa = x := ⟨_, rfl⟩
  have C1 : ∀ W, Calls Tryz.prog 102 #[.agg #[.string ns, .string sa]] W fun e w' => e = .returned (.bool x) ∧ Lo W w' := fun W => by rw [← hx]; exact mayName ns sa W zn zs
  have H1 := Lib.hid C1
  rw [hx]
  cases x with
  | false =>
    clear C1 hx
    go_enter Tryz.func88, Tryz.ntmps88
    go_wp2_with (go_at_call 102; refine (H1.out _).mono ?_; rintro e w1 ⟨rfl, hb⟩; obtain ⟨hc, hf, hz⟩ := hb.facts; have hz0 := hz w.heap.size (by first | assumption | (simp; done) | (simp; omega)); have hq0 := fun o => hc w.heap.size o (by first | assumption | (simp; done) | (simp; omega)))
    go_ret2
    exact ⟨rfl, (by repeat (first | exact Lo.refl _ | assumption | refine Lo.drew ?_ | refine Lo.alloc ?_ _ | refine Lo.setCell ?_ (by first | (dsimp only; omega) | (simp; omega) | (simp; done)) _ | refine Lo.trans ?_ (by assumption)))⟩
  | true =>
    have hl := mayN_len hx
    have h1 : pre1.size = 17 := rfl
    have h2 : pre2.size = 4 := rfl
    clear C1 hx
    go_enter Tryz.func88, Tryz.ntmps88
    go_wp2_with (go_at_call 102; refine (H1.out _).mono ?_; rintro e w1 ⟨rfl, hb⟩; obtain ⟨hc, hf, hz⟩ := hb.facts; have hz0 := hz w.heap.size (by first | assumption | (simp; done) | (simp; omega)); have hq0 := fun o => hc w.heap.size o (by first | assumption | (simp; done) | (simp; omega)))
    go_ret2
    exact ⟨rfl, (by repeat (first | exact Lo.refl _ | assumption | refine Lo.drew ?_ | refine Lo.alloc ?_ _ | refine Lo.setCell ?_ (by first | (dsimp only; omega) | (simp; omega) | (simp; done)) _ | refine Lo.trans ?_ (by assumption)))⟩
end Go.Proofs.YtnclifgiakmmoaaGreat.WName

/- slices.IndexFunc and ContainsFunc at gatepost/api.Term: a row of elements, a function value. (Written by mk_index.py.) -/
namespace Go.Proofs.YtnclifgiakmmoaaGreat.WIdxTerm
set_option linter.unusedVariables false
set_option linter.unusedSimpArgs false
open Go.RowKit Mem BigFrame

def findI {α : Type} (p : α → Bool) (xs : List α) : Int := match xs.findIdx? p with | some k => (k : Int) | none => -1
theorem findI_at {α : Type} {p : α → Bool} {xs : List α} {k : Nat} (hk : k < xs.length) (hp : p xs[k] = true) (h : (xs.take k).any p = false) : findI p xs = (k : Int) := by
  unfold findI
  have : xs.findIdx? p = some k := by
    rw [List.findIdx?_eq_some_iff_getElem]
    refine ⟨hk, hp, fun j hj => ?_⟩
    rw [List.any_eq_false] at h
    have hm : xs[j]'(by omega) ∈ xs.take k := by
      rw [List.mem_take_iff_getElem]
      exact ⟨j, by omega, rfl⟩
    simpa using h _ hm
  rw [this]
theorem findI_none {α : Type} {p : α → Bool} {xs : List α} (h : xs.any p = false) : findI p xs = -1 := by
  unfold findI
  have : xs.findIdx? p = none := by
    rw [List.findIdx?_eq_none_iff]
    rw [List.any_eq_false] at h
    intro x hx; simpa using h x hx
  rw [this]
theorem findI_any {α : Type} {p : α → Bool} {xs : List α} : decide (0 ≤ findI p xs) = xs.any p := by
  unfold findI
  cases h : xs.findIdx? p with
  | none =>
    rw [List.findIdx?_eq_none_iff] at h
    have : xs.any p = false := by rw [List.any_eq_false]; intro x hx; simp [h x hx]
    rw [this]; rfl
  | some k =>
    rw [List.findIdx?_eq_some_iff_getElem] at h
    obtain ⟨hk, hp, _⟩ := h
    have : xs.any p = true := by rw [List.any_eq_true]; exact ⟨_, List.getElem_mem hk, hp⟩
    rw [this]; simp
theorem any_snoc' {α : Type} {l : List α} {p : α → Bool} {n : Nat} (h : (l.take n).any p = false) (hn : n < l.length) (hp : p l[n] = false) : (l.take (n + 1)).any p = false := by
  rw [List.take_succ_eq_append_getElem hn, List.any_append, h]; simp [hp]

/-- what a function value gives, at each element of the row, in each later world -/
def Says {α : Type} (R : Rel α) (B : Nat) (w : World) (xs : List α) (g : FuncId) (caps : Array Value) (p : α → Bool) : Prop :=
  ∀ (w' : World) (x : α) (c0 c1 : Value), x ∈ xs → Lo w w' → R B w' x [c0, c1] → Calls Tryz.prog g (#[.agg #[c0, c1]] ++ caps) w' fun e w'' => e = .returned (.bool (p x)) ∧ Lo w' w''

set_option maxRecDepth 100000 in
set_option maxHeartbeats 800000 in
theorem indexFunc {α : Type} {R : Rel α} (hR : Kept R) {B : Nat} {A : Option Addr} (cap : Nat) {xs : List α} {g : FuncId} {caps : Array Value} {p : α → Bool} (w : World) (hB : B ≤ w.heap.size) (hA : SliceAt R 2 B w A xs) (hn : xs.length ≤ maxLen) (eg : Go.Proofs.Enters Tryz.prog g) (hf : Says R B w xs g caps p) :
    Calls Tryz.prog 115 #[.slice A xs.length cap, .func (.func g) #[] caps] w fun e w' => e = .returned (.int .i64 (findI p xs)) ∧ Lo w w' := by
  unfold maxLen at hn
  unfold Go.Proofs.Enters at eg
  go_enter Tryz.func115, Tryz.ntmps115
  go_wp2
  go_loopw [5, 8] (fun _ i wr => ∃ k : Nat, k ≤ xs.length ∧ i = .int .i64 k ∧ Lo w wr ∧ Hid ((xs.take k).any p = false)) (fun _ i _ => xs.length - (intOf i).toNat)
  case atStart => exact ⟨0, Nat.zero_le _, rfl, Lo.refl _, Lib.hid rfl⟩
  case round =>
    obtain ⟨k, hk, rfl, hlo, hall⟩ := hrel
    by_cases hlt : k < xs.length
    · obtain ⟨b, off, cs, rfl, hb, hl, hc, hr⟩ := (hA.lo hR hlo hB) k xs[k] (List.getElem?_eq_getElem hlt)
      obtain ⟨c0, c1, rfl⟩ : ∃ c0 c1, cs = [c0, c1] := by
        match cs, hl with
        | [c0, c1], _ => exact ⟨c0, c1, rfl⟩
      have hc0 : wr.cell? ⟨b, off + k * 2, none⟩ = some c0 := hc 0 _ rfl
      have hc1 : wr.cell? ⟨b, off + k * 2 + 1, none⟩ = some c1 := hc 1 _ rfl
      have HF := Lib.hid (hf wr xs[k] c0 c1 (List.getElem_mem hlt) hlo hr)
      clear hc hr
      cases hp : p xs[k]
      all_goals
        have HP := Lib.hid hp
        clear hp
        go_wp2_with fail
        refine (HF.out).mono ?_
        rw [HP.out]
        rintro e w1 ⟨rfl, hb1⟩
        go_wp2
        first
          | (go_ret
             exact ⟨ret_int (findI_at hlt HP.out hall.out).symm, (by repeat (first | exact Lo.refl _ | assumption | refine Lo.drew ?_ | refine Lo.alloc ?_ _ | refine Lo.setCell ?_ (by first | (dsimp only; omega) | (simp; omega) | (simp; done)) _ | refine Lo.trans ?_ (by assumption)))⟩)
          | (go_roundw
             case rel => exact ⟨k + 1, by omega, by go_num, (by repeat (first | exact Lo.refl _ | assumption | refine Lo.drew ?_ | refine Lo.alloc ?_ _ | refine Lo.setCell ?_ (by first | (dsimp only; omega) | (simp; omega) | (simp; done)) _ | refine Lo.trans ?_ (by assumption))), Lib.hid (any_snoc' hall.out hlt HP.out)⟩
             case measure => simp [intOf]; omega)
    · have HF := hall.out
      rw [List.take_of_length_le (by omega)] at HF
      have HG := Lib.hid HF
      clear HF
      go_wp2
      go_ret
      exact ⟨ret_int (findI_none HG.out).symm, (by repeat (first | exact Lo.refl _ | assumption | refine Lo.drew ?_ | refine Lo.alloc ?_ _ | refine Lo.setCell ?_ (by first | (dsimp only; omega) | (simp; omega) | (simp; done)) _ | refine Lo.trans ?_ (by assumption)))⟩

theorem containsFunc {α : Type} {R : Rel α} (hR : Kept R) {B : Nat} {A : Option Addr} (cap : Nat) {xs : List α} {g : FuncId} {caps : Array Value} {p : α → Bool} (w : World) (hB : B ≤ w.heap.size) (hA : SliceAt R 2 B w A xs) (hn : xs.length ≤ maxLen) (eg : Go.Proofs.Enters Tryz.prog g) (hf : Says R B w xs g caps p) :
    Calls Tryz.prog 109 #[.slice A xs.length cap, .func (.func g) #[] caps] w fun e w' => e = .returned (.bool (xs.any p)) ∧ Lo w w' := by
  have hn' := hn
  unfold maxLen at hn
  go_enter Tryz.func109, Tryz.ntmps109
  go_wp2_with (go_at_call 115; refine (indexFunc hR cap w hB hA hn' eg hf).mono ?_; rintro e w1 ⟨rfl, hb⟩)
  go_ret
  exact ⟨ret_bool findI_any, (by repeat (first | exact Lo.refl _ | assumption | refine Lo.drew ?_ | refine Lo.alloc ?_ _ | refine Lo.setCell ?_ (by first | (dsimp only; omega) | (simp; omega) | (simp; done)) _ | refine Lo.trans ?_ (by assumption)))⟩
end Go.Proofs.YtnclifgiakmmoaaGreat.WIdxTerm

/- The walks of chapter 7's functions, second part. -/
namespace Go.Proofs.YtnclifgiakmmoaaGreat.WMatch
set_option linter.unusedVariables false
set_option linter.unusedSimpArgs false
open Go.RowKit Mem BigFrame


/-- what stands at a kind's place -/
def kindV (f : FuncId) (a b : ByteArray) : Value := .agg #[.func (.func f) #[] #[], .string a, .string b]
theorem idx1 (w : World) : (Instr.index 148 kindsV (.int .i64 1)).run Tryz.prog w = .ok (kindV 118 ⟨#[]⟩ ⟨#[]⟩) w := by kernel_rfl
theorem idx2 (w : World) : (Instr.index 148 kindsV (.int .i64 2)).run Tryz.prog w = .ok (kindV 119 ⟨#[]⟩ ⟨#[42]⟩) w := by kernel_rfl
theorem idx3 (w : World) : (Instr.index 148 kindsV (.int .i64 3)).run Tryz.prog w = .ok (kindV 120 ⟨#[42]⟩ ⟨#[]⟩) w := by kernel_rfl
theorem idx4 (w : World) : (Instr.index 148 kindsV (.int .i64 4)).run Tryz.prog w = .ok (kindV 121 ⟨#[42]⟩ ⟨#[]⟩) w := by kernel_rfl
theorem fld0 (f : FuncId) (a b : ByteArray) (w : World) : (Instr.field 147 (kindV f a b) 0).run Tryz.prog w = .ok (.func (.func f) #[] #[]) w := by kernel_rfl

set_option maxHeartbeats 800000 in
theorem matches_no (k : Int) (s t : ByteArray) (w : World) (hs : s.size ≤ maxLen) (hm : Pl.may k s.toList = false) :
    Calls Tryz.prog 111 #[.agg #[.int .i64 k, .string s], .string t] w fun e w' => e = .returned (.bool false) ∧ Lo w w' := by
  have hc : ∀ w : World, Calls Tryz.prog 116 #[.agg #[.int .i64 k, .string s]] w fun e w' => e = .returned (.bool false) ∧ Lo w w' := fun w => by
    have := may k s w hs; rwa [hm] at this
  clear hm
  have HC := Lib.hid hc
  clear hc
  go_enter Tryz.func111, Tryz.ntmps111
  go_wp2_with fail
  refine wp_region_ext (by kernel_rfl) (by kernel_rfl) ?_
  repeat (first | go_big_quiet_skip | (go_big_quiet_want; go_big_quiet_op; first | go_big_quiet_on | go_big_quiet_call ((go_at_call 116; exact quiet_ext (HC.out _)))))
  refine wpQuiet_nil ?_
  intro wq hq
  obtain ⟨hqc, hqf, hqz⟩ := hq.facts
  go_wp2
  go_ret
  exact ⟨rfl, (by repeat (first | exact Lo.refl _ | assumption | refine Lo.drew ?_ | refine Lo.alloc ?_ _ | refine Lo.setCell ?_ (by first | (dsimp only; omega) | (simp; omega) | (simp; done)) _ | refine Lo.trans ?_ (by assumption)))⟩

set_option maxHeartbeats 800000 in
theorem matches_1 (s t : ByteArray) (w : World) (hs : s.size ≤ maxLen) (ht : t.size ≤ maxLen) (hm : Pl.may 1 s.toList = true) :
    Calls Tryz.prog 111 #[.agg #[.int .i64 1, .string s], .string t] w fun e w' => e = .returned (.bool (Pl.hits 1 s.toList t.toList)) ∧ Lo w w' := by
  have hc : ∀ w : World, Calls Tryz.prog 116 #[.agg #[.int .i64 1, .string s]] w fun e w' => e = .returned (.bool true) ∧ Lo w w' := fun w => by
    have := may 1 s w hs; rwa [hm] at this
  clear hm
  have HC := Lib.hid hc
  clear hc
  have i1 := idx1
  have f0 := fld0
  go_enter Tryz.func111, Tryz.ntmps111
  go_wp2_with fail
  refine wp_region_ext (by kernel_rfl) (by kernel_rfl) ?_
  repeat (first | go_big_quiet_skip | (go_big_quiet_want; go_big_quiet_op; first | go_big_quiet_on | go_big_quiet_call ((first | (go_at_call 116; exact quiet_ext (HC.out _)) | (go_at_call 117; exact quiet_ext (kinds _)) | (go_at_call 118; exact quiet_ext_same (kinds1 _ _ _))))))
  refine wpQuiet_nil ?_
  intro wq hq
  obtain ⟨hqc, hqf, hqz⟩ := hq.facts
  go_wp2
  go_ret
  exact ⟨rfl, (by repeat (first | exact Lo.refl _ | assumption | refine Lo.drew ?_ | refine Lo.alloc ?_ _ | refine Lo.setCell ?_ (by first | (dsimp only; omega) | (simp; omega) | (simp; done)) _ | refine Lo.trans ?_ (by assumption)))⟩

set_option maxHeartbeats 800000 in
theorem matches_2 (s t : ByteArray) (w : World) (hs : s.size ≤ maxLen) (ht : t.size ≤ maxLen) (hm : Pl.may 2 s.toList = true) :
    Calls Tryz.prog 111 #[.agg #[.int .i64 2, .string s], .string t] w fun e w' => e = .returned (.bool (Pl.hits 2 s.toList t.toList)) ∧ Lo w w' := by
  have hc : ∀ w : World, Calls Tryz.prog 116 #[.agg #[.int .i64 2, .string s]] w fun e w' => e = .returned (.bool true) ∧ Lo w w' := fun w => by
    have := may 2 s w hs; rwa [hm] at this
  clear hm
  have HC := Lib.hid hc
  clear hc
  have i2 := idx2
  have f0 := fld0
  go_enter Tryz.func111, Tryz.ntmps111
  go_wp2_with fail
  refine wp_region_ext (by kernel_rfl) (by kernel_rfl) ?_
  repeat (first | go_big_quiet_skip | (go_big_quiet_want; go_big_quiet_op; first | go_big_quiet_on | go_big_quiet_call ((first | (go_at_call 116; exact quiet_ext (HC.out _)) | (go_at_call 117; exact quiet_ext (kinds _)) | (go_at_call 119; exact quiet_ext_same (hasPrefix _ _ _ ht hs))))))
  refine wpQuiet_nil ?_
  intro wq hq
  obtain ⟨hqc, hqf, hqz⟩ := hq.facts
  go_wp2
  go_ret
  exact ⟨rfl, (by repeat (first | exact Lo.refl _ | assumption | refine Lo.drew ?_ | refine Lo.alloc ?_ _ | refine Lo.setCell ?_ (by first | (dsimp only; omega) | (simp; omega) | (simp; done)) _ | refine Lo.trans ?_ (by assumption)))⟩

set_option maxHeartbeats 800000 in
theorem matches_3 (s t : ByteArray) (w : World) (hs : s.size ≤ maxLen) (ht : t.size ≤ maxLen) (hm : Pl.may 3 s.toList = true) :
    Calls Tryz.prog 111 #[.agg #[.int .i64 3, .string s], .string t] w fun e w' => e = .returned (.bool (Pl.hits 3 s.toList t.toList)) ∧ Lo w w' := by
  have hc : ∀ w : World, Calls Tryz.prog 116 #[.agg #[.int .i64 3, .string s]] w fun e w' => e = .returned (.bool true) ∧ Lo w w' := fun w => by
    have := may 3 s w hs; rwa [hm] at this
  clear hm
  have HC := Lib.hid hc
  clear hc
  have i3 := idx3
  have f0 := fld0
  go_enter Tryz.func111, Tryz.ntmps111
  go_wp2_with fail
  refine wp_region_ext (by kernel_rfl) (by kernel_rfl) ?_
  repeat (first | go_big_quiet_skip | (go_big_quiet_want; go_big_quiet_op; first | go_big_quiet_on | go_big_quiet_call ((first | (go_at_call 116; exact quiet_ext (HC.out _)) | (go_at_call 117; exact quiet_ext (kinds _)) | (go_at_call 120; exact quiet_ext_same (hasSuffix _ _ _ ht hs))))))
  refine wpQuiet_nil ?_
  intro wq hq
  obtain ⟨hqc, hqf, hqz⟩ := hq.facts
  go_wp2
  go_ret
  exact ⟨rfl, (by repeat (first | exact Lo.refl _ | assumption | refine Lo.drew ?_ | refine Lo.alloc ?_ _ | refine Lo.setCell ?_ (by first | (dsimp only; omega) | (simp; omega) | (simp; done)) _ | refine Lo.trans ?_ (by assumption)))⟩

set_option maxHeartbeats 800000 in
theorem matches_4 (s t : ByteArray) (w : World) (hs : s.size ≤ maxLen) (ht : t.size ≤ maxLen) (hm : Pl.may 4 s.toList = true) :
    Calls Tryz.prog 111 #[.agg #[.int .i64 4, .string s], .string t] w fun e w' => e = .returned (.bool (Pl.hits 4 s.toList t.toList)) ∧ Lo w w' := by
  have hc : ∀ w : World, Calls Tryz.prog 116 #[.agg #[.int .i64 4, .string s]] w fun e w' => e = .returned (.bool true) ∧ Lo w w' := fun w => by
    have := may 4 s w hs; rwa [hm] at this
  clear hm
  have HC := Lib.hid hc
  clear hc
  have i4 := idx4
  have f0 := fld0
  go_enter Tryz.func111, Tryz.ntmps111
  go_wp2_with fail
  refine wp_region_ext (by kernel_rfl) (by kernel_rfl) ?_
  repeat (first | go_big_quiet_skip | (go_big_quiet_want; go_big_quiet_op; first | go_big_quiet_on | go_big_quiet_call ((first | (go_at_call 116; exact quiet_ext (HC.out _)) | (go_at_call 117; exact quiet_ext (kinds _)) | (go_at_call 121; exact quiet_ext_same (kinds2 _ _ _))))))
  refine wpQuiet_nil ?_
  intro wq hq
  obtain ⟨hqc, hqf, hqz⟩ := hq.facts
  go_wp2
  go_ret
  exact ⟨rfl, (by repeat (first | exact Lo.refl _ | assumption | refine Lo.drew ?_ | refine Lo.alloc ?_ _ | refine Lo.setCell ?_ (by first | (dsimp only; omega) | (simp; omega) | (simp; done)) _ | refine Lo.trans ?_ (by assumption)))⟩

theorem matches_ (k : Int) (s t : ByteArray) (w : World) (hs : s.size ≤ maxLen) (ht : t.size ≤ maxLen) :
    Calls Tryz.prog 111 #[.agg #[.int .i64 k, .string s], .string t] w fun e w' => e = .returned (.bool (Pl.matches_ k s.toList t.toList)) ∧ Lo w w' := by
  by_cases hm : Pl.may k s.toList = true
  · rw [Pl.matches_of_may hm]
    rcases Pl.may_kinds hm with rfl | rfl | rfl | rfl
    · exact matches_1 s t w hs ht hm
    · exact matches_2 s t w hs ht hm
    · exact matches_3 s t w hs ht hm
    · exact matches_4 s t w hs ht hm
  · have hm' : Pl.may k s.toList = false := by simpa using hm
    have : Pl.matches_ k s.toList t.toList = false := by simp [Pl.matches_, hm']
    rw [this]
    exact matches_no k s t w hs hm'
end Go.Proofs.YtnclifgiakmmoaaGreat.WMatch
