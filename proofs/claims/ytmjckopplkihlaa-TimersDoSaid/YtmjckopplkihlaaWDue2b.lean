/- timers.Find; what place gives, in plain Lean. -/
import Derived.Test.YtmjckopplkihlaaWDue2
import Derived.Test.YtmjckopplkihlaaWIdxDue
namespace Go.Proofs.Ytmjckopplkihlaa.Due
set_option linter.unusedVariables false
set_option linter.unusedSimpArgs false
open Go.RowKit Mem BigFrame

theorem findI_find {l : List Pl.Due} {p : Pl.Due → Bool} : (∃ (k : Nat) (hk : k < l.length), WIdxDue.findI p l = k ∧ l.find? p = some l[k]) ∨ (WIdxDue.findI p l = -1 ∧ l.find? p = none) := by
  unfold WIdxDue.findI
  cases h : l.findIdx? p with
  | none =>
    rw [List.findIdx?_eq_none_iff] at h
    exact .inr ⟨rfl, by rw [List.find?_eq_none]; intro x hx; simp [h x hx]⟩
  | some k =>
    rw [List.findIdx?_eq_some_iff_getElem] at h
    obtain ⟨hk, hp, hj⟩ := h
    refine .inl ⟨k, hk, rfl, ?_⟩
    rw [List.find?_eq_some_iff_getElem]
    exact ⟨hp, k, hk, rfl, fun j hjk => by simpa using hj j hjk⟩
theorem enters_find1 : Enters Try.prog 42 := enters_of Try.func42 (by kernel_rfl) rfl
theorem enters_drop1 : Enters Try.prog 40 := enters_of Try.func40 (by kernel_rfl) rfl
theorem enters_may1 : Enters Try.prog 28 := enters_of Try.func28 (by kernel_rfl) rfl
def findV (l : List Pl.Due) (kind key : Int) : Value := match Pl.findL l kind key with | some d => .tuple #[.int .u64 d.at_, .bool true] | none => .tuple #[.int .u64 0, .bool false]
set_option maxRecDepth 100000 in
theorem find_ (A : Option Addr) (cap : Nat) (l : List Pl.Due) (kind key : Int) (w : World) {B : Nat} (hB : B ≤ w.heap.size) (hA : Dues B w A l) (hn : l.length ≤ maxLen) :
    Calls Try.prog 22 #[.slice A l.length cap, .int .i64 kind, .int .u64 key] w fun e w' => e = .returned (findV l kind key) ∧ Lo w w' := by
  have hl0 : Lo w ((w.alloc (.cells #[.int .i64 kind] 3)).alloc (.cells #[.int .u64 key] 23)) := (by repeat (first | exact Lo.refl _ | assumption | refine Lo.drew ?_ | refine Lo.alloc ?_ _ | refine Lo.setCell ?_ (by first | (dsimp only; omega) | (simp; omega) | (simp; done)) _ | refine Lo.trans ?_ (by assumption)))
  have hS : WIdxDue.Says DueR B ((w.alloc (.cells #[.int .i64 kind] 3)).alloc (.cells #[.int .u64 key] 23)) l 42 #[.pointer (some ⟨w.heap.size, 0, none⟩), .pointer (some ⟨w.heap.size + 1, 0, none⟩)] (Pl.isD kind key) := by
    intro w' x c0 c1 c2 hx hlo hr
    obtain ⟨he, _⟩ := hr
    simp [dueCells] at he
    obtain ⟨rfl, rfl, rfl⟩ := he
    exact findC _ _ _ _ _ _ (lo_keep hlo (by simp)) (lo_keep hlo (by simp))
  have hA1 : Dues B _ A l := SliceAt.lo DueR.kept hA hl0 hB
  have HC := Lib.hid (WIdxDue.indexFunc DueR.kept cap _ (by simp; omega) hA1 hn enters_find1 hS)
  rcases findI_find (l := l) (p := Pl.isD kind key) with ⟨k, hk, hf, hd⟩ | ⟨hf, hd⟩
  · obtain ⟨b, off, rfl, hb, c0, c1, c2, z0, z1, z2⟩ := hA1.at_ hk
    have HV : Hid (findV l kind key = .tuple #[.int .u64 l[k].at_, .bool true]) := Lib.hid (by unfold findV Pl.findL; rw [hd])
    have HF := Lib.hid hf
    clear hS hd hf c1 c2 z1 z2
    unfold maxLen at hn
    generalize l[k].at_ = at_ at *
    go_enter Try.func22, Try.ntmps22
    go_wp2_with fail
    refine (HC.out).mono ?_
    rw [HF.out]
    rintro e w1 ⟨rfl, hb1⟩
    have hc := lo_keep hb1 c0
    clear c0
    go_wp2
    go_ret2
    exact ⟨by rw [HV.out]; rfl, (by repeat (first | exact Lo.refl _ | assumption | refine Lo.drew ?_ | refine Lo.alloc ?_ _ | refine Lo.setCell ?_ (by first | (dsimp only; omega) | (simp; omega) | (simp; done)) _ | refine Lo.trans ?_ (by assumption)))⟩
  · have HV : Hid (findV l kind key = .tuple #[.int .u64 0, .bool false]) := Lib.hid (by unfold findV Pl.findL; rw [hd])
    have HF := Lib.hid hf
    clear hS hd hf
    unfold maxLen at hn
    go_enter Try.func22, Try.ntmps22
    go_wp2_with fail
    refine (HC.out).mono ?_
    rw [HF.out]
    rintro e w1 ⟨rfl, hb1⟩
    go_wp2
    go_ret2
    exact ⟨by rw [HV.out]; rfl, (by repeat (first | exact Lo.refl _ | assumption | refine Lo.drew ?_ | refine Lo.alloc ?_ _ | refine Lo.setCell ?_ (by first | (dsimp only; omega) | (simp; omega) | (simp; done)) _ | refine Lo.trans ?_ (by assumption)))⟩

theorem placeL_at {l : List Pl.Due} {d : Pl.Due} {k : Nat} (hk : k ≤ l.length) (h : ∀ j (hj : j < l.length), k ≤ j → Pl.ahead d l[j] = true) (h0 : ∀ j (hj : j < l.length), j + 1 = k → Pl.ahead d l[j] = false) : Pl.placeL l d = k := by
  unfold Pl.placeL
  have e : l.reverse = (l.drop k).reverse ++ (l.take k).reverse := by rw [← List.reverse_append, List.take_append_drop]
  have e2 : (l.take k).reverse.takeWhile (fun x => Pl.ahead d x) = [] := by
    cases k with
    | zero => rfl
    | succ j =>
      rw [List.take_succ_eq_append_getElem (by omega), List.reverse_append]
      simp [h0 j (by omega) rfl]
  rw [e, List.takeWhile_append_of_pos, e2]
  · simp; omega
  · intro x hx
    rw [List.mem_reverse, List.mem_iff_getElem] at hx
    obtain ⟨i, hi, rfl⟩ := hx
    rw [List.getElem_drop]
    simp at hi
    exact h _ (by omega) (by omega)
end Go.Proofs.Ytmjckopplkihlaa.Due
