/- Merged by bundles.py: WAwake13, SimBr13a, SimBr13. -/
import Derived.Test.YtnclifgiakmmoaaC20
import Derived.Test.YtnclifgiakmmoaaC0
import Derived.Test.YtnclifgiakmmoaaC16
import Derived.Test.YtnclifgiakmmoaaC18
import Derived.Test.YtnclifgiakmmoaaC17
/- The walk of chapter 13's examples (awake). -/
namespace Go.Proofs.Ytnclifgiakmmoaa.WAuth
set_option linter.unusedVariables false
set_option linter.unusedSimpArgs false
open Go.RowKit Mem BigFrame WMatch WAddr WName Opn

def exWho : Pl.Asker := ⟨⟨#[115, 104, 111, 112]⟩, ⟨#[119, 101, 98]⟩, 0⟩
def exReq : Pl.Req := ⟨⟨#[71, 69, 84]⟩, ⟨#[47, 97, 98]⟩, ⟨#[]⟩, []⟩
def exReq2 : Pl.Req := ⟨⟨#[71, 69, 84]⟩, ⟨#[47, 97, 98]⟩, ⟨#[]⟩, [⟨⟨#[120, 45, 98, 97, 100]⟩, ⟨#[49]⟩⟩]⟩
theorem exName : (nameText exWho.ns exWho.sa).toList = [115, 112, 105, 102, 102, 101, 58, 47, 47, 109, 101, 115, 104, 47, 110, 115, 47, 115, 104, 111, 112, 47, 115, 97, 47, 119, 101, 98] := by
  have h : mayN exWho.ns exWho.sa = true := by
    simp only [mayN, label, exWho]
    have e1 : (lcs ⟨#[115, 104, 111, 112]⟩) = fun i => lcN 4 i (([115, 104, 111, 112] : List UInt8).getD i 0).toNat := by funext i; simp only [lcs, ByteArray.toList_mk]; rfl
    have e2 : (lcs ⟨#[119, 101, 98]⟩) = fun i => lcN 3 i (([119, 101, 98] : List UInt8).getD i 0).toNat := by funext i; simp only [lcs, ByteArray.toList_mk]; rfl
    rw [e1, e2]
    decide
  unfold nameText
  rw [if_pos h]
  simp only [toList_append, pre1, pre2, exWho, ByteArray.toList_mk]
  rfl
def exR1 : Pl.Rule := ⟨[⟨[⟨3, ⟨#[115, 97, 47, 119, 101, 98]⟩⟩], [], []⟩], [⟨[80], [⟨1, ⟨#[71, 69, 84]⟩⟩], [⟨2, ⟨#[47, 97]⟩⟩], []⟩], []⟩
def exR2 : Pl.Rule := ⟨[], [], [⟨⟨#[120, 45, 98, 97, 100]⟩, [⟨4, ⟨#[]⟩⟩]⟩]⟩
theorem exPols_eq : exPols = [⟨1, ⟨#[]⟩, 0, 0, [exR1]⟩, ⟨2, ⟨#[]⟩, 0, 1, [exR2]⟩] := rfl
theorem exSrc : srcP exWho ⟨[⟨3, ⟨#[115, 97, 47, 119, 101, 98]⟩⟩], [], []⟩ = true := by
  simp only [srcP, letsT, anyT, List.any_cons, List.any_nil, exName, ByteArray.toList_mk]
  decide
theorem exTgt (p : Int) (h : List Pl.Head) : tgtP p ⟨⟨#[71, 69, 84]⟩, ⟨#[47, 97, 98]⟩, ⟨#[]⟩, h⟩ ⟨[80], [⟨1, ⟨#[71, 69, 84]⟩⟩], [⟨2, ⟨#[47, 97]⟩⟩], []⟩ = ((80 : Int) == p) := by
  have e1 : letsT ⟨#[71, 69, 84]⟩ [⟨1, ⟨#[71, 69, 84]⟩⟩] = true := by simp only [letsT, anyT, List.any_cons, List.any_nil, ByteArray.toList_mk]; decide
  have e2 : letsT ⟨#[47, 97, 98]⟩ [⟨2, ⟨#[47, 97]⟩⟩] = true := by simp only [letsT, anyT, List.any_cons, List.any_nil, ByteArray.toList_mk]; decide
  have e3 : letsT ⟨#[]⟩ [] = true := rfl
  simp only [tgtP, e1, e2, e3]
  simp
theorem exM1 (p : Int) (q : Pl.Req) (hq : q = exReq ∨ q = exReq2) : matchP exWho p q exR1 = ((80 : Int) == p) := by
  rcases hq with rfl | rfl <;> simp [matchP, exR1, exSrc, exReq, exReq2, exTgt]
theorem exM2 (p : Int) : matchP exWho p exReq exR2 = false := rfl
theorem exWhen : whenP [⟨⟨#[120, 45, 98, 97, 100]⟩, ⟨#[49]⟩⟩] ⟨⟨#[120, 45, 98, 97, 100]⟩, [⟨4, ⟨#[]⟩⟩]⟩ = true := by
  have e : valsOf ⟨#[120, 45, 98, 97, 100]⟩ [⟨⟨#[120, 45, 98, 97, 100]⟩, ⟨#[49]⟩⟩] = [⟨#[49]⟩] := by
    simp only [valsOf, List.filter_cons, List.filter_nil, beq_self_eq_true, if_true, List.map_cons, List.map_nil]
  unfold whenP
  rw [e]
  simp only [List.any_cons, List.any_nil, anyT, ByteArray.toList_mk]
  decide
theorem exM3 (p : Int) : matchP exWho p exReq2 exR2 = true := by
  simp [matchP, exR2, exReq2, exWhen]
theorem ex1 : judgeV (matchP exWho 80 exReq) exPols = .tuple #[.bool true, .int .u64 1] := by
  simp [judgeV, Pl.judgeP, Pl.firstP, Pl.kindP, exPols_eq, List.find?_cons, exM1, exM2]
theorem ex2 : judgeV (matchP exWho 81 exReq) exPols = .tuple #[.bool false, .int .u64 0] := by
  simp [judgeV, Pl.judgeP, Pl.firstP, Pl.someP, Pl.kindP, exPols_eq, List.find?_cons, exM1, exM2]
theorem ex3 : judgeV (matchP exWho 80 exReq2) exPols = .tuple #[.bool false, .int .u64 2] := by
  simp [judgeV, Pl.judgeP, Pl.firstP, Pl.kindP, exPols_eq, List.find?_cons, exM3]
theorem ex4 (M : Pl.Rule → Bool) : judgeV M [] = .tuple #[.bool true, .int .u64 0] := rfl

theorem exFits (B : Nat) (w : World) : Fits B w exWho exReq none := ⟨by decide, by decide, by decide, by decide, by decide, SliceAt.nil, by decide⟩
set_option maxRecDepth 100000 in
set_option maxHeartbeats 8000000 in
theorem awake13 (w : World) : Calls Try.prog 8 #[] w fun e w' => e = .returned (.bool true) ∧ Lo w w' := by
  have J1 : Hid (∀ (W : World) (A : Option Addr) (B : Nat), B ≤ W.heap.size → SliceAt PolicyR 5 B W A exPols → Calls Try.prog 9 #[.slice A 2 2, .agg #[.string ⟨#[115, 104, 111, 112]⟩, .string ⟨#[119, 101, 98]⟩, .int .u32 0], .int .i64 80, .agg #[.string ⟨#[71, 69, 84]⟩, .string ⟨#[]⟩, .string ⟨#[47, 97, 98]⟩, .string ⟨#[]⟩, .string ⟨#[]⟩, .slice none 0 0, .slice none 0 0]] W fun e w' => e = .returned (.tuple #[.bool true, .int .u64 1]) ∧ Lo W w') := Lib.hid fun W A B hB hA => by
    have := judge exPols A 2 exWho 80 exReq none 0 ⟨#[]⟩ ⟨#[]⟩ (.slice none 0 0) W hB hA (by decide) (exFits _ _)
    rw [ex1] at this
    exact this
  have J2 : Hid (∀ (W : World) (A : Option Addr) (B : Nat), B ≤ W.heap.size → SliceAt PolicyR 5 B W A exPols → Calls Try.prog 9 #[.slice A 2 2, .agg #[.string ⟨#[115, 104, 111, 112]⟩, .string ⟨#[119, 101, 98]⟩, .int .u32 0], .int .i64 81, .agg #[.string ⟨#[71, 69, 84]⟩, .string ⟨#[]⟩, .string ⟨#[47, 97, 98]⟩, .string ⟨#[]⟩, .string ⟨#[]⟩, .slice none 0 0, .slice none 0 0]] W fun e w' => e = .returned (.tuple #[.bool false, .int .u64 0]) ∧ Lo W w') := Lib.hid fun W A B hB hA => by
    have := judge exPols A 2 exWho 81 exReq none 0 ⟨#[]⟩ ⟨#[]⟩ (.slice none 0 0) W hB hA (by decide) (exFits _ _)
    rw [ex2] at this
    exact this
  have J3 : Hid (∀ (W : World) (A Ah : Option Addr) (B : Nat), B ≤ W.heap.size → SliceAt PolicyR 5 B W A exPols → SliceAt HeadR 2 B W Ah exReq2.heads → Calls Try.prog 9 #[.slice A 2 2, .agg #[.string ⟨#[115, 104, 111, 112]⟩, .string ⟨#[119, 101, 98]⟩, .int .u32 0], .int .i64 80, .agg #[.string ⟨#[71, 69, 84]⟩, .string ⟨#[]⟩, .string ⟨#[47, 97, 98]⟩, .string ⟨#[]⟩, .string ⟨#[]⟩, .slice Ah 1 1, .slice none 0 0]] W fun e w' => e = .returned (.tuple #[.bool false, .int .u64 2]) ∧ Lo W w') := Lib.hid fun W A Ah B hB hA hh => by
    have := judge exPols A 2 exWho 80 exReq2 Ah 1 ⟨#[]⟩ ⟨#[]⟩ (.slice none 0 0) W hB hA (by decide) ⟨by decide, by decide, by decide, by decide, by decide, hh, by decide⟩
    rw [ex3] at this
    exact this
  have J4 : Hid (∀ (W : World) (Ah : Option Addr), SliceAt HeadR 2 W.heap.size W Ah exReq2.heads → Calls Try.prog 9 #[.slice none 0 0, .agg #[.string ⟨#[115, 104, 111, 112]⟩, .string ⟨#[119, 101, 98]⟩, .int .u32 0], .int .i64 80, .agg #[.string ⟨#[71, 69, 84]⟩, .string ⟨#[]⟩, .string ⟨#[47, 97, 98]⟩, .string ⟨#[]⟩, .string ⟨#[]⟩, .slice Ah 1 1, .slice none 0 0]] W fun e w' => e = .returned (.tuple #[.bool true, .int .u64 0]) ∧ Lo W w') := Lib.hid fun W Ah hh => by
    have := judge [] none 0 exWho 80 exReq2 Ah 1 ⟨#[]⟩ ⟨#[]⟩ (.slice none 0 0) W (Nat.le_refl _) SliceAt.nil (by decide) ⟨by decide, by decide, by decide, by decide, by decide, hh, by decide⟩
    rw [ex4] at this
    exact this
  go_enter Try.func8, Try.ntmps8
  go_wp2
  obtain ⟨wz, hw⟩ : ∃ wz, (w.alloc (.cells #[.string ⟨#[115, 104, 111, 112]⟩, .string ⟨#[119, 101, 98]⟩, .int .u32 0] 36)).alloc (.cells #[.string ⟨#[71, 69, 84]⟩, .string ⟨#[]⟩, .string ⟨#[47, 97, 98]⟩, .string ⟨#[]⟩, .string ⟨#[]⟩, .slice none 0 0, .slice none 0 0] 40) = wz := ⟨_, rfl⟩
  rw [hw]
  have a0 : wz.cell? ⟨w.heap.size, 0, none⟩ = some (.string ⟨#[115, 104, 111, 112]⟩) := by rw [← hw]; simp
  have a1 : wz.cell? ⟨w.heap.size, 1, none⟩ = some (.string ⟨#[119, 101, 98]⟩) := by rw [← hw]; simp
  have a2 : wz.cell? ⟨w.heap.size, 2, none⟩ = some (.int .u32 0) := by rw [← hw]; simp
  have b0 : wz.cell? ⟨w.heap.size + 1, 0, none⟩ = some (.string ⟨#[71, 69, 84]⟩) := by rw [← hw]; simp
  have b1 : wz.cell? ⟨w.heap.size + 1, 1, none⟩ = some (.string ⟨#[]⟩) := by rw [← hw]; simp
  have b2 : wz.cell? ⟨w.heap.size + 1, 2, none⟩ = some (.string ⟨#[47, 97, 98]⟩) := by rw [← hw]; simp
  have b3 : wz.cell? ⟨w.heap.size + 1, 3, none⟩ = some (.string ⟨#[]⟩) := by rw [← hw]; simp
  have b4 : wz.cell? ⟨w.heap.size + 1, 4, none⟩ = some (.string ⟨#[]⟩) := by rw [← hw]; simp
  have b5 : wz.cell? ⟨w.heap.size + 1, 5, none⟩ = some (.slice none 0 0) := by rw [← hw]; simp
  have b6 : wz.cell? ⟨w.heap.size + 1, 6, none⟩ = some (.slice none 0 0) := by rw [← hw]; simp
  have hlw : Lo w wz := by rw [← hw]; exact (by repeat (first | exact Lo.refl _ | assumption | refine Lo.drew ?_ | refine Lo.alloc ?_ _ | refine Lo.setCell ?_ (by first | (dsimp only; omega) | (simp; omega) | (simp; done)) _ | refine Lo.trans ?_ (by assumption)))
  have hfz : wz.frozen? ⟨w.heap.size + 1, 5, none⟩ = false := by rw [← hw]; simp
  clear hw
  refine wp_region_all 72 (fun i v w' => match i with
        | 0 => ∃ A B, v = .slice A 2 2 ∧ B ≤ w'.heap.size ∧ SliceAt PolicyR 5 B w' A exPols
        | 1 => v = .agg #[.string ⟨#[115, 104, 111, 112]⟩, .string ⟨#[119, 101, 98]⟩, .int .u32 0]
        | 2 => v = .agg #[.string ⟨#[71, 69, 84]⟩, .string ⟨#[]⟩, .string ⟨#[47, 97, 98]⟩, .string ⟨#[]⟩, .string ⟨#[]⟩, .slice none 0 0, .slice none 0 0]
        | 3 => v = .tuple #[.bool true, .int .u64 1]
        | 4 => v = .tuple #[.bool true, .int .u64 1]
        | 5 => v = .bool true
        | 6 => v = .int .u64 1
        | 7 => v = .bool true
        | 8 => v = .int .u64 1
        | _ => True) (by kernel_rfl) rfl (by kernel_rfl) ?_ ?_ ?_
  · intro i v w1 w2 h hl12
    match i, h with
    | 0, ⟨A, B, hv, hB, hA⟩ => exact ⟨A, B, hv, Nat.le_trans hB hl12.size, SliceAt.lo PolicyR.kept hA hl12 hB⟩
    | 1, h => exact h
    | 2, h => exact h
    | 3, h => exact h
    | 4, h => exact h
    | 5, h => exact h
    | 6, h => exact h
    | 7, h => exact h
    | 8, h => exact h
    | _ + 9, _ => trivial
  · intro i o hiN ho a w' hl hd hold
    match i, hiN with
    | 0, _ =>
      injection ho with ho; subst ho
      refine ⟨fun _ => ?_, fun h => by rw [wanted_free rfl] at h; cases h⟩
      refine wp_call_of (f := 13) (args := #[]) (by simp [go_sem]) (example13 w') ?_
      rintro e w2 ⟨A, rfl, hb, hA⟩
      exact ⟨_, rfl, _, rfl, hb, A, _, rfl, Nat.le_refl _, hA⟩
    | 1, _ =>
      injection ho with ho; subst ho
      have h1 : a.eval (.tmp 1) = .pointer (some ⟨w.heap.size, 0, none⟩) := hold 1 (by kernel_rfl)
      have hc0 := lo_keep hl a0
      have hc1 := lo_keep hl a1
      have hc2 := lo_keep hl a2
      simp [Act.eval] at h1
      exact ⟨fun _ => wp_of_run (v := .agg #[.string ⟨#[115, 104, 111, 112]⟩, .string ⟨#[119, 101, 98]⟩, .int .u32 0]) (w' := w') (by simp [go_sem, h1, hc0, hc1, hc2]) ⟨_, rfl, Lo.refl _, rfl⟩, fun h => by rw [wanted_free rfl] at h; cases h⟩
    | 2, _ =>
      injection ho with ho; subst ho
      have h2 : a.eval (.tmp 2) = .pointer (some ⟨w.heap.size + 1, 0, none⟩) := hold 2 (by kernel_rfl)
      have hc0 := lo_keep hl b0
      have hc1 := lo_keep hl b1
      have hc2 := lo_keep hl b2
      have hc3 := lo_keep hl b3
      have hc4 := lo_keep hl b4
      have hc5 := lo_keep hl b5
      have hc6 := lo_keep hl b6
      simp [Act.eval] at h2
      exact ⟨fun _ => wp_of_run (v := .agg #[.string ⟨#[71, 69, 84]⟩, .string ⟨#[]⟩, .string ⟨#[47, 97, 98]⟩, .string ⟨#[]⟩, .string ⟨#[]⟩, .slice none 0 0, .slice none 0 0]) (w' := w') (by simp [go_sem, h2, hc0, hc1, hc2, hc3, hc4, hc5, hc6]) ⟨_, rfl, Lo.refl _, rfl⟩, fun h => by rw [wanted_free rfl] at h; cases h⟩
    | 3, _ =>
      injection ho with ho; subst ho
      have h16 : a.eval (.tmp 16) = .agg #[.string ⟨#[115, 104, 111, 112]⟩, .string ⟨#[119, 101, 98]⟩, .int .u32 0] := hd 1 (by kernel_rfl) 16 (by kernel_rfl)
      have h17 : a.eval (.tmp 17) = .agg #[.string ⟨#[71, 69, 84]⟩, .string ⟨#[]⟩, .string ⟨#[47, 97, 98]⟩, .string ⟨#[]⟩, .string ⟨#[]⟩, .slice none 0 0, .slice none 0 0] := hd 2 (by kernel_rfl) 17 (by kernel_rfl)
      obtain ⟨A, B, hv, hB, hA⟩ := hd 0 (by kernel_rfl) 15 (by kernel_rfl)
      simp [Act.eval] at hv
      simp [Act.eval] at h16 h17
      refine ⟨fun _ => ?_, fun h => by rw [wanted_free rfl] at h; cases h⟩
      refine wp_call_of (f := 9) (args := #[.slice A 2 2, .agg #[.string ⟨#[115, 104, 111, 112]⟩, .string ⟨#[119, 101, 98]⟩, .int .u32 0], .int .i64 80, .agg #[.string ⟨#[71, 69, 84]⟩, .string ⟨#[]⟩, .string ⟨#[47, 97, 98]⟩, .string ⟨#[]⟩, .string ⟨#[]⟩, .slice none 0 0, .slice none 0 0]]) (by simp [go_sem, hv, h16, h17]) (J1.out w' A B hB hA) ?_
      rintro e w2 ⟨rfl, hb⟩
      exact ⟨_, rfl, _, rfl, hb, rfl⟩
    | 4, _ =>
      injection ho with ho; subst ho
      have h18 : a.eval (.tmp 18) = .tuple #[.bool true, .int .u64 1] := hd 3 (by kernel_rfl) 18 (by kernel_rfl)
      simp [Act.eval] at h18
      exact ⟨fun _ => wp_of_run (v := .tuple #[.bool true, .int .u64 1]) (w' := w') (by simp [go_sem, h18]) ⟨_, rfl, Lo.refl _, rfl⟩, fun h => by rw [wanted_free rfl] at h; cases h⟩
    | 5, _ =>
      injection ho with ho; subst ho
      have h14 : a.eval (.tmp 14) = .tuple #[.bool true, .int .u64 1] := hd 4 (by kernel_rfl) 14 (by kernel_rfl)
      simp [Act.eval] at h14
      exact ⟨fun _ => wp_of_run (v := .bool true) (w' := w') (by simp [go_sem, h14]) ⟨_, rfl, Lo.refl _, rfl⟩, fun h => by rw [wanted_free rfl] at h; cases h⟩
    | 6, _ =>
      injection ho with ho; subst ho
      have h14 : a.eval (.tmp 14) = .tuple #[.bool true, .int .u64 1] := hd 4 (by kernel_rfl) 14 (by kernel_rfl)
      simp [Act.eval] at h14
      exact ⟨fun _ => wp_of_run (v := .int .u64 1) (w' := w') (by simp [go_sem, h14]) ⟨_, rfl, Lo.refl _, rfl⟩, fun h => by rw [wanted_free rfl] at h; cases h⟩
    | 7, _ =>
      injection ho with ho; subst ho
      have h19 : a.eval (.tmp 19) = .bool true := hd 5 (by kernel_rfl) 19 (by kernel_rfl)
      simp [Act.eval] at h19
      exact ⟨fun _ => wp_of_run (v := .bool true) (w' := w') (by simp [go_sem, h19]) ⟨_, rfl, Lo.refl _, rfl⟩, fun h => by rw [wanted_free rfl] at h; cases h⟩
    | 8, _ =>
      injection ho with ho; subst ho
      have h20 : a.eval (.tmp 20) = .int .u64 1 := hd 6 (by kernel_rfl) 20 (by kernel_rfl)
      simp [Act.eval] at h20
      exact ⟨fun _ => wp_of_run (v := .int .u64 1) (w' := w') (by simp [go_sem, h20]) ⟨_, rfl, Lo.refl _, rfl⟩, fun h => by rw [wanted_free rfl] at h; cases h⟩
  · intro v wq hq hp
    have p7 := hp 7 (by simp)
    have p8 := hp 8 (by simp)
    clear hp
    simp only [List.length_cons, List.length_nil, Nat.zero_add, Nat.reduceAdd, List.range_succ, List.range_zero, List.nil_append, List.cons_append, List.foldl_cons, List.foldl_nil, dstOf, List.getElem?_toArray, List.getElem?_cons_zero, List.getElem?_cons_succ, Option.bind_some, Act.put, List.setIfInBounds_toArray, List.set_cons_zero, List.set_cons_succ]
    generalize v 7 = v7 at *
    generalize v 8 = v8 at *
    subst p7 p8
    generalize v 0 = z0 at *
    generalize v 1 = z1 at *
    generalize v 2 = z2 at *
    generalize v 3 = z3 at *
    generalize v 4 = z4 at *
    generalize v 5 = z5 at *
    generalize v 6 = z6 at *
    replace hfz := (hq.facts.2.1 (w.heap.size + 1) 5 (World.block_lt_of_cell? _ _ b0)).trans hfz
    replace a0 := lo_keep hq a0
    replace a1 := lo_keep hq a1
    replace a2 := lo_keep hq a2
    replace b0 := lo_keep hq b0
    replace b1 := lo_keep hq b1
    replace b2 := lo_keep hq b2
    replace b3 := lo_keep hq b3
    replace b4 := lo_keep hq b4
    replace b5 := lo_keep hq b5
    replace b6 := lo_keep hq b6
    have hlw := hlw.trans hq
    have hqz := hq
    clear hq
    go_wp2
    refine wp_region_all 72 (fun i v w' => match i with
          | 0 => ∃ A B, v = .slice A 2 2 ∧ B ≤ w'.heap.size ∧ SliceAt PolicyR 5 B w' A exPols
          | 1 => v = .agg #[.string ⟨#[115, 104, 111, 112]⟩, .string ⟨#[119, 101, 98]⟩, .int .u32 0]
          | 2 => v = .agg #[.string ⟨#[71, 69, 84]⟩, .string ⟨#[]⟩, .string ⟨#[47, 97, 98]⟩, .string ⟨#[]⟩, .string ⟨#[]⟩, .slice none 0 0, .slice none 0 0]
          | 3 => v = .tuple #[.bool false, .int .u64 0]
          | 4 => v = .tuple #[.bool false, .int .u64 0]
          | 5 => v = .bool false
          | 6 => v = .int .u64 0
          | 7 => v = .bool false
          | 8 => v = .int .u64 0
          | _ => True) (by kernel_rfl) rfl (by kernel_rfl) ?_ ?_ ?_
    · intro i v w1 w2 h hl12
      match i, h with
      | 0, ⟨A, B, hv, hB, hA⟩ => exact ⟨A, B, hv, Nat.le_trans hB hl12.size, SliceAt.lo PolicyR.kept hA hl12 hB⟩
      | 1, h => exact h
      | 2, h => exact h
      | 3, h => exact h
      | 4, h => exact h
      | 5, h => exact h
      | 6, h => exact h
      | 7, h => exact h
      | 8, h => exact h
      | _ + 9, _ => trivial
    · intro i o hiN ho a w' hl hd hold
      match i, hiN with
      | 0, _ =>
        injection ho with ho; subst ho
        refine ⟨fun _ => ?_, fun h => by rw [wanted_free rfl] at h; cases h⟩
        refine wp_call_of (f := 13) (args := #[]) (by simp [go_sem]) (example13 w') ?_
        rintro e w2 ⟨A, rfl, hb, hA⟩
        exact ⟨_, rfl, _, rfl, hb, A, _, rfl, Nat.le_refl _, hA⟩
      | 1, _ =>
        injection ho with ho; subst ho
        have h1 : a.eval (.tmp 1) = .pointer (some ⟨w.heap.size, 0, none⟩) := hold 1 (by kernel_rfl)
        have hc0 := lo_keep hl a0
        have hc1 := lo_keep hl a1
        have hc2 := lo_keep hl a2
        simp [Act.eval] at h1
        exact ⟨fun _ => wp_of_run (v := .agg #[.string ⟨#[115, 104, 111, 112]⟩, .string ⟨#[119, 101, 98]⟩, .int .u32 0]) (w' := w') (by simp [go_sem, h1, hc0, hc1, hc2]) ⟨_, rfl, Lo.refl _, rfl⟩, fun h => by rw [wanted_free rfl] at h; cases h⟩
      | 2, _ =>
        injection ho with ho; subst ho
        have h2 : a.eval (.tmp 2) = .pointer (some ⟨w.heap.size + 1, 0, none⟩) := hold 2 (by kernel_rfl)
        have hc0 := lo_keep hl b0
        have hc1 := lo_keep hl b1
        have hc2 := lo_keep hl b2
        have hc3 := lo_keep hl b3
        have hc4 := lo_keep hl b4
        have hc5 := lo_keep hl b5
        have hc6 := lo_keep hl b6
        simp [Act.eval] at h2
        exact ⟨fun _ => wp_of_run (v := .agg #[.string ⟨#[71, 69, 84]⟩, .string ⟨#[]⟩, .string ⟨#[47, 97, 98]⟩, .string ⟨#[]⟩, .string ⟨#[]⟩, .slice none 0 0, .slice none 0 0]) (w' := w') (by simp [go_sem, h2, hc0, hc1, hc2, hc3, hc4, hc5, hc6]) ⟨_, rfl, Lo.refl _, rfl⟩, fun h => by rw [wanted_free rfl] at h; cases h⟩
      | 3, _ =>
        injection ho with ho; subst ho
        have h23 : a.eval (.tmp 23) = .agg #[.string ⟨#[115, 104, 111, 112]⟩, .string ⟨#[119, 101, 98]⟩, .int .u32 0] := hd 1 (by kernel_rfl) 23 (by kernel_rfl)
        have h24 : a.eval (.tmp 24) = .agg #[.string ⟨#[71, 69, 84]⟩, .string ⟨#[]⟩, .string ⟨#[47, 97, 98]⟩, .string ⟨#[]⟩, .string ⟨#[]⟩, .slice none 0 0, .slice none 0 0] := hd 2 (by kernel_rfl) 24 (by kernel_rfl)
        obtain ⟨A, B, hv, hB, hA⟩ := hd 0 (by kernel_rfl) 22 (by kernel_rfl)
        simp [Act.eval] at hv
        simp [Act.eval] at h23 h24
        refine ⟨fun _ => ?_, fun h => by rw [wanted_free rfl] at h; cases h⟩
        refine wp_call_of (f := 9) (args := #[.slice A 2 2, .agg #[.string ⟨#[115, 104, 111, 112]⟩, .string ⟨#[119, 101, 98]⟩, .int .u32 0], .int .i64 81, .agg #[.string ⟨#[71, 69, 84]⟩, .string ⟨#[]⟩, .string ⟨#[47, 97, 98]⟩, .string ⟨#[]⟩, .string ⟨#[]⟩, .slice none 0 0, .slice none 0 0]]) (by simp [go_sem, hv, h23, h24]) (J2.out w' A B hB hA) ?_
        rintro e w2 ⟨rfl, hb⟩
        exact ⟨_, rfl, _, rfl, hb, rfl⟩
      | 4, _ =>
        injection ho with ho; subst ho
        have h25 : a.eval (.tmp 25) = .tuple #[.bool false, .int .u64 0] := hd 3 (by kernel_rfl) 25 (by kernel_rfl)
        simp [Act.eval] at h25
        exact ⟨fun _ => wp_of_run (v := .tuple #[.bool false, .int .u64 0]) (w' := w') (by simp [go_sem, h25]) ⟨_, rfl, Lo.refl _, rfl⟩, fun h => by rw [wanted_free rfl] at h; cases h⟩
      | 5, _ =>
        injection ho with ho; subst ho
        have h21 : a.eval (.tmp 21) = .tuple #[.bool false, .int .u64 0] := hd 4 (by kernel_rfl) 21 (by kernel_rfl)
        simp [Act.eval] at h21
        exact ⟨fun _ => wp_of_run (v := .bool false) (w' := w') (by simp [go_sem, h21]) ⟨_, rfl, Lo.refl _, rfl⟩, fun h => by rw [wanted_free rfl] at h; cases h⟩
      | 6, _ =>
        injection ho with ho; subst ho
        have h21 : a.eval (.tmp 21) = .tuple #[.bool false, .int .u64 0] := hd 4 (by kernel_rfl) 21 (by kernel_rfl)
        simp [Act.eval] at h21
        exact ⟨fun _ => wp_of_run (v := .int .u64 0) (w' := w') (by simp [go_sem, h21]) ⟨_, rfl, Lo.refl _, rfl⟩, fun h => by rw [wanted_free rfl] at h; cases h⟩
      | 7, _ =>
        injection ho with ho; subst ho
        have h26 : a.eval (.tmp 26) = .bool false := hd 5 (by kernel_rfl) 26 (by kernel_rfl)
        simp [Act.eval] at h26
        exact ⟨fun _ => wp_of_run (v := .bool false) (w' := w') (by simp [go_sem, h26]) ⟨_, rfl, Lo.refl _, rfl⟩, fun h => by rw [wanted_free rfl] at h; cases h⟩
      | 8, _ =>
        injection ho with ho; subst ho
        have h27 : a.eval (.tmp 27) = .int .u64 0 := hd 6 (by kernel_rfl) 27 (by kernel_rfl)
        simp [Act.eval] at h27
        exact ⟨fun _ => wp_of_run (v := .int .u64 0) (w' := w') (by simp [go_sem, h27]) ⟨_, rfl, Lo.refl _, rfl⟩, fun h => by rw [wanted_free rfl] at h; cases h⟩
    · intro v wq hq hp
      have p7 := hp 7 (by simp)
      have p8 := hp 8 (by simp)
      clear hp
      simp only [List.length_cons, List.length_nil, Nat.zero_add, Nat.reduceAdd, List.range_succ, List.range_zero, List.nil_append, List.cons_append, List.foldl_cons, List.foldl_nil, dstOf, List.getElem?_toArray, List.getElem?_cons_zero, List.getElem?_cons_succ, Option.bind_some, Act.put, List.setIfInBounds_toArray, List.set_cons_zero, List.set_cons_succ]
      generalize v 7 = v7 at *
      generalize v 8 = v8 at *
      subst p7 p8
      generalize v 0 = z0 at *
      generalize v 1 = z1 at *
      generalize v 2 = z2 at *
      generalize v 3 = z3 at *
      generalize v 4 = z4 at *
      generalize v 5 = z5 at *
      generalize v 6 = z6 at *
      replace hfz := (hq.facts.2.1 (w.heap.size + 1) 5 (World.block_lt_of_cell? _ _ b0)).trans hfz
      replace a0 := lo_keep hq a0
      replace a1 := lo_keep hq a1
      replace a2 := lo_keep hq a2
      replace b0 := lo_keep hq b0
      replace b1 := lo_keep hq b1
      replace b2 := lo_keep hq b2
      replace b3 := lo_keep hq b3
      replace b4 := lo_keep hq b4
      replace b5 := lo_keep hq b5
      replace b6 := lo_keep hq b6
      have hlw := hlw.trans hq
      have hqz := hq
      clear hq
      have hz1 : w.heap.size + 1 < wq.heap.size := World.block_lt_of_cell? _ _ b0
      have hz0 : w.heap.size < wq.heap.size := World.block_lt_of_cell? _ _ a0
      have c5 : (wq.alloc (.cells #[.string ⟨#[120, 45, 98, 97, 100]⟩, .string ⟨#[49]⟩] 63)).cell? ⟨w.heap.size + 1, 5, none⟩ = some (.slice none 0 0) := lo_keep ((Lo.refl _).alloc _) b5
      have f5 : (wq.alloc (.cells #[.string ⟨#[120, 45, 98, 97, 100]⟩, .string ⟨#[49]⟩] 63)).frozen? ⟨w.heap.size + 1, 5, none⟩ = false := (((Lo.refl wq).alloc _).facts.2.1 (w.heap.size + 1) 5 hz1).trans hfz
      go_wp2
      clear c5 f5
      obtain ⟨w3, hw3⟩ : ∃ w3, ((wq.setCell ⟨w.heap.size + 1, 5, none⟩ (.slice (some ⟨wq.heap.size, 0, none⟩) 1 1)).alloc (.cells #[.string ⟨#[120, 45, 98, 97, 100]⟩, .string ⟨#[49]⟩] 63)) = w3 := ⟨_, rfl⟩
      rw [hw3]
      have key : ∀ (b o : Nat) (v : Value), (b, o) ≠ (w.heap.size + 1, 5) → wq.cell? ⟨b, o, none⟩ = some v → w3.cell? ⟨b, o, none⟩ = some v := fun b o v hne hv => by
        rw [← hw3]
        refine lo_keep ((Lo.refl _).alloc _) ((World.cell?_setCell_other wq _ _ _ (fun e => ?_)).trans hv)
        injection e with e1 e2
        exact hne (by rw [← e1, ← e2])
      have hsz3 : (wq.setCell ⟨w.heap.size + 1, 5, none⟩ (.slice (some ⟨wq.heap.size, 0, none⟩) 1 1)).heap.size = wq.heap.size := by simp
      have hblk : w3.heap[wq.heap.size]? = some (.cells #[.string ⟨#[120, 45, 98, 97, 100]⟩, .string ⟨#[49]⟩] 63 (0, 0)) := by rw [← hw3]; exact heap_new_at hsz3.symm
      have hHd : SliceAt HeadR 2 w3.heap.size w3 (some ⟨wq.heap.size, 0, none⟩) exReq2.heads := SliceAt.one (cs := [.string ⟨#[120, 45, 98, 97, 100]⟩, .string ⟨#[49]⟩]) hblk (block_lt hblk) rfl ⟨_, _, rfl, ⟨rfl, by decide⟩, ⟨rfl, by decide⟩⟩
      have hBd : w3.heap.size ≤ w3.heap.size := Nat.le_refl _
      have hlw3 : Lo w w3 := by rw [← hw3]; exact (Lo.setCell hlw (by simp) _).alloc _
      replace b5 : w3.cell? ⟨w.heap.size + 1, 5, none⟩ = some (.slice (some ⟨wq.heap.size, 0, none⟩) 1 1) := by
        rw [← hw3]
        exact lo_keep ((Lo.refl _).alloc _) (World.cell?_setCell_same _ _ _ b5)
      replace a0 := key _ _ _ (by simp) a0
      replace a1 := key _ _ _ (by simp) a1
      replace a2 := key _ _ _ (by simp) a2
      replace b0 := key _ _ _ (by simp) b0
      replace b1 := key _ _ _ (by simp) b1
      replace b2 := key _ _ _ (by simp) b2
      replace b3 := key _ _ _ (by simp) b3
      replace b4 := key _ _ _ (by simp) b4
      replace b6 := key _ _ _ (by simp) b6
      replace hfz : w3.frozen? ⟨w.heap.size + 1, 5, none⟩ = false := by rw [← hw3]; exact (((Lo.refl _).alloc _).facts.2.1 (w.heap.size + 1) 5 (by rw [hsz3]; exact hz1)).trans (by simpa using hfz)
      replace hlw := hlw3
      clear key hlw3 hsz3 hblk hz0 hz1 hw3
      generalize wq.heap.size = nh at *
      refine wp_region_all 72 (fun i v w' => match i with
            | 0 => ∃ A B, v = .slice A 2 2 ∧ B ≤ w'.heap.size ∧ SliceAt PolicyR 5 B w' A exPols
            | 1 => v = .agg #[.string ⟨#[115, 104, 111, 112]⟩, .string ⟨#[119, 101, 98]⟩, .int .u32 0]
            | 2 => v = .agg #[.string ⟨#[71, 69, 84]⟩, .string ⟨#[]⟩, .string ⟨#[47, 97, 98]⟩, .string ⟨#[]⟩, .string ⟨#[]⟩, .slice (some ⟨nh, 0, none⟩) 1 1, .slice none 0 0]
            | 3 => v = .tuple #[.bool false, .int .u64 2]
            | 4 => v = .tuple #[.bool false, .int .u64 2]
            | 5 => v = .bool false
            | 6 => v = .int .u64 2
            | 7 => v = .bool false
            | 8 => v = .int .u64 2
            | _ => True) (by kernel_rfl) rfl (by kernel_rfl) ?_ ?_ ?_
      · intro i v w1 w2 h hl12
        match i, h with
        | 0, ⟨A, B, hv, hB, hA⟩ => exact ⟨A, B, hv, Nat.le_trans hB hl12.size, SliceAt.lo PolicyR.kept hA hl12 hB⟩
        | 1, h => exact h
        | 2, h => exact h
        | 3, h => exact h
        | 4, h => exact h
        | 5, h => exact h
        | 6, h => exact h
        | 7, h => exact h
        | 8, h => exact h
        | _ + 9, _ => trivial
      · intro i o hiN ho a w' hl hd hold
        match i, hiN with
        | 0, _ =>
          injection ho with ho; subst ho
          refine ⟨fun _ => ?_, fun h => by rw [wanted_free rfl] at h; cases h⟩
          refine wp_call_of (f := 13) (args := #[]) (by simp [go_sem]) (example13 w') ?_
          rintro e w2 ⟨A, rfl, hb, hA⟩
          exact ⟨_, rfl, _, rfl, hb, A, _, rfl, Nat.le_refl _, hA⟩
        | 1, _ =>
          injection ho with ho; subst ho
          have h1 : a.eval (.tmp 1) = .pointer (some ⟨w.heap.size, 0, none⟩) := hold 1 (by kernel_rfl)
          have hc0 := lo_keep hl a0
          have hc1 := lo_keep hl a1
          have hc2 := lo_keep hl a2
          simp [Act.eval] at h1
          exact ⟨fun _ => wp_of_run (v := .agg #[.string ⟨#[115, 104, 111, 112]⟩, .string ⟨#[119, 101, 98]⟩, .int .u32 0]) (w' := w') (by simp [go_sem, h1, hc0, hc1, hc2]) ⟨_, rfl, Lo.refl _, rfl⟩, fun h => by rw [wanted_free rfl] at h; cases h⟩
        | 2, _ =>
          injection ho with ho; subst ho
          have h2 : a.eval (.tmp 2) = .pointer (some ⟨w.heap.size + 1, 0, none⟩) := hold 2 (by kernel_rfl)
          have hc0 := lo_keep hl b0
          have hc1 := lo_keep hl b1
          have hc2 := lo_keep hl b2
          have hc3 := lo_keep hl b3
          have hc4 := lo_keep hl b4
          have hc5 := lo_keep hl b5
          have hc6 := lo_keep hl b6
          simp [Act.eval] at h2
          exact ⟨fun _ => wp_of_run (v := .agg #[.string ⟨#[71, 69, 84]⟩, .string ⟨#[]⟩, .string ⟨#[47, 97, 98]⟩, .string ⟨#[]⟩, .string ⟨#[]⟩, .slice (some ⟨nh, 0, none⟩) 1 1, .slice none 0 0]) (w' := w') (by simp [go_sem, h2, hc0, hc1, hc2, hc3, hc4, hc5, hc6]) ⟨_, rfl, Lo.refl _, rfl⟩, fun h => by rw [wanted_free rfl] at h; cases h⟩
        | 3, _ =>
          injection ho with ho; subst ho
          have h33 : a.eval (.tmp 33) = .agg #[.string ⟨#[115, 104, 111, 112]⟩, .string ⟨#[119, 101, 98]⟩, .int .u32 0] := hd 1 (by kernel_rfl) 33 (by kernel_rfl)
          have h34 : a.eval (.tmp 34) = .agg #[.string ⟨#[71, 69, 84]⟩, .string ⟨#[]⟩, .string ⟨#[47, 97, 98]⟩, .string ⟨#[]⟩, .string ⟨#[]⟩, .slice (some ⟨nh, 0, none⟩) 1 1, .slice none 0 0] := hd 2 (by kernel_rfl) 34 (by kernel_rfl)
          obtain ⟨A, B, hv, hB, hA⟩ := hd 0 (by kernel_rfl) 32 (by kernel_rfl)
          simp [Act.eval] at hv
          simp [Act.eval] at h33 h34
          refine ⟨fun _ => ?_, fun h => by rw [wanted_free rfl] at h; cases h⟩
          refine wp_call_of (f := 9) (args := #[.slice A 2 2, .agg #[.string ⟨#[115, 104, 111, 112]⟩, .string ⟨#[119, 101, 98]⟩, .int .u32 0], .int .i64 80, .agg #[.string ⟨#[71, 69, 84]⟩, .string ⟨#[]⟩, .string ⟨#[47, 97, 98]⟩, .string ⟨#[]⟩, .string ⟨#[]⟩, .slice (some ⟨nh, 0, none⟩) 1 1, .slice none 0 0]]) (by simp [go_sem, hv, h33, h34]) (J3.out w' A _ w'.heap.size (Nat.le_refl _) (hA.keep PolicyR.kept (fun _ _ => rfl) hB) (hHd.lo HeadR.kept hl hBd |>.keep HeadR.kept (fun _ _ => rfl) (Nat.le_trans hBd hl.size))) ?_
          rintro e w2 ⟨rfl, hb⟩
          exact ⟨_, rfl, _, rfl, hb, rfl⟩
        | 4, _ =>
          injection ho with ho; subst ho
          have h35 : a.eval (.tmp 35) = .tuple #[.bool false, .int .u64 2] := hd 3 (by kernel_rfl) 35 (by kernel_rfl)
          simp [Act.eval] at h35
          exact ⟨fun _ => wp_of_run (v := .tuple #[.bool false, .int .u64 2]) (w' := w') (by simp [go_sem, h35]) ⟨_, rfl, Lo.refl _, rfl⟩, fun h => by rw [wanted_free rfl] at h; cases h⟩
        | 5, _ =>
          injection ho with ho; subst ho
          have h31 : a.eval (.tmp 31) = .tuple #[.bool false, .int .u64 2] := hd 4 (by kernel_rfl) 31 (by kernel_rfl)
          simp [Act.eval] at h31
          exact ⟨fun _ => wp_of_run (v := .bool false) (w' := w') (by simp [go_sem, h31]) ⟨_, rfl, Lo.refl _, rfl⟩, fun h => by rw [wanted_free rfl] at h; cases h⟩
        | 6, _ =>
          injection ho with ho; subst ho
          have h31 : a.eval (.tmp 31) = .tuple #[.bool false, .int .u64 2] := hd 4 (by kernel_rfl) 31 (by kernel_rfl)
          simp [Act.eval] at h31
          exact ⟨fun _ => wp_of_run (v := .int .u64 2) (w' := w') (by simp [go_sem, h31]) ⟨_, rfl, Lo.refl _, rfl⟩, fun h => by rw [wanted_free rfl] at h; cases h⟩
        | 7, _ =>
          injection ho with ho; subst ho
          have h36 : a.eval (.tmp 36) = .bool false := hd 5 (by kernel_rfl) 36 (by kernel_rfl)
          simp [Act.eval] at h36
          exact ⟨fun _ => wp_of_run (v := .bool false) (w' := w') (by simp [go_sem, h36]) ⟨_, rfl, Lo.refl _, rfl⟩, fun h => by rw [wanted_free rfl] at h; cases h⟩
        | 8, _ =>
          injection ho with ho; subst ho
          have h37 : a.eval (.tmp 37) = .int .u64 2 := hd 6 (by kernel_rfl) 37 (by kernel_rfl)
          simp [Act.eval] at h37
          exact ⟨fun _ => wp_of_run (v := .int .u64 2) (w' := w') (by simp [go_sem, h37]) ⟨_, rfl, Lo.refl _, rfl⟩, fun h => by rw [wanted_free rfl] at h; cases h⟩
      · intro v wq hq hp
        have p7 := hp 7 (by simp)
        have p8 := hp 8 (by simp)
        clear hp
        simp only [List.length_cons, List.length_nil, Nat.zero_add, Nat.reduceAdd, List.range_succ, List.range_zero, List.nil_append, List.cons_append, List.foldl_cons, List.foldl_nil, dstOf, List.getElem?_toArray, List.getElem?_cons_zero, List.getElem?_cons_succ, Option.bind_some, Act.put, List.setIfInBounds_toArray, List.set_cons_zero, List.set_cons_succ]
        generalize v 7 = v7 at *
        generalize v 8 = v8 at *
        subst p7 p8
        generalize v 0 = z0 at *
        generalize v 1 = z1 at *
        generalize v 2 = z2 at *
        generalize v 3 = z3 at *
        generalize v 4 = z4 at *
        generalize v 5 = z5 at *
        generalize v 6 = z6 at *
        replace hfz := (hq.facts.2.1 (w.heap.size + 1) 5 (World.block_lt_of_cell? _ _ b0)).trans hfz
        replace a0 := lo_keep hq a0
        replace a1 := lo_keep hq a1
        replace a2 := lo_keep hq a2
        replace b0 := lo_keep hq b0
        replace b1 := lo_keep hq b1
        replace b2 := lo_keep hq b2
        replace b3 := lo_keep hq b3
        replace b4 := lo_keep hq b4
        replace b5 := lo_keep hq b5
        replace b6 := lo_keep hq b6
        have hlw := hlw.trans hq
        have hqz := hq
        clear hq
        have hHq : SliceAt HeadR 2 wq.heap.size wq (some ⟨nh, 0, none⟩) exReq2.heads := (hHd.lo HeadR.kept hqz hBd).keep HeadR.kept (fun _ _ => rfl) hqz.size
        go_wp2_with fail
        refine (J4.out _ _ hHq).mono ?_
        rintro e w9 ⟨rfl, hb⟩
        go_wp2
        go_ret
        exact ⟨rfl, (by repeat (first | exact Lo.refl _ | assumption | refine Lo.drew ?_ | refine Lo.alloc ?_ _ | refine Lo.setCell ?_ (by first | (dsimp only; omega) | (simp; omega) | (simp; done)) _ | refine Lo.trans ?_ (by assumption)))⟩
end Go.Proofs.Ytnclifgiakmmoaa.WAuth

/- auth's functions, as the logic of states has them. -/
namespace Go.Proofs.Ytnclifgiakmmoaa.Pol
set_option linter.unusedVariables false
set_option linter.unusedSimpArgs false
open Go.RowKit Mem Sim Opn WAddr WName WMatch WAuth
theorem tr2 {m : Mm} {a b : T} {x y : Value} (ha : TR m a x) (hb : TR m b y) : TR m (.tup [a, b]) (.tuple #[x, y]) := by
  refine .tup [a, b] #[x, y] rfl fun j t v h1 h2 => ?_
  match j, h1, h2 with
  | 0, h1, h2 => simp at h1 h2; subst h1 h2; exact ha
  | 1, h1, h2 => simp at h1 h2; subst h1 h2; exact hb
theorem args4 {m : Mm} {t0 t1 t2 t3 : T} {vals : Array Value} (hl : vals.size = [t0, t1, t2, t3].length) (hv : ∀ (i : Nat) t v, [t0, t1, t2, t3][i]? = some t → vals[i]? = some v → TR m t v) : ∃ x0 x1 x2 x3, vals = #[x0, x1, x2, x3] ∧ TR m t0 x0 ∧ TR m t1 x1 ∧ TR m t2 x2 ∧ TR m t3 x3 := by
  obtain ⟨l⟩ := vals
  match l, hl with
  | [x0, x1, x2, x3], _ => exact ⟨x0, x1, x2, x3, rfl, hv 0 _ _ rfl rfl, hv 1 _ _ rfl rfl, hv 2 _ _ rfl rfl, hv 3 _ _ rfl rfl⟩
theorem agg_inv {m : Mm} {cs : List T} {v : Value} (h : TR m (.agg cs) v) : ∃ vs : List Value, v = .agg vs.toArray ∧ CellsAre m cs vs := by
  cases h with
  | agg cs vs h h1 ht => exact ⟨vs.toList, by simp, by simpa using h, fun j t v h2 h3 => ⟨ht j t v h2 (by simpa using h3), h1 v (List.mem_of_getElem? h3)⟩⟩
theorem agg_bwd {m : Mm} {cs : List T} {vs : List Value} (h : CellsAre m cs vs) : TR m (.agg cs) (.agg vs.toArray) :=
  .agg cs vs.toArray (by simpa using h.1) (fun v hv => by
    obtain ⟨j, hj⟩ := List.getElem?_of_mem hv
    have hj' : vs[j]? = some v := by simpa using hj
    have hlt : j < cs.length := by rw [← h.1]; exact (List.getElem?_eq_some_iff.1 hj').1
    exact (h.2 j _ v (List.getElem?_eq_getElem hlt) hj').2) fun j t v h1 h2 => (h.2 j t v h1 (by simpa using h2)).1
theorem ask_inv {m : Mm} {a : Pl.Asker} {v : Value} (h : TR m (.agg (askT a)) v) : v = .agg #[.string a.ns, .string a.sa, .int .u32 a.addr] := by
  obtain ⟨vs, rfl, hc⟩ := agg_inv h
  rw [cells_ex hc [.string a.ns, .string a.sa, .int .u32 a.addr] rfl]
/-- what of a request fits, however many headers -/
structure OkReq0 (q : Pl.Req) : Prop where
  method : q.method.size ≤ maxLen
  path : q.path.size ≤ maxLen
  host : q.host.size ≤ maxLen
  heads : ∀ h ∈ q.heads, okHead h
theorem req_inv {m : Mm} {w : World} (hs : Sub m w) {q : Pl.Req} {tg qu : ByteArray} {bd v : Value} (hq : OkReq0 q) (h : TR m (.agg (reqT q tg qu bd)) v) : ∃ A cap, v = .agg #[.string q.method, .string tg, .string q.path, .string qu, .string q.host, .slice A q.heads.length cap, bd] ∧ SliceAt HeadR 2 w.heap.size w A q.heads ∧ q.heads.length ≤ maxLen ∧ bd.oneCell' = true := by
  obtain ⟨vs, rfl, hc⟩ := agg_inv h
  obtain ⟨u0, vs, rfl, h0, hc⟩ := cellsAre_inv hc
  obtain ⟨u1, vs, rfl, h1, hc⟩ := cellsAre_inv hc
  obtain ⟨u2, vs, rfl, h2, hc⟩ := cellsAre_inv hc
  obtain ⟨u3, vs, rfl, h3, hc⟩ := cellsAre_inv hc
  obtain ⟨u4, vs, rfl, h4, hc⟩ := cellsAre_inv hc
  obtain ⟨u5, vs, rfl, h5, hc⟩ := cellsAre_inv hc
  have hone : ∀ u ∈ vs, u.oneCell' = true := fun u hu => by
    obtain ⟨j, hj⟩ := List.getElem?_of_mem hu
    have hlt : j < 1 := by have := (List.getElem?_eq_some_iff.1 hj).1; have := hc.1; simp at this; omega
    have : j = 0 := by omega
    subst this
    exact (hc.2 0 _ u rfl hj).2
  obtain ⟨u6, vs, rfl, h6, hc⟩ := cellsAre_inv hc
  obtain rfl := cellsAre_inv0 hc
  obtain ⟨A, cap, e, hA, hc1, hc2⟩ := sl_fwd hs (by omega) (head_fwd hs) hq.heads h5
  injection e with e; subst e
  rw [tr_v h6] at hone
  rw [tr_v h0, tr_v h1, tr_v h2, tr_v h3, tr_v h4, tr_v h6]
  exact ⟨A, cap, rfl, hA, Nat.le_trans hc1 hc2, hone bd (by simp)⟩
theorem pols_inv {m : Mm} {w : World} (hs : Sub m w) {l : List Pl.Policy} {v : Value} (hl : ∀ p ∈ l, okPolicy p) (h : TR m (.sl 5 (l.map polT)) v) : ∃ A cap, v = .slice A l.length cap ∧ SliceAt PolicyR 5 w.heap.size w A l ∧ l.length ≤ maxLen := by
  obtain ⟨A, cap, e, hA, hc1, hc2⟩ := sl_fwd hs (by omega) (policy_fwd hs) hl h
  injection e with e; subst e
  exact ⟨A, cap, rfl, hA, Nat.le_trans hc1 hc2⟩
theorem p_judge (l : List Pl.Policy) (hl : ∀ p ∈ l, okPolicy p) (a : Pl.Asker) (ha : OkAsk a) (port : Int) (q : Pl.Req) (hq : OkReq0 q) (hf : q.heads.length ≤ 1000) (tg qu : ByteArray) (bd : Value) :
    PCalls Try.prog 9 [.sl 5 (l.map polT), .agg (askT a), .v (.int .i64 port), .agg (reqT q tg qu bd)] (.tup [.v (.bool (Pl.judgeP (matchP a port q) l).1), .v (.int .u64 (Pl.judgeP (matchP a port q) l).2)]) where
  ent := ent_of Try.func9 rfl rfl
  run := fun m w vals hm hvl hv _ => by
    obtain ⟨x0, x1, x2, x3, rfl, h0, h1, h2, h3⟩ := args4 hvl hv
    obtain ⟨A0, cap0, rfl, hA0, hn⟩ := pols_inv hm hl h0
    obtain rfl := ask_inv h1
    rw [tr_v h2]
    obtain ⟨A, cap, rfl, hA, _, _⟩ := req_inv hm hq h3
    refine (judge l A0 cap0 a port q A cap tg qu bd w (Nat.le_refl _) hA0 hn ⟨ha.ns, ha.sa, hq.method, hq.path, hq.host, hA, hf⟩).mono fun e w' ⟨he, hlo⟩ => ?_
    rw [he]
    exact post_ex hm hlo (tr2 (.v _) (.v _))
theorem p_long (l : List Pl.Policy) (hl : ∀ p ∈ l, okPolicy p) (a : Pl.Asker) (ha : OkAsk a) (q : Pl.Req) (hq : OkReq0 q) (tg qu : ByteArray) (bd : Value) :
    PCalls Try.prog 5 [.sl 5 (l.map polT), .agg (askT a), .agg (reqT q tg qu bd)] (.v (.bool (long13 l a q))) where
  ent := ent_of Try.func5 rfl rfl
  run := fun m w vals hm hvl hv _ => by
    obtain ⟨x0, x1, x3, rfl, h0, h1, h3⟩ := args3 hvl hv
    obtain ⟨A0, cap0, rfl, hA0, hn⟩ := pols_inv hm hl h0
    obtain rfl := ask_inv h1
    obtain ⟨A, cap, rfl, hA, hn2, hbd⟩ := req_inv hm hq h3
    refine (long13_ l A0 cap0 a q A cap (.string tg) (.string qu) bd w (Nat.le_refl _) hA0 hn ⟨ha.ns, ha.sa, hq.method, hq.path, hq.host, hA, hn2⟩ rfl rfl hbd).mono fun e w' ⟨he, hlo⟩ => ?_
    rw [he]
    exact post_ex hm hlo (.v _)
theorem few_rule {r : Pl.Rule} (h : longRule r = false) : FewR r := by
  unfold longRule at h
  simp only [Bool.or_eq_false_iff, decide_eq_false_iff_not, List.any_eq_false] at h
  obtain ⟨⟨⟨⟨⟨h1, h2⟩, h3⟩, h4⟩, h5⟩, h6⟩ := h
  refine ⟨by omega, by omega, by omega, fun s hs => ?_, fun s hs => ?_, fun s hs => ?_⟩
  · have := h4 s hs
    simp [srcLong, termsB, rowLong] at this
    omega
  · have := h5 s hs
    simp [tgtLong, termsB, rowLong] at this
    omega
  · have := h6 s hs
    simp [whenLong, termsB, rowLong] at this
    omega
theorem few_pol {p : Pl.Policy} (h : longPol p = false) : FewP p := by
  unfold longPol at h
  simp only [Bool.or_eq_false_iff, decide_eq_false_iff_not, List.any_eq_false] at h
  exact ⟨by omega, fun r hr => few_rule (by simpa using h.2 r hr)⟩
theorem few_long {l : List Pl.Policy} {a : Pl.Asker} {q : Pl.Req} (h : long13 l a q = false) : FewL l ∧ l.length ≤ 30 ∧ q.heads.length ≤ 100 ∧ ∀ p ∈ l, FewP p := by
  unfold long13 longHeads at h
  simp only [Bool.or_eq_false_iff, decide_eq_false_iff_not, List.any_eq_false] at h
  have hp : ∀ p ∈ l, FewP p := fun p hp => few_pol (by simpa using h.2 p hp)
  exact ⟨⟨by omega, fun p h => ⟨(hp p h).n, (hp p h).r⟩⟩, by omega, by omega, hp⟩
end Go.Proofs.Ytnclifgiakmmoaa.Pol

/- auth's functions and the law's own, as the logic of states has them. -/
namespace Go.Proofs.Ytnclifgiakmmoaa.Pol
set_option linter.unusedVariables false
set_option linter.unusedSimpArgs false
open Go.RowKit Mem Sim Opn WAddr WName WMatch WAuth
theorem p_awake13 : PCalls Try.prog 8 [] (.v (.bool true)) where
  ent := ent_of Try.func8 rfl rfl
  run := fun m w vals hs hvl hv _ => by
    have : vals = #[] := Array.eq_empty_of_size_eq_zero hvl
    subst this
    refine (awake13 w).mono fun e w' ⟨he, hlo⟩ => ?_
    rw [he]
    exact post_ex hs hlo (.v _)
end Go.Proofs.Ytnclifgiakmmoaa.Pol
