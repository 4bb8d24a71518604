/- timers.Add, Sooner. (Written by mk_add.py.) -/
import Derived.Test.YtmjckopplkihlaaWAdd
namespace Go.Proofs.Ytmjckopplkihlaa.Due
set_option linter.unusedVariables false
set_option linter.unusedSimpArgs false
open Go.RowKit Mem BigFrame

abbrev resV (v : Value) (e : Int) : Value := .tuple #[v, .int .i64 e]
theorem ins_in {l : List Pl.Due} (h : Pl.Good l) (d : Pl.Due) : inL l (Pl.placeL l d) d = Pl.ins l d := Pl.insL_eq h d
theorem place_le (l : List Pl.Due) (d : Pl.Due) : Pl.placeL l d ≤ l.length := by unfold Pl.placeL; omega
theorem wf_ins {l : List Pl.Due} {d : Pl.Due} (h : WfL l) (hd : wfD d) : WfL (Pl.ins l d) := fun x hx => by
  rcases List.mem_cons.1 ((Pl.ins_perm l d).mem_iff.1 hx) with rfl | hm
  · exact hd
  · exact h x hm
/-- refused -/
theorem add_arg (A : Option Addr) (cap : Nat) (l : List Pl.Due) (d : Pl.Due) {B : Nat} (w : World) (hB : B ≤ w.heap.size) (hA : Dues B w A l) (hn : l.length ≤ maxLen) (hcap : l.length ≤ cap) (hno : (Pl.mayL l && Pl.mayD d) = false) :
    Calls Try.prog 13 #[.slice A l.length cap, dueV d] w fun e w' => e = .returned (resV (.slice none 0 0) 1) ∧ Lo w w' := by
  have hl0 : Lo w (w.alloc (.cells #[.int .u64 d.at_, .int .i64 d.kind, .int .u64 d.key] 25)) := (by repeat (first | exact Lo.refl _ | assumption | refine Lo.drew ?_ | refine Lo.alloc ?_ _ | refine Lo.setCell ?_ (by first | (dsimp only; omega) | (simp; omega) | (simp; done)) _ | refine Lo.trans ?_ (by assumption)))
  have HC := Lib.hid (mayAll_ A cap l _ (Nat.le_trans hB hl0.size) (SliceAt.lo DueR.kept hA hl0 hB) hn hcap)
  have HM : Hid (∀ W, Calls Try.prog 30 #[.agg #[.int .u64 d.at_, .int .i64 d.kind, .int .u64 d.key]] W fun e w' => e = .returned (.bool (Pl.mayD d)) ∧ Lo W w') := Lib.hid (fun W => may_ d W)
  obtain ⟨d0, d1, d2⟩ := d
  dsimp only at HC HM hl0
  clear hA
  cases hm : Pl.mayL l
  · rw [hm] at HC
    clear hm hno HM
    go_enter Try.func13, Try.ntmps13
    go_wp2_with (go_at_call 9; refine (HC.out).mono ?_; rintro e w1 ⟨rfl, hb1⟩)
    go_ret2
    exact ⟨rfl, (by repeat (first | exact Lo.refl _ | assumption | refine Lo.drew ?_ | refine Lo.alloc ?_ _ | refine Lo.setCell ?_ (by first | (dsimp only; omega) | (simp; omega) | (simp; done)) _ | refine Lo.trans ?_ (by assumption)))⟩
  · rw [hm] at HC hno
    simp only [Bool.true_and] at hno
    rw [hno] at HM
    clear hm hno
    go_enter Try.func13, Try.ntmps13
    go_wp2_with fail
    refine (HC.out).mono ?_
    rintro e w1 ⟨rfl, hb1⟩
    have hx0 : w1.cell? ⟨w.heap.size, 0, none⟩ = some (.int .u64 d0) := lo_keep hb1 (by simp)
    have hx1 : w1.cell? ⟨w.heap.size, 1, none⟩ = some (.int .i64 d1) := lo_keep hb1 (by simp)
    have hx2 : w1.cell? ⟨w.heap.size, 2, none⟩ = some (.int .u64 d2) := lo_keep hb1 (by simp)
    go_wp2_with fail
    refine (HM.out _).mono ?_
    rintro e w2 ⟨rfl, hb2⟩
    go_wp2
    go_ret2
    exact ⟨rfl, hl0.trans (hb1.trans hb2)⟩
set_option maxRecDepth 100000 in
set_option maxHeartbeats 1600000 in
theorem add_yes (A : Option Addr) (cap : Nat) (l : List Pl.Due) (d : Pl.Due) {B : Nat} (w : World) (hB : B ≤ w.heap.size) (hA : Dues B w A l) (hn : l.length ≤ 1000) (hcap : l.length ≤ cap) (hm : Pl.mayL l = true) (hmd : Pl.mayD d = true) (hw : wfD d) :
    Calls Try.prog 13 #[.slice A l.length cap, dueV d] w fun e w' => ∃ v, e = .returned (resV v (Pl.addErr l d)) ∧ Lo w w' ∧ RowO w.heap.size w' v (Pl.addL l d) := by
  have hl0 : Lo w (w.alloc (.cells #[.int .u64 d.at_, .int .i64 d.kind, .int .u64 d.key] 25)) := (by repeat (first | exact Lo.refl _ | assumption | refine Lo.drew ?_ | refine Lo.alloc ?_ _ | refine Lo.setCell ?_ (by first | (dsimp only; omega) | (simp; omega) | (simp; done)) _ | refine Lo.trans ?_ (by assumption)))
  have HC := Lib.hid (mayAll_ A cap l _ (Nat.le_trans hB hl0.size) (SliceAt.lo DueR.kept hA hl0 hB) (by unfold maxLen; omega) hcap)
  have HM : Hid (∀ W, Calls Try.prog 30 #[.agg #[.int .u64 d.at_, .int .i64 d.kind, .int .u64 d.key]] W fun e w' => e = .returned (.bool (Pl.mayD d)) ∧ Lo W w') := Lib.hid (fun W => may_ d W)
  have HD : Hid (∀ W, Lo w W → Calls Try.prog 18 #[.slice A l.length cap, .int .i64 d.kind, .int .u64 d.key] W fun e w' => ∃ v, e = .returned v ∧ Lo W w' ∧ RowO W.heap.size w' v (Pl.dropL l d.kind d.key)) := Lib.hid fun W hW => drop_ A cap l _ _ W (Nat.le_trans hB hW.size) (SliceAt.lo DueR.kept hA hW hB) (by omega)
  have hgood : Pl.Good (Pl.dropL l d.kind d.key) := Pl.good_drop (Pl.good_of_may hm).1 _ _
  have hl1len : (Pl.dropL l d.kind d.key).length ≤ l.length := by unfold Pl.dropL; exact List.length_filter_le _ _
  have hE : Hid (Pl.addErr l d = if (Pl.dropL l d.kind d.key).length < 64 then 0 else 3) := Lib.hid (by unfold Pl.addErr; rw [hm, hmd]; rfl)
  have hL : Hid (Pl.addL l d = if (Pl.dropL l d.kind d.key).length < 64 then Pl.ins (Pl.dropL l d.kind d.key) d else []) := Lib.hid (by unfold Pl.addL Pl.addOk; rw [hm, hmd]; simp)
  have HIN : Hid (inL (Pl.dropL l d.kind d.key) (Pl.placeL (Pl.dropL l d.kind d.key) d) d = Pl.ins (Pl.dropL l d.kind d.key) d) := Lib.hid (ins_in hgood d)
  have hpl := place_le (Pl.dropL l d.kind d.key) d
  have HW := Lib.hid hw
  rw [hm] at HC
  rw [hmd] at HM
  clear hA hgood hm hmd hw
  obtain ⟨d0, d1, d2⟩ := d
  dsimp only at HC HM HD hl0 hl1len hE hL HIN hpl HW
  generalize Pl.dropL l d1 d2 = l1 at *
  by_cases h64 : l1.length < 64
  · have HE := Lib.hid (hE.out.trans (if_pos h64))
    have HL := Lib.hid (hL.out.trans (if_pos h64))
    clear hE hL
    go_enter Try.func13, Try.ntmps13
    go_wp2_with fail
    refine (HC.out).mono ?_
    rintro e w0 ⟨rfl, hb0⟩
    have hx0 : w0.cell? ⟨w.heap.size, 0, none⟩ = some (.int .u64 d0) := lo_keep hb0 (by simp)
    have hx1 : w0.cell? ⟨w.heap.size, 1, none⟩ = some (.int .i64 d1) := lo_keep hb0 (by simp)
    have hx2 : w0.cell? ⟨w.heap.size, 2, none⟩ = some (.int .u64 d2) := lo_keep hb0 (by simp)
    go_wp2_with fail
    refine (HM.out _).mono ?_
    rintro e w3 ⟨rfl, hb3⟩
    have hx0 := lo_keep hb3 hx0
    have hx1 := lo_keep hb3 hx1
    have hx2 := lo_keep hb3 hx2
    have hlo3 : Lo w w3 := hl0.trans (hb0.trans hb3)
    go_wp2_with fail
    refine (HD.out _ hlo3).mono ?_
    rintro e w1 ⟨v1, rfl, hb1, hr1⟩
    have hx0 := lo_keep hb1 hx0
    have hx1 := lo_keep hb1 hx1
    have hx2 := lo_keep hb1 hx2
    have hlo1 : Lo w3 w1 := hb1
    have hlw1 : Lo w w1 := hlo3.trans hb1
    obtain ⟨A1, cap1, rfl, hA1, hnc1, hcm1⟩ := hr1.at_
    have HP : Hid (∀ W, Lo w3 W → Lo w1 W → Calls Try.prog 36 #[.slice A1 l1.length cap1, .agg #[.int .u64 d0, .int .i64 d1, .int .u64 d2], .func (.func 31) #[] #[]] W fun e w' => e = .returned (.int .i64 (Pl.placeL l1 ⟨d0, d1, d2⟩ : Nat)) ∧ Lo W w') :=
      Lib.hid fun W _ hW => place_ A1 cap1 l1 ⟨d0, d1, d2⟩ W hW.size (SliceAt.lo DueR.kept hA1 hW (Nat.le_refl _)) (by unfold maxLen; omega)
    have HP : Hid (∀ W, Lo w3 W ∧ Lo w1 W → Calls Try.prog 36 #[.slice A1 l1.length cap1, .agg #[.int .u64 d0, .int .i64 d1, .int .u64 d2], .func (.func 31) #[] #[]] W fun e w' => e = .returned (.int .i64 (Pl.placeL l1 ⟨d0, d1, d2⟩ : Nat)) ∧ Lo W w') := Lib.hid fun W h => HP.out W h.1 h.2
    have HR1 := Lib.hid hr1
    have h65 : ¬ (64 ≤ (l1.length : Int)) := by omega
    clear hA1 hr1 HC HM HD
    unfold maxLen at hcm1
    go_wp2
    refine wp_region_mix 6 30 (fun i v w' => match i with
          | 0 => v = .slice A1 l1.length cap1
          | 1 => v = .slice A1 l1.length cap1
          | 2 => v = .agg #[.int .u64 d0, .int .i64 d1, .int .u64 d2]
          | 3 => v = .int .i64 (Pl.placeL l1 ⟨d0, d1, d2⟩ : Nat)
          | 4 => v = .agg #[.int .u64 d0, .int .i64 d1, .int .u64 d2]
          | 5 => ∃ n, v = .slice (some ⟨n, 0, none⟩) 1 1 ∧ w1.heap.size ≤ n ∧ w'.heap[n]? = some (.cells #[.int .u64 d0, .int .i64 d1, .int .u64 d2] 25 (0, 0))
          | _ => True) (by kernel_rfl) rfl (by kernel_rfl) ?_ ?_ ?_
    · intro i v w1 w2 h hl12
      match i, h with
      | 0, h => exact h
      | 1, h => exact h
      | 2, h => exact h
      | 3, h => exact h
      | 4, h => exact h
      | 5, ⟨n, hv, hn0, hn⟩ => exact ⟨n, hv, hn0, hl12.block hn⟩
      | _ + 6, _ => trivial
    · intro i o hiN ho a w' hl hd hold
      match i, hiN with
      | 0, _ =>
        injection ho with ho; subst ho
        have h0 : a.eval (.tmp 0) = .slice A1 l1.length cap1 := hold 0 (by kernel_rfl)
        simp [Act.eval] at h0
        exact ⟨fun _ => wp_of_run (v := .slice A1 l1.length cap1) (w' := w') (by simp [go_sem, h0]) ⟨_, rfl, Lo.refl _, rfl⟩, fun h => by rw [wanted_free rfl] at h; cases h⟩
      | 1, _ =>
        injection ho with ho; subst ho
        have h0 : a.eval (.tmp 0) = .slice A1 l1.length cap1 := hold 0 (by kernel_rfl)
        simp [Act.eval] at h0
        exact ⟨fun _ => wp_of_run (v := .slice A1 l1.length cap1) (w' := w') (by simp [go_sem, h0]) ⟨_, rfl, Lo.refl _, rfl⟩, fun h => by rw [wanted_free rfl] at h; cases h⟩
      | 2, _ =>
        injection ho with ho; subst ho
        have h3 : a.eval (.tmp 3) = .pointer (some ⟨w.heap.size, 0, none⟩) := hold 3 (by kernel_rfl)
        have hc0 := lo_keep hl hx0
        have hc1 := lo_keep hl hx1
        have hc2 := lo_keep hl hx2
        simp [Act.eval] at h3
        exact ⟨fun _ => wp_of_run (v := .agg #[.int .u64 d0, .int .i64 d1, .int .u64 d2]) (w' := w') (by simp [go_sem, h3, hc0, hc1, hc2]) ⟨_, rfl, Lo.refl _, rfl⟩, fun h => by rw [wanted_free rfl] at h; cases h⟩
      | 3, _ =>
        injection ho with ho; subst ho
        have h24 : a.eval (.tmp 24) = .slice A1 l1.length cap1 := hd 1 (by kernel_rfl) 24 (by kernel_rfl)
        have h25 : a.eval (.tmp 25) = .agg #[.int .u64 d0, .int .i64 d1, .int .u64 d2] := hd 2 (by kernel_rfl) 25 (by kernel_rfl)
        simp [Act.eval] at h24 h25
        refine ⟨fun _ => ?_, fun h => by rw [wanted_free rfl] at h; cases h⟩
        refine wp_call_of (f := 36) (args := #[.slice A1 l1.length cap1, .agg #[.int .u64 d0, .int .i64 d1, .int .u64 d2], .func (.func 31) #[] #[]]) (by simp [go_sem, h24, h25]) (HP.out w' ⟨hlo1.trans hl, hl⟩) ?_
        rintro r w2 ⟨rfl, hb⟩
        exact ⟨_, rfl, _, rfl, hb, rfl⟩
      | 4, _ =>
        injection ho with ho; subst ho
        have h3 : a.eval (.tmp 3) = .pointer (some ⟨w.heap.size, 0, none⟩) := hold 3 (by kernel_rfl)
        have hc0 := lo_keep hl hx0
        have hc1 := lo_keep hl hx1
        have hc2 := lo_keep hl hx2
        simp [Act.eval] at h3
        exact ⟨fun _ => wp_of_run (v := .agg #[.int .u64 d0, .int .i64 d1, .int .u64 d2]) (w' := w') (by simp [go_sem, h3, hc0, hc1, hc2]) ⟨_, rfl, Lo.refl _, rfl⟩, fun h => by rw [wanted_free rfl] at h; cases h⟩
      | 5, _ =>
        injection ho with ho; subst ho
        have h27 : a.eval (.tmp 27) = .agg #[.int .u64 d0, .int .i64 d1, .int .u64 d2] := hd 4 (by kernel_rfl) 27 (by kernel_rfl)
        simp [Act.eval] at h27
        exact ⟨fun _ => wp_of_run (v := .slice (some ⟨w'.heap.size, 0, none⟩) 1 1) (w' := w'.alloc (.cells #[.int .u64 d0, .int .i64 d1, .int .u64 d2] 25)) (by simp [go_sem, h27]) ⟨_, rfl, (Lo.refl _).alloc _, _, rfl, hl.size, heap_new_at rfl⟩, fun h => by rw [wanted_free rfl] at h; cases h⟩
    · intro v w2 hq hp
      have p_0 := hp 0 (by omega)
      have p_1 := hp 1 (by omega)
      have p_2 := hp 2 (by omega)
      have p_3 := hp 3 (by omega)
      have p_4 := hp 4 (by omega)
      have p_5 := hp 5 (by omega)
      clear hp
      simp only [List.range_succ, List.range_zero, List.nil_append, List.cons_append, List.foldl_cons, List.foldl_nil, List.drop_succ_cons, List.drop_zero, dstOf, List.getElem?_toArray, List.getElem?_cons_zero, List.getElem?_cons_succ, Option.bind_some, Act.put, List.setIfInBounds_toArray, List.set_cons_zero, List.set_cons_succ]
      generalize v 0 = v0 at *
      generalize v 1 = v1 at *
      generalize v 2 = v2 at *
      generalize v 3 = v3 at *
      generalize v 4 = v4 at *
      generalize v 5 = v5 at *
      subst p_0
      subst p_1
      subst p_2
      subst p_3
      subst p_4
      obtain ⟨n, rfl, hn0, hnb⟩ := p_5
      have HI := Lib.hid (insert_ (.slice A1 l1.length cap1) l1 (Pl.placeL l1 ⟨d0, d1, d2⟩) hpl ⟨d0, d1, d2⟩ (base := w3.heap.size) w2 (Nat.le_trans hb1.size hq.size) (HR1.out.lo hq).1 n (fun g hg => by have := (HR1.out.1.lt_ g hg).2; omega) hnb (by omega))
      go_wp2_with fail
      refine (HI.out).mono ?_
      rintro e w4 ⟨v', rfl, ho4, hg4⟩
      have hlo4 : Lo w w4 := Lo.grown (hlw1.trans hq) hg4 (fun g hg => Nat.le_trans hlo3.size (HR1.out.1.lt_ g hg).1)
      go_wp2
      go_ret2
      refine ⟨v', by rw [HE.out]; rfl, hlo4, ?_⟩
      rw [HL.out, ← HIN.out]
      exact ⟨ho4.base_ hlo3.size, by rw [HIN.out]; exact wf_ins HR1.out.2 HW.out⟩
  · have HE := Lib.hid (hE.out.trans (if_neg h64))
    have HL := Lib.hid (hL.out.trans (if_neg h64))
    clear hE hL
    go_enter Try.func13, Try.ntmps13
    go_wp2_with fail
    refine (HC.out).mono ?_
    rintro e w0 ⟨rfl, hb0⟩
    have hx0 : w0.cell? ⟨w.heap.size, 0, none⟩ = some (.int .u64 d0) := lo_keep hb0 (by simp)
    have hx1 : w0.cell? ⟨w.heap.size, 1, none⟩ = some (.int .i64 d1) := lo_keep hb0 (by simp)
    have hx2 : w0.cell? ⟨w.heap.size, 2, none⟩ = some (.int .u64 d2) := lo_keep hb0 (by simp)
    go_wp2_with fail
    refine (HM.out _).mono ?_
    rintro e w3 ⟨rfl, hb3⟩
    have hx0 := lo_keep hb3 hx0
    have hx1 := lo_keep hb3 hx1
    have hx2 := lo_keep hb3 hx2
    have hlo3 : Lo w w3 := hl0.trans (hb0.trans hb3)
    go_wp2_with fail
    refine (HD.out _ hlo3).mono ?_
    rintro e w1 ⟨v1, rfl, hb1, hr1⟩
    obtain ⟨A1, cap1, rfl, hA1, hnc1, hcm1⟩ := hr1.at_
    have h65 : 64 ≤ (l1.length : Int) := by omega
    clear hA1 hr1 HC HM HD
    unfold maxLen at hcm1
    go_wp2
    go_ret2
    exact ⟨.slice none 0 0, by rw [HE.out]; rfl, hlo3.trans hb1, by rw [HL.out]; exact RowO.nil⟩
theorem wfD_ints {d : Pl.Due} (h : wfD d) : wfD ⟨d.at_, d.kind, d.key⟩ := h
theorem add_ (A : Option Addr) (cap : Nat) (l : List Pl.Due) (d : Pl.Due) {B : Nat} (w : World) (hB : B ≤ w.heap.size) (hA : Dues B w A l) (hn : l.length ≤ 1000) (hcap : l.length ≤ cap) (hw : wfD d) :
    Calls Try.prog 13 #[.slice A l.length cap, dueV d] w fun e w' => ∃ v, e = .returned (resV v (Pl.addErr l d)) ∧ Lo w w' ∧ RowO w.heap.size w' v (Pl.addL l d) := by
  cases h : (Pl.mayL l && Pl.mayD d)
  · refine (add_arg A cap l d w hB hA (by unfold maxLen; omega) hcap h).mono ?_
    rintro e w' ⟨rfl, hl⟩
    have he : Pl.addErr l d = 1 := by unfold Pl.addErr; rw [h]; rfl
    have ha : Pl.addL l d = [] := by unfold Pl.addL Pl.addOk; rw [h]; rfl
    exact ⟨_, by rw [he], hl, by rw [ha]; exact RowO.nil⟩
  · simp only [Bool.and_eq_true] at h
    exact add_yes A cap l d w hB hA hn hcap h.1 h.2 hw
theorem soon_cases (l : List Pl.Due) (d : Pl.Due) : ∃ (at0 : Int) (ok : Bool), findV l d.kind d.key = .tuple #[.int .u64 at0, .bool ok] ∧ Pl.soonB l d = (Pl.mayL l && Pl.mayD d && ok && decide (at0 ≤ d.at_)) := by
  unfold findV Pl.soonB
  cases Pl.findL l d.kind d.key with
  | none => exact ⟨0, false, rfl, by simp⟩
  | some x => exact ⟨x.at_, true, rfl, by simp⟩
set_option maxRecDepth 100000 in
set_option maxHeartbeats 1600000 in
theorem sooner_ (A : Option Addr) (cap : Nat) (l : List Pl.Due) (d : Pl.Due) {B : Nat} (w : World) (hB : B ≤ w.heap.size) (hA : Dues B w A l) (hn : l.length ≤ 1000) (hcap : l.length ≤ cap) (hw : wfD d) :
    Calls Try.prog 16 #[.slice A l.length cap, dueV d] w fun e w' => ∃ v, e = .returned (resV v (Pl.soonErr l d)) ∧ Lo w w' ∧ RowO w.heap.size w' v (Pl.soonL l d) := by
  have hl0 : Lo w (w.alloc (.cells #[.int .u64 d.at_, .int .i64 d.kind, .int .u64 d.key] 25)) := (by repeat (first | exact Lo.refl _ | assumption | refine Lo.drew ?_ | refine Lo.alloc ?_ _ | refine Lo.setCell ?_ (by first | (dsimp only; omega) | (simp; omega) | (simp; done)) _ | refine Lo.trans ?_ (by assumption)))
  have HF : Hid (∀ W, Lo w W → Calls Try.prog 22 #[.slice A l.length cap, .int .i64 d.kind, .int .u64 d.key] W fun e w' => e = .returned (findV l d.kind d.key) ∧ Lo W w') := Lib.hid fun W hW => find_ A cap l _ _ W (Nat.le_trans hB hW.size) (SliceAt.lo DueR.kept hA hW hB) (by unfold maxLen; omega)
  have HC : Hid (∀ W, Lo w W → Calls Try.prog 9 #[.slice A l.length cap] W fun e w' => e = .returned (.bool (Pl.mayL l)) ∧ Lo W w') := Lib.hid fun W hW => mayAll_ A cap l W (Nat.le_trans hB hW.size) (SliceAt.lo DueR.kept hA hW hB) (by unfold maxLen; omega) hcap
  have HM : Hid (∀ W, Calls Try.prog 30 #[.agg #[.int .u64 d.at_, .int .i64 d.kind, .int .u64 d.key]] W fun e w' => e = .returned (.bool (Pl.mayD d)) ∧ Lo W w') := Lib.hid (fun W => may_ d W)
  have HK : Hid (∀ W, Lo w W → Calls Try.prog 38 #[.slice A l.length cap] W fun e w' => ∃ v, e = .returned v ∧ Lo W w' ∧ RowO W.heap.size w' v l) := Lib.hid fun W hW => clone_ A cap l W (Nat.le_trans hB hW.size) (SliceAt.lo DueR.kept hA hW hB) (by omega)
  have HA : Hid (∀ W, Lo w W → Calls Try.prog 13 #[.slice A l.length cap, .agg #[.int .u64 d.at_, .int .i64 d.kind, .int .u64 d.key]] W fun e w' => ∃ v, e = .returned (resV v (Pl.addErr l d)) ∧ Lo W w' ∧ RowO W.heap.size w' v (Pl.addL l d)) := Lib.hid fun W hW => add_ A cap l d W (Nat.le_trans hB hW.size) (SliceAt.lo DueR.kept hA hW hB) hn hcap hw
  obtain ⟨at0, ok, hfv, hsb⟩ := soon_cases l d
  have hSE : Hid (Pl.soonErr l d = if Pl.soonB l d then 0 else Pl.addErr l d) := Lib.hid rfl
  have hSL : Hid (Pl.soonL l d = if Pl.soonB l d then l else Pl.addL l d) := Lib.hid rfl
  rw [hfv] at HF
  rw [hsb] at hSE hSL
  clear hA hfv hsb
  obtain ⟨d0, d1, d2⟩ := d
  dsimp only at HF HC HM HK HA hSE hSL hl0
  generalize Pl.mayL l = mm at *
  generalize Pl.mayD ⟨d0, d1, d2⟩ = md at *
  generalize Pl.addErr l ⟨d0, d1, d2⟩ = ae at *
  by_cases hle : at0 ≤ d0
  all_goals cases mm <;> cases md <;> cases ok
  all_goals
    have HSE := Lib.hid hSE.out
    have HSL := Lib.hid hSL.out
    simp only [hle, decide_true, decide_false, Bool.and_true, Bool.and_false, Bool.true_and, Bool.false_and, Bool.false_eq_true, if_false, if_true] at HSE HSL
    clear hSE hSL
    go_enter Try.func16, Try.ntmps16
    go_wp2_with fail
    refine (HF.out _ hl0).mono ?_
    rintro e w1 ⟨rfl, hb1⟩
    have hx0 : w1.cell? ⟨w.heap.size, 0, none⟩ = some (.int .u64 d0) := lo_keep hb1 (by simp)
    have hx1 : w1.cell? ⟨w.heap.size, 1, none⟩ = some (.int .i64 d1) := lo_keep hb1 (by simp)
    have hx2 : w1.cell? ⟨w.heap.size, 2, none⟩ = some (.int .u64 d2) := lo_keep hb1 (by simp)
    have hlo1 : Lo w w1 := hl0.trans hb1
    go_wp2_with fail
    refine (HC.out _ hlo1).mono ?_
    rintro e w2 ⟨rfl, hb2⟩
    have hx0 := lo_keep hb2 hx0
    have hx1 := lo_keep hb2 hx1
    have hx2 := lo_keep hb2 hx2
    have hlo2 : Lo w w2 := hlo1.trans hb2
    go_wp2_with fail
    first
      | (refine (HA.out _ hlo2).mono ?_
         rintro e w3 ⟨v, rfl, hb3, hr3⟩
         go_wp2
         go_ret2
         exact ⟨v, by rw [HSE.out]; rfl, hlo2.trans hb3, by rw [HSL.out]; exact hr3.base_ hlo2.size⟩)
      | (refine (HM.out _).mono ?_
         rintro e w3 ⟨rfl, hb3⟩
         have hx0 := lo_keep hb3 hx0
         have hx1 := lo_keep hb3 hx1
         have hx2 := lo_keep hb3 hx2
         have hlo3 : Lo w w3 := hlo2.trans hb3
         go_wp2_with fail
         first
           | (refine (HA.out _ hlo3).mono ?_
              rintro e w4 ⟨v, rfl, hb4, hr4⟩
              go_wp2
              go_ret2
              exact ⟨v, by rw [HSE.out]; rfl, hlo3.trans hb4, by rw [HSL.out]; exact hr4.base_ hlo3.size⟩)
           | (refine (HK.out _ hlo3).mono ?_
              rintro e w4 ⟨v, rfl, hb4, hr4⟩
              go_wp2
              go_ret2
              exact ⟨v, by rw [HSE.out]; rfl, hlo3.trans hb4, by rw [HSL.out]; exact hr4.base_ hlo3.size⟩))
end Go.Proofs.Ytmjckopplkihlaa.Due
