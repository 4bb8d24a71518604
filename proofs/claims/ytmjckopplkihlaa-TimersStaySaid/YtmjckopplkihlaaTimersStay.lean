/- For every row of things, every thing and time, the law TimersStay returns true. (Written by mk_stay24.py.) -/
import Derived.Test.YtmjckopplkihlaaWAwake24
import Derived.Test.YtmjckopplkihlaaWRow24
import Derived.Test.YtmjckopplkihlaaPlDue3
namespace Go.Proofs.Ytmjckopplkihlaa.TimersStay
set_option linter.unusedVariables false
set_option linter.unusedSimpArgs false
open Go.RowKit Mem BigFrame Due
set_option maxRecDepth 100000 in
theorem walk_long (A : Option Addr) (n cap : Nat) (d0 d1 d2 now : Int) (w : World) (hn : n ≤ 9223372036854775807) (h : 500 < n) :
    Calls Try.prog 4 #[.slice A n cap, .agg #[.int .u64 d0, .int .i64 d1, .int .u64 d2], .int .u64 now] w fun e w' => e = .returned (.bool true) ∧ Lo w w' := by
  have hl0 : Lo w (w.alloc (.cells #[.int .u64 d0, .int .i64 d1, .int .u64 d2] 25)) := (by repeat (first | exact Lo.refl _ | assumption | refine Lo.drew ?_ | refine Lo.alloc ?_ _ | refine Lo.setCell ?_ (by first | (dsimp only; omega) | (simp; omega) | (simp; done)) _ | refine Lo.trans ?_ (by assumption)))
  go_enter Try.func4, Try.ntmps4
  go_wp2_with (go_at_call 8; refine (awake_ _).mono ?_; rintro e w1 ⟨rfl, hb⟩)
  go_ret
  exact ⟨rfl, hl0.trans hb⟩
set_option maxRecDepth 100000 in
theorem walk_no (A : Option Addr) (n cap : Nat) (l : List Pl.Due) (d0 d1 d2 now : Int) (w : World) (hA : Row w A n cap l) (h5 : n ≤ 500) (hm : Pl.mayL l = false) :
    Calls Try.prog 4 #[.slice A n cap, .agg #[.int .u64 d0, .int .i64 d1, .int .u64 d2], .int .u64 now] w fun e w' => e = .returned (.bool true) ∧ Lo w w' := by
  have hl0 : Lo w (w.alloc (.cells #[.int .u64 d0, .int .i64 d1, .int .u64 d2] 25)) := (by repeat (first | exact Lo.refl _ | assumption | refine Lo.drew ?_ | refine Lo.alloc ?_ _ | refine Lo.setCell ?_ (by first | (dsimp only; omega) | (simp; omega) | (simp; done)) _ | refine Lo.trans ?_ (by assumption)))
  replace hA := hA.lo hl0
  have HM := Lib.hid hm
  clear hm
  go_enter Try.func4, Try.ntmps4
  go_wp2_with fail
  refine (r_may false _ hA HM.out).mono ?_
  rintro e w1 ⟨rfl, hb⟩
  go_wp2_with (go_at_call 8; refine (awake_ _).mono ?_; rintro e w2 ⟨rfl, hb2⟩)
  go_ret
  exact ⟨rfl, hl0.trans (hb.trans hb2)⟩
theorem stay_find {l : List Pl.Due} {d : Pl.Due} (he : Pl.addErr l d = 0) : ∃ (was : Int) (had : Bool) (tb : Int), findV l d.kind d.key = .tuple #[.int .u64 was, .bool had] ∧ findV (Pl.soonL l d) d.kind d.key = .tuple #[.int .u64 tb, .bool true] ∧
    tb = if had = true ∧ was < d.at_ then was else d.at_ := by
  obtain ⟨x, hx, hat⟩ := Pl.find_soon he
  have h1 : findV (Pl.soonL l d) d.kind d.key = .tuple #[.int .u64 x.at_, .bool true] := by unfold findV; rw [hx]
  cases hf : Pl.findL l d.kind d.key with
  | none =>
    rw [hf] at hat
    exact ⟨0, false, x.at_, by unfold findV; rw [hf], h1, by rw [if_neg (by simp)]; exact hat⟩
  | some y =>
    rw [hf] at hat
    refine ⟨y.at_, true, x.at_, by unfold findV; rw [hf], h1, ?_⟩
    simpa using hat
set_option maxRecDepth 100000 in
set_option maxHeartbeats 8000000 in
theorem walk_fit (A : Option Addr) (n cap : Nat) (l : List Pl.Due) (d0 d1 d2 now : Int) (w : World) (hA : Row w A n cap l) (h5 : n ≤ 500) (hm : Pl.mayL l = true) (hw : wfD ⟨d0, d1, d2⟩) :
    Calls Try.prog 4 #[.slice A n cap, .agg #[.int .u64 d0, .int .i64 d1, .int .u64 d2], .int .u64 now] w fun e w' => e = .returned (.bool true) ∧ Lo w w' := by
  have hl0 : Lo w (w.alloc (.cells #[.int .u64 d0, .int .i64 d1, .int .u64 d2] 25)) := (by repeat (first | exact Lo.refl _ | assumption | refine Lo.drew ?_ | refine Lo.alloc ?_ _ | refine Lo.setCell ?_ (by first | (dsimp only; omega) | (simp; omega) | (simp; done)) _ | refine Lo.trans ?_ (by assumption)))
  replace hA := hA.lo hl0
  have HM := Lib.hid hm
  have HMA := Lib.hid (Pl.may_add hm ⟨d0, d1, d2⟩)
  have HMB := Lib.hid (Pl.may_soon hm ⟨d0, d1, d2⟩)
  have HMC := Lib.hid (Pl.may_drop hm d1 d2)
  have HMX := Lib.hid (Pl.may_take hm now)
  have HMY := Lib.hid (Pl.may_left hm now)
  have HAP := Lib.hid (Pl.take_left (Pl.good_of_may hm).1 now)
  have HFC : Hid (findV (Pl.dropL l d1 d2) d1 d2 = .tuple #[.int .u64 0, .bool false]) := Lib.hid (by unfold findV; rw [Pl.find_drop])
  have hx4 : (Pl.takeL now l).length ≤ n := by rw [hA.1]; exact List.length_filter_le _ _
  have hy4 : (Pl.leftL now l).length ≤ n := by rw [hA.1]; exact List.length_filter_le _ _
  have HX4 := Lib.hid hx4
  have HY4 := Lib.hid hy4
  have HW := Lib.hid hw
  clear hm hx4 hy4 hw
  go_enter Try.func4, Try.ntmps4
  go_wp2_with fail
  refine (r_may true _ hA HM.out).mono ?_
  rintro e w1 ⟨rfl, hb⟩
  have hx0 : w1.cell? ⟨w.heap.size, 0, none⟩ = some (.int .u64 d0) := lo_keep hb (by simp)
  have hx1 : w1.cell? ⟨w.heap.size, 1, none⟩ = some (.int .i64 d1) := lo_keep hb (by simp)
  have hx2 : w1.cell? ⟨w.heap.size, 2, none⟩ = some (.int .u64 d2) := lo_keep hb (by simp)
  replace hA := hA.lo hb
  have hlo := hl0.trans hb
  clear hb hl0
  go_wp2_with fail
  refine (r_add ⟨d0, d1, d2⟩ _ hA (by omega) HW.out).mono ?_
  rintro e w2 ⟨A1, n1, c1, rfl, hb, ra⟩
  replace hA := hA.lo hb
  replace hx0 := lo_keep hb hx0
  replace hx1 := lo_keep hb hx1
  replace hx2 := lo_keep hb hx2
  replace hlo := hlo.trans hb
  clear hb w1
  go_wp2_with fail
  refine (r_sooner ⟨d0, d1, d2⟩ _ hA (by omega) HW.out).mono ?_
  rintro e w3 ⟨A2, n2, c2, rfl, hb, rb⟩
  replace hA := hA.lo hb
  replace ra := ra.lo hb
  replace hx0 := lo_keep hb hx0
  replace hx1 := lo_keep hb hx1
  replace hx2 := lo_keep hb hx2
  replace hlo := hlo.trans hb
  clear hb w2
  go_wp2_with fail
  refine (r_take now _ hA (by omega)).mono ?_
  rintro e w4 ⟨A3, n3, c3, A4, n4, c4, rfl, hb, rx, ry⟩
  replace hA := hA.lo hb
  replace ra := ra.lo hb
  replace rb := rb.lo hb
  replace hx0 := lo_keep hb hx0
  replace hx1 := lo_keep hb hx1
  replace hx2 := lo_keep hb hx2
  replace hlo := hlo.trans hb
  clear hb w3
  go_wp2_with fail
  refine (r_drop d1 d2 _ hA (by omega)).mono ?_
  rintro e w5 ⟨A5, n5, c5, rfl, hb, rc⟩
  replace hA := hA.lo hb
  replace ra := ra.lo hb
  replace rb := rb.lo hb
  replace rx := rx.lo hb
  replace ry := ry.lo hb
  replace hx0 := lo_keep hb hx0
  replace hx1 := lo_keep hb hx1
  replace hx2 := lo_keep hb hx2
  replace hlo := hlo.trans hb
  clear hb w4
  go_wp2_with fail
  refine (r_may true _ ra HMA.out).mono ?_
  rintro e w6 ⟨rfl, hb⟩
  replace hA := hA.lo hb
  replace ra := ra.lo hb
  replace rb := rb.lo hb
  replace rx := rx.lo hb
  replace ry := ry.lo hb
  replace rc := rc.lo hb
  replace hx0 := lo_keep hb hx0
  replace hx1 := lo_keep hb hx1
  replace hx2 := lo_keep hb hx2
  replace hlo := hlo.trans hb
  clear hb w5
  go_wp2_with fail
  refine (r_may true _ rb HMB.out).mono ?_
  rintro e w7 ⟨rfl, hb⟩
  replace hA := hA.lo hb
  replace ra := ra.lo hb
  replace rb := rb.lo hb
  replace rx := rx.lo hb
  replace ry := ry.lo hb
  replace rc := rc.lo hb
  replace hx0 := lo_keep hb hx0
  replace hx1 := lo_keep hb hx1
  replace hx2 := lo_keep hb hx2
  replace hlo := hlo.trans hb
  clear hb w6
  go_wp2_with fail
  refine (r_may true _ rc HMC.out).mono ?_
  rintro e w8 ⟨rfl, hb⟩
  replace hA := hA.lo hb
  replace ra := ra.lo hb
  replace rb := rb.lo hb
  replace rx := rx.lo hb
  replace ry := ry.lo hb
  replace rc := rc.lo hb
  replace hx0 := lo_keep hb hx0
  replace hx1 := lo_keep hb hx1
  replace hx2 := lo_keep hb hx2
  replace hlo := hlo.trans hb
  clear hb w7
  go_wp2_with fail
  refine (r_may true _ rx HMX.out).mono ?_
  rintro e w9 ⟨rfl, hb⟩
  replace hA := hA.lo hb
  replace ra := ra.lo hb
  replace rb := rb.lo hb
  replace rx := rx.lo hb
  replace ry := ry.lo hb
  replace rc := rc.lo hb
  replace hx0 := lo_keep hb hx0
  replace hx1 := lo_keep hb hx1
  replace hx2 := lo_keep hb hx2
  replace hlo := hlo.trans hb
  clear hb w8
  go_wp2_with fail
  refine (r_may true _ ry HMY.out).mono ?_
  rintro e w10 ⟨rfl, hb⟩
  replace hA := hA.lo hb
  replace ra := ra.lo hb
  replace rb := rb.lo hb
  replace rx := rx.lo hb
  replace ry := ry.lo hb
  replace rc := rc.lo hb
  replace hx0 := lo_keep hb hx0
  replace hx1 := lo_keep hb hx1
  replace hx2 := lo_keep hb hx2
  replace hlo := hlo.trans hb
  clear hb w9
  have hn3 : n3 ≤ 1000 := by have := rx.1; have := HX4.out; omega
  have hn4 : n4 ≤ 1000 := by have := ry.1; have := HY4.out; omega
  have h7 : Lo w10 (w10.alloc (.cells #[] 25)) := (Lo.refl _).alloc _
  have HO := Lib.hid (start_app w10)
  have HX := Lib.hid (rx.lo h7)
  have hxl : ([] ++ Pl.takeL now l : List Pl.Due).length ≤ 1000 := by rw [List.nil_append]; have := HX4.out; omega
  have hxw := rx.wf
  have hyw := ry.wf
  clear rx
  go_wp2_with (refine wp_app (by rfl) (.tmp 80) (.tmp 81) rfl w10.heap.size _ [] (Pl.takeL now l) rfl HO.out A3 n3 c3 rfl HX.out (Nat.zero_le _) hn3 (Nat.le_of_lt (block_lt (heap_alloc_new w10 _))) ?_)
  intro v1 w11 ho1 hl6
  have h8 := hl6 _ h7 (Nat.le_refl _)
  have HO1 := Lib.hid ho1
  have HY1 := Lib.hid (ry.lo h8)
  clear ho1 HX HO ry
  go_wp2_with (refine wp_app (by rfl) (.tmp 82) (.tmp 83) rfl w10.heap.size v1 _ (Pl.leftL now l) rfl HO1.out A4 n4 c4 rfl HY1.out hxl hn4 h8.size ?_)
  intro v2 w12 ho2 hl7
  have h9 := hl7 _ h8 (Nat.le_refl _)
  obtain ⟨A7, n7, c7, rfl, rz⟩ := Row.of_ownD ho2 (by first | exact wf_app hxw hyw | (rw [List.nil_append]; exact wf_app hxw hyw))
  have rz' : Row w12 A7 n7 c7 l := by first | (rw [List.nil_append, HAP.out] at rz; exact rz) | (rw [HAP.out] at rz; exact rz)
  clear rz
  replace hA := hA.lo h9
  replace ra := ra.lo h9
  replace rb := rb.lo h9
  replace rc := rc.lo h9
  replace hx0 := lo_keep h9 hx0
  replace hx1 := lo_keep h9 hx1
  replace hx2 := lo_keep h9 hx2
  replace hlo := hlo.trans h9
  clear ho2 HO1 HY1 hl6 hl7 h8 h9 h7 hxl hxw hyw
  clear w11
  go_wp2_with fail
  refine (r_same true _ rz' hA (by simp)).mono ?_
  rintro e w13 ⟨rfl, hb⟩
  replace hA := hA.lo hb
  replace ra := ra.lo hb
  replace rb := rb.lo hb
  replace rc := rc.lo hb
  replace rz' := rz'.lo hb
  replace hx0 := lo_keep hb hx0
  replace hx1 := lo_keep hb hx1
  replace hx2 := lo_keep hb hx2
  replace hlo := hlo.trans hb
  clear hb w12
  clear rz'
  go_wp2_with fail
  refine (r_find d1 d2 _ _ rc HFC.out).mono ?_
  rintro e w14 ⟨rfl, hb⟩
  replace hA := hA.lo hb
  replace ra := ra.lo hb
  replace rb := rb.lo hb
  replace rc := rc.lo hb
  replace hx0 := lo_keep hb hx0
  replace hx1 := lo_keep hb hx1
  replace hx2 := lo_keep hb hx2
  replace hlo := hlo.trans hb
  clear hb w13
  by_cases hE : Pl.addErr l ⟨d0, d1, d2⟩ = 0
  · have HFA : Hid (findV (Pl.addL l ⟨d0, d1, d2⟩) d1 d2 = .tuple #[.int .u64 d0, .bool true]) := Lib.hid (by have := Pl.find_add hE; dsimp only at this; unfold findV; rw [this])
    have HDA : Hid (Pl.dropL (Pl.addL l ⟨d0, d1, d2⟩) d1 d2 = Pl.dropL l d1 d2) := Lib.hid (Pl.drop_add hE)
    have HDB : Hid (Pl.dropL (Pl.soonL l ⟨d0, d1, d2⟩) d1 d2 = Pl.dropL l d1 d2) := Lib.hid (Pl.drop_soon hE)
    have hlen := Pl.len_add hE
    dsimp only at hlen
    have hn1 : n1 ≤ 1000 := by have := ra.1; have := (Pl.good_of_may HMA.out).2; omega
    have hn2 : n2 ≤ 1000 := by have := rb.1; have := (Pl.good_of_may HMB.out).2; omega
    have hn5 : n5 ≤ 1000 := by have := rc.1; have := (Pl.good_of_may HMC.out).2; omega
    have hac : (n1 : Int) = (n5 : Int) + 1 := by have := ra.1; have := rc.1; omega
    obtain ⟨was, had, tb, hfl, hfb, hto⟩ := stay_find hE
    dsimp only at hfl hfb hto
    have HFL := Lib.hid hfl
    have HFB := Lib.hid hfb
    have HTO := Lib.hid hto
    clear hlen hfl hfb hto
    go_wp2_with fail
    refine (r_find d1 d2 _ _ ra HFA.out).mono ?_
    rintro e w15 ⟨rfl, hb⟩
    replace hA := hA.lo hb
    replace ra := ra.lo hb
    replace rb := rb.lo hb
    replace rc := rc.lo hb
    replace hx0 := lo_keep hb hx0
    replace hx1 := lo_keep hb hx1
    replace hx2 := lo_keep hb hx2
    replace hlo := hlo.trans hb
    clear hb w14
    go_wp2_with fail
    refine (r_find d1 d2 _ _ rb HFB.out).mono ?_
    rintro e w16 ⟨rfl, hb⟩
    replace hA := hA.lo hb
    replace ra := ra.lo hb
    replace rb := rb.lo hb
    replace rc := rc.lo hb
    replace hx0 := lo_keep hb hx0
    replace hx1 := lo_keep hb hx1
    replace hx2 := lo_keep hb hx2
    replace hlo := hlo.trans hb
    clear hb w15
    go_wp2_with fail
    refine (r_find d1 d2 _ _ hA HFL.out).mono ?_
    rintro e w17 ⟨rfl, hb⟩
    replace hA := hA.lo hb
    replace ra := ra.lo hb
    replace rb := rb.lo hb
    replace rc := rc.lo hb
    replace hx0 := lo_keep hb hx0
    replace hx1 := lo_keep hb hx1
    replace hx2 := lo_keep hb hx2
    replace hlo := hlo.trans hb
    clear hb w16
    have hto := HTO.out
    clear HTO
    cases had
    · rw [if_neg (by simp)] at hto
      subst hto
      clear hA
      go_wp2_with fail
      refine (r_drop d1 d2 _ ra hn1).mono ?_
      rintro e w18 ⟨A8, n8, c8, rfl, hb, rd⟩
      replace ra := ra.lo hb
      replace rb := rb.lo hb
      replace rc := rc.lo hb
      replace hx0 := lo_keep hb hx0
      replace hx1 := lo_keep hb hx1
      replace hx2 := lo_keep hb hx2
      replace hlo := hlo.trans hb
      clear hb w17
      clear ra
      go_wp2_with fail
      refine (r_same true _ rd rc (by simp [HDA.out])).mono ?_
      rintro e w19 ⟨rfl, hb⟩
      replace rb := rb.lo hb
      replace rc := rc.lo hb
      replace rd := rd.lo hb
      replace hx0 := lo_keep hb hx0
      replace hx1 := lo_keep hb hx1
      replace hx2 := lo_keep hb hx2
      replace hlo := hlo.trans hb
      clear hb w18
      clear rd
      go_wp2_with fail
      refine (r_drop d1 d2 _ rb hn2).mono ?_
      rintro e w20 ⟨A9, n9, c9, rfl, hb, rd⟩
      replace rb := rb.lo hb
      replace rc := rc.lo hb
      replace hx0 := lo_keep hb hx0
      replace hx1 := lo_keep hb hx1
      replace hx2 := lo_keep hb hx2
      replace hlo := hlo.trans hb
      clear hb w19
      go_wp2_with fail
      refine (r_same true _ rd rc (by simp [HDB.out])).mono ?_
      rintro e w21 ⟨rfl, hb⟩
      replace rb := rb.lo hb
      replace rc := rc.lo hb
      replace rd := rd.lo hb
      replace hx0 := lo_keep hb hx0
      replace hx1 := lo_keep hb hx1
      replace hx2 := lo_keep hb hx2
      replace hlo := hlo.trans hb
      clear hb w20
      go_wp2_with (go_at_call 8; refine (awake_ _).mono ?_; rintro e wz ⟨rfl, hbz⟩)
      go_ret
      exact ⟨rfl, hlo.trans hbz⟩
    · by_cases hwd : was < d0
      · rw [if_pos ⟨rfl, hwd⟩] at hto
        subst hto
        clear hA
        go_wp2_with fail
        refine (r_drop d1 d2 _ ra hn1).mono ?_
        rintro e w18 ⟨A8, n8, c8, rfl, hb, rd⟩
        replace ra := ra.lo hb
        replace rb := rb.lo hb
        replace rc := rc.lo hb
        replace hx0 := lo_keep hb hx0
        replace hx1 := lo_keep hb hx1
        replace hx2 := lo_keep hb hx2
        replace hlo := hlo.trans hb
        clear hb w17
        clear ra
        go_wp2_with fail
        refine (r_same true _ rd rc (by simp [HDA.out])).mono ?_
        rintro e w19 ⟨rfl, hb⟩
        replace rb := rb.lo hb
        replace rc := rc.lo hb
        replace rd := rd.lo hb
        replace hx0 := lo_keep hb hx0
        replace hx1 := lo_keep hb hx1
        replace hx2 := lo_keep hb hx2
        replace hlo := hlo.trans hb
        clear hb w18
        clear rd
        go_wp2_with fail
        refine (r_drop d1 d2 _ rb hn2).mono ?_
        rintro e w20 ⟨A9, n9, c9, rfl, hb, rd⟩
        replace rb := rb.lo hb
        replace rc := rc.lo hb
        replace hx0 := lo_keep hb hx0
        replace hx1 := lo_keep hb hx1
        replace hx2 := lo_keep hb hx2
        replace hlo := hlo.trans hb
        clear hb w19
        go_wp2_with fail
        refine (r_same true _ rd rc (by simp [HDB.out])).mono ?_
        rintro e w21 ⟨rfl, hb⟩
        replace rb := rb.lo hb
        replace rc := rc.lo hb
        replace rd := rd.lo hb
        replace hx0 := lo_keep hb hx0
        replace hx1 := lo_keep hb hx1
        replace hx2 := lo_keep hb hx2
        replace hlo := hlo.trans hb
        clear hb w20
        go_wp2_with (go_at_call 8; refine (awake_ _).mono ?_; rintro e wz ⟨rfl, hbz⟩)
        go_ret
        exact ⟨rfl, hlo.trans hbz⟩
      · rw [if_neg (by simp [hwd])] at hto
        subst hto
        clear hA
        go_wp2_with fail
        refine (r_drop d1 d2 _ ra hn1).mono ?_
        rintro e w18 ⟨A8, n8, c8, rfl, hb, rd⟩
        replace ra := ra.lo hb
        replace rb := rb.lo hb
        replace rc := rc.lo hb
        replace hx0 := lo_keep hb hx0
        replace hx1 := lo_keep hb hx1
        replace hx2 := lo_keep hb hx2
        replace hlo := hlo.trans hb
        clear hb w17
        clear ra
        go_wp2_with fail
        refine (r_same true _ rd rc (by simp [HDA.out])).mono ?_
        rintro e w19 ⟨rfl, hb⟩
        replace rb := rb.lo hb
        replace rc := rc.lo hb
        replace rd := rd.lo hb
        replace hx0 := lo_keep hb hx0
        replace hx1 := lo_keep hb hx1
        replace hx2 := lo_keep hb hx2
        replace hlo := hlo.trans hb
        clear hb w18
        clear rd
        go_wp2_with fail
        refine (r_drop d1 d2 _ rb hn2).mono ?_
        rintro e w20 ⟨A9, n9, c9, rfl, hb, rd⟩
        replace rb := rb.lo hb
        replace rc := rc.lo hb
        replace hx0 := lo_keep hb hx0
        replace hx1 := lo_keep hb hx1
        replace hx2 := lo_keep hb hx2
        replace hlo := hlo.trans hb
        clear hb w19
        go_wp2_with fail
        refine (r_same true _ rd rc (by simp [HDB.out])).mono ?_
        rintro e w21 ⟨rfl, hb⟩
        replace rb := rb.lo hb
        replace rc := rc.lo hb
        replace rd := rd.lo hb
        replace hx0 := lo_keep hb hx0
        replace hx1 := lo_keep hb hx1
        replace hx2 := lo_keep hb hx2
        replace hlo := hlo.trans hb
        clear hb w20
        go_wp2_with (go_at_call 8; refine (awake_ _).mono ?_; rintro e wz ⟨rfl, hbz⟩)
        go_ret
        exact ⟨rfl, hlo.trans hbz⟩
  · go_wp2_with (go_at_call 8; refine (awake_ _).mono ?_; rintro e wz ⟨rfl, hbz⟩)
    go_ret
    exact ⟨rfl, hlo.trans hbz⟩
theorem walk (A : Option Addr) (cap : Nat) (l : List Pl.Due) (d : Pl.Due) (now : Int) (w : World) {B : Nat} (hA : Dues B w A l) (hB : B ≤ w.heap.size) (hl1 : l.length ≤ cap) (hl2 : cap ≤ maxLen) (hd : wfD d) :
    Calls Try.prog 4 #[.slice A l.length cap, .agg #[.int .u64 d.at_, .int .i64 d.kind, .int .u64 d.key], .int .u64 now] w fun e w' => e = .returned (.bool true) ∧ Lo w w' := by
  by_cases h : l.length ≤ 500
  · cases hm : Pl.mayL l
    · exact walk_no A _ cap l d.at_ d.kind d.key now w (Row.of_arg hA hB hl1 hl2) h hm
    · exact walk_fit A _ cap l d.at_ d.kind d.key now w (Row.of_arg hA hB hl1 hl2) h hm hd
  · exact walk_long A l.length cap d.at_ d.kind d.key now w (by unfold maxLen at hl2; omega) (by omega)
end Go.Proofs.Ytmjckopplkihlaa.TimersStay
