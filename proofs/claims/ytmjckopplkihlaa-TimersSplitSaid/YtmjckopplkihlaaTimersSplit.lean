/- For every row of things and two times, the law TimersSplit returns true. -/
import Derived.Test.YtmjckopplkihlaaWAwake24
import Derived.Test.YtmjckopplkihlaaWRow24
import Derived.Test.YtmjckopplkihlaaPlDue3
import Derived.Lib.MinMax
namespace Go.Proofs.Ytmjckopplkihlaa.TimersSplit
set_option linter.unusedVariables false
set_option linter.unusedSimpArgs false
open Go.RowKit Mem BigFrame Due
set_option maxRecDepth 100000 in
theorem walk_long (A : Option Addr) (cap n : Nat) (one other : Int) (w : World) (hn : n ≤ 9223372036854775807) (h : 500 < n) :
    Calls Try.prog 7 #[.slice A n cap, .int .u64 one, .int .u64 other] w fun e w' => e = .returned (.bool true) ∧ Lo w w' := by
  go_enter Try.func7, Try.ntmps7
  go_wp2_with (go_at_call 8; refine (awake_ _).mono ?_; rintro e w1 ⟨rfl, hb⟩)
  go_ret
  exact ⟨rfl, hb⟩
set_option maxRecDepth 100000 in
set_option maxHeartbeats 4000000 in
theorem walk_fit (A : Option Addr) (n cap : Nat) (l : List Pl.Due) (one other : Int) (w : World) (hA : Row w A n cap l) (h5 : n ≤ 500) :
    Calls Try.prog 7 #[.slice A n cap, .int .u64 one, .int .u64 other] w fun e w' => e = .returned (.bool true) ∧ Lo w w' := by
  obtain ⟨a, ha⟩ : ∃ a, min one other = a := ⟨_, rfl⟩
  obtain ⟨b, hb⟩ : ∃ b, max one other = b := ⟨_, rfl⟩
  have hab : a ≤ b := by omega
  have hla : (Pl.leftL a l).length ≤ 500 := Nat.le_trans (List.length_filter_le _ l) (by rw [← hA.1]; exact h5)
  have hlb : (Pl.takeL b l).length ≤ 500 := Nat.le_trans (List.length_filter_le _ l) (by rw [← hA.1]; exact h5)
  have htwo := Pl.take_two hab l
  have hll := Lib.hid (Pl.left_left hab l)
  have happ : Hid (Pl.mayL l = true → Pl.takeL a l ++ Pl.takeL b (Pl.leftL a l) = Pl.takeL b l) := Lib.hid fun h => Pl.take_app (Pl.good_of_may h).1 hab
  clear hab
  obtain ⟨m, hm⟩ : ∃ m, Pl.mayL l = m := ⟨_, rfl⟩
  have HM := Lib.hid hm
  clear hm
  obtain ⟨i0, hi, hz0, hz1, hz2⟩ := info_parts infoD
  go_enter Try.func7, Try.ntmps7
  go_wp2_with fail
  refine (r_take a _ hA (by omega)).mono ?_
  rintro e w1 ⟨A1, n1, c1, A2, n2, c2, rfl, hb, hx, hrest⟩
  replace hA := hA.lo hb
  have hlo := hb
  clear hb
  go_wp2_with fail
  refine (r_take b _ hrest (by have := hrest.1; omega)).mono ?_
  rintro e w2 ⟨A3, n3, c3, A4, n4, c4, rfl, hb, hy, hleft⟩
  replace hA := hA.lo hb
  replace hx := hx.lo hb
  replace hrest := hrest.lo hb
  replace hlo := hlo.trans hb
  clear hb w1
  go_wp2_with fail
  refine (r_take b _ hA (by omega)).mono ?_
  rintro e w3 ⟨A5, n5, c5, A6, n6, c6, rfl, hb, hz, hend⟩
  replace hA := hA.lo hb
  replace hx := hx.lo hb
  replace hrest := hrest.lo hb
  replace hy := hy.lo hb
  replace hleft := hleft.lo hb
  replace hlo := hlo.trans hb
  clear hb w2
  go_wp2_with fail
  refine (r_same true _ hleft hend (by simp [hll.out])).mono ?_
  rintro e w4 ⟨rfl, hb⟩
  replace hA := hA.lo hb
  replace hx := hx.lo hb
  replace hrest := hrest.lo hb
  replace hy := hy.lo hb
  replace hleft := hleft.lo hb
  replace hz := hz.lo hb
  replace hend := hend.lo hb
  replace hlo := hlo.trans hb
  clear hb w3
  clear hleft hend hrest
  have hx1 := hx.1
  have hy1 := hy.1
  have hz1' := hz.1
  have hnn : n1 + n3 = n5 := by omega
  have hn5 : n5 ≤ 500 := by omega
  have HX1 := Lib.hid hx1
  clear htwo hla hlb hx1 hy1 hz1'
  cases m
  · go_wp2_with fail
    refine (r_may false _ hA HM.out).mono ?_
    rintro e w5 ⟨rfl, hb5⟩
    go_wp2_with (go_at_call 8; refine (awake_ _).mono ?_; rintro e w6 ⟨rfl, hb6⟩)
    go_ret
    exact ⟨rfl, hlo.trans (hb5.trans hb6)⟩
  · go_wp2_with fail
    refine (r_may true _ hA HM.out).mono ?_
    rintro e w5 ⟨rfl, hb5⟩
    replace hx := hx.lo hb5
    replace hy := hy.lo hb5
    replace hz := hz.lo hb5
    replace hlo := hlo.trans hb5
    clear hb5
    have hap := happ.out HM.out
    clear happ
    have hxw := hx.wf
    have hyw := hy.wf
    have h7 : Lo w5 (w5.alloc (.cells #[] 25)) := (Lo.refl _).alloc _
    have HO := Lib.hid (start_app w5)
    have HX := Lib.hid (hx.lo h7)
    have hn1 : n1 ≤ 1000 := by omega
    have hn3 : n3 ≤ 1000 := by omega
    clear hA hx
    go_wp2_with (refine wp_app (by rfl) (.tmp 61) (.tmp 62) rfl w5.heap.size _ [] (Pl.takeL a l) rfl HO.out A1 n1 c1 rfl HX.out (Nat.zero_le _) hn1 (Nat.le_of_lt (block_lt (heap_alloc_new w5 _))) ?_)
    intro v1 w6 ho1 hl6
    have h8 := hl6 _ h7 (Nat.le_refl _)
    have hxl : ([] ++ Pl.takeL a l : List Pl.Due).length ≤ 1000 := by rw [List.nil_append, ← HX1.out]; exact hn1
    have HO1 := Lib.hid ho1
    have HY1 := Lib.hid (hy.lo h8)
    clear ho1 HX HO
    go_wp2_with (refine wp_app (by rfl) (.tmp 63) (.tmp 64) rfl w5.heap.size v1 _ (Pl.takeL b (Pl.leftL a l)) rfl HO1.out A3 n3 c3 rfl HY1.out hxl hn3 h8.size ?_)
    intro v2 w7 ho2 hl7
    have h9 := hl7 _ h8 (Nat.le_refl _)
    obtain ⟨A7, n7, c7, rfl, hr⟩ := Row.of_ownD ho2 (by rw [← hap]; exact wf_app hxw hyw)
    replace hz := hz.lo h9
    replace hlo := hlo.trans h9
    clear ho2 HO1 HY1 hl6 hl7 h8 h9 h7
    clear hy w6
    go_wp2_with fail
    refine (r_same true _ hr hz (by simp [hap])).mono ?_
    rintro e w8 ⟨rfl, hb8⟩
    go_wp2_with (go_at_call 8; refine (awake_ _).mono ?_; rintro e w9 ⟨rfl, hb9⟩)
    go_ret
    exact ⟨rfl, hlo.trans (hb8.trans hb9)⟩
theorem walk (A : Option Addr) (cap : Nat) (l : List Pl.Due) (one other : Int) (w : World) {B : Nat} (hA : Dues B w A l) (hB : B ≤ w.heap.size) (hl1 : l.length ≤ cap) (hl2 : cap ≤ maxLen) :
    Calls Try.prog 7 #[.slice A l.length cap, .int .u64 one, .int .u64 other] w fun e w' => e = .returned (.bool true) ∧ Lo w w' := by
  by_cases h : l.length ≤ 500
  · exact walk_fit A l.length cap l one other w (Row.of_arg hA hB hl1 hl2) h
  · exact walk_long A cap l.length one other w (by unfold maxLen at hl2; omega) (by omega)
end Go.Proofs.Ytmjckopplkihlaa.TimersSplit
