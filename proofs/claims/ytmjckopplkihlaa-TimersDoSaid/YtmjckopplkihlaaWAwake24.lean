/- The walk of gatepostlaw24.awake. (Written by mk_awake24.py.) -/
import Derived.Test.YtmjckopplkihlaaWAt24
namespace Go.Proofs.Ytmjckopplkihlaa.Due
set_option linter.unusedVariables false
set_option linter.unusedSimpArgs false
open Go.RowKit Mem BigFrame
set_option maxRecDepth 100000 in
set_option maxHeartbeats 16000000 in
theorem awake_ : AwakeSays := by
  intro w
  have HDue : Hid (∀ (d : Pl.Due) (W : World), Calls Try.prog 26 #[.int .u64 d.at_, .int .i64 d.kind, .int .u64 d.key] W fun e w' => e = .returned (.agg #[.int .u64 d.at_, .int .i64 d.kind, .int .u64 d.key]) ∧ Lo W w') := Lib.hid (fun d W => due_ d W)
  have HAdd : Hid (∀ (v : Value) (l : List Pl.Due) (d : Pl.Due) (W : World) (base : Nat) (L : List Pl.Due), RowO base W v l → l.length ≤ 1000 → wfD d → Pl.addErr l d = 0 → Pl.addL l d = L → Calls Try.prog 13 #[v, .agg #[.int .u64 d.at_, .int .i64 d.kind, .int .u64 d.key]] W fun e w' => ∃ v', e = .returned (.tuple #[v', .int .i64 0]) ∧ Lo W w' ∧ RowO 0 w' v' L) :=
    Lib.hid fun v l d W base L h hn hw he hL => (add_at v l d W h hn hw).mono fun e w' ⟨v', h1, h2, h3⟩ => ⟨v', by rw [h1, he], h2, by rw [← hL]; exact h3.base_ (Nat.zero_le _)⟩
  have HSoon : Hid (∀ (v : Value) (l : List Pl.Due) (d : Pl.Due) (W : World) (base : Nat) (L : List Pl.Due), RowO base W v l → l.length ≤ 1000 → wfD d → Pl.soonErr l d = 0 → Pl.soonL l d = L → Calls Try.prog 16 #[v, .agg #[.int .u64 d.at_, .int .i64 d.kind, .int .u64 d.key]] W fun e w' => ∃ v', e = .returned (.tuple #[v', .int .i64 0]) ∧ Lo W w' ∧ RowO 0 w' v' L) :=
    Lib.hid fun v l d W base L h hn hw he hL => (sooner_at v l d W h hn hw).mono fun e w' ⟨v', h1, h2, h3⟩ => ⟨v', by rw [h1, he], h2, by rw [← hL]; exact h3.base_ (Nat.zero_le _)⟩
  have HTake : Hid (∀ (v : Value) (l : List Pl.Due) (now : Int) (W : World) (base : Nat) (L M : List Pl.Due), RowO base W v l → l.length ≤ 1000 → Pl.takeL now l = L → Pl.leftL now l = M → Calls Try.prog 20 #[v, .int .u64 now] W fun e w' => ∃ v' u', e = .returned (.tuple #[v', u']) ∧ Lo W w' ∧ RowO 0 w' v' L ∧ RowO 0 w' u' M) :=
    Lib.hid fun v l now W base L M h hn hL hM => (take_at v l now W h hn).mono fun e w' ⟨v', u', h1, h2, h3, h4, _⟩ => ⟨v', u', h1, h2, by rw [← hL]; exact h3.base_ (Nat.zero_le _), by rw [← hM]; exact h4.base_ (Nat.zero_le _)⟩
  have HNext : Hid (∀ (v : Value) (l : List Pl.Due) (W : World) (base : Nat) (n : Int), RowO base W v l → nextV l = .tuple #[.int .u64 n, .bool true] → Calls Try.prog 24 #[v] W fun e w' => e = .returned (.tuple #[.int .u64 n, .bool true]) ∧ Lo W w') :=
    Lib.hid fun v l W base n h hn => by rw [← hn]; exact next_at v l W h
  go_enter Try.func8, Try.ntmps8
  go_wp2_with fail
  refine (HDue.out ⟨9, 1, 7⟩ _).mono ?_
  rintro e w1 ⟨rfl, hb1⟩
  have hlo1 : Lo w w1 := hb1
  clear hb1
  go_wp2_with fail
  refine (HAdd.out (.slice none 0 0) ([] : List Pl.Due) ⟨9, 1, 7⟩ _ 0 [(⟨9, 1, 7⟩ : Pl.Due)] RowO.nil (by decide) (by decide) (by decide) (by decide)).mono ?_
  rintro e w2 ⟨v1, rfl, hb2, h1⟩
  have hlo2 : Lo w w2 := hlo1.trans hb2
  clear hb2 hlo1 w1
  go_wp2_with fail
  refine (HDue.out ⟨4, 2, 7⟩ _).mono ?_
  rintro e w3 ⟨rfl, hb3⟩
  have hlo3 : Lo w w3 := hlo2.trans hb3
  replace h1 := h1.lo hb3
  clear hb3 hlo2 w2
  go_wp2_with fail
  refine (HAdd.out v1 [(⟨9, 1, 7⟩ : Pl.Due)] ⟨4, 2, 7⟩ _ 0 [(⟨4, 2, 7⟩ : Pl.Due), ⟨9, 1, 7⟩] h1 (by decide) (by decide) (by decide) (by decide)).mono ?_
  rintro e w4 ⟨v2, rfl, hb4, h2⟩
  have hlo4 : Lo w w4 := hlo3.trans hb4
  replace h1 := h1.lo hb4
  clear h1
  clear hb4 hlo3 w3
  go_wp2_with fail
  refine (HDue.out ⟨4, 1, 8⟩ _).mono ?_
  rintro e w5 ⟨rfl, hb5⟩
  have hlo5 : Lo w w5 := hlo4.trans hb5
  replace h2 := h2.lo hb5
  clear hb5 hlo4 w4
  go_wp2_with fail
  refine (HAdd.out v2 [(⟨4, 2, 7⟩ : Pl.Due), ⟨9, 1, 7⟩] ⟨4, 1, 8⟩ _ 0 [(⟨4, 1, 8⟩ : Pl.Due), ⟨4, 2, 7⟩, ⟨9, 1, 7⟩] h2 (by decide) (by decide) (by decide) (by decide)).mono ?_
  rintro e w6 ⟨v3, rfl, hb6, h3⟩
  have hlo6 : Lo w w6 := hlo5.trans hb6
  replace h2 := h2.lo hb6
  clear h2
  clear hb6 hlo5 w5
  go_wp2_with fail
  refine (HDue.out ⟨2, 1, 7⟩ _).mono ?_
  rintro e w7 ⟨rfl, hb7⟩
  have hlo7 : Lo w w7 := hlo6.trans hb7
  replace h3 := h3.lo hb7
  clear hb7 hlo6 w6
  go_wp2_with fail
  refine (HAdd.out v3 [(⟨4, 1, 8⟩ : Pl.Due), ⟨4, 2, 7⟩, ⟨9, 1, 7⟩] ⟨2, 1, 7⟩ _ 0 [(⟨2, 1, 7⟩ : Pl.Due), ⟨4, 1, 8⟩, ⟨4, 2, 7⟩] h3 (by decide) (by decide) (by decide) (by decide)).mono ?_
  rintro e w8 ⟨v4, rfl, hb8, h4⟩
  have hlo8 : Lo w w8 := hlo7.trans hb8
  replace h3 := h3.lo hb8
  clear hb8 hlo7 w7
  go_wp2_with fail
  refine (HDue.out ⟨9, 1, 8⟩ _).mono ?_
  rintro e w9 ⟨rfl, hb9⟩
  have hlo9 : Lo w w9 := hlo8.trans hb9
  replace h3 := h3.lo hb9
  replace h4 := h4.lo hb9
  clear hb9 hlo8 w8
  go_wp2_with fail
  refine (HSoon.out v3 [(⟨4, 1, 8⟩ : Pl.Due), ⟨4, 2, 7⟩, ⟨9, 1, 7⟩] ⟨9, 1, 8⟩ _ 0 [(⟨4, 1, 8⟩ : Pl.Due), ⟨4, 2, 7⟩, ⟨9, 1, 7⟩] h3 (by decide) (by decide) (by decide) (by decide)).mono ?_
  rintro e w10 ⟨v5, rfl, hb10, h5⟩
  have hlo10 : Lo w w10 := hlo9.trans hb10
  replace h3 := h3.lo hb10
  replace h4 := h4.lo hb10
  clear hb10 hlo9 w9
  go_wp2_with fail
  refine (HTake.out v3 [(⟨4, 1, 8⟩ : Pl.Due), ⟨4, 2, 7⟩, ⟨9, 1, 7⟩] 4 _ 0 [(⟨4, 1, 8⟩ : Pl.Due), ⟨4, 2, 7⟩] [(⟨9, 1, 7⟩ : Pl.Due)] h3 (by decide) (by decide) (by decide)).mono ?_
  rintro e w11 ⟨v6, v7, rfl, hb11, h6, h7⟩
  have hlo11 : Lo w w11 := hlo10.trans hb11
  replace h3 := h3.lo hb11
  replace h4 := h4.lo hb11
  replace h5 := h5.lo hb11
  clear hb11 hlo10 w10
  go_wp2_with fail
  refine (HNext.out v7 [(⟨9, 1, 7⟩ : Pl.Due)] _ 0 9 h7 (by rfl)).mono ?_
  rintro e w12 ⟨rfl, hb12⟩
  have hlo12 : Lo w w12 := hlo11.trans hb12
  replace h3 := h3.lo hb12
  replace h4 := h4.lo hb12
  replace h5 := h5.lo hb12
  replace h6 := h6.lo hb12
  replace h7 := h7.lo hb12
  obtain ⟨g3, k3, rfl, _, gl3, kl3, km3, c3⟩ := h3.cells (by decide)
  obtain ⟨g4, k4, rfl, _, gl4, kl4, km4, c4⟩ := h4.cells (by decide)
  obtain ⟨g6, k6, rfl, _, gl6, kl6, km6, c6⟩ := h6.cells (by decide)
  obtain ⟨a0, a1, a2⟩ := c3 0 _ rfl
  obtain ⟨b0, b1, b2⟩ := c3 2 _ rfl
  obtain ⟨c0, c1, c2⟩ := c4 0 _ rfl
  obtain ⟨d0, d1, d2⟩ := c6 1 _ rfl
  clear c3 c4 c6
  simp only [List.length_cons, List.length_nil, Nat.zero_add, Nat.reduceAdd, Nat.zero_mul, Nat.reduceMul] at *
  have HSame : Hid (∀ W, Lo w12 W → Calls Try.prog 11 #[v5, .slice (some ⟨g3, 0, none⟩) 3 k3] W fun e w' => e = .returned (.bool true) ∧ Lo W w') := Lib.hid fun W hW => same_at v5 _ _ _ W (h5.lo hW) (h3.lo hW)
  have HMay : Hid (∀ W, Lo w12 W → Calls Try.prog 9 #[.slice (some ⟨g3, 0, none⟩) 3 k3] W fun e w' => e = .returned (.bool true) ∧ Lo W w') := Lib.hid fun W hW => may_at _ _ W (h3.lo hW)
  clear HAdd HSoon HTake HNext h3 h4 h5 h6 h7
  clear hb12 hlo11
  have HLO := Lib.hid hlo12
  clear hlo12
  clear w11
  unfold maxLen at km3 km4 km6
  go_wp2
  refine wp_region_ext (by kernel_rfl) (by kernel_rfl) ?_
  repeat (first | go_big_quiet_skip | (go_big_quiet_want; go_big_quiet_op; first | go_big_quiet_on | go_big_quiet_call ((first | (go_at_call 26; first | exact quiet_ext (HDue.out ⟨4, 1, 8⟩ _) | exact quiet_ext (HDue.out ⟨9, 1, 7⟩ _) | exact quiet_ext (HDue.out ⟨2, 1, 7⟩ _) | exact quiet_ext (HDue.out ⟨4, 2, 7⟩ _)) | (go_at_call 11; exact quiet_ext (HSame.out _ (Ext.lo _))) | (go_at_call 9; exact quiet_ext (HMay.out _ (Ext.lo _)))))))
  refine wpQuiet_nil ?_
  intro wq hq
  obtain ⟨hqc, hqf, hqz⟩ := hq.facts
  go_wp2
  go_ret
  exact ⟨rfl, HLO.out.trans hq⟩
end Go.Proofs.Ytmjckopplkihlaa.Due
