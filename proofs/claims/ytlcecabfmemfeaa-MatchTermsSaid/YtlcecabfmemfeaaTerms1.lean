/- For every term, every row of terms and every text, the law MatchTerms returns true. -/
import Derived.Test.YtlcecabfmemfeaaWAny
import Derived.Test.YtlcecabfmemfeaaWAwake07
import Derived.Test.YtlcecabfmemfeaaWRef7b
namespace Go.Proofs.Ytlcecabfmemfeaa.MatchTerms
set_option linter.unusedVariables false
set_option linter.unusedSimpArgs false
open Go.RowKit Mem BigFrame WMatch

theorem Terms.cells {B b off : Nat} {w : World} {ts : List Pl.Term} (h : Terms B w (some ⟨b, off, none⟩) ts) : ∀ (j : Nat) u, (ts.flatMap termCells)[j]? = some u → w.cell? ((⟨b, off, none⟩ : Addr).add j) = some u := by
  intro j u hj
  rw [addr_add]
  have hlen : (ts.flatMap termCells).length = ts.length * 2 := by
    clear hj h
    induction ts with
    | nil => rfl
    | cons t r ih => simp only [List.flatMap_cons, List.length_append, List.length_cons, ih]; simp [termCells]; omega
  have hjl : j < ts.length * 2 := by
    rcases Nat.lt_or_ge j (ts.length * 2) with h' | h'
    · exact h'
    · rw [List.getElem?_eq_none (by omega)] at hj; cases hj
  have hk : j / 2 < ts.length := by omega
  obtain ⟨b', off', hA, _, h0, h1, _⟩ := h.at_ hk
  injection hA with hA; injection hA with e1 e2; subst e1 e2
  have hg := flatMap_get (f := termCells) (sz := 2) (fun _ => rfl) (List.getElem?_eq_getElem hk) (Nat.mod_lt j (by omega : 0 < 2))
  rw [show j / 2 * 2 + j % 2 = j from by omega, hj] at hg
  rcases Nat.mod_two_eq_zero_or_one j with hm | hm
  · rw [hm] at hg; simp [termCells] at hg; subst hg
    rw [show off + j = off + j / 2 * 2 from by omega]; exact h0
  · rw [hm] at hg; simp [termCells] at hg; subst hg
    rw [show off + j = off + j / 2 * 2 + 1 from by omega]; exact h1
theorem cells_one (ts : List Pl.Term) : ∀ u ∈ ts.flatMap termCells, u.oneCell' = true := by
  intro u hu
  simp only [List.mem_flatMap, termCells] at hu
  obtain ⟨t, _, hu⟩ := hu
  simp at hu; rcases hu with rfl | rfl <;> rfl
theorem cells_len (ts : List Pl.Term) : (ts.flatMap termCells).length = ts.length * 2 := by
  induction ts with
  | nil => rfl
  | cons t r ih => simp only [List.flatMap_cons, List.length_append, List.length_cons, ih]; simp [termCells]; omega
theorem Terms.sizes {B : Nat} {w : World} {A : Option Addr} {ts : List Pl.Term} (h : Terms B w A ts) : ∀ t ∈ ts, t.s.size ≤ maxLen := by
  intro t ht
  obtain ⟨i, hi, rfl⟩ := List.getElem_of_mem ht
  obtain ⟨_, _, _, _, _, _, hz⟩ := h.at_ hi
  exact hz
theorem print_t (k : Int) (s : ByteArray) (w : World) (hs : s.size ≤ maxLen) (hm : Pl.may k s.toList = true) :
    Calls Try.prog 24 #[.agg #[.int .i64 k, .string s]] w fun e w' => e = .returned (.tuple #[.string (textB k s), .int .i64 0]) ∧ Lo w w' := by
  have := print k s w hs
  rw [if_pos hm, if_pos hm] at this
  have he : bs (Pl.text k s.toList) = textB k s := bs_inj (by rw [bs_toList, textB_list])
  rwa [he] at this

set_option maxRecDepth 100000 in
set_option maxHeartbeats 8000000 in
theorem walk_some_t_s (b off cap : Nat) (ts : List Pl.Term) (k : Int) (t s : ByteArray) (w : World) (hA : Terms w.heap.size w (some ⟨b, off, none⟩) ts) (hpos : 0 < ts.length) (zt : t.size ≤ maxLen) (zs : s.size ≤ maxLen) (h60 : ts.length ≤ 60)
    (hl1 : Pl.longT s ts = false) (hl2 : Pl.longT s [⟨k, t⟩] = false) (hm : Pl.may k t.toList = true) (u : Int × Pl.Bs) (hp : Pl.parse s.toList = some u) :
    Calls Try.prog 7 #[.agg #[.int .i64 k, .string t], .slice (some ⟨b, off, none⟩) ts.length cap, .string s] w fun e w' => e = .returned (.bool true) ∧ Lo w w' := by
  have HL1 := Lib.hid hl1
  have HL2 := Lib.hid hl2
  clear hl1 hl2
  obtain ⟨i0, hi, hz0, hz1, hz2⟩ := info_parts Try.infoTerm7
  go_enter Try.func7, Try.ntmps7
  go_wp2_with fail
  refine (long s _ cap ts _ ?_ zs (by unfold maxLen; omega)).mono ?_
  · exact (hA.lo ((Lo.refl _).alloc _) (Nat.le_refl _)).keep TermR.kept (fun _ _ => rfl) (by simp)
  rw [HL1.out]
  rintro e w' ⟨rfl, rfl⟩
  go_wp2_with fail
  refine (long s (some ⟨w.heap.size + 1, 0, none⟩) 1 [⟨k, t⟩] _ (Terms.of_new (ts := [⟨k, t⟩]) (heap_new_at (by simp)) (by simp [zt])) zs (by simp [maxLen])).mono ?_
  rw [HL2.out]
  rintro e wz ⟨rfl, hw⟩
  have hlo : Lo w wz := by rw [← hw]; exact (by repeat (first | exact Lo.refl _ | assumption | refine Lo.drew ?_ | refine Lo.alloc ?_ _ | refine Lo.setCell ?_ (by first | (dsimp only; omega) | (simp; omega) | (simp; done)) _ | refine Lo.trans ?_ (by assumption)))
  have hc0 : wz.cell? ⟨w.heap.size, 0, none⟩ = some (.int .i64 k) := by rw [← hw]; simp
  have hc1 : wz.cell? ⟨w.heap.size, 1, none⟩ = some (.string t) := by rw [← hw]; simp
  have hlz := hlo.size
  have hwz1 : w.heap.size < wz.heap.size := World.block_lt_of_cell? wz _ hc0
  clear hw
  have hAz := hA.lo hlo (Nat.le_refl _)
  have hcl := cells_len ts
  have hh0 : (0 : Nat) + ts.length = ts.length := by omega
  go_wp2_with (at_builtin; refine wpList_append_own _ rfl (.tmp 24) (.tmp 25) 38 rfl wz.heap.size 23 i0 _ 2 24 Try.underlying38 hi hz0 hz1 hz2 rfl (by omega) (.slice (some ⟨wz.heap.size, 0, none⟩) 0 0) 0 [] rfl (World.ownsRow_lit wz #[] 0 (Nat.le_refl _) (by simp [maxLen]) rfl) ⟨b, off, none⟩ ts.length cap (ts.flatMap termCells) rfl hcl (fun j u hj => lo_keep ((Lo.refl _).alloc _) (Terms.cells hAz j u hj)) (cells_one ts) (by unfold maxLen; omega) (by omega) (by simp) ?_; intro vt w3 hown3 hgr3 _; rw [hh0] at hown3; obtain ⟨gt, ct, rfl, hgt⟩ := owns_form hown3 (by omega))
  change (wz.alloc _).grownBy w3 (some wz.heap.size) at hgr3
  have hl23 : Lo wz w3 := Lo.grown ((Lo.refl wz).alloc _) hgr3 (by intro k' hk; injection hk with hk; omega)
  have hsz : ∀ x ∈ ts, x.s.size ≤ maxLen := Terms.sizes hA
  have T2 : Terms w3.heap.size w3 (some ⟨gt, 0, none⟩) ts := Terms.of_owns7 (n := ts.length) (base := wz.heap.size) (cap := ct) (by simpa using hown3) hsz
  have T0 : Terms w.heap.size w3 (some ⟨b, off, none⟩) ts := hA.lo (hlo.trans hl23) (Nat.le_refl _)
  have hlo4 : Lo w w3 := hlo.trans hl23
  clear hown3 hgr3
  have hne : ((ts.length : Int) == 0) = false := by rw [beq_eq_false_iff_ne]; omega
  have hem : ts.isEmpty = false := by cases ts <;> simp at hpos ⊢
  have C1 : ∀ W, Lo w3 W → Calls Try.prog 26 #[.string s, .slice (some ⟨gt, 0, none⟩) ts.length ct] W fun e w' => e = .returned (.bool (anyT s ts)) ∧ Lo W w' := fun W hW => any s _ ct ts W hW.size (T2.lo hW (Nat.le_refl _)) zs (by unfold maxLen; omega)
  have C2 : ∀ W, Lo w3 W → Calls Try.prog 31 #[.string s, .slice (some ⟨b, off, none⟩) ts.length cap] W fun e w' => e = .returned (.bool (anyT s ts)) ∧ Lo W w' := fun W hW => refAny s _ cap ts W (Nat.le_trans hlo4.size hW.size) (T0.lo hW hlo4.size) zs (by unfold maxLen; omega)
  have C3 : ∀ W, Lo w3 W → Calls Try.prog 27 #[.string s, .slice (some ⟨gt, 0, none⟩) ts.length ct] W fun e w' => e = .returned (.bool (anyT s ts)) ∧ Lo W w' := fun W hW => by
    have := lets s _ ct ts W hW.size (T2.lo hW (Nat.le_refl _)) zs (by unfold maxLen; omega)
    unfold letsT at this
    rw [hem] at this
    simpa using this
  have C4 : ∀ W, Lo w3 W → Calls Try.prog 29 #[.slice (some ⟨gt, 0, none⟩) ts.length ct] W fun e w' => e = .returned (.bool (mayAllT ts)) ∧ Lo W w' := fun W hW => mayAll _ ct ts W hW.size (T2.lo hW (Nat.le_refl _)) (by unfold maxLen; omega)
  have C5 : ∀ W, Lo w3 W → Calls Try.prog 30 #[.slice (some ⟨b, off, none⟩) ts.length cap] W fun e w' => e = .returned (.bool (mayAllT ts)) ∧ Lo W w' := fun W hW => refMayAll _ cap ts W (Nat.le_trans hlo4.size hW.size) (T0.lo hW hlo4.size) (by unfold maxLen; omega)
  obtain ⟨y, hy⟩ : ∃ y, anyT s ts = y := ⟨_, rfl⟩
  obtain ⟨x, hx⟩ : ∃ x, mayAllT ts = x := ⟨_, rfl⟩
  rw [hy] at C1 C2 C3
  rw [hx] at C4 C5
  clear hy hx T0 T2 hsz hA hAz hcl
  have hzw : w.heap.size < w3.heap.size := by have := hl23.size; omega
  have j0 := lo_keep hl23 hc0
  have j1 := lo_keep hl23 hc1
  obtain ⟨z, hz⟩ : ∃ z, Pl.matches_ k t.toList s.toList = z := ⟨_, rfl⟩
  have M1 : ∀ W, Calls Try.prog 22 #[.agg #[.int .i64 k, .string t], .string s] W fun e w' => e = .returned (.bool z) ∧ Lo W w' := fun W => by rw [← hz]; exact matches_ _ _ _ _ zt zs
  have M2 : ∀ W, Calls Try.prog 21 #[.agg #[.int .i64 k, .string t], .string s] W fun e w' => e = .returned (.bool z) ∧ Lo W w' := fun W => by rw [← hz]; exact refMatches _ _ _ _ zt zs
  have N1 : ∀ W, Calls Try.prog 23 #[.agg #[.int .i64 k, .string t]] W fun e w' => e = .returned (.bool true) ∧ Lo W w' := fun W => by rw [← hm]; exact may _ _ _ zt
  have N2 : ∀ W, Calls Try.prog 28 #[.agg #[.int .i64 k, .string t]] W fun e w' => e = .returned (.bool true) ∧ Lo W w' := fun W => by rw [← hm]; exact refMay _ _ _ zt
  have P1 : ∀ W, Calls Try.prog 24 #[.agg #[.int .i64 k, .string t]] W fun e w' => e = .returned (.tuple #[.string (textB k t), .int .i64 0]) ∧ Lo W w' := fun W => print_t _ _ _ zt hm
  have P2 : ∀ W, Calls Try.prog 32 #[.agg #[.int .i64 k, .string t]] W fun e w' => e = .returned (.string (textB k t)) ∧ Lo W w' := fun W => refPrint _ _ _ (fit_size (s := s) (t := ⟨k, t⟩) zt hm)
  have HP2 := Lib.hid P2
  clear P2
  have Q1 : ∀ W, Calls Try.prog 25 #[.string s] W fun e w' => e = .returned (.tuple #[.agg #[.int .i64 u.1, .string (bs u.2)], .int .i64 0]) ∧ Lo W w' := fun W => by
    have := parse s W zs
    rwa [hp] at this
  have Q2 : ∀ W, Calls Try.prog 33 #[.string s] W fun e w' => e = .returned (.tuple #[.agg #[.int .i64 u.1, .string (bs u.2)], .bool true]) ∧ Lo W w' := fun W => by
    have := refParse s W zs
    rwa [hp] at this
  have HC1 := Lib.hid C1
  have HC2 := Lib.hid C2
  have HC3 := Lib.hid C3
  have HC4 := Lib.hid C4
  have HC5 := Lib.hid C5
  have HM1 := Lib.hid M1
  have HM2 := Lib.hid M2
  have HN1 := Lib.hid N1
  have HN2 := Lib.hid N2
  have HP1 := Lib.hid P1
  have HQ1 := Lib.hid Q1
  have HQ2 := Lib.hid Q2
  clear C1 C2 C3 C4 C5 M1 M2 N1 N2 P1 Q1 Q2 hm hp hz
  refine wp_region_ext (by kernel_rfl) (by kernel_rfl) ?_
  repeat (first | go_big_quiet_skip | (go_big_quiet_want; go_big_quiet_op; first | go_big_quiet_on | go_big_quiet_call ((first | (go_at_call 23; exact quiet_ext (HN1.out _)) | (go_at_call 28; exact quiet_ext (HN2.out _)) | (go_at_call 29; exact quiet_ext (HC4.out _ (Ext.lo _))) | (go_at_call 30; exact quiet_ext (HC5.out _ (Ext.lo _))) | (go_at_call 22; exact quiet_ext (HM1.out _)) | (go_at_call 21; exact quiet_ext (HM2.out _)) | (go_at_call 26; exact quiet_ext (HC1.out _ (Ext.lo _))) | (go_at_call 31; exact quiet_ext (HC2.out _ (Ext.lo _))) | (go_at_call 27; exact quiet_ext (HC3.out _ (Ext.lo _)))))))
  refine wpQuiet_nil ?_
  intro wq hq
  obtain ⟨hqc, hqf, hqz⟩ := hq.facts
  have q0 := lo_keep hq j0
  have q1 := lo_keep hq j1
  have hzq := hqz _ hzw
  have hlq : Lo w wq := hlo4.trans hq
  clear hq hqc hqf hqz hlo4 hl23 hlo
  go_wp2_with (first
    | (go_at_call 24; refine (HP1.out _).mono ?_; rintro e w4 ⟨rfl, hb⟩; obtain ⟨hc, hf, hz⟩ := hb.facts; have hz0 := hz w.heap.size (by first | assumption | (simp; done) | (simp; omega)); have hq0 := fun o => hc w.heap.size o (by first | assumption | (simp; done) | (simp; omega)))
    | (go_at_call 28; refine (HN2.out _).mono ?_; rintro e w4 ⟨rfl, hb⟩; obtain ⟨hc, hf, hz⟩ := hb.facts; have hz0 := hz w.heap.size (by first | assumption | (simp; done) | (simp; omega)); have hq0 := fun o => hc w.heap.size o (by first | assumption | (simp; done) | (simp; omega)))
    | (go_at_call 32; refine (HP2.out _).mono ?_; rintro e w4 ⟨rfl, hb⟩; obtain ⟨hc, hf, hz⟩ := hb.facts; have hz0 := hz w.heap.size (by first | assumption | (simp; done) | (simp; omega)); have hq0 := fun o => hc w.heap.size o (by first | assumption | (simp; done) | (simp; omega)))
    | (go_at_call 25; refine (HQ1.out _).mono ?_; rintro e w5 ⟨rfl, hb5⟩)
    | (go_at_call 33; refine (HQ2.out _).mono ?_; rintro e w6 ⟨rfl, hb6⟩; (obtain ⟨hc6, hf6, hz6⟩ := hb6.facts); (have hp0 := fun o => hc6 w5.heap.size o (by simp)); (have hzz := hz6 w5.heap.size (by simp)))
    | (go_at_call 17; refine (awake _).mono ?_; rintro e w7 ⟨rfl, hb7⟩))
  go_ret
  exact ⟨rfl, (by repeat (first | exact Lo.refl _ | assumption | refine Lo.drew ?_ | refine Lo.alloc ?_ _ | refine Lo.setCell ?_ (by first | (dsimp only; omega) | (simp; omega) | (simp; done)) _ | refine Lo.trans ?_ (by assumption)))⟩

set_option maxRecDepth 100000 in
set_option maxHeartbeats 8000000 in
theorem walk_some_t_n (b off cap : Nat) (ts : List Pl.Term) (k : Int) (t s : ByteArray) (w : World) (hA : Terms w.heap.size w (some ⟨b, off, none⟩) ts) (hpos : 0 < ts.length) (zt : t.size ≤ maxLen) (zs : s.size ≤ maxLen) (h60 : ts.length ≤ 60)
    (hl1 : Pl.longT s ts = false) (hl2 : Pl.longT s [⟨k, t⟩] = false) (hm : Pl.may k t.toList = true) (hp : Pl.parse s.toList = none) :
    Calls Try.prog 7 #[.agg #[.int .i64 k, .string t], .slice (some ⟨b, off, none⟩) ts.length cap, .string s] w fun e w' => e = .returned (.bool true) ∧ Lo w w' := by
  have HL1 := Lib.hid hl1
  have HL2 := Lib.hid hl2
  clear hl1 hl2
  obtain ⟨i0, hi, hz0, hz1, hz2⟩ := info_parts Try.infoTerm7
  go_enter Try.func7, Try.ntmps7
  go_wp2_with fail
  refine (long s _ cap ts _ ?_ zs (by unfold maxLen; omega)).mono ?_
  · exact (hA.lo ((Lo.refl _).alloc _) (Nat.le_refl _)).keep TermR.kept (fun _ _ => rfl) (by simp)
  rw [HL1.out]
  rintro e w' ⟨rfl, rfl⟩
  go_wp2_with fail
  refine (long s (some ⟨w.heap.size + 1, 0, none⟩) 1 [⟨k, t⟩] _ (Terms.of_new (ts := [⟨k, t⟩]) (heap_new_at (by simp)) (by simp [zt])) zs (by simp [maxLen])).mono ?_
  rw [HL2.out]
  rintro e wz ⟨rfl, hw⟩
  have hlo : Lo w wz := by rw [← hw]; exact (by repeat (first | exact Lo.refl _ | assumption | refine Lo.drew ?_ | refine Lo.alloc ?_ _ | refine Lo.setCell ?_ (by first | (dsimp only; omega) | (simp; omega) | (simp; done)) _ | refine Lo.trans ?_ (by assumption)))
  have hc0 : wz.cell? ⟨w.heap.size, 0, none⟩ = some (.int .i64 k) := by rw [← hw]; simp
  have hc1 : wz.cell? ⟨w.heap.size, 1, none⟩ = some (.string t) := by rw [← hw]; simp
  have hlz := hlo.size
  have hwz1 : w.heap.size < wz.heap.size := World.block_lt_of_cell? wz _ hc0
  clear hw
  have hAz := hA.lo hlo (Nat.le_refl _)
  have hcl := cells_len ts
  have hh0 : (0 : Nat) + ts.length = ts.length := by omega
  go_wp2_with (at_builtin; refine wpList_append_own _ rfl (.tmp 24) (.tmp 25) 38 rfl wz.heap.size 23 i0 _ 2 24 Try.underlying38 hi hz0 hz1 hz2 rfl (by omega) (.slice (some ⟨wz.heap.size, 0, none⟩) 0 0) 0 [] rfl (World.ownsRow_lit wz #[] 0 (Nat.le_refl _) (by simp [maxLen]) rfl) ⟨b, off, none⟩ ts.length cap (ts.flatMap termCells) rfl hcl (fun j u hj => lo_keep ((Lo.refl _).alloc _) (Terms.cells hAz j u hj)) (cells_one ts) (by unfold maxLen; omega) (by omega) (by simp) ?_; intro vt w3 hown3 hgr3 _; rw [hh0] at hown3; obtain ⟨gt, ct, rfl, hgt⟩ := owns_form hown3 (by omega))
  change (wz.alloc _).grownBy w3 (some wz.heap.size) at hgr3
  have hl23 : Lo wz w3 := Lo.grown ((Lo.refl wz).alloc _) hgr3 (by intro k' hk; injection hk with hk; omega)
  have hsz : ∀ x ∈ ts, x.s.size ≤ maxLen := Terms.sizes hA
  have T2 : Terms w3.heap.size w3 (some ⟨gt, 0, none⟩) ts := Terms.of_owns7 (n := ts.length) (base := wz.heap.size) (cap := ct) (by simpa using hown3) hsz
  have T0 : Terms w.heap.size w3 (some ⟨b, off, none⟩) ts := hA.lo (hlo.trans hl23) (Nat.le_refl _)
  have hlo4 : Lo w w3 := hlo.trans hl23
  clear hown3 hgr3
  have hne : ((ts.length : Int) == 0) = false := by rw [beq_eq_false_iff_ne]; omega
  have hem : ts.isEmpty = false := by cases ts <;> simp at hpos ⊢
  have C1 : ∀ W, Lo w3 W → Calls Try.prog 26 #[.string s, .slice (some ⟨gt, 0, none⟩) ts.length ct] W fun e w' => e = .returned (.bool (anyT s ts)) ∧ Lo W w' := fun W hW => any s _ ct ts W hW.size (T2.lo hW (Nat.le_refl _)) zs (by unfold maxLen; omega)
  have C2 : ∀ W, Lo w3 W → Calls Try.prog 31 #[.string s, .slice (some ⟨b, off, none⟩) ts.length cap] W fun e w' => e = .returned (.bool (anyT s ts)) ∧ Lo W w' := fun W hW => refAny s _ cap ts W (Nat.le_trans hlo4.size hW.size) (T0.lo hW hlo4.size) zs (by unfold maxLen; omega)
  have C3 : ∀ W, Lo w3 W → Calls Try.prog 27 #[.string s, .slice (some ⟨gt, 0, none⟩) ts.length ct] W fun e w' => e = .returned (.bool (anyT s ts)) ∧ Lo W w' := fun W hW => by
    have := lets s _ ct ts W hW.size (T2.lo hW (Nat.le_refl _)) zs (by unfold maxLen; omega)
    unfold letsT at this
    rw [hem] at this
    simpa using this
  have C4 : ∀ W, Lo w3 W → Calls Try.prog 29 #[.slice (some ⟨gt, 0, none⟩) ts.length ct] W fun e w' => e = .returned (.bool (mayAllT ts)) ∧ Lo W w' := fun W hW => mayAll _ ct ts W hW.size (T2.lo hW (Nat.le_refl _)) (by unfold maxLen; omega)
  have C5 : ∀ W, Lo w3 W → Calls Try.prog 30 #[.slice (some ⟨b, off, none⟩) ts.length cap] W fun e w' => e = .returned (.bool (mayAllT ts)) ∧ Lo W w' := fun W hW => refMayAll _ cap ts W (Nat.le_trans hlo4.size hW.size) (T0.lo hW hlo4.size) (by unfold maxLen; omega)
  obtain ⟨y, hy⟩ : ∃ y, anyT s ts = y := ⟨_, rfl⟩
  obtain ⟨x, hx⟩ : ∃ x, mayAllT ts = x := ⟨_, rfl⟩
  rw [hy] at C1 C2 C3
  rw [hx] at C4 C5
  clear hy hx T0 T2 hsz hA hAz hcl
  have hzw : w.heap.size < w3.heap.size := by have := hl23.size; omega
  have j0 := lo_keep hl23 hc0
  have j1 := lo_keep hl23 hc1
  obtain ⟨z, hz⟩ : ∃ z, Pl.matches_ k t.toList s.toList = z := ⟨_, rfl⟩
  have M1 : ∀ W, Calls Try.prog 22 #[.agg #[.int .i64 k, .string t], .string s] W fun e w' => e = .returned (.bool z) ∧ Lo W w' := fun W => by rw [← hz]; exact matches_ _ _ _ _ zt zs
  have M2 : ∀ W, Calls Try.prog 21 #[.agg #[.int .i64 k, .string t], .string s] W fun e w' => e = .returned (.bool z) ∧ Lo W w' := fun W => by rw [← hz]; exact refMatches _ _ _ _ zt zs
  have N1 : ∀ W, Calls Try.prog 23 #[.agg #[.int .i64 k, .string t]] W fun e w' => e = .returned (.bool true) ∧ Lo W w' := fun W => by rw [← hm]; exact may _ _ _ zt
  have N2 : ∀ W, Calls Try.prog 28 #[.agg #[.int .i64 k, .string t]] W fun e w' => e = .returned (.bool true) ∧ Lo W w' := fun W => by rw [← hm]; exact refMay _ _ _ zt
  have P1 : ∀ W, Calls Try.prog 24 #[.agg #[.int .i64 k, .string t]] W fun e w' => e = .returned (.tuple #[.string (textB k t), .int .i64 0]) ∧ Lo W w' := fun W => print_t _ _ _ zt hm
  have P2 : ∀ W, Calls Try.prog 32 #[.agg #[.int .i64 k, .string t]] W fun e w' => e = .returned (.string (textB k t)) ∧ Lo W w' := fun W => refPrint _ _ _ (fit_size (s := s) (t := ⟨k, t⟩) zt hm)
  have HP2 := Lib.hid P2
  clear P2
  have Q1 : ∀ W, Calls Try.prog 25 #[.string s] W fun e w' => e = .returned (.tuple #[.agg #[.int .i64 0, .string ⟨#[]⟩], .int .i64 2]) ∧ Lo W w' := fun W => by
    have := parse s W zs
    rwa [hp] at this
  have Q2 : ∀ W, Calls Try.prog 33 #[.string s] W fun e w' => e = .returned (.tuple #[.agg #[.int .i64 0, .string ⟨#[]⟩], .bool false]) ∧ Lo W w' := fun W => by
    have := refParse s W zs
    rwa [hp] at this
  have HC1 := Lib.hid C1
  have HC2 := Lib.hid C2
  have HC3 := Lib.hid C3
  have HC4 := Lib.hid C4
  have HC5 := Lib.hid C5
  have HM1 := Lib.hid M1
  have HM2 := Lib.hid M2
  have HN1 := Lib.hid N1
  have HN2 := Lib.hid N2
  have HP1 := Lib.hid P1
  have HQ1 := Lib.hid Q1
  have HQ2 := Lib.hid Q2
  clear C1 C2 C3 C4 C5 M1 M2 N1 N2 P1 Q1 Q2 hm hp hz
  refine wp_region_ext (by kernel_rfl) (by kernel_rfl) ?_
  repeat (first | go_big_quiet_skip | (go_big_quiet_want; go_big_quiet_op; first | go_big_quiet_on | go_big_quiet_call ((first | (go_at_call 23; exact quiet_ext (HN1.out _)) | (go_at_call 28; exact quiet_ext (HN2.out _)) | (go_at_call 29; exact quiet_ext (HC4.out _ (Ext.lo _))) | (go_at_call 30; exact quiet_ext (HC5.out _ (Ext.lo _))) | (go_at_call 22; exact quiet_ext (HM1.out _)) | (go_at_call 21; exact quiet_ext (HM2.out _)) | (go_at_call 26; exact quiet_ext (HC1.out _ (Ext.lo _))) | (go_at_call 31; exact quiet_ext (HC2.out _ (Ext.lo _))) | (go_at_call 27; exact quiet_ext (HC3.out _ (Ext.lo _)))))))
  refine wpQuiet_nil ?_
  intro wq hq
  obtain ⟨hqc, hqf, hqz⟩ := hq.facts
  have q0 := lo_keep hq j0
  have q1 := lo_keep hq j1
  have hzq := hqz _ hzw
  have hlq : Lo w wq := hlo4.trans hq
  clear hq hqc hqf hqz hlo4 hl23 hlo
  go_wp2_with (first
    | (go_at_call 24; refine (HP1.out _).mono ?_; rintro e w4 ⟨rfl, hb⟩; obtain ⟨hc, hf, hz⟩ := hb.facts; have hz0 := hz w.heap.size (by first | assumption | (simp; done) | (simp; omega)); have hq0 := fun o => hc w.heap.size o (by first | assumption | (simp; done) | (simp; omega)))
    | (go_at_call 28; refine (HN2.out _).mono ?_; rintro e w4 ⟨rfl, hb⟩; obtain ⟨hc, hf, hz⟩ := hb.facts; have hz0 := hz w.heap.size (by first | assumption | (simp; done) | (simp; omega)); have hq0 := fun o => hc w.heap.size o (by first | assumption | (simp; done) | (simp; omega)))
    | (go_at_call 32; refine (HP2.out _).mono ?_; rintro e w4 ⟨rfl, hb⟩; obtain ⟨hc, hf, hz⟩ := hb.facts; have hz0 := hz w.heap.size (by first | assumption | (simp; done) | (simp; omega)); have hq0 := fun o => hc w.heap.size o (by first | assumption | (simp; done) | (simp; omega)))
    | (go_at_call 25; refine (HQ1.out _).mono ?_; rintro e w5 ⟨rfl, hb5⟩)
    | (go_at_call 33; refine (HQ2.out _).mono ?_; rintro e w6 ⟨rfl, hb6⟩; (obtain ⟨hc6, hf6, hz6⟩ := hb6.facts); (have hp0 := fun o => hc6 w5.heap.size o (by simp)); (have hzz := hz6 w5.heap.size (by simp)))
    | (go_at_call 17; refine (awake _).mono ?_; rintro e w7 ⟨rfl, hb7⟩))
  go_ret
  exact ⟨rfl, (by repeat (first | exact Lo.refl _ | assumption | refine Lo.drew ?_ | refine Lo.alloc ?_ _ | refine Lo.setCell ?_ (by first | (dsimp only; omega) | (simp; omega) | (simp; done)) _ | refine Lo.trans ?_ (by assumption)))⟩

set_option maxRecDepth 100000 in
set_option maxHeartbeats 8000000 in
theorem walk_some_f_s (b off cap : Nat) (ts : List Pl.Term) (k : Int) (t s : ByteArray) (w : World) (hA : Terms w.heap.size w (some ⟨b, off, none⟩) ts) (hpos : 0 < ts.length) (zt : t.size ≤ maxLen) (zs : s.size ≤ maxLen) (h60 : ts.length ≤ 60)
    (hl1 : Pl.longT s ts = false) (hl2 : Pl.longT s [⟨k, t⟩] = false) (hm : Pl.may k t.toList = false) (u : Int × Pl.Bs) (hp : Pl.parse s.toList = some u) :
    Calls Try.prog 7 #[.agg #[.int .i64 k, .string t], .slice (some ⟨b, off, none⟩) ts.length cap, .string s] w fun e w' => e = .returned (.bool true) ∧ Lo w w' := by
  have HL1 := Lib.hid hl1
  have HL2 := Lib.hid hl2
  clear hl1 hl2
  obtain ⟨i0, hi, hz0, hz1, hz2⟩ := info_parts Try.infoTerm7
  go_enter Try.func7, Try.ntmps7
  go_wp2_with fail
  refine (long s _ cap ts _ ?_ zs (by unfold maxLen; omega)).mono ?_
  · exact (hA.lo ((Lo.refl _).alloc _) (Nat.le_refl _)).keep TermR.kept (fun _ _ => rfl) (by simp)
  rw [HL1.out]
  rintro e w' ⟨rfl, rfl⟩
  go_wp2_with fail
  refine (long s (some ⟨w.heap.size + 1, 0, none⟩) 1 [⟨k, t⟩] _ (Terms.of_new (ts := [⟨k, t⟩]) (heap_new_at (by simp)) (by simp [zt])) zs (by simp [maxLen])).mono ?_
  rw [HL2.out]
  rintro e wz ⟨rfl, hw⟩
  have hlo : Lo w wz := by rw [← hw]; exact (by repeat (first | exact Lo.refl _ | assumption | refine Lo.drew ?_ | refine Lo.alloc ?_ _ | refine Lo.setCell ?_ (by first | (dsimp only; omega) | (simp; omega) | (simp; done)) _ | refine Lo.trans ?_ (by assumption)))
  have hc0 : wz.cell? ⟨w.heap.size, 0, none⟩ = some (.int .i64 k) := by rw [← hw]; simp
  have hc1 : wz.cell? ⟨w.heap.size, 1, none⟩ = some (.string t) := by rw [← hw]; simp
  have hlz := hlo.size
  have hwz1 : w.heap.size < wz.heap.size := World.block_lt_of_cell? wz _ hc0
  clear hw
  have hAz := hA.lo hlo (Nat.le_refl _)
  have hcl := cells_len ts
  have hh0 : (0 : Nat) + ts.length = ts.length := by omega
  go_wp2_with (at_builtin; refine wpList_append_own _ rfl (.tmp 24) (.tmp 25) 38 rfl wz.heap.size 23 i0 _ 2 24 Try.underlying38 hi hz0 hz1 hz2 rfl (by omega) (.slice (some ⟨wz.heap.size, 0, none⟩) 0 0) 0 [] rfl (World.ownsRow_lit wz #[] 0 (Nat.le_refl _) (by simp [maxLen]) rfl) ⟨b, off, none⟩ ts.length cap (ts.flatMap termCells) rfl hcl (fun j u hj => lo_keep ((Lo.refl _).alloc _) (Terms.cells hAz j u hj)) (cells_one ts) (by unfold maxLen; omega) (by omega) (by simp) ?_; intro vt w3 hown3 hgr3 _; rw [hh0] at hown3; obtain ⟨gt, ct, rfl, hgt⟩ := owns_form hown3 (by omega))
  change (wz.alloc _).grownBy w3 (some wz.heap.size) at hgr3
  have hl23 : Lo wz w3 := Lo.grown ((Lo.refl wz).alloc _) hgr3 (by intro k' hk; injection hk with hk; omega)
  have hsz : ∀ x ∈ ts, x.s.size ≤ maxLen := Terms.sizes hA
  have T2 : Terms w3.heap.size w3 (some ⟨gt, 0, none⟩) ts := Terms.of_owns7 (n := ts.length) (base := wz.heap.size) (cap := ct) (by simpa using hown3) hsz
  have T0 : Terms w.heap.size w3 (some ⟨b, off, none⟩) ts := hA.lo (hlo.trans hl23) (Nat.le_refl _)
  have hlo4 : Lo w w3 := hlo.trans hl23
  clear hown3 hgr3
  have hne : ((ts.length : Int) == 0) = false := by rw [beq_eq_false_iff_ne]; omega
  have hem : ts.isEmpty = false := by cases ts <;> simp at hpos ⊢
  have C1 : ∀ W, Lo w3 W → Calls Try.prog 26 #[.string s, .slice (some ⟨gt, 0, none⟩) ts.length ct] W fun e w' => e = .returned (.bool (anyT s ts)) ∧ Lo W w' := fun W hW => any s _ ct ts W hW.size (T2.lo hW (Nat.le_refl _)) zs (by unfold maxLen; omega)
  have C2 : ∀ W, Lo w3 W → Calls Try.prog 31 #[.string s, .slice (some ⟨b, off, none⟩) ts.length cap] W fun e w' => e = .returned (.bool (anyT s ts)) ∧ Lo W w' := fun W hW => refAny s _ cap ts W (Nat.le_trans hlo4.size hW.size) (T0.lo hW hlo4.size) zs (by unfold maxLen; omega)
  have C3 : ∀ W, Lo w3 W → Calls Try.prog 27 #[.string s, .slice (some ⟨gt, 0, none⟩) ts.length ct] W fun e w' => e = .returned (.bool (anyT s ts)) ∧ Lo W w' := fun W hW => by
    have := lets s _ ct ts W hW.size (T2.lo hW (Nat.le_refl _)) zs (by unfold maxLen; omega)
    unfold letsT at this
    rw [hem] at this
    simpa using this
  have C4 : ∀ W, Lo w3 W → Calls Try.prog 29 #[.slice (some ⟨gt, 0, none⟩) ts.length ct] W fun e w' => e = .returned (.bool (mayAllT ts)) ∧ Lo W w' := fun W hW => mayAll _ ct ts W hW.size (T2.lo hW (Nat.le_refl _)) (by unfold maxLen; omega)
  have C5 : ∀ W, Lo w3 W → Calls Try.prog 30 #[.slice (some ⟨b, off, none⟩) ts.length cap] W fun e w' => e = .returned (.bool (mayAllT ts)) ∧ Lo W w' := fun W hW => refMayAll _ cap ts W (Nat.le_trans hlo4.size hW.size) (T0.lo hW hlo4.size) (by unfold maxLen; omega)
  obtain ⟨y, hy⟩ : ∃ y, anyT s ts = y := ⟨_, rfl⟩
  obtain ⟨x, hx⟩ : ∃ x, mayAllT ts = x := ⟨_, rfl⟩
  rw [hy] at C1 C2 C3
  rw [hx] at C4 C5
  clear hy hx T0 T2 hsz hA hAz hcl
  have hzw : w.heap.size < w3.heap.size := by have := hl23.size; omega
  have j0 := lo_keep hl23 hc0
  have j1 := lo_keep hl23 hc1
  obtain ⟨z, hz⟩ : ∃ z, Pl.matches_ k t.toList s.toList = z := ⟨_, rfl⟩
  have M1 : ∀ W, Calls Try.prog 22 #[.agg #[.int .i64 k, .string t], .string s] W fun e w' => e = .returned (.bool z) ∧ Lo W w' := fun W => by rw [← hz]; exact matches_ _ _ _ _ zt zs
  have M2 : ∀ W, Calls Try.prog 21 #[.agg #[.int .i64 k, .string t], .string s] W fun e w' => e = .returned (.bool z) ∧ Lo W w' := fun W => by rw [← hz]; exact refMatches _ _ _ _ zt zs
  have N1 : ∀ W, Calls Try.prog 23 #[.agg #[.int .i64 k, .string t]] W fun e w' => e = .returned (.bool false) ∧ Lo W w' := fun W => by rw [← hm]; exact may _ _ _ zt
  have N2 : ∀ W, Calls Try.prog 28 #[.agg #[.int .i64 k, .string t]] W fun e w' => e = .returned (.bool false) ∧ Lo W w' := fun W => by rw [← hm]; exact refMay _ _ _ zt
  have P1 : ∀ W, Calls Try.prog 24 #[.agg #[.int .i64 k, .string t]] W fun e w' => e = .returned (.tuple #[.string ⟨#[]⟩, .int .i64 1]) ∧ Lo W w' := fun W => print_no _ _ _ zt hm
  have Q1 : ∀ W, Calls Try.prog 25 #[.string s] W fun e w' => e = .returned (.tuple #[.agg #[.int .i64 u.1, .string (bs u.2)], .int .i64 0]) ∧ Lo W w' := fun W => by
    have := parse s W zs
    rwa [hp] at this
  have Q2 : ∀ W, Calls Try.prog 33 #[.string s] W fun e w' => e = .returned (.tuple #[.agg #[.int .i64 u.1, .string (bs u.2)], .bool true]) ∧ Lo W w' := fun W => by
    have := refParse s W zs
    rwa [hp] at this
  have HC1 := Lib.hid C1
  have HC2 := Lib.hid C2
  have HC3 := Lib.hid C3
  have HC4 := Lib.hid C4
  have HC5 := Lib.hid C5
  have HM1 := Lib.hid M1
  have HM2 := Lib.hid M2
  have HN1 := Lib.hid N1
  have HN2 := Lib.hid N2
  have HP1 := Lib.hid P1
  have HQ1 := Lib.hid Q1
  have HQ2 := Lib.hid Q2
  clear C1 C2 C3 C4 C5 M1 M2 N1 N2 P1 Q1 Q2 hm hp hz
  refine wp_region_ext (by kernel_rfl) (by kernel_rfl) ?_
  repeat (first | go_big_quiet_skip | (go_big_quiet_want; go_big_quiet_op; first | go_big_quiet_on | go_big_quiet_call ((first | (go_at_call 23; exact quiet_ext (HN1.out _)) | (go_at_call 28; exact quiet_ext (HN2.out _)) | (go_at_call 29; exact quiet_ext (HC4.out _ (Ext.lo _))) | (go_at_call 30; exact quiet_ext (HC5.out _ (Ext.lo _))) | (go_at_call 22; exact quiet_ext (HM1.out _)) | (go_at_call 21; exact quiet_ext (HM2.out _)) | (go_at_call 26; exact quiet_ext (HC1.out _ (Ext.lo _))) | (go_at_call 31; exact quiet_ext (HC2.out _ (Ext.lo _))) | (go_at_call 27; exact quiet_ext (HC3.out _ (Ext.lo _)))))))
  refine wpQuiet_nil ?_
  intro wq hq
  obtain ⟨hqc, hqf, hqz⟩ := hq.facts
  have q0 := lo_keep hq j0
  have q1 := lo_keep hq j1
  have hzq := hqz _ hzw
  have hlq : Lo w wq := hlo4.trans hq
  clear hq hqc hqf hqz hlo4 hl23 hlo
  go_wp2_with (first
    | (go_at_call 24; refine (HP1.out _).mono ?_; rintro e w4 ⟨rfl, hb⟩; obtain ⟨hc, hf, hz⟩ := hb.facts; have hz0 := hz w.heap.size (by first | assumption | (simp; done) | (simp; omega)); have hq0 := fun o => hc w.heap.size o (by first | assumption | (simp; done) | (simp; omega)))
    | (go_at_call 28; refine (HN2.out _).mono ?_; rintro e w4 ⟨rfl, hb⟩; obtain ⟨hc, hf, hz⟩ := hb.facts; have hz0 := hz w.heap.size (by first | assumption | (simp; done) | (simp; omega)); have hq0 := fun o => hc w.heap.size o (by first | assumption | (simp; done) | (simp; omega)))
    | (go_at_call 25; refine (HQ1.out _).mono ?_; rintro e w5 ⟨rfl, hb5⟩)
    | (go_at_call 33; refine (HQ2.out _).mono ?_; rintro e w6 ⟨rfl, hb6⟩; (obtain ⟨hc6, hf6, hz6⟩ := hb6.facts); (have hp0 := fun o => hc6 w5.heap.size o (by simp)); (have hzz := hz6 w5.heap.size (by simp)))
    | (go_at_call 17; refine (awake _).mono ?_; rintro e w7 ⟨rfl, hb7⟩))
  go_ret
  exact ⟨rfl, (by repeat (first | exact Lo.refl _ | assumption | refine Lo.drew ?_ | refine Lo.alloc ?_ _ | refine Lo.setCell ?_ (by first | (dsimp only; omega) | (simp; omega) | (simp; done)) _ | refine Lo.trans ?_ (by assumption)))⟩

set_option maxRecDepth 100000 in
set_option maxHeartbeats 8000000 in
theorem walk_some_f_n (b off cap : Nat) (ts : List Pl.Term) (k : Int) (t s : ByteArray) (w : World) (hA : Terms w.heap.size w (some ⟨b, off, none⟩) ts) (hpos : 0 < ts.length) (zt : t.size ≤ maxLen) (zs : s.size ≤ maxLen) (h60 : ts.length ≤ 60)
    (hl1 : Pl.longT s ts = false) (hl2 : Pl.longT s [⟨k, t⟩] = false) (hm : Pl.may k t.toList = false) (hp : Pl.parse s.toList = none) :
    Calls Try.prog 7 #[.agg #[.int .i64 k, .string t], .slice (some ⟨b, off, none⟩) ts.length cap, .string s] w fun e w' => e = .returned (.bool true) ∧ Lo w w' := by
  have HL1 := Lib.hid hl1
  have HL2 := Lib.hid hl2
  clear hl1 hl2
  obtain ⟨i0, hi, hz0, hz1, hz2⟩ := info_parts Try.infoTerm7
  go_enter Try.func7, Try.ntmps7
  go_wp2_with fail
  refine (long s _ cap ts _ ?_ zs (by unfold maxLen; omega)).mono ?_
  · exact (hA.lo ((Lo.refl _).alloc _) (Nat.le_refl _)).keep TermR.kept (fun _ _ => rfl) (by simp)
  rw [HL1.out]
  rintro e w' ⟨rfl, rfl⟩
  go_wp2_with fail
  refine (long s (some ⟨w.heap.size + 1, 0, none⟩) 1 [⟨k, t⟩] _ (Terms.of_new (ts := [⟨k, t⟩]) (heap_new_at (by simp)) (by simp [zt])) zs (by simp [maxLen])).mono ?_
  rw [HL2.out]
  rintro e wz ⟨rfl, hw⟩
  have hlo : Lo w wz := by rw [← hw]; exact (by repeat (first | exact Lo.refl _ | assumption | refine Lo.drew ?_ | refine Lo.alloc ?_ _ | refine Lo.setCell ?_ (by first | (dsimp only; omega) | (simp; omega) | (simp; done)) _ | refine Lo.trans ?_ (by assumption)))
  have hc0 : wz.cell? ⟨w.heap.size, 0, none⟩ = some (.int .i64 k) := by rw [← hw]; simp
  have hc1 : wz.cell? ⟨w.heap.size, 1, none⟩ = some (.string t) := by rw [← hw]; simp
  have hlz := hlo.size
  have hwz1 : w.heap.size < wz.heap.size := World.block_lt_of_cell? wz _ hc0
  clear hw
  have hAz := hA.lo hlo (Nat.le_refl _)
  have hcl := cells_len ts
  have hh0 : (0 : Nat) + ts.length = ts.length := by omega
  go_wp2_with (at_builtin; refine wpList_append_own _ rfl (.tmp 24) (.tmp 25) 38 rfl wz.heap.size 23 i0 _ 2 24 Try.underlying38 hi hz0 hz1 hz2 rfl (by omega) (.slice (some ⟨wz.heap.size, 0, none⟩) 0 0) 0 [] rfl (World.ownsRow_lit wz #[] 0 (Nat.le_refl _) (by simp [maxLen]) rfl) ⟨b, off, none⟩ ts.length cap (ts.flatMap termCells) rfl hcl (fun j u hj => lo_keep ((Lo.refl _).alloc _) (Terms.cells hAz j u hj)) (cells_one ts) (by unfold maxLen; omega) (by omega) (by simp) ?_; intro vt w3 hown3 hgr3 _; rw [hh0] at hown3; obtain ⟨gt, ct, rfl, hgt⟩ := owns_form hown3 (by omega))
  change (wz.alloc _).grownBy w3 (some wz.heap.size) at hgr3
  have hl23 : Lo wz w3 := Lo.grown ((Lo.refl wz).alloc _) hgr3 (by intro k' hk; injection hk with hk; omega)
  have hsz : ∀ x ∈ ts, x.s.size ≤ maxLen := Terms.sizes hA
  have T2 : Terms w3.heap.size w3 (some ⟨gt, 0, none⟩) ts := Terms.of_owns7 (n := ts.length) (base := wz.heap.size) (cap := ct) (by simpa using hown3) hsz
  have T0 : Terms w.heap.size w3 (some ⟨b, off, none⟩) ts := hA.lo (hlo.trans hl23) (Nat.le_refl _)
  have hlo4 : Lo w w3 := hlo.trans hl23
  clear hown3 hgr3
  have hne : ((ts.length : Int) == 0) = false := by rw [beq_eq_false_iff_ne]; omega
  have hem : ts.isEmpty = false := by cases ts <;> simp at hpos ⊢
  have C1 : ∀ W, Lo w3 W → Calls Try.prog 26 #[.string s, .slice (some ⟨gt, 0, none⟩) ts.length ct] W fun e w' => e = .returned (.bool (anyT s ts)) ∧ Lo W w' := fun W hW => any s _ ct ts W hW.size (T2.lo hW (Nat.le_refl _)) zs (by unfold maxLen; omega)
  have C2 : ∀ W, Lo w3 W → Calls Try.prog 31 #[.string s, .slice (some ⟨b, off, none⟩) ts.length cap] W fun e w' => e = .returned (.bool (anyT s ts)) ∧ Lo W w' := fun W hW => refAny s _ cap ts W (Nat.le_trans hlo4.size hW.size) (T0.lo hW hlo4.size) zs (by unfold maxLen; omega)
  have C3 : ∀ W, Lo w3 W → Calls Try.prog 27 #[.string s, .slice (some ⟨gt, 0, none⟩) ts.length ct] W fun e w' => e = .returned (.bool (anyT s ts)) ∧ Lo W w' := fun W hW => by
    have := lets s _ ct ts W hW.size (T2.lo hW (Nat.le_refl _)) zs (by unfold maxLen; omega)
    unfold letsT at this
    rw [hem] at this
    simpa using this
  have C4 : ∀ W, Lo w3 W → Calls Try.prog 29 #[.slice (some ⟨gt, 0, none⟩) ts.length ct] W fun e w' => e = .returned (.bool (mayAllT ts)) ∧ Lo W w' := fun W hW => mayAll _ ct ts W hW.size (T2.lo hW (Nat.le_refl _)) (by unfold maxLen; omega)
  have C5 : ∀ W, Lo w3 W → Calls Try.prog 30 #[.slice (some ⟨b, off, none⟩) ts.length cap] W fun e w' => e = .returned (.bool (mayAllT ts)) ∧ Lo W w' := fun W hW => refMayAll _ cap ts W (Nat.le_trans hlo4.size hW.size) (T0.lo hW hlo4.size) (by unfold maxLen; omega)
  obtain ⟨y, hy⟩ : ∃ y, anyT s ts = y := ⟨_, rfl⟩
  obtain ⟨x, hx⟩ : ∃ x, mayAllT ts = x := ⟨_, rfl⟩
  rw [hy] at C1 C2 C3
  rw [hx] at C4 C5
  clear hy hx T0 T2 hsz hA hAz hcl
  have hzw : w.heap.size < w3.heap.size := by have := hl23.size; omega
  have j0 := lo_keep hl23 hc0
  have j1 := lo_keep hl23 hc1
  obtain ⟨z, hz⟩ : ∃ z, Pl.matches_ k t.toList s.toList = z := ⟨_, rfl⟩
  have M1 : ∀ W, Calls Try.prog 22 #[.agg #[.int .i64 k, .string t], .string s] W fun e w' => e = .returned (.bool z) ∧ Lo W w' := fun W => by rw [← hz]; exact matches_ _ _ _ _ zt zs
  have M2 : ∀ W, Calls Try.prog 21 #[.agg #[.int .i64 k, .string t], .string s] W fun e w' => e = .returned (.bool z) ∧ Lo W w' := fun W => by rw [← hz]; exact refMatches _ _ _ _ zt zs
  have N1 : ∀ W, Calls Try.prog 23 #[.agg #[.int .i64 k, .string t]] W fun e w' => e = .returned (.bool false) ∧ Lo W w' := fun W => by rw [← hm]; exact may _ _ _ zt
  have N2 : ∀ W, Calls Try.prog 28 #[.agg #[.int .i64 k, .string t]] W fun e w' => e = .returned (.bool false) ∧ Lo W w' := fun W => by rw [← hm]; exact refMay _ _ _ zt
  have P1 : ∀ W, Calls Try.prog 24 #[.agg #[.int .i64 k, .string t]] W fun e w' => e = .returned (.tuple #[.string ⟨#[]⟩, .int .i64 1]) ∧ Lo W w' := fun W => print_no _ _ _ zt hm
  have Q1 : ∀ W, Calls Try.prog 25 #[.string s] W fun e w' => e = .returned (.tuple #[.agg #[.int .i64 0, .string ⟨#[]⟩], .int .i64 2]) ∧ Lo W w' := fun W => by
    have := parse s W zs
    rwa [hp] at this
  have Q2 : ∀ W, Calls Try.prog 33 #[.string s] W fun e w' => e = .returned (.tuple #[.agg #[.int .i64 0, .string ⟨#[]⟩], .bool false]) ∧ Lo W w' := fun W => by
    have := refParse s W zs
    rwa [hp] at this
  have HC1 := Lib.hid C1
  have HC2 := Lib.hid C2
  have HC3 := Lib.hid C3
  have HC4 := Lib.hid C4
  have HC5 := Lib.hid C5
  have HM1 := Lib.hid M1
  have HM2 := Lib.hid M2
  have HN1 := Lib.hid N1
  have HN2 := Lib.hid N2
  have HP1 := Lib.hid P1
  have HQ1 := Lib.hid Q1
  have HQ2 := Lib.hid Q2
  clear C1 C2 C3 C4 C5 M1 M2 N1 N2 P1 Q1 Q2 hm hp hz
  refine wp_region_ext (by kernel_rfl) (by kernel_rfl) ?_
  repeat (first | go_big_quiet_skip | (go_big_quiet_want; go_big_quiet_op; first | go_big_quiet_on | go_big_quiet_call ((first | (go_at_call 23; exact quiet_ext (HN1.out _)) | (go_at_call 28; exact quiet_ext (HN2.out _)) | (go_at_call 29; exact quiet_ext (HC4.out _ (Ext.lo _))) | (go_at_call 30; exact quiet_ext (HC5.out _ (Ext.lo _))) | (go_at_call 22; exact quiet_ext (HM1.out _)) | (go_at_call 21; exact quiet_ext (HM2.out _)) | (go_at_call 26; exact quiet_ext (HC1.out _ (Ext.lo _))) | (go_at_call 31; exact quiet_ext (HC2.out _ (Ext.lo _))) | (go_at_call 27; exact quiet_ext (HC3.out _ (Ext.lo _)))))))
  refine wpQuiet_nil ?_
  intro wq hq
  obtain ⟨hqc, hqf, hqz⟩ := hq.facts
  have q0 := lo_keep hq j0
  have q1 := lo_keep hq j1
  have hzq := hqz _ hzw
  have hlq : Lo w wq := hlo4.trans hq
  clear hq hqc hqf hqz hlo4 hl23 hlo
  go_wp2_with (first
    | (go_at_call 24; refine (HP1.out _).mono ?_; rintro e w4 ⟨rfl, hb⟩; obtain ⟨hc, hf, hz⟩ := hb.facts; have hz0 := hz w.heap.size (by first | assumption | (simp; done) | (simp; omega)); have hq0 := fun o => hc w.heap.size o (by first | assumption | (simp; done) | (simp; omega)))
    | (go_at_call 28; refine (HN2.out _).mono ?_; rintro e w4 ⟨rfl, hb⟩; obtain ⟨hc, hf, hz⟩ := hb.facts; have hz0 := hz w.heap.size (by first | assumption | (simp; done) | (simp; omega)); have hq0 := fun o => hc w.heap.size o (by first | assumption | (simp; done) | (simp; omega)))
    | (go_at_call 25; refine (HQ1.out _).mono ?_; rintro e w5 ⟨rfl, hb5⟩)
    | (go_at_call 33; refine (HQ2.out _).mono ?_; rintro e w6 ⟨rfl, hb6⟩; (obtain ⟨hc6, hf6, hz6⟩ := hb6.facts); (have hp0 := fun o => hc6 w5.heap.size o (by simp)); (have hzz := hz6 w5.heap.size (by simp)))
    | (go_at_call 17; refine (awake _).mono ?_; rintro e w7 ⟨rfl, hb7⟩))
  go_ret
  exact ⟨rfl, (by repeat (first | exact Lo.refl _ | assumption | refine Lo.drew ?_ | refine Lo.alloc ?_ _ | refine Lo.setCell ?_ (by first | (dsimp only; omega) | (simp; omega) | (simp; done)) _ | refine Lo.trans ?_ (by assumption)))⟩
end Go.Proofs.Ytlcecabfmemfeaa.MatchTerms
