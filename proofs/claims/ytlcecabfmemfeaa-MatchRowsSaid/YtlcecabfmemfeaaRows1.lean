/- For every row of terms, every term and every text, the law MatchRows returns true. -/
import Derived.Test.YtlcecabfmemfeaaWAny
import Derived.Test.YtlcecabfmemfeaaWAwake07
import Derived.Test.YtlcecabfmemfeaaMem2
import Derived.Test.YtlcecabfmemfeaaRegion
import Derived.Deep.RegionLawGrows
namespace Go.Proofs.Ytlcecabfmemfeaa.MatchRows
set_option linter.unusedVariables false
set_option linter.unusedSimpArgs false
open Go.RowKit Mem BigFrame WMatch

theorem Try.infoTerm : (Try.prog.info? 23).map (fun i => (i.zero, i.size, i.bytes)) = some (some (.agg #[.int .i64 0, .string ⟨#[]⟩]), 2, 24) := by kernel_rfl
theorem TermR.one {B : Nat} {w : World} {t : Pl.Term} {cs : List Value} (h : TermR B w t cs) : ∀ u ∈ cs, u.oneCell' = true := by
  obtain ⟨rfl, _⟩ := h
  intro u hu; simp at hu; rcases hu with rfl | rfl <;> rfl
/-- the cells of a row of terms -/
theorem Terms.cells {B b off : Nat} {w : World} {ts : List Pl.Term} (h : Terms B w (some ⟨b, off, none⟩) ts) : ∀ (j : Nat) u, (ts.flatMap termCells)[j]? = some u → w.cell? ((⟨b, off, none⟩ : Addr).add j) = some u := by
  intro j u hj
  rw [addr_add]
  have hlen : (ts.flatMap termCells).length = ts.length * 2 := by
    clear hj h
    induction ts with
    | nil => rfl
    | cons t r ih => simp only [List.flatMap_cons, List.length_append, List.length_cons, ih]; simp [termCells]; omega
  have hjl : j < ts.length * 2 := by
    rcases Nat.lt_or_ge j (ts.length * 2) with h' | h'
    · exact h'
    · rw [List.getElem?_eq_none (by omega)] at hj; cases hj
  have hk : j / 2 < ts.length := by omega
  obtain ⟨b', off', hA, _, h0, h1, _⟩ := h.at_ hk
  injection hA with hA; injection hA with e1 e2; subst e1 e2
  have hg := flatMap_get (f := termCells) (sz := 2) (fun _ => rfl) (List.getElem?_eq_getElem hk) (Nat.mod_lt j (by omega : 0 < 2))
  rw [show j / 2 * 2 + j % 2 = j from by omega, hj] at hg
  rcases Nat.mod_two_eq_zero_or_one j with hm | hm
  · rw [hm] at hg; simp [termCells] at hg; subst hg
    rw [show off + j = off + j / 2 * 2 from by omega]; exact h0
  · rw [hm] at hg; simp [termCells] at hg; subst hg
    rw [show off + j = off + j / 2 * 2 + 1 from by omega]; exact h1
theorem cells_one (ts : List Pl.Term) : ∀ u ∈ ts.flatMap termCells, u.oneCell' = true := by
  intro u hu
  simp only [List.mem_flatMap, termCells] at hu
  obtain ⟨t, _, hu⟩ := hu
  simp at hu; rcases hu with rfl | rfl <;> rfl
theorem cells_len (ts : List Pl.Term) : (ts.flatMap termCells).length = ts.length * 2 := by
  induction ts with
  | nil => rfl
  | cons t r ih => simp only [List.flatMap_cons, List.length_append, List.length_cons, ih]; simp [termCells]; omega

theorem Terms.of_owns {w : World} {base g n cap : Nat} {ts : List Pl.Term} (h : w.ownsRow base 23 2 (.slice (some ⟨g, 0, none⟩) n cap) n (ts.flatMap termCells)) (hz : ∀ t ∈ ts, t.s.size ≤ maxLen) : Terms w.heap.size w (some ⟨g, 0, none⟩) ts := by
  obtain ⟨hl, ⟨h0, _⟩ | ⟨g', cap', cur, hv, _, hh, _, _, _, ht⟩⟩ := h
  · cases h0
  · injection hv with h1 h2 h3
    injection h1 with h1; injection h1 with h1; subst h1
    refine Terms.of_block hh (fun i v hi => ?_) hz
    rw [← ht, List.getElem?_take] at hi
    split at hi
    · simpa using hi
    · cases hi
theorem Terms.sizes {B : Nat} {w : World} {A : Option Addr} {ts : List Pl.Term} (h : Terms B w A ts) : ∀ t ∈ ts, t.s.size ≤ maxLen := by
  intro t ht
  obtain ⟨i, hi, rfl⟩ := List.getElem_of_mem ht
  obtain ⟨_, _, _, _, _, _, hz⟩ := h.at_ hi
  exact hz
theorem any_more (s : ByteArray) (ts : List Pl.Term) (x : Pl.Term) : anyT s (ts ++ [x]) = (anyT s ts || Pl.matches_ x.k x.s.toList s.toList) := by simp [anyT]
theorem any_turned (s : ByteArray) (ts : List Pl.Term) (x : Pl.Term) : anyT s (x :: ts) = (Pl.matches_ x.k x.s.toList s.toList || anyT s ts) := by simp [anyT]
/-- '[]Term{}', just made -/
theorem own0 {wz w : World} {n : Nat} (h : n = w.heap.size) (hb : wz.heap.size ≤ w.heap.size) : (w.alloc (.cells #[] 23)).ownsRow wz.heap.size 23 2 (.slice (some ⟨n, 0, none⟩) 0 0) 0 [] := by
  subst h; exact World.ownsRow_lit w #[] 0 hb (by simp [maxLen]) rfl
theorem news1 {w : World} {n : Nat} {k : Int} {t : ByteArray} (h : w.heap[n]? = some (.cells #[.int .i64 k, .string t] 23 (0, 0))) : ∀ (j : Nat) u, ([.int .i64 k, .string t] : List Value)[j]? = some u → w.cell? ((⟨n, 0, none⟩ : Addr).add j) = some u := by
  intro j u hj
  rw [addr_add]
  simp only [World.cell?, h]
  simpa using hj

set_option maxRecDepth 100000 in
set_option maxHeartbeats 4000000 in
theorem walk_some (b off cap : Nat) (ts : List Pl.Term) (k : Int) (t s : ByteArray) (w : World) (hA : Terms w.heap.size w (some ⟨b, off, none⟩) ts) (hpos : 0 < ts.length) (zt : t.size ≤ maxLen) (zs : s.size ≤ maxLen) (h60 : ts.length ≤ 60)
    (hl1 : Pl.longT s ts = false) (hl2 : Pl.longT s [⟨k, t⟩] = false) :
    Calls Try.prog 6 #[.slice (some ⟨b, off, none⟩) ts.length cap, .agg #[.int .i64 k, .string t], .string s] w fun e w' => e = .returned (.bool true) ∧ Lo w w' := by
  have HL1 := Lib.hid hl1
  have HL2 := Lib.hid hl2
  clear hl1 hl2
  obtain ⟨i0, hi, hz0, hz1, hz2⟩ := info_parts Try.infoTerm
  go_enter Try.func6, Try.ntmps6
  go_wp2_with fail
  refine (long s _ cap ts _ ?_ zs (by unfold maxLen; omega)).mono ?_
  · exact (hA.lo ((Lo.refl _).alloc _) (Nat.le_refl _)).keep TermR.kept (fun _ _ => rfl) (by simp)
  rw [HL1.out]
  rintro e w' ⟨rfl, rfl⟩
  go_wp2_with fail
  refine (long s (some ⟨w.heap.size + 1, 0, none⟩) 1 [⟨k, t⟩] _ (Terms.of_new (ts := [⟨k, t⟩]) (heap_new_at (by simp)) (by simp [zt])) zs (by simp [maxLen])).mono ?_
  rw [HL2.out]
  rintro e wz ⟨rfl, hw⟩
  have hlo : Lo w wz := by rw [← hw]; exact (by repeat (first | exact Lo.refl _ | assumption | refine Lo.drew ?_ | refine Lo.alloc ?_ _ | refine Lo.setCell ?_ (by first | (dsimp only; omega) | (simp; omega) | (simp; done)) _ | refine Lo.trans ?_ (by assumption)))
  have hc0 : wz.cell? ⟨w.heap.size, 0, none⟩ = some (.int .i64 k) := by rw [← hw]; simp
  have hc1 : wz.cell? ⟨w.heap.size, 1, none⟩ = some (.string t) := by rw [← hw]; simp
  have hAz := hA.lo hlo (Nat.le_refl _)
  have hlz := hlo.size
  clear hw
  go_wp2_with fail
  refine wp_region_each 5 75 (fun i v w' => match i with
      | 0 => ∃ n, v = .slice (some ⟨n, 0, none⟩) 0 0 ∧ w'.heap[n]? = some (.cells #[] 23 (0, 0))
      | 1 => v = .slice (some ⟨b, off, none⟩) ts.length cap
      | 2 => ∃ g cp, v = .slice (some ⟨g, 0, none⟩) ts.length cp ∧ w'.ownsRow wz.heap.size 23 2 v ts.length (ts.flatMap termCells)
      | 3 => v = .agg #[.int .i64 k, .string t]
      | 4 => ∃ n, v = .slice (some ⟨n, 0, none⟩) 1 1 ∧ w'.heap[n]? = some (.cells #[.int .i64 k, .string t] 23 (0, 0))
      | _ => True) (by kernel_rfl) rfl (by kernel_rfl) ?_ ?_ ?_
  · intro i v w1 w2 h hl
    match i, h with
    | 0, ⟨n, hv, hn⟩ => exact ⟨n, hv, hl.block hn⟩
    | 1, h => exact h
    | 2, ⟨g, cp, hv, ho⟩ => exact ⟨g, cp, hv, hl.owns ho⟩
    | 3, h => exact h
    | 4, ⟨n, hv, hn⟩ => exact ⟨n, hv, hl.block hn⟩
    | _ + 5, _ => trivial
  · intro i o hiN ho a w' hl hd hold
    match i, hiN with
    | 0, _ =>
      injection ho with ho; subst ho
      refine wp_of_run (v := .slice (some ⟨w'.heap.size, 0, none⟩) 0 0) (w' := w'.alloc (.cells #[] 23)) (by simp [go_sem]) ⟨_, rfl, (Lo.refl _).alloc _, _, rfl, heap_new_at rfl⟩
    | 1, _ =>
      injection ho with ho; subst ho
      have h0 := hold 0 (by kernel_rfl)
      simp [Act.eval] at h0
      refine wp_of_run (v := .slice (some ⟨b, off, none⟩) ts.length cap) (w' := w') (by simp [go_sem, h0]) ⟨_, rfl, Lo.refl _, rfl⟩
    | 2, _ =>
      injection ho with ho; subst ho
      obtain ⟨n, h19, hn⟩ := hd 0 (by kernel_rfl) 19 (by kernel_rfl)
      have h20 := hd 1 (by kernel_rfl) 20 (by kernel_rfl)
      refine wp_append_new rfl (.tmp 19) (.tmp 20) 38 rfl 23 i0 _ 2 24 Try.underlying38 hi hz0 hz1 hz2 rfl (by omega)
        (some ⟨n, 0, none⟩) 0 0 [] h19 (by simp) (by simp) (by simp) ⟨b, off, none⟩ ts.length cap (ts.flatMap termCells) h20 (cells_len ts) (fun j u hj => lo_keep hl (Terms.cells hAz j u hj)) (cells_one ts) (by omega) (by unfold maxLen; omega) (by omega) ?_
      intro v' w2 hown hgr
      simp only [Nat.zero_add, List.nil_append] at hown
      obtain ⟨g, cp, hv, _⟩ := owns_form hown hpos
      exact ⟨_, rfl, Lo.of_grown hgr, g, cp, hv, owns_base hown hl.size⟩
    | 3, _ =>
      injection ho with ho; subst ho
      have h4 := hold 4 (by kernel_rfl)
      simp [Act.eval] at h4
      have g0 := lo_keep hl hc0
      have g1 := lo_keep hl hc1
      refine wp_of_run (v := .agg #[.int .i64 k, .string t]) (w' := w') (by simp [go_sem, h4, g0, g1]) ⟨_, rfl, Lo.refl _, rfl⟩
    | 4, _ =>
      injection ho with ho; subst ho
      have h22 := hd 3 (by kernel_rfl) 22 (by kernel_rfl)
      simp [Act.eval] at h22
      refine wp_of_run (v := .slice (some ⟨w'.heap.size, 0, none⟩) 1 1) (w' := w'.alloc (.cells #[.int .i64 k, .string t] 23)) (by simp [go_sem, h22]) ⟨_, rfl, (Lo.refl _).alloc _, _, rfl, heap_new_at rfl⟩
  · intro v w' hl hp
    have p0 := hp 0 (by omega)
    have p1 := hp 1 (by omega)
    have p2 := hp 2 (by omega)
    have p3 := hp 3 (by omega)
    have p4 := hp 4 (by omega)
    clear hp
    simp only [List.range_succ, List.range_zero, List.nil_append, List.cons_append, List.foldl_cons, List.foldl_nil, List.drop_succ_cons, List.drop_zero, dstOf, List.getElem?_toArray, List.getElem?_cons_zero, List.getElem?_cons_succ, Option.bind_some, Act.put, List.setIfInBounds_toArray, List.set_cons_zero, List.set_cons_succ]
    generalize v 0 = v0 at *
    generalize v 1 = v1 at *
    generalize v 2 = v2 at *
    generalize v 3 = v3 at *
    generalize v 4 = v4 at *
    obtain ⟨n0, rfl, -⟩ := p0
    obtain ⟨g, cp, rfl, hown⟩ := p2
    obtain ⟨n1, rfl, hn1⟩ := p4
    subst p1 p3
    have hA2 := hAz.lo hl hlz
    have g0 := lo_keep hl hc0
    have g1 := lo_keep hl hc1
    have hlo2 := hlo.trans hl
    have hwz2 := hl.size
    have hwz1 : w.heap.size < wz.heap.size := World.block_lt_of_cell? wz _ hc0
    clear hl hc0 hc1 hAz hlo
    have hcl := cells_len ts
    refine wpList_append_own _ rfl (.tmp 21) (.tmp 23) 38 rfl wz.heap.size 23 i0 _ 2 24 Try.underlying38 hi hz0 hz1 hz2 rfl (by omega) (.slice (some ⟨g, 0, none⟩) ts.length cp) ts.length (ts.flatMap termCells) rfl hown
      ⟨n1, 0, none⟩ 1 1 [.int .i64 k, .string t] rfl rfl (news1 hn1) (by simp [Value.oneCell']) (by unfold maxLen; omega) (by omega) hwz2 ?_
    intro vm w2 hown2 hgr2 _
    change w'.grownBy w2 (some g) at hgr2
    have hg := (hown.lt g rfl).1
    obtain ⟨gm, cm, rfl, hgm⟩ := owns_form hown2 (by omega)
    have hlo3 : Lo w w2 := hlo2.grown hgr2 (by intro k' hk; injection hk with hk; subst hk; omega)
    have hA3 := hA.lo hlo3 (Nat.le_refl _)
    have k0 : w2.cell? ⟨w.heap.size, 0, none⟩ = some (.int .i64 k) := hgr2.cell g0 (by simp; omega)
    have k1 : w2.cell? ⟨w.heap.size, 1, none⟩ = some (.string t) := hgr2.cell g1 (by simp; omega)
    have hsz2 := hgr2.size
    clear hgr2 g0 g1 hA2 hlo2 hown hn1
    obtain ⟨nm, hnm⟩ : ∃ nm, nm = ts.length + 1 := ⟨_, rfl⟩
    rw [← hnm] at hown2 ⊢
    have HNM := Lib.hid hnm
    clear hnm
    go_wp2_with (at_builtin; refine wpList_append_own _ rfl (.tmp 26) (.tmp 27) 38 rfl w2.heap.size 23 i0 _ 2 24 Try.underlying38 hi hz0 hz1 hz2 rfl (by omega) (.slice (some ⟨w2.heap.size, 0, none⟩) 1 1) 1 [.int .i64 k, .string t] rfl (World.ownsRow_lit w2 #[.int .i64 k, .string t] 1 (Nat.le_refl _) (by simp [maxLen]) rfl) ⟨b, off, none⟩ ts.length cap (ts.flatMap termCells) rfl hcl (fun j u hj => lo_keep ((Lo.refl _).alloc _) (Terms.cells hA3 j u hj)) (cells_one ts) (by unfold maxLen; omega) (by omega) (by simp) ?_; intro vt w3 hown3 hgr3 _; obtain ⟨gt, ct, rfl, hgt⟩ := owns_form hown3 (by omega))
    change (w2.alloc _).grownBy w3 (some w2.heap.size) at hgr3
    have hl23 : Lo w2 w3 := Lo.grown ((Lo.refl w2).alloc _) hgr3 (by intro k' hk; injection hk with hk; omega)
    have hlo4 : Lo w w3 := hlo3.trans hl23
    have hzw : w.heap.size < w3.heap.size := by have := hl23.size; omega
    have j0 := lo_keep hl23 k0
    have j1 := lo_keep hl23 k1
    have hsz : ∀ x ∈ ts, x.s.size ≤ maxLen := Terms.sizes hA
    have T1 : Terms w3.heap.size w3 (some ⟨gm, 0, none⟩) (ts ++ [⟨k, t⟩]) := by
      have h := hl23.owns hown2
      refine Terms.of_owns (n := nm) (base := wz.heap.size) (cap := cm) (by simpa [termCells] using h) (by intro x hx; simp at hx; rcases hx with hx | rfl <;> first | exact hsz _ hx | exact zt)
    have T2 : Terms w3.heap.size w3 (some ⟨gt, 0, none⟩) (⟨k, t⟩ :: ts) := by
      refine Terms.of_owns (n := 1 + ts.length) (base := w2.heap.size) (cap := ct) (by simpa [termCells] using hown3) (by intro x hx; simp at hx; rcases hx with rfl | hx <;> first | exact zt | exact hsz _ hx)
    have T0 := hA.lo hlo4 (Nat.le_refl _)
    have hnm := HNM.out
    have e1 : nm = (ts ++ [(⟨k, t⟩ : Pl.Term)]).length := by simp [hnm]
    have e2 : 1 + ts.length = ((⟨k, t⟩ : Pl.Term) :: ts).length := by simp; omega
    obtain ⟨a, ha⟩ : ∃ a, anyT s ts = a := ⟨_, rfl⟩
    obtain ⟨m, hm⟩ : ∃ m, Pl.matches_ k t.toList s.toList = m := ⟨_, rfl⟩
    have v1 : anyT s (ts ++ [⟨k, t⟩]) = (a || m) := by rw [any_more, ha, hm]
    have v2 : anyT s (⟨k, t⟩ :: ts) = (m || a) := by rw [any_turned, ha, hm]
    have C1 : ∀ W, Lo w3 W → Calls Try.prog 26 #[.string s, .slice (some ⟨gm, 0, none⟩) nm cm] W fun e w' => e = .returned (.bool (a || m)) ∧ Lo W w' := fun W hW => by
      rw [← v1, e1]; exact any s _ cm _ W hW.size (T1.lo hW (Nat.le_refl _)) zs (by rw [← e1]; unfold maxLen; omega)
    have C2 : ∀ W, Lo w3 W → Calls Try.prog 26 #[.string s, .slice (some ⟨gt, 0, none⟩) (1 + ts.length) ct] W fun e w' => e = .returned (.bool (m || a)) ∧ Lo W w' := fun W hW => by
      rw [← v2, e2]; exact any s _ ct _ W hW.size (T2.lo hW (Nat.le_refl _)) zs (by rw [← e2]; unfold maxLen; omega)
    have C3 : ∀ W, Lo w3 W → Calls Try.prog 26 #[.string s, .slice (some ⟨b, off, none⟩) ts.length cap] W fun e w' => e = .returned (.bool a) ∧ Lo W w' := fun W hW => by
      rw [← ha]; exact any s _ cap _ W (Nat.le_trans hlo4.size hW.size) (T0.lo hW hlo4.size) zs (by unfold maxLen; omega)
    have C4 : ∀ W, Calls Try.prog 26 #[.string s, .slice none 0 0] W fun e w' => e = .returned (.bool false) ∧ Lo W w' := fun W => any s none 0 [] W (Nat.le_refl _) SliceAt.nil zs (by simp [maxLen])
    have D1 : ∀ W, Lo w3 W → Calls Try.prog 27 #[.string s, .slice (some ⟨gm, 0, none⟩) nm cm] W fun e w' => e = .returned (.bool (a || m)) ∧ Lo W w' := fun W hW => by
      have := lets s _ cm _ W hW.size (T1.lo hW (Nat.le_refl _)) zs (by rw [← e1]; unfold maxLen; omega)
      unfold letsT at this
      rw [v1, ← e1] at this
      have he : (ts ++ [(⟨k, t⟩ : Pl.Term)]).isEmpty = false := by simp
      rw [he] at this
      simpa using this
    have D3 : ∀ W, Lo w3 W → Calls Try.prog 27 #[.string s, .slice (some ⟨b, off, none⟩) ts.length cap] W fun e w' => e = .returned (.bool a) ∧ Lo W w' := fun W hW => by
      have := lets s _ cap _ W (Nat.le_trans hlo4.size hW.size) (T0.lo hW hlo4.size) zs (by unfold maxLen; omega)
      unfold letsT at this
      rw [ha] at this
      have he : ts.isEmpty = false := by cases ts <;> simp at hpos ⊢
      rw [he] at this
      simpa using this
    have D4 : ∀ W, Calls Try.prog 27 #[.string s, .slice none 0 0] W fun e w' => e = .returned (.bool true) ∧ Lo W w' := fun W => lets s none 0 [] W (Nat.le_refl _) SliceAt.nil zs (by simp [maxLen])
    have hne : ((ts.length : Int) == 0) = false := by rw [beq_eq_false_iff_ne]; omega
    have HM := Lib.hid hm
    have HC1 := Lib.hid C1
    have HC2 := Lib.hid C2
    have HC3 := Lib.hid C3
    have HC4 := Lib.hid C4
    have HD1 := Lib.hid D1
    have HD3 := Lib.hid D3
    have HD4 := Lib.hid D4
    clear C1 C2 C3 C4 D1 D3 D4 hm ha v1 v2 e1 e2 hnm T0 T1 T2 hsz hown2 hown3 hgr3 hA hA3 hcl
    cases a <;> cases m
    all_goals
      go_wp2_with (first
        | (go_at_call 26; first
            | ((with_reducible refine (HC1.out _ ?_).mono ?_); (exact (by repeat (first | exact Lo.refl _ | assumption | refine Lo.drew ?_ | refine Lo.alloc ?_ _ | refine Lo.setCell ?_ (by first | (dsimp only; omega) | (simp; omega) | (simp; done)) _ | refine Lo.trans ?_ (by assumption)))); rintro e w4 ⟨rfl, hb⟩; obtain ⟨hc, hf, hz⟩ := hb.facts; have hz0 := hz w.heap.size (by first | assumption | (simp; done) | (simp; omega)); have hq0 := fun o => hc w.heap.size o (by first | assumption | (simp; done) | (simp; omega)))
            | ((with_reducible refine (HC2.out _ ?_).mono ?_); (exact (by repeat (first | exact Lo.refl _ | assumption | refine Lo.drew ?_ | refine Lo.alloc ?_ _ | refine Lo.setCell ?_ (by first | (dsimp only; omega) | (simp; omega) | (simp; done)) _ | refine Lo.trans ?_ (by assumption)))); rintro e w4 ⟨rfl, hb⟩; obtain ⟨hc, hf, hz⟩ := hb.facts; have hz0 := hz w.heap.size (by first | assumption | (simp; done) | (simp; omega)); have hq0 := fun o => hc w.heap.size o (by first | assumption | (simp; done) | (simp; omega)))
            | ((with_reducible refine (HC3.out _ ?_).mono ?_); (exact (by repeat (first | exact Lo.refl _ | assumption | refine Lo.drew ?_ | refine Lo.alloc ?_ _ | refine Lo.setCell ?_ (by first | (dsimp only; omega) | (simp; omega) | (simp; done)) _ | refine Lo.trans ?_ (by assumption)))); rintro e w4 ⟨rfl, hb⟩; obtain ⟨hc, hf, hz⟩ := hb.facts; have hz0 := hz w.heap.size (by first | assumption | (simp; done) | (simp; omega)); have hq0 := fun o => hc w.heap.size o (by first | assumption | (simp; done) | (simp; omega)))
            | ((with_reducible refine (HC4.out _).mono ?_); rintro e w4 ⟨rfl, hb⟩; obtain ⟨hc, hf, hz⟩ := hb.facts; have hz0 := hz w.heap.size (by first | assumption | (simp; done) | (simp; omega)); have hq0 := fun o => hc w.heap.size o (by first | assumption | (simp; done) | (simp; omega))))
        | (go_at_call 27; first
            | ((with_reducible refine (HD1.out _ ?_).mono ?_); (exact (by repeat (first | exact Lo.refl _ | assumption | refine Lo.drew ?_ | refine Lo.alloc ?_ _ | refine Lo.setCell ?_ (by first | (dsimp only; omega) | (simp; omega) | (simp; done)) _ | refine Lo.trans ?_ (by assumption)))); rintro e w4 ⟨rfl, hb⟩; obtain ⟨hc, hf, hz⟩ := hb.facts; have hz0 := hz w.heap.size (by first | assumption | (simp; done) | (simp; omega)); have hq0 := fun o => hc w.heap.size o (by first | assumption | (simp; done) | (simp; omega)))
            | ((with_reducible refine (HD3.out _ ?_).mono ?_); (exact (by repeat (first | exact Lo.refl _ | assumption | refine Lo.drew ?_ | refine Lo.alloc ?_ _ | refine Lo.setCell ?_ (by first | (dsimp only; omega) | (simp; omega) | (simp; done)) _ | refine Lo.trans ?_ (by assumption)))); rintro e w4 ⟨rfl, hb⟩; obtain ⟨hc, hf, hz⟩ := hb.facts; have hz0 := hz w.heap.size (by first | assumption | (simp; done) | (simp; omega)); have hq0 := fun o => hc w.heap.size o (by first | assumption | (simp; done) | (simp; omega)))
            | ((with_reducible refine (HD4.out _).mono ?_); rintro e w4 ⟨rfl, hb⟩; obtain ⟨hc, hf, hz⟩ := hb.facts; have hz0 := hz w.heap.size (by first | assumption | (simp; done) | (simp; omega)); have hq0 := fun o => hc w.heap.size o (by first | assumption | (simp; done) | (simp; omega))))
        | (go_at_call 22; refine (matches_ _ _ _ _ (by assumption) (by assumption)).mono ?_; rintro e w4 ⟨rfl, hb⟩; obtain ⟨hc, hf, hz⟩ := hb.facts; have hz0 := hz w.heap.size (by first | assumption | (simp; done) | (simp; omega)); have hq0 := fun o => hc w.heap.size o (by first | assumption | (simp; done) | (simp; omega)); rw [HM.out])
        | (go_at_call 17; refine (awake _).mono ?_; rintro e w4 ⟨rfl, hb⟩))
      go_ret
      exact ⟨rfl, (by repeat (first | exact Lo.refl _ | assumption | refine Lo.drew ?_ | refine Lo.alloc ?_ _ | refine Lo.setCell ?_ (by first | (dsimp only; omega) | (simp; omega) | (simp; done)) _ | refine Lo.trans ?_ (by assumption)))⟩
set_option maxRecDepth 100000 in
set_option maxHeartbeats 4000000 in
theorem walk_nil (A : Option Addr) (cap : Nat) (k : Int) (t s : ByteArray) (w : World) (zt : t.size ≤ maxLen) (zs : s.size ≤ maxLen) 
    (hl1 : Pl.longT s [] = false) (hl2 : Pl.longT s [⟨k, t⟩] = false) :
    Calls Try.prog 6 #[.slice A 0 cap, .agg #[.int .i64 k, .string t], .string s] w fun e w' => e = .returned (.bool true) ∧ Lo w w' := by
  have HL1 := Lib.hid hl1
  have HL2 := Lib.hid hl2
  clear hl1 hl2
  obtain ⟨i0, hi, hz0, hz1, hz2⟩ := info_parts Try.infoTerm
  go_enter Try.func6, Try.ntmps6
  go_wp2_with fail
  refine (long s _ cap [] _ SliceAt.nil zs (by simp [maxLen])).mono ?_
  rw [HL1.out]
  rintro e w' ⟨rfl, rfl⟩
  go_wp2_with fail
  refine (long s (some ⟨w.heap.size + 1, 0, none⟩) 1 [⟨k, t⟩] _ (Terms.of_new (ts := [⟨k, t⟩]) (heap_new_at (by simp)) (by simp [zt])) zs (by simp [maxLen])).mono ?_
  rw [HL2.out]
  rintro e wz ⟨rfl, hw⟩
  have hlo : Lo w wz := by rw [← hw]; exact (by repeat (first | exact Lo.refl _ | assumption | refine Lo.drew ?_ | refine Lo.alloc ?_ _ | refine Lo.setCell ?_ (by first | (dsimp only; omega) | (simp; omega) | (simp; done)) _ | refine Lo.trans ?_ (by assumption)))
  have hc0 : wz.cell? ⟨w.heap.size, 0, none⟩ = some (.int .i64 k) := by rw [← hw]; simp
  have hc1 : wz.cell? ⟨w.heap.size, 1, none⟩ = some (.string t) := by rw [← hw]; simp
  have hlz := hlo.size
  clear hw
  go_wp2_with fail
  refine wp_region_each 5 75 (fun i v w' => match i with
      | 0 => ∃ n, v = .slice (some ⟨n, 0, none⟩) 0 0 ∧ wz.heap.size ≤ n ∧ w'.heap[n]? = some (.cells #[] 23 (0, 0))
      | 1 => v = .slice A 0 cap
      | 2 => ∃ n, v = .slice (some ⟨n, 0, none⟩) 0 0 ∧ wz.heap.size ≤ n ∧ w'.heap[n]? = some (.cells #[] 23 (0, 0))
      | 3 => v = .agg #[.int .i64 k, .string t]
      | 4 => ∃ n, v = .slice (some ⟨n, 0, none⟩) 1 1 ∧ w'.heap[n]? = some (.cells #[.int .i64 k, .string t] 23 (0, 0))
      | _ => True) (by kernel_rfl) rfl (by kernel_rfl) ?_ ?_ ?_
  · intro i v w1 w2 h hl
    match i, h with
    | 0, ⟨n, hv, hg, hn⟩ => exact ⟨n, hv, hg, hl.block hn⟩
    | 1, h => exact h
    | 2, ⟨n, hv, hg, hn⟩ => exact ⟨n, hv, hg, hl.block hn⟩
    | 3, h => exact h
    | 4, ⟨n, hv, hn⟩ => exact ⟨n, hv, hl.block hn⟩
    | _ + 5, _ => trivial
  · intro i o hiN ho a w' hl hd hold
    match i, hiN with
    | 0, _ =>
      injection ho with ho; subst ho
      refine wp_of_run (v := .slice (some ⟨w'.heap.size, 0, none⟩) 0 0) (w' := w'.alloc (.cells #[] 23)) (by simp [go_sem]) ⟨_, rfl, (Lo.refl _).alloc _, _, rfl, hl.size, heap_new_at rfl⟩
    | 1, _ =>
      injection ho with ho; subst ho
      have h0 := hold 0 (by kernel_rfl)
      simp [Act.eval] at h0
      refine wp_of_run (v := .slice A 0 cap) (w' := w') (by simp [go_sem, h0]) ⟨_, rfl, Lo.refl _, rfl⟩
    | 2, _ =>
      injection ho with ho; subst ho
      obtain ⟨n, h19, hg, hn⟩ := hd 0 (by kernel_rfl) 19 (by kernel_rfl)
      have h20 := hd 1 (by kernel_rfl) 20 (by kernel_rfl)
      exact wp_append_nothing (.tmp 19) (.tmp 20) 38 rfl 23 i0 Try.underlying38 hi _ _ 0 0 cap h19 h20 (Nat.le_refl _) ⟨_, rfl, Lo.refl _, n, rfl, hg, hn⟩
    | 3, _ =>
      injection ho with ho; subst ho
      have h4 := hold 4 (by kernel_rfl)
      simp [Act.eval] at h4
      have g0 := lo_keep hl hc0
      have g1 := lo_keep hl hc1
      refine wp_of_run (v := .agg #[.int .i64 k, .string t]) (w' := w') (by simp [go_sem, h4, g0, g1]) ⟨_, rfl, Lo.refl _, rfl⟩
    | 4, _ =>
      injection ho with ho; subst ho
      have h22 := hd 3 (by kernel_rfl) 22 (by kernel_rfl)
      simp [Act.eval] at h22
      refine wp_of_run (v := .slice (some ⟨w'.heap.size, 0, none⟩) 1 1) (w' := w'.alloc (.cells #[.int .i64 k, .string t] 23)) (by simp [go_sem, h22]) ⟨_, rfl, (Lo.refl _).alloc _, _, rfl, heap_new_at rfl⟩
  · intro v w' hl hp
    have p0 := hp 0 (by omega)
    have p1 := hp 1 (by omega)
    have p2 := hp 2 (by omega)
    have p3 := hp 3 (by omega)
    have p4 := hp 4 (by omega)
    clear hp
    simp only [List.range_succ, List.range_zero, List.nil_append, List.cons_append, List.foldl_cons, List.foldl_nil, List.drop_succ_cons, List.drop_zero, dstOf, List.getElem?_toArray, List.getElem?_cons_zero, List.getElem?_cons_succ, Option.bind_some, Act.put, List.setIfInBounds_toArray, List.set_cons_zero, List.set_cons_succ]
    generalize v 0 = v0 at *
    generalize v 1 = v1 at *
    generalize v 2 = v2 at *
    generalize v 3 = v3 at *
    generalize v 4 = v4 at *
    obtain ⟨n0, rfl, -⟩ := p0
    obtain ⟨g, rfl, hg, hgb⟩ := p2
    have hown : w'.ownsRow wz.heap.size 23 2 (.slice (some ⟨g, 0, none⟩) 0 0) 0 [] := ⟨rfl, .inr ⟨g, 0, #[], rfl, hg, hgb, Nat.le_refl _, Nat.zero_le _, rfl, rfl⟩⟩
    clear hgb
    obtain ⟨n1, rfl, hn1⟩ := p4
    subst p1 p3
    have g0 := lo_keep hl hc0
    have g1 := lo_keep hl hc1
    have hlo2 := hlo.trans hl
    have hwz2 := hl.size
    have hwz1 : w.heap.size < wz.heap.size := World.block_lt_of_cell? wz _ hc0
    clear hl hc0 hc1 hlo
    refine wpList_append_own _ rfl (.tmp 21) (.tmp 23) 38 rfl wz.heap.size 23 i0 _ 2 24 Try.underlying38 hi hz0 hz1 hz2 rfl (by omega) (.slice (some ⟨g, 0, none⟩) 0 0) 0 [] rfl hown
      ⟨n1, 0, none⟩ 1 1 [.int .i64 k, .string t] rfl rfl (news1 hn1) (by simp [Value.oneCell']) (by unfold maxLen; omega) (by omega) hwz2 ?_
    intro vm w2 hown2 hgr2 _
    change w'.grownBy w2 (some g) at hgr2
    obtain ⟨gm, cm, rfl, hgm⟩ := owns_form hown2 (by omega)
    have hlo3 : Lo w w2 := hlo2.grown hgr2 (by intro k' hk; injection hk with hk; subst hk; omega)
    have k0 : w2.cell? ⟨w.heap.size, 0, none⟩ = some (.int .i64 k) := hgr2.cell g0 (by simp; omega)
    have k1 : w2.cell? ⟨w.heap.size, 1, none⟩ = some (.string t) := hgr2.cell g1 (by simp; omega)
    have hsz2 := hgr2.size
    clear hgr2 g0 g1 hlo2 hown hn1
    have hlit := World.ownsRow_lit (base := w2.heap.size) (e := 23) (size := 2) w2 #[.int .i64 k, .string t] 1 (Nat.le_refl _) (by simp [maxLen]) rfl
    go_wp2_with (at_builtin; refine wpList_append_nothing rfl (.tmp 26) (.tmp 27) 38 rfl 23 i0 Try.underlying38 hi (some ⟨w2.heap.size, 0, none⟩) A 1 1 cap rfl rfl (Nat.le_refl _) ?_)
    simp only [Nat.zero_add] at hown2 ⊢
    have hl23 : Lo w2 (w2.alloc (.cells #[.int .i64 k, .string t] 23)) := (Lo.refl _).alloc _
    have hlo4 : Lo w (w2.alloc (.cells #[.int .i64 k, .string t] 23)) := hlo3.trans hl23
    have hzw : w.heap.size < (w2.alloc (.cells #[.int .i64 k, .string t] 23)).heap.size := by have := hl23.size; omega
    have j0 := lo_keep hl23 k0
    have j1 := lo_keep hl23 k1
    have T1 : Terms (w2.alloc (.cells #[.int .i64 k, .string t] 23)).heap.size (w2.alloc (.cells #[.int .i64 k, .string t] 23)) (some ⟨gm, 0, none⟩) [⟨k, t⟩] := by
      have h := hl23.owns hown2
      exact Terms.of_owns (n := 1) (base := wz.heap.size) (cap := cm) (by simpa [termCells] using h) (by simp [zt])
    have T2 : Terms (w2.alloc (.cells #[.int .i64 k, .string t] 23)).heap.size (w2.alloc (.cells #[.int .i64 k, .string t] 23)) (some ⟨w2.heap.size, 0, none⟩) [⟨k, t⟩] := Terms.of_new (ts := [⟨k, t⟩]) (heap_new_at rfl) (by simp [zt])
    obtain ⟨m, hm⟩ : ∃ m, Pl.matches_ k t.toList s.toList = m := ⟨_, rfl⟩
    have v1 : anyT s [⟨k, t⟩] = m := by simp [anyT, hm]
    have C1 : ∀ W, Lo (w2.alloc (.cells #[.int .i64 k, .string t] 23)) W → Calls Try.prog 26 #[.string s, .slice (some ⟨gm, 0, none⟩) 1 cm] W fun e w' => e = .returned (.bool m) ∧ Lo W w' := fun W hW => by
      rw [← v1]; exact any s _ cm [⟨k, t⟩] W hW.size (T1.lo hW (Nat.le_refl _)) zs (by simp [maxLen])
    have C2 : ∀ W, Lo (w2.alloc (.cells #[.int .i64 k, .string t] 23)) W → Calls Try.prog 26 #[.string s, .slice (some ⟨w2.heap.size, 0, none⟩) 1 1] W fun e w' => e = .returned (.bool m) ∧ Lo W w' := fun W hW => by
      rw [← v1]; exact any s _ 1 [⟨k, t⟩] W hW.size (T2.lo hW (Nat.le_refl _)) zs (by simp [maxLen])
    have C3 : ∀ W, Calls Try.prog 26 #[.string s, .slice A 0 cap] W fun e w' => e = .returned (.bool false) ∧ Lo W w' := fun W => any s A cap [] W (Nat.le_refl _) SliceAt.nil zs (by simp [maxLen])
    have C4 : ∀ W, Calls Try.prog 26 #[.string s, .slice none 0 0] W fun e w' => e = .returned (.bool false) ∧ Lo W w' := fun W => any s none 0 [] W (Nat.le_refl _) SliceAt.nil zs (by simp [maxLen])
    have D4 : ∀ W, Calls Try.prog 27 #[.string s, .slice none 0 0] W fun e w' => e = .returned (.bool true) ∧ Lo W w' := fun W => lets s none 0 [] W (Nat.le_refl _) SliceAt.nil zs (by simp [maxLen])
    have HM := Lib.hid hm
    have HC1 := Lib.hid C1
    have HC2 := Lib.hid C2
    have HC3 := Lib.hid C3
    have HC4 := Lib.hid C4
    have HD4 := Lib.hid D4
    clear C1 C2 C3 C4 D4 hm v1 T1 T2 hown2 hlit
    cases m
    all_goals
      go_wp2_with (first
        | (go_at_call 26; first
            | ((with_reducible refine (HC1.out _ ?_).mono ?_); (exact (by repeat (first | exact Lo.refl _ | assumption | refine Lo.drew ?_ | refine Lo.alloc ?_ _ | refine Lo.setCell ?_ (by first | (dsimp only; omega) | (simp; omega) | (simp; done)) _ | refine Lo.trans ?_ (by assumption)))); rintro e w4 ⟨rfl, hb⟩; obtain ⟨hc, hf, hz⟩ := hb.facts; have hz0 := hz w.heap.size (by first | assumption | (simp; done) | (simp; omega)); have hq0 := fun o => hc w.heap.size o (by first | assumption | (simp; done) | (simp; omega)))
            | ((with_reducible refine (HC2.out _ ?_).mono ?_); (exact (by repeat (first | exact Lo.refl _ | assumption | refine Lo.drew ?_ | refine Lo.alloc ?_ _ | refine Lo.setCell ?_ (by first | (dsimp only; omega) | (simp; omega) | (simp; done)) _ | refine Lo.trans ?_ (by assumption)))); rintro e w4 ⟨rfl, hb⟩; obtain ⟨hc, hf, hz⟩ := hb.facts; have hz0 := hz w.heap.size (by first | assumption | (simp; done) | (simp; omega)); have hq0 := fun o => hc w.heap.size o (by first | assumption | (simp; done) | (simp; omega)))
            | ((with_reducible refine (HC3.out _).mono ?_); rintro e w4 ⟨rfl, hb⟩; obtain ⟨hc, hf, hz⟩ := hb.facts; have hz0 := hz w.heap.size (by first | assumption | (simp; done) | (simp; omega)); have hq0 := fun o => hc w.heap.size o (by first | assumption | (simp; done) | (simp; omega)))
            | ((with_reducible refine (HC4.out _).mono ?_); rintro e w4 ⟨rfl, hb⟩; obtain ⟨hc, hf, hz⟩ := hb.facts; have hz0 := hz w.heap.size (by first | assumption | (simp; done) | (simp; omega)); have hq0 := fun o => hc w.heap.size o (by first | assumption | (simp; done) | (simp; omega))))
        | (go_at_call 27; ((with_reducible refine (HD4.out _).mono ?_); rintro e w4 ⟨rfl, hb⟩; obtain ⟨hc, hf, hz⟩ := hb.facts; have hz0 := hz w.heap.size (by first | assumption | (simp; done) | (simp; omega)); have hq0 := fun o => hc w.heap.size o (by first | assumption | (simp; done) | (simp; omega))))
        | (go_at_call 22; refine (matches_ _ _ _ _ (by assumption) (by assumption)).mono ?_; rintro e w4 ⟨rfl, hb⟩; obtain ⟨hc, hf, hz⟩ := hb.facts; have hz0 := hz w.heap.size (by first | assumption | (simp; done) | (simp; omega)); have hq0 := fun o => hc w.heap.size o (by first | assumption | (simp; done) | (simp; omega)); rw [HM.out])
        | (go_at_call 17; refine (awake _).mono ?_; rintro e w4 ⟨rfl, hb⟩))
      go_ret
      exact ⟨rfl, (by repeat (first | exact Lo.refl _ | assumption | refine Lo.drew ?_ | refine Lo.alloc ?_ _ | refine Lo.setCell ?_ (by first | (dsimp only; omega) | (simp; omega) | (simp; done)) _ | refine Lo.trans ?_ (by assumption)))⟩
end Go.Proofs.Ytlcecabfmemfeaa.MatchRows
