/- slices.Insert at api.Due: one thing, into a row of the call's own. -/
import Derived.Test.YtmjckopplkihlaaOwn2
import Derived.Test.YtmjckopplkihlaaWTake
import Derived.Deep.RegionLaw
namespace Go.Proofs.Ytmjckopplkihlaa.Due
set_option linter.unusedVariables false
set_option linter.unusedSimpArgs false
open Go.RowKit Mem BigFrame

theorem cells3D (l : List Pl.Due) : Cells3 dueCells l := fun d _ => ⟨_, _, _, rfl, rfl, rfl, rfl⟩
theorem overlaps_ (w : World) (a b : Nat) (hne : a ≠ b) (ca cb : Array Value) (ta tb : TypeId) (ha : w.heap[a]? = some (.cells ca ta (0, 0))) (hB : w.heap[b]? = some (.cells cb tb (0, 0))) (h0 : 0 < cb.size) (oa ob la ka lb kb : Nat) :
    (callFunc 48 #[.slice (some ⟨a, oa, none⟩) la ka, .slice (some ⟨b, ob, none⟩) lb kb]).run Try.prog w = .ok (.value (.bool false)) w :=
  run_overlaps_no (tS := 22) (tR := 4) (e := 25) (size := 3) Try.func48 (by kernel_rfl) (by kernel_rfl) (by kernel_rfl) (by kernel_rfl) Try.underlying22 (fun _ => by kernel_rfl) w a b hne ca cb ta tb ha hB h0 oa ob la ka lb kb
def inL (l : List Pl.Due) (i : Nat) (d : Pl.Due) : List Pl.Due := l.take i ++ d :: l.drop i
theorem inL_len {l : List Pl.Due} {i : Nat} (d : Pl.Due) (hi : i ≤ l.length) : (inL l i d).length = l.length + 1 := by unfold inL; simp; omega
theorem inL_flat (l : List Pl.Due) (i : Nat) (d : Pl.Due) : (inL l i d).flatMap dueCells = (l.take i).flatMap dueCells ++ dueCells d ++ (l.drop i).flatMap dueCells := by unfold inL; simp [List.flatMap_append, List.flatMap_cons]
theorem ins_fits {cur2 Xs Bs : List Value} {cap2 n i : Nat} (hs : cur2.length = cap2 * 3) (hn : n + 1 ≤ cap2) (hi : i < n) (hX : Xs.length = 3) (hB : Bs.length = (n - i) * 3) : i * 3 + Xs.length ≤ cur2.length ∧ (i + 1) * 3 + Bs.length ≤ (splice cur2 (i * 3) Xs).length := by
  have h1 : i * 3 + Xs.length ≤ cur2.length := by omega
  exact ⟨h1, by rw [size_splice h1]; omega⟩
abbrev OwnD (base : Nat) (w : World) (v : Value) (l : List Pl.Due) : Prop := Own3 dueCells 25 base w v l

set_option maxRecDepth 100000 in
set_option maxHeartbeats 3200000 in
/-- at the end -/
theorem insert_end (v : Value) (l : List Pl.Due) (d : Pl.Due) {base : Nat} (w : World) (hbase : base ≤ w.heap.size) (hown : OwnD base w v l) (vb : Nat) (hvb : w.heap[vb]? = some (.cells (dueCells d).toArray 25 (0, 0))) (hn : (l.length + 1) * 24 ≤ 140737488355328) :
    Calls Try.prog 35 #[v, .int .i64 l.length, .slice (some ⟨vb, 0, none⟩) 1 1] w fun e w' => ∃ v', e = .returned v' ∧ OwnD base w' v' (inL l l.length d) ∧ w.grownBy w' v.ownBlock := by
  obtain ⟨i0, hi, hz0, hz1, hz2⟩ := info_parts infoD
  have HR : Hid (∀ v' w', w'.ownsRow base 25 3 v' (l.length + 1) (l.flatMap dueCells ++ dueCells d) → OwnD base w' v' (inL l l.length d)) := Lib.hid fun v' w' h => by
    unfold OwnD Own3
    rw [inL_len d (Nat.le_refl _), inL_flat]; simpa using h
  obtain ⟨A, cap, hv, _, hnc, hcm⟩ := hown.slice (cells3D l)
  have hnews : Hid (∀ (j : Nat) u, (dueCells d)[j]? = some u → w.cell? ((⟨vb, 0, none⟩ : Addr).add j) = some u) := Lib.hid (cells_of_block hvb)
  have hone : ∀ u ∈ dueCells d, u.oneCell' = true := by simp [dueCells, Value.oneCell']
  have h63 : l.length + 1 ≤ maxLen := by unfold maxLen; omega
  have h03 : 0 < 3 := by omega
  have hln : (dueCells d).length = 1 * 3 := rfl
  have HO : Hid (w.ownsRow base 25 3 v l.length (l.flatMap dueCells)) := Lib.hid hown
  clear hown
  generalize l.flatMap dueCells = cells at *
  generalize dueCells d = news at *
  clear hvb
  unfold maxLen at hcm
  subst hv
  by_cases hcap : cap = l.length
  all_goals
    go_enter Try.func35, Try.ntmps35
    go_wp2_with (at_builtin; refine wpList_append_own _ rfl (.tmp 23) (.tmp 24) 22 rfl base 25 i0 _ 3 24 Try.underlying22 hi hz0 hz1 hz2 rfl h03 _ l.length cells rfl HO.out ⟨vb, 0, none⟩ 1 1 news rfl hln hnews.out hone h63 hn hbase ?_; intro vt w3 hown3 hgr3 _)
    go_ret
    exact ⟨_, rfl, HR.out _ _ hown3, hgr3⟩
set_option maxRecDepth 100000 in
set_option maxHeartbeats 3200000 in
/-- before the end, with room -/
theorem insert_in (g cap : Nat) (cur : List Value) (l : List Pl.Due) (i : Nat) (hil : i < l.length) (d : Pl.Due) {base : Nat} (w : World) (hb : base ≤ g) (hg : w.heap[g]? = some (.cells cur.toArray 25 (0, 0))) (hroom : l.length + 1 ≤ cap) (hcm : cap ≤ maxLen) (hs : cur.length = cap * 3) (ht : cur.take (l.length * 3) = l.flatMap dueCells) (vb : Nat) (hne : vb ≠ g) (hvb : w.heap[vb]? = some (.cells (dueCells d).toArray 25 (0, 0))) :
    Calls Try.prog 35 #[.slice (some ⟨g, 0, none⟩) l.length cap, .int .i64 i, .slice (some ⟨vb, 0, none⟩) 1 1] w fun e w' => ∃ v', e = .returned v' ∧ OwnD base w' v' (inL l i d) ∧ w.grownBy w' (some g) := by
  have hov : Hid (∀ (w0 : World), Lo w w0 → ∀ oa ob la ka lb kb, (callFunc 48 #[.slice (some ⟨vb, oa, none⟩) la ka, .slice (some ⟨g, ob, none⟩) lb kb]).run Try.prog w0 = .ok (.value (.bool false)) w0) := Lib.hid fun w0 hl => overlaps_ w0 vb g hne _ _ _ _ (cells_lo hvb hl) (cells_lo hg hl) (by simp; omega)
  have hfl : (l.flatMap dueCells).length = l.length * 3 := (cells3D l).len
  have hA : ((l.take i).flatMap dueCells).length = i * 3 := by rw [(cells3D _).len, List.length_take, Nat.min_eq_left (by omega)]
  have hB : ((l.drop i).flatMap dueCells).length = (l.length - i) * 3 := by rw [(cells3D _).len, List.length_drop]
  have hAB : l.flatMap dueCells = (l.take i).flatMap dueCells ++ (l.drop i).flatMap dueCells := by rw [← List.flatMap_append, List.take_append_drop]
  have hX : (dueCells d).length = 3 := rfl
  have HFIN : Hid (∀ w', Hid (w'.heap[g]? = some (.cells (splice (splice cur ((i + 1) * 3) ((l.drop i).flatMap dueCells)) (i * 3) (dueCells d)).toArray 25 (0, 0))) → OwnD base w' (.slice (some ⟨g, 0, none⟩) (l.length + 1) cap) (inL l i d)) := Lib.hid fun w' h => by
    have e1 : (i + 1) * 3 = ((l.take i).flatMap dueCells).length + (dueCells d).length := by rw [hA, hX]; omega
    have e2 : (l.length + 1) * 3 = ((l.take i).flatMap dueCells).length + (dueCells d).length + ((l.drop i).flatMap dueCells).length := by rw [hA, hX, hB]; omega
    have hsz1 : (splice cur ((i + 1) * 3) ((l.drop i).flatMap dueCells)).length = cur.length := size_splice (by rw [hB, hs]; omega)
    have hsz2 : (splice (splice cur ((i + 1) * 3) ((l.drop i).flatMap dueCells)) (i * 3) (dueCells d)).length = cap * 3 := by rw [size_splice (by rw [hX, hsz1, hs]; omega), hsz1, hs]
    have hlen := inL_len d (Nat.le_of_lt hil)
    rw [← hlen]
    refine Own3.of_block (cells3D _) hb h.out (by rw [hlen]; exact hroom) hcm hsz2 ?_
    rw [hlen, inL_flat, e2, e1, ← hA]
    exact splice_in (by rw [hA, hB, ← hAB, ← ht]; congr 1; omega) (by rw [hA, hX, hB, hs]; omega)
  have hsrc : Hid (∀ w0, Lo w w0 → ∀ (j : Nat) u, ((l.drop i).flatMap dueCells)[j]? = some u → w0.cell? ((⟨g, i * 3, none⟩ : Addr).add j) = some u) := Lib.hid fun w0 hl j u hj => by
    rw [addr_add]
    refine cell_row (cells_lo hg hl) ?_
    have hjl : j < ((l.drop i).flatMap dueCells).length := (List.getElem?_eq_some_iff.1 hj).1
    have : (cur.take (l.length * 3))[i * 3 + j]? = some u := by
      rw [ht, hAB, List.getElem?_append_right (by omega), hA, Nat.add_sub_cancel_left]; exact hj
    rw [List.getElem?_take_of_lt (by omega)] at this
    exact this
  have hone : ∀ u ∈ dueCells d, u.oneCell' = true := by simp [dueCells, Value.oneCell']
  have hone2 : ∀ u ∈ (l.drop i).flatMap dueCells, u.oneCell' = true := (cells3D _).one
  have hfit1 : (i + 1) * 3 + ((l.drop i).flatMap dueCells).length ≤ cur.length := by rw [hB, hs]; omega
  have hsz1 : (splice cur ((i + 1) * 3) ((l.drop i).flatMap dueCells)).length = cur.length := size_splice hfit1
  have hfit2 : i * 3 + (dueCells d).length ≤ (splice cur ((i + 1) * 3) ((l.drop i).flatMap dueCells)).length := by rw [hsz1, hX, hs]; omega
  have hmin1 : ((l.drop i).flatMap dueCells).length = Nat.min (l.length + 1 - i) (l.length + 1 - (i + 1)) * 3 := by rw [hB]; congr 1; simp only [Nat.min_def]; split <;> omega
  have hmin2 : (dueCells d).length = Nat.min 1 (l.length + 1 - i) * 3 := by rw [hX]; simp only [Nat.min_def]; split <;> omega
  have hsz : (Try.prog.info? 25).map (·.size) = some 3 := by kernel_rfl
  have hbg : g < w.heap.size := block_lt hg
  have hbv : vb < w.heap.size := block_lt hvb
  have HG := Lib.hid hg
  have HVB := Lib.hid hvb
  clear hg ht hAB hA hB hX hfl hs hvb
  generalize (l.drop i).flatMap dueCells = Bs at *
  generalize dueCells d = Xs at *
  unfold maxLen at hcm
  have j0 : (0 : Int) ≤ (i : Int) := by omega
  have j1 : (i : Int) < (l.length : Int) := by omega
  have j2 : (l.length : Int) + 1 ≤ (cap : Int) := by omega
  have j3 : ¬ ((i : Int) = (l.length : Int)) := by omega
  have j4 : ¬ (cap = i) := by omega
  have j5 : ¬ (cap = i + 1) := by omega
  have j6 : (i : Int) ≤ (l.length : Int) + 1 := by omega
  have j7 : (i : Int) + 1 ≤ (l.length : Int) + 1 := by omega
  have hvne : ∀ r, some g = r → True := fun _ _ => trivial
  clear hvne
  go_enter Try.func35, Try.ntmps35
  go_wp2_with (simp only [hov.out w (Lo.refl _)])
  have q1 : IntKind.i64.wrap ((i : Int) + 1) = (i : Int) + 1 := by rw [IntKind.wrap_i64]; omega
  have q2 : (0 : Int) ≤ (i : Int) + 1 := by omega
  have q3 : ((i : Int) + 1).toNat = i + 1 := by omega
  go_region_law (refine step_copy_row rfl (.tmp 73) (.tmp 76) 22 22 rfl 25 3 Try.underlying22 hsz g ((i + 1) * 3) (l.length + 1 - (i + 1)) (cap - (i + 1)) ⟨g, i * 3, none⟩ (l.length + 1 - i) (cap - i) (by simp [Act.eval, Act.put]) (by simp [Act.eval, Act.put]) cur 25 HG.out Bs hmin1 (hsrc.out _ (Lo.refl w).drew) hfit1 hone2 ?_; intro w1 HG1 hgr1)
  clear q1 q2 q3
  have hgr1 : w.grownBy w1 (some g) := grown_trans (grown_of_lo (Lo.refl w).drew) hgr1
  have HVB1 : Hid (∀ (j : Nat) u, Xs[j]? = some u → w1.cell? ((⟨vb, 0, none⟩ : Addr).add j) = some u) := Lib.hid (cells_of_block (cells_grown HVB.out hgr1 (by simp; exact hne)))
  go_wp2_with ((refine wpList_copy_row rfl (.tmp 80) (.tmp 81) 22 22 rfl 25 3 Try.underlying22 hsz g (i * 3) (l.length + 1 - i) (cap - i) ⟨vb, 0, none⟩ 1 1 rfl rfl _ 25 HG1.out Xs hmin2 HVB1.out hfit2 hone ?_); intro w2 HG2 hgr2)
  go_ret
  exact ⟨_, rfl, HFIN.out _ HG2, grown_trans hgr1 hgr2⟩
set_option maxRecDepth 100000 in
set_option maxHeartbeats 3200000 in
/-- before the end, without room -/
theorem insert_grow (g cap : Nat) (cur : List Value) (l : List Pl.Due) (i : Nat) (hil : i < l.length) (d : Pl.Due) {base : Nat} (w : World) (hb : base ≤ w.heap.size) (hg : w.heap[g]? = some (.cells cur.toArray 25 (0, 0))) (hnc : l.length ≤ cap) (hroom : cap < l.length + 1) (hn : (l.length + 1) * 24 ≤ 140737488355328) (ht : cur.take (l.length * 3) = l.flatMap dueCells) (vb : Nat) (hvb : w.heap[vb]? = some (.cells (dueCells d).toArray 25 (0, 0))) :
    Calls Try.prog 35 #[.slice (some ⟨g, 0, none⟩) l.length cap, .int .i64 i, .slice (some ⟨vb, 0, none⟩) 1 1] w fun e w' => ∃ v', e = .returned v' ∧ OwnD base w' v' (inL l i d) ∧ w.grownBy w' (some g) := by
  obtain rfl : cap = l.length := by omega
  obtain ⟨i0, hi, hz0, hz1, hz2⟩ := info_parts infoD
  have hfl : (l.flatMap dueCells).length = l.length * 3 := (cells3D l).len
  have hA : ((l.take i).flatMap dueCells).length = i * 3 := by rw [(cells3D _).len, List.length_take, Nat.min_eq_left (by omega)]
  have hB : ((l.drop i).flatMap dueCells).length = (l.length - i) * 3 := by rw [(cells3D _).len, List.length_drop]
  have hAB : l.flatMap dueCells = (l.take i).flatMap dueCells ++ (l.drop i).flatMap dueCells := by rw [← List.flatMap_append, List.take_append_drop]
  have hX : (dueCells d).length = 3 := rfl
  have HFIN : Hid (∀ (w' : World) (cap2 : Nat) (cur2 : List Value), l.length + 1 ≤ cap2 → cap2 ≤ maxLen → cur2.length = cap2 * 3 → cur2.take (i * 3) = (l.take i).flatMap dueCells → Hid (w'.heap[w.heap.size]? = some (.cells (splice (splice cur2 (i * 3) (dueCells d)) ((i + 1) * 3) ((l.drop i).flatMap dueCells)).toArray 25 (0, 0))) → OwnD base w' (.slice (some ⟨w.heap.size, 0, none⟩) (l.length + 1) cap2) (inL l i d)) := Lib.hid fun w' cap2 cur2 hnc2 hcm2 hs2 ht2 h => by
    have e1 : (i + 1) * 3 = ((l.take i).flatMap dueCells).length + (dueCells d).length := by rw [hA, hX]; omega
    have e2 : (l.length + 1) * 3 = ((l.take i).flatMap dueCells).length + (dueCells d).length + ((l.drop i).flatMap dueCells).length := by rw [hA, hX, hB]; omega
    have hsz1 : (splice cur2 (i * 3) (dueCells d)).length = cur2.length := size_splice (by rw [hX, hs2]; omega)
    have hsz2 : (splice (splice cur2 (i * 3) (dueCells d)) ((i + 1) * 3) ((l.drop i).flatMap dueCells)).length = cap2 * 3 := by rw [size_splice (by rw [hB, hsz1, hs2]; omega), hsz1, hs2]
    have hlen := inL_len d (Nat.le_of_lt hil)
    rw [← hlen]
    refine Own3.of_block (cells3D _) hb h.out (by rw [hlen]; exact hnc2) hcm2 hsz2 ?_
    rw [hlen, inL_flat, e2, e1, ← hA]
    exact splice_new (by rw [hA]; exact ht2) (by rw [hA, hX, hB, hs2]; omega)
  have hcell : ∀ (j : Nat) u, (l.flatMap dueCells)[j]? = some u → w.cell? ⟨g, j, none⟩ = some u := by
    intro j u hj
    refine cell_row hg ?_
    have hjl : j < (l.flatMap dueCells).length := (List.getElem?_eq_some_iff.1 hj).1
    rw [← ht, List.getElem?_take_of_lt (by omega)] at hj
    exact hj
  have hold : Hid (∀ (j : Nat) u, ((l.take i).flatMap dueCells)[j]? = some u → w.cell? ⟨g, j, none⟩ = some u) := Lib.hid fun j u hj => hcell j u (by
    have hjl : j < ((l.take i).flatMap dueCells).length := (List.getElem?_eq_some_iff.1 hj).1
    rw [hAB, List.getElem?_append_left hjl]; exact hj)
  have hsrc : Hid (∀ w0, Lo w w0 → ∀ (j : Nat) u, ((l.drop i).flatMap dueCells)[j]? = some u → w0.cell? ((⟨g, i * 3, none⟩ : Addr).add j) = some u) := Lib.hid fun w0 hl j u hj => by
    rw [addr_add]
    exact lo_keep hl (hcell _ u (by rw [hAB, List.getElem?_append_right (by omega), hA, Nat.add_sub_cancel_left]; exact hj))
  have hone : ∀ u ∈ dueCells d, u.oneCell' = true := by simp [dueCells, Value.oneCell']
  have hone2 : ∀ u ∈ (l.drop i).flatMap dueCells, u.oneCell' = true := (cells3D _).one
  have hmin1 : ((l.drop i).flatMap dueCells).length = Nat.min (l.length - i) (l.length + 1 - (i + 1)) * 3 := by rw [hB]; congr 1; simp only [Nat.min_def]; split <;> omega
  have hmin2 : (dueCells d).length = Nat.min 1 (l.length + 1 - i) * 3 := by rw [hX]; simp only [Nat.min_def]; split <;> omega
  have hsz : (Try.prog.info? 25).map (·.size) = some 3 := by kernel_rfl
  have hbg : g < w.heap.size := block_lt hg
  have hbv : vb < w.heap.size := block_lt hvb
  have HVB := Lib.hid hvb
  have HX := Lib.hid hX
  have HB := Lib.hid hB
  clear hg ht hAB hB hX hfl hvb hcell
  generalize (l.drop i).flatMap dueCells = Bs at *
  generalize (l.take i).flatMap dueCells = As at *
  generalize dueCells d = Xs at *
  have HA := Lib.hid hA
  clear hA
  have h63 : i + (l.length + 1 - i) ≤ maxLen := by unfold maxLen; omega
  have hby : (i + (l.length + 1 - i)) * 24 ≤ 140737488355328 := by rw [show i + (l.length + 1 - i) = l.length + 1 by omega]; exact hn
  have hk0 : 0 < l.length + 1 - i := by omega
  have hneed : i + (l.length + 1 - i) = l.length + 1 := by omega
  have hgrow : l.length < i + (l.length + 1 - i) := by omega
  have hzi : (l.length : Int) + 1 - (i : Int) = ((l.length + 1 - i : Nat) : Int) := by omega
  have HZI := Lib.hid hzi
  have HNE := Lib.hid hneed
  clear hzi hneed
  have h03 : 0 < 3 := by omega
  have j0 : (0 : Int) ≤ (i : Int) := by omega
  have j1 : (i : Int) < (l.length : Int) := by omega
  have j3 : ¬ ((i : Int) = (l.length : Int)) := by omega
  have j4 : ¬ (l.length = i) := by omega
  have j6 : (i : Int) ≤ (l.length : Int) + 1 := by omega
  have j7 : (i : Int) + 1 ≤ (l.length : Int) + 1 := by omega
  go_enter Try.func35, Try.ntmps35
  go_wp2_with (first | (at_builtin; refine wpList_append_zeros rfl (.tmp 34) (.tmp 39) 22 3 rfl .i64 Try.underlying3 25 i0 _ 3 24 Try.underlying22 hi hz0 hz1 hz2 rfl h03 g i l.length rfl As HA.out hold.out _ rfl (l.length + 1 - i) HZI.out hk0 (l.length + 1) HNE.out hgrow h63 hby ?_; intro w1 cap2 cur2 HC2 hnc2 hcm2 hlo1 hw1; have HFI : Hid (i * 3 + Xs.length ≤ cur2.length ∧ (i + 1) * 3 + Bs.length ≤ (splice cur2 (i * 3) Xs).length) := Lib.hid (ins_fits HC2.out.2.1 hnc2 hil HX.out HB.out); have HV1 : Hid (∀ (j : Nat) u, Xs[j]? = some u → w1.cell? ((⟨vb, 0, none⟩ : Addr).add j) = some u) := Lib.hid (cells_of_block (cells_lo HVB.out hlo1)); have j8 : ¬ (cap2 = i) := (by omega); have j9 : ¬ (cap2 = i + 1) := (by omega)) | ((refine wpList_copy_row rfl (.tmp 43) (.tmp 44) 22 22 rfl 25 3 Try.underlying22 hsz w.heap.size (i * 3) (l.length + 1 - i) (cap2 - i) ⟨vb, 0, none⟩ 1 1 rfl rfl cur2 25 HC2.out.1 Xs hmin2 HV1.out HFI.out.1 hone ?_); intro w2 HG2 hgr2))
  have hcm3 : cap2 ≤ 9223372036854775807 := by unfold maxLen at hcm2; omega
  have HSr : Hid (∀ (j : Nat) u, Bs[j]? = some u → w2.cell? ((⟨g, i * 3, none⟩ : Addr).add j) = some u) := Lib.hid fun j u hj => by
    rw [addr_add]
    have := hsrc.out w1 hlo1 j u hj
    rw [addr_add] at this
    rw [World.cell?_of_block (hgr2.block g (Nat.lt_of_lt_of_le hbg hlo1.size) (by simp; omega))]
    exact this
  have q0 : i ≤ l.length := by omega
  have q1 : IntKind.i64.wrap ((i : Int) + 1) = (i : Int) + 1 := by rw [IntKind.wrap_i64]; omega
  have q2 : (0 : Int) ≤ (i : Int) + 1 := by omega
  have q3 : ((i : Int) + 1).toNat = i + 1 := by omega
  go_region_law (refine step_copy_row rfl (.tmp 50) (.tmp 53) 22 22 rfl 25 3 Try.underlying22 hsz w.heap.size ((i + 1) * 3) (l.length + 1 - (i + 1)) (cap2 - (i + 1)) ⟨g, i * 3, none⟩ (l.length - i) (l.length - i) (by simp [Act.eval, Act.put]) (by simp [Act.eval, Act.put]) _ 25 HG2.out Bs hmin1 HSr.out HFI.out.2 hone2 ?_; intro w3 HG3 hgr3)
  clear q1 q2 q3
  have hgr3 : w2.grownBy w3 (some w.heap.size) := grown_trans (grown_of_lo (Lo.refl w2).drew) hgr3
  go_wp2
  go_ret
  refine ⟨_, rfl, HFIN.out w3 cap2 cur2 hnc2 hcm2 HC2.out.2.1 HC2.out.2.2 HG3, ?_⟩
  exact grown_of_lo (Lo.grown (Lo.grown hlo1 hgr2 (fun k hk => by injection hk; omega)) hgr3 (fun k hk => by injection hk; omega))
theorem insert_ (v : Value) (l : List Pl.Due) (i : Nat) (hil : i ≤ l.length) (d : Pl.Due) {base : Nat} (w : World) (hbase : base ≤ w.heap.size) (hown : OwnD base w v l) (vb : Nat) (hne : ∀ g, v.ownBlock = some g → vb ≠ g) (hvb : w.heap[vb]? = some (.cells (dueCells d).toArray 25 (0, 0))) (hn : (l.length + 1) * 24 ≤ 140737488355328) :
    Calls Try.prog 35 #[v, .int .i64 i, .slice (some ⟨vb, 0, none⟩) 1 1] w fun e w' => ∃ v', e = .returned v' ∧ OwnD base w' v' (inL l i d) ∧ w.grownBy w' v.ownBlock := by
  rcases Nat.eq_or_lt_of_le hil with rfl | hlt
  · exact insert_end v l d w hbase hown vb hvb hn
  · rcases hown.open_ with ⟨rfl, rfl⟩ | ⟨g, cap, cur, rfl, hb, hg, hnc, hcm, hs, ht⟩
    · exact absurd hlt (by simp)
    · rcases Nat.lt_or_ge cap (l.length + 1) with hr | hr
      · exact insert_grow g cap cur l i hlt d w hbase hg hnc hr hn ht vb hvb
      · exact insert_in g cap cur l i hlt d w hb hg hr hcm hs ht vb (hne g rfl) hvb
end Go.Proofs.Ytmjckopplkihlaa.Due
