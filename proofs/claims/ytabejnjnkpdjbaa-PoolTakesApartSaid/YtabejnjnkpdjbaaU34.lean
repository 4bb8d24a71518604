/- Merged by bundles.py: PlSort4, PlSort5, SimSt, SimSk. -/
import Derived.Test.YtabejnjnkpdjbaaU33
import Derived.Test.YtabejnjnkpdjbaaU32
import Derived.Test.YtabejnjnkpdjbaaU15
import Derived.Test.YtabejnjnkpdjbaaU27
/- symMerge merges, those of one number as they stood. -/
namespace Go.Proofs.Ytabejnjnkpdjbaa.Sim
set_option linter.unusedVariables false
set_option linter.unusedSimpArgs false
open Go.RowKit Mem
section
variable {α : Type} {key : α → Int} {lt : α → α → Bool}
theorem get_mid (P U S : List α) (x : α) : (P ++ (U ++ x :: S))[P.length + U.length]? = some x := by
  rw [List.getElem?_append_right (by omega), show P.length + U.length - P.length = U.length from by omega, List.getElem?_append_right (Nat.le_refl _), Nat.sub_self]; rfl
theorem srt_le_head {x : α} {l : List α} (h : Srt key (x :: l)) : ∀ y ∈ x :: l, key x ≤ key y := by
  intro y hy
  rcases List.mem_cons.1 hy with e | e
  · rw [e]; exact Int.le_refl _
  · exact (List.pairwise_cons.1 h).1 _ e
theorem srt_le_last {x : α} {l : List α} (h : Srt key (l ++ [x])) : ∀ y ∈ l ++ [x], key y ≤ key x := by
  intro y hy
  rcases List.mem_append.1 hy with e | e
  · exact (List.pairwise_append.1 h).2.2 y e x (by simp)
  · rw [List.mem_singleton.1 e]; exact Int.le_refl _
theorem symM_ok (hlt : ∀ x y, lt x y = decide (key x < key y)) : ∀ (f : Nat) (P X Y S : List α), 0 < X.length → 0 < Y.length → X.length + Y.length ≤ f → Srt key X → Srt key Y →
    ∃ Z, symM lt f (P ++ (X ++ (Y ++ S))) P.length (P.length + X.length) (P.length + X.length + Y.length) = P ++ (Z ++ S) ∧ Srt key Z ∧ StEq key Z (X ++ Y) ∧ Z.length = X.length + Y.length
  | 0, P, X, Y, S, h1, h2, hf, hX, hY => by omega
  | f + 1, P, X, Y, S, h1, h2, hf, hX, hY => by
    unfold symM
    have hltA : ∀ {l : List α} {i j : Nat} {x y : α}, l[i]? = some x → l[j]? = some y → ltA lt l i j = decide (key x < key y) := by
      intro l i j x y hx hy
      unfold ltA
      rw [hx, hy]; exact hlt x y
    by_cases hx1 : P.length + X.length - P.length = 1
    · rw [if_pos hx1]
      have hXl : X.length = 1 := by omega
      obtain ⟨x, rfl⟩ := List.length_eq_one_iff.1 hXl
      generalize hi : bsr (fun h => ltA lt (P ++ ([x] ++ (Y ++ S))) h P.length) (P.length + [x].length + Y.length - (P.length + [x].length)) (P.length + [x].length) (P.length + [x].length + Y.length) = i
      have hin := bsr_in (fun h => ltA lt (P ++ ([x] ++ (Y ++ S))) h P.length) (P.length + [x].length + Y.length - (P.length + [x].length)) (P.length + [x].length) (P.length + [x].length + Y.length) (by omega)
      have hsp := bsr_spec (fun h => ltA lt (P ++ ([x] ++ (Y ++ S))) h P.length) (P.length + [x].length + Y.length - (P.length + [x].length)) (P.length + [x].length) (P.length + [x].length + Y.length) (P.length + [x].length) (P.length + [x].length + Y.length) (Nat.le_refl _) (by omega) (by omega) (by omega)
      rw [hi] at hin hsp
      rw [List.length_singleton] at hin hsp
      have hY12 : Y = Y.take (i - (P.length + 1)) ++ Y.drop (i - (P.length + 1)) := (List.take_append_drop _ _).symm
      have hl1 : (Y.take (i - (P.length + 1))).length = i - (P.length + 1) := by rw [List.length_take]; omega
      generalize Y.take (i - (P.length + 1)) = Y1 at *
      generalize Y.drop (i - (P.length + 1)) = Y2 at *
      subst hY12
      have hx0 : (P ++ ([x] ++ (Y1 ++ Y2 ++ S)))[P.length]? = some x := by simp
      have hYa := List.pairwise_append.1 hY
      have hlo : ∀ y ∈ Y1, key y < key x := by
        rcases List.eq_nil_or_concat Y1 with rfl | ⟨Y1', y', rfl⟩
        · simp
        · rw [List.concat_eq_append] at *
          have hy' : (P ++ ([x] ++ (Y1' ++ [y'] ++ Y2 ++ S)))[i - 1]? = some y' := by
            have := get_mid P (x :: Y1') (Y2 ++ S) y'
            rw [List.length_cons] at this
            rw [List.length_append, List.length_singleton] at hl1
            rw [show i - 1 = P.length + (Y1'.length + 1) from by omega, ← this]
            simp
          have hp := hsp.1 (by rw [List.length_append, List.length_singleton] at hl1; omega)
          rw [hltA hy' hx0] at hp
          have hp := of_decide_eq_true hp
          intro y hy
          exact Int.lt_of_le_of_lt (srt_le_last hYa.1 y hy) hp
      have hhi : ∀ y ∈ Y2, key x ≤ key y := by
        cases Y2 with
        | nil => simp
        | cons y' Y2 =>
          have hy' : (P ++ ([x] ++ (Y1 ++ y' :: Y2 ++ S)))[i]? = some y' := by
            have := get_mid P (x :: Y1) (Y2 ++ S) y'
            rw [List.length_cons] at this
            rw [show i = P.length + (Y1.length + 1) from by omega, ← this]
            simp
          have hp := hsp.2 (by rw [List.length_append, List.length_cons]; omega)
          rw [hltA hy' hx0] at hp
          have hp := of_decide_eq_false hp
          intro y hy
          exact Int.le_trans (by omega) (srt_le_head hYa.2.1 y hy)
      have hmv := mvU_mid P x Y1.length Y1 (Y2 ++ S) rfl
      refine ⟨Y1 ++ x :: Y2, ?_, ?_, ?_, ?_⟩
      · rw [show i - 1 - P.length = Y1.length from by omega, show P ++ ([x] ++ (Y1 ++ Y2 ++ S)) = P ++ x :: (Y1 ++ (Y2 ++ S)) from by simp, hmv]; simp
      · refine List.pairwise_append.2 ⟨hYa.1, List.pairwise_cons.2 ⟨hhi, hYa.2.1⟩, ?_⟩
        intro y hy z hz
        rcases List.mem_cons.1 hz with rfl | hz
        · exact Int.le_of_lt (hlo y hy)
        · exact hYa.2.2 y hy z hz
      · have e1 : StEq key (Y1 ++ [x]) ([x] ++ Y1) := (StEq.swap (key := key) (a := [x]) (b := Y1) (by intro z hz y hy; rw [List.mem_singleton.1 hz]; exact hlo y hy)).symm
        have e2 := e1.app (StEq.refl Y2)
        intro k
        have := e2 k
        simpa [List.append_assoc] using this
      · simp; omega
    rw [if_neg hx1]
    by_cases hy1 : P.length + X.length + Y.length - (P.length + X.length) = 1
    · rw [if_pos hy1]
      have hYl : Y.length = 1 := by omega
      obtain ⟨y, rfl⟩ := List.length_eq_one_iff.1 hYl
      generalize hi : bsr (fun h => !ltA lt (P ++ (X ++ ([y] ++ S))) (P.length + X.length) h) (P.length + X.length - P.length) P.length (P.length + X.length) = i
      have hin := bsr_in (fun h => !ltA lt (P ++ (X ++ ([y] ++ S))) (P.length + X.length) h) (P.length + X.length - P.length) P.length (P.length + X.length) (by omega)
      have hsp := bsr_spec (fun h => !ltA lt (P ++ (X ++ ([y] ++ S))) (P.length + X.length) h) (P.length + X.length - P.length) P.length (P.length + X.length) P.length (P.length + X.length) (Nat.le_refl _) (by omega) (by omega) (by omega)
      rw [hi] at hin hsp
      have hX12 : X = X.take (i - P.length) ++ X.drop (i - P.length) := (List.take_append_drop _ _).symm
      have hl1 : (X.take (i - P.length)).length = i - P.length := by rw [List.length_take]; omega
      generalize X.take (i - P.length) = X1 at *
      generalize X.drop (i - P.length) = X2 at *
      subst hX12
      have hy0 : (P ++ (X1 ++ X2 ++ ([y] ++ S)))[P.length + (X1 ++ X2).length]? = some y := get_mid P (X1 ++ X2) S y
      have hXa := List.pairwise_append.1 hX
      have hlo : ∀ x ∈ X1, key x ≤ key y := by
        rcases List.eq_nil_or_concat X1 with rfl | ⟨X1', x', rfl⟩
        · simp
        · rw [List.concat_eq_append] at *
          have hx' : (P ++ (X1' ++ [x'] ++ X2 ++ ([y] ++ S)))[i - 1]? = some x' := by
            have := get_mid P X1' (X2 ++ ([y] ++ S)) x'
            rw [List.length_append, List.length_singleton] at hl1
            rw [show i - 1 = P.length + X1'.length from by omega, ← this]
            simp
          have hp := hsp.1 (by rw [List.length_append, List.length_singleton] at hl1; omega)
          rw [hltA hy0 hx', Bool.not_eq_true'] at hp
          have hp := of_decide_eq_false hp
          intro x hx
          exact Int.le_trans (srt_le_last hXa.1 x hx) (by omega)
      have hhi : ∀ x ∈ X2, key y < key x := by
        cases X2 with
        | nil => simp
        | cons x' X2 =>
          have hx' : (P ++ (X1 ++ x' :: X2 ++ ([y] ++ S)))[i]? = some x' := by
            have := get_mid P X1 (X2 ++ ([y] ++ S)) x'
            rw [show i = P.length + X1.length from by omega, ← this]
            simp
          have hp := hsp.2 (by rw [List.length_append, List.length_cons]; omega)
          rw [hltA hy0 hx', Bool.not_eq_false'] at hp
          have hp := of_decide_eq_true hp
          intro x hx
          exact Int.lt_of_lt_of_le hp (srt_le_head hXa.2.1 x hx)
      have hmv := mvD_mid y X2.length X2 (P ++ X1) S rfl
      refine ⟨X1 ++ y :: X2, ?_, ?_, ?_, ?_⟩
      · rw [show P.length + (X1 ++ X2).length - i = X2.length from by rw [List.length_append]; omega, show P ++ (X1 ++ X2 ++ ([y] ++ S)) = P ++ X1 ++ (X2 ++ y :: S) from by simp, show P.length + (X1 ++ X2).length = (P ++ X1).length + X2.length from by rw [List.length_append, List.length_append]; omega, hmv]; simp
      · refine List.pairwise_append.2 ⟨hXa.1, List.pairwise_cons.2 ⟨fun x hx => Int.le_of_lt (hhi x hx), hXa.2.1⟩, ?_⟩
        intro x hx z hz
        rcases List.mem_cons.1 hz with rfl | hz
        · exact hlo x hx
        · exact hXa.2.2 x hx z hz
      · have e1 : StEq key ([y] ++ X2) (X2 ++ [y]) := (StEq.swap (key := key) (a := X2) (b := [y]) (by intro z hz x hx; rw [List.mem_singleton.1 hx]; exact hhi z hz)).symm
        have e2 := (StEq.refl (key := key) X1).app e1
        intro k
        have := e2 k
        simpa [List.append_assoc] using this
      · simp; omega
    rw [if_neg hy1]
    generalize ha : P.length = a at *
    generalize hm : a + X.length = m at *
    generalize hb : m + Y.length = b at *
    generalize hmid : (a + b) / 2 = mid at *
    have hsin := symS_in lt (P ++ (X ++ (Y ++ S))) (a := a) (m := m) (b := b) (by omega) (by omega)
    rw [hmid] at hsin
    have hsp : (a < symS lt (P ++ (X ++ (Y ++ S))) a m b → mid + m - symS lt (P ++ (X ++ (Y ++ S))) a m b < b → ltA lt (P ++ (X ++ (Y ++ S))) (mid + m - symS lt (P ++ (X ++ (Y ++ S))) a m b) (symS lt (P ++ (X ++ (Y ++ S))) a m b - 1) = false) ∧
        (symS lt (P ++ (X ++ (Y ++ S))) a m b < m → m < mid + m - symS lt (P ++ (X ++ (Y ++ S))) a m b → ltA lt (P ++ (X ++ (Y ++ S))) (mid + m - symS lt (P ++ (X ++ (Y ++ S))) a m b - 1) (symS lt (P ++ (X ++ (Y ++ S))) a m b) = true) := by
      unfold symS
      rw [hmid]
      generalize P ++ (X ++ (Y ++ S)) = l at *
      split
      · have := bsr_spec (fun c => !ltA lt l (mid + m - 1 - c) c) (mid - (mid + m - b)) (mid + m - b) mid (mid + m - b) mid (Nat.le_refl _) (by omega) (by omega) (by omega)
        have hin := bsr_in (fun c => !ltA lt l (mid + m - 1 - c) c) (mid - (mid + m - b)) (mid + m - b) mid (by omega)
        generalize bsr (fun c => !ltA lt l (mid + m - 1 - c) c) (mid - (mid + m - b)) (mid + m - b) mid = s at *
        rw [Bool.not_eq_true', Bool.not_eq_false'] at this
        refine ⟨fun g1 g2 => ?_, fun g1 g2 => ?_⟩
        · rw [show mid + m - s = mid + m - 1 - (s - 1) from by omega]; exact this.1 (by omega)
        · rw [show mid + m - s - 1 = mid + m - 1 - s from by omega]; exact this.2 (by omega)
      · have := bsr_spec (fun c => !ltA lt l (mid + m - 1 - c) c) (m - a) a m a m (Nat.le_refl _) (by omega) (by omega) (by omega)
        have hin := bsr_in (fun c => !ltA lt l (mid + m - 1 - c) c) (m - a) a m (by omega)
        generalize bsr (fun c => !ltA lt l (mid + m - 1 - c) c) (m - a) a m = s at *
        rw [Bool.not_eq_true', Bool.not_eq_false'] at this
        refine ⟨fun g1 g2 => ?_, fun g1 g2 => ?_⟩
        · rw [show mid + m - s = mid + m - 1 - (s - 1) from by omega]; exact this.1 (by omega)
        · rw [show mid + m - s - 1 = mid + m - 1 - s from by omega]; exact this.2 (by omega)
    have hR : symR lt (P ++ (X ++ (Y ++ S))) a m b = if symS lt (P ++ (X ++ (Y ++ S))) a m b < m ∧ m < mid + m - symS lt (P ++ (X ++ (Y ++ S))) a m b then rotT (P ++ (X ++ (Y ++ S))) (symS lt (P ++ (X ++ (Y ++ S))) a m b) m (mid + m - symS lt (P ++ (X ++ (Y ++ S))) a m b) else P ++ (X ++ (Y ++ S)) := by unfold symR; rw [hmid]
    generalize symS lt (P ++ (X ++ (Y ++ S))) a m b = s at *
    generalize symR lt (P ++ (X ++ (Y ++ S))) a m b = R at *
    generalize he : mid + m - s = e at *
    have hX12 : X = X.take (s - a) ++ X.drop (s - a) := (List.take_append_drop _ _).symm
    have hlX1 : (X.take (s - a)).length = s - a := by rw [List.length_take]; omega
    have hlX2 : (X.drop (s - a)).length = m - s := by rw [List.length_drop]; omega
    have hY12 : Y = Y.take (e - m) ++ Y.drop (e - m) := (List.take_append_drop _ _).symm
    have hlY1 : (Y.take (e - m)).length = e - m := by rw [List.length_take]; omega
    have hlY2 : (Y.drop (e - m)).length = b - e := by rw [List.length_drop]; omega
    generalize X.take (s - a) = X1 at *
    generalize X.drop (s - a) = X2 at *
    generalize Y.take (e - m) = Y1 at *
    generalize Y.drop (e - m) = Y2 at *
    subst hX12 hY12
    have hXa := List.pairwise_append.1 hX
    have hYa := List.pairwise_append.1 hY
    have hXY : ∀ x ∈ X1, ∀ y ∈ Y2, key x ≤ key y := by
      rcases List.eq_nil_or_concat X1 with rfl | ⟨X1', x', rfl⟩
      · simp
      rw [List.concat_eq_append] at *
      cases Y2 with
      | nil => simp
      | cons y' Y2 =>
        rw [List.length_append, List.length_singleton] at hlX1
        rw [List.length_cons] at hlY2
        have hx' : (P ++ (X1' ++ [x'] ++ X2 ++ (Y1 ++ y' :: Y2 ++ S)))[s - 1]? = some x' := by
          have := get_mid P X1' (X2 ++ (Y1 ++ y' :: Y2 ++ S)) x'
          rw [show s - 1 = P.length + X1'.length from by omega, ← this]
          simp
        have hy' : (P ++ (X1' ++ [x'] ++ X2 ++ (Y1 ++ y' :: Y2 ++ S)))[e]? = some y' := by
          have := get_mid P (X1' ++ [x'] ++ X2 ++ Y1) (Y2 ++ S) y'
          rw [List.length_append, List.length_append, List.length_append, List.length_singleton] at this
          rw [show e = P.length + (X1'.length + 1 + X2.length + Y1.length) from by omega, ← this]
          simp
        have hp := hsp.1 (by omega) (by omega)
        rw [hltA hy' hx'] at hp
        have hp := of_decide_eq_false hp
        intro x hx y hy
        have g1 := srt_le_last hXa.1 x hx
        have g2 := srt_le_head hYa.2.1 y hy
        omega
    have hYX : ∀ x ∈ X2, ∀ y ∈ Y1, key y < key x := by
      rcases List.eq_nil_or_concat Y1 with rfl | ⟨Y1', y', rfl⟩
      · simp
      rw [List.concat_eq_append] at *
      cases X2 with
      | nil => simp
      | cons x' X2 =>
        rw [List.length_append, List.length_singleton] at hlY1
        rw [List.length_cons] at hlX2
        have hx' : (P ++ (X1 ++ x' :: X2 ++ (Y1' ++ [y'] ++ Y2 ++ S)))[s]? = some x' := by
          have := get_mid P X1 (X2 ++ (Y1' ++ [y'] ++ Y2 ++ S)) x'
          rw [show s = P.length + X1.length from by omega, ← this]
          simp
        have hy' : (P ++ (X1 ++ x' :: X2 ++ (Y1' ++ [y'] ++ Y2 ++ S)))[e - 1]? = some y' := by
          have := get_mid P (X1 ++ x' :: X2 ++ Y1') (Y2 ++ S) y'
          rw [List.length_append, List.length_append, List.length_cons] at this
          rw [show e - 1 = P.length + (X1.length + (X2.length + 1) + Y1'.length) from by omega, ← this]
          simp
        have hp := hsp.2 (by omega) (by omega)
        rw [hltA hy' hx'] at hp
        have hp := of_decide_eq_true hp
        intro x hx y hy
        have g1 := srt_le_head hXa.2.1 x hx
        have g2 := srt_le_last hYa.1 y hy
        omega
    have hR2 : R = P ++ (X1 ++ (Y1 ++ (X2 ++ (Y2 ++ S)))) := by
      rw [hR]
      by_cases hc : s < m ∧ m < e
      · rw [if_pos hc]
        have := rotT_mid (P ++ X1) X2 Y1 (Y2 ++ S) (by omega) (by omega)
        rw [List.length_append] at this
        rw [show P ++ (X1 ++ X2 ++ (Y1 ++ Y2 ++ S)) = P ++ X1 ++ (X2 ++ (Y1 ++ (Y2 ++ S))) from by simp, show s = P.length + X1.length from by omega, show m = P.length + X1.length + X2.length from by omega, show e = P.length + X1.length + X2.length + Y1.length from by omega, this]
        simp
      · rw [if_neg hc]
        by_cases h0 : s < m
        · have : Y1 = [] := List.eq_nil_of_length_eq_zero (by omega)
          subst this; simp
        · have : X2 = [] := List.eq_nil_of_length_eq_zero (by omega)
          subst this; simp
    clear hR hsp
    have h1st : ∃ Z1, (if a < s ∧ s < mid then symM lt f R a s mid else R) = P ++ (Z1 ++ (X2 ++ (Y2 ++ S))) ∧ Srt key Z1 ∧ StEq key Z1 (X1 ++ Y1) ∧ Z1.length = X1.length + Y1.length := by
      by_cases hc : a < s ∧ s < mid
      · rw [if_pos hc, hR2]
        have := symM_ok hlt f P X1 Y1 (X2 ++ (Y2 ++ S)) (by omega) (by omega) (by simp at hf; omega) hXa.1 hYa.1
        rw [show P.length = a from ha, show a + X1.length = s from by omega, show s + Y1.length = mid from by omega] at this
        exact this
      · rw [if_neg hc, hR2]
        refine ⟨X1 ++ Y1, by simp, ?_, StEq.refl _, by simp⟩
        by_cases h0 : a < s
        · have : Y1 = [] := List.eq_nil_of_length_eq_zero (by omega)
          subst this; simpa using hXa.1
        · have : X1 = [] := List.eq_nil_of_length_eq_zero (by omega)
          subst this; simpa using hYa.1
    obtain ⟨Z1, e1, s1, q1, n1⟩ := h1st
    have h2nd : ∃ Z2, (if mid < e ∧ e < b then symM lt f (P ++ (Z1 ++ (X2 ++ (Y2 ++ S)))) mid e b else P ++ (Z1 ++ (X2 ++ (Y2 ++ S)))) = P ++ (Z1 ++ (Z2 ++ S)) ∧ Srt key Z2 ∧ StEq key Z2 (X2 ++ Y2) ∧ Z2.length = X2.length + Y2.length := by
      by_cases hc : mid < e ∧ e < b
      · rw [if_pos hc]
        have := symM_ok hlt f (P ++ Z1) X2 Y2 S (by omega) (by omega) (by simp at hf; omega) hXa.2.1 hYa.2.1
        rw [show (P ++ Z1).length = mid from by rw [List.length_append]; omega, show mid + X2.length = e from by omega, show e + Y2.length = b from by omega] at this
        simpa using this
      · rw [if_neg hc]
        refine ⟨X2 ++ Y2, by simp, ?_, StEq.refl _, by simp⟩
        by_cases h0 : mid < e
        · have : Y2 = [] := List.eq_nil_of_length_eq_zero (by omega)
          subst this; simpa using hXa.2.1
        · have : X2 = [] := List.eq_nil_of_length_eq_zero (by omega)
          subst this; simpa using hYa.2.1
    obtain ⟨Z2, e2, s2, q2, n2⟩ := h2nd
    dsimp only
    rw [e1, e2]
    refine ⟨Z1 ++ Z2, by simp, List.pairwise_append.2 ⟨s1, s2, ?_⟩, ?_, by simp; omega⟩
    · intro z1 h1 z2 h2
      rcases List.mem_append.1 (q1.mem h1) with g1 | g1 <;> rcases List.mem_append.1 (q2.mem h2) with g2 | g2
      · exact hXa.2.2 _ g1 _ g2
      · exact hXY _ g1 _ g2
      · exact Int.le_of_lt (hYX _ g2 _ g1)
      · exact hYa.2.2 _ g1 _ g2
    · have q := q1.app q2
      have qs : StEq key (X2 ++ Y1) (Y1 ++ X2) := StEq.swap hYX
      have q3 := ((StEq.refl (key := key) X1).app qs).app (StEq.refl Y2)
      intro k
      have r1 := q k
      have r2 := q3 k
      simp only [List.filter_append, List.append_assoc] at r1 r2 ⊢
      rw [r1, ← r2]
end
end Go.Proofs.Ytabejnjnkpdjbaa.Sim

/- The sorted row is one: insertion's; runs, and runs of runs. -/
namespace Go.Proofs.Ytabejnjnkpdjbaa.Sim
set_option linter.unusedVariables false
set_option linter.unusedSimpArgs false
open Go.RowKit Mem
theorem insV_dsc (x : PTk) : ∀ (l : List PTk), (l.Pairwise fun a b => b.n ≤ a.n) → ((insV x l).Pairwise fun a b => b.n ≤ a.n)
  | [], _ => List.pairwise_singleton _ _
  | y :: l, h => by
    have hc := List.pairwise_cons.1 h
    unfold insV
    split
    · rename_i hlt
      refine List.pairwise_cons.2 ⟨?_, insV_dsc x l hc.2⟩
      have key : ∀ (l : List PTk) (z : PTk), z ∈ insV x l → z = x ∨ z ∈ l := by
        intro l
        induction l with
        | nil => intro z hz; exact .inl (List.mem_singleton.1 hz)
        | cons w l ih =>
          intro z hz
          unfold insV at hz
          split at hz
          · rcases List.mem_cons.1 hz with e | e
            · exact .inr (by rw [e]; simp)
            · rcases ih z e with e | e
              · exact .inl e
              · exact .inr (by simp [e])
          · rcases List.mem_cons.1 hz with e | e
            · exact .inl e
            · exact .inr e
      intro z hz
      rcases key l z hz with rfl | e
      · omega
      · exact hc.1 z e
    · rename_i hlt
      refine List.pairwise_cons.2 ⟨?_, h⟩
      intro z hz
      rcases List.mem_cons.1 hz with rfl | e
      · omega
      · have := hc.1 z e; omega
theorem insV_filter (x : PTk) (k : Int) : ∀ (l : List PTk), (insV x l).filter (fun z => decide (z.n = k)) = if x.n = k then x :: l.filter (fun z => decide (z.n = k)) else l.filter (fun z => decide (z.n = k))
  | [] => by
    show [x].filter _ = _
    by_cases h : x.n = k
    · rw [if_pos h, List.filter_cons_of_pos (by simp [h])]
    · rw [if_neg h, List.filter_cons_of_neg (by simp [h])]
  | y :: l => by
    unfold insV
    by_cases hlt : x.n < y.n
    · rw [if_pos hlt]
      by_cases hy : y.n = k
      · rw [List.filter_cons_of_pos (by simp [hy]), insV_filter x k l, List.filter_cons_of_pos (by simp [hy]), if_neg (by omega), if_neg (by omega)]
      · rw [List.filter_cons_of_neg (by simp [hy]), insV_filter x k l, List.filter_cons_of_neg (by simp [hy])]
    · rw [if_neg hlt]
      by_cases h : x.n = k
      · rw [if_pos h, List.filter_cons_of_pos (by simp [h])]
      · rw [if_neg h, List.filter_cons_of_neg (by simp [h])]
theorem isV_dsc (l : List PTk) : (isV l).Pairwise fun a b => b.n ≤ a.n := by
  have key : ∀ (l acc : List PTk), (acc.Pairwise fun a b => b.n ≤ a.n) → ((l.foldl (fun acc x => insV x acc) acc).Pairwise fun a b => b.n ≤ a.n) := by
    intro l
    induction l with
    | nil => intro acc h; exact h
    | cons x l ih => intro acc h; exact ih _ (insV_dsc x acc h)
  exact key l [] List.Pairwise.nil
theorem isV_filter (k : Int) (l : List PTk) : (isV l).filter (fun z => decide (z.n = k)) = (l.filter (fun z => decide (z.n = k))).reverse := by
  have key : ∀ (l acc : List PTk), (l.foldl (fun acc x => insV x acc) acc).filter (fun z => decide (z.n = k)) = (l.filter (fun z => decide (z.n = k))).reverse ++ acc.filter (fun z => decide (z.n = k)) := by
    intro l
    induction l with
    | nil => intro acc; rfl
    | cons x l ih =>
      intro acc
      rw [List.foldl_cons, ih, insV_filter]
      by_cases h : x.n = k
      · rw [if_pos h, List.filter_cons_of_pos (by simp [h])]; simp
      · rw [if_neg h, List.filter_cons_of_neg (by simp [h])]
  unfold isV
  rw [key]; simp
abbrev SrtK (l : List PTk) : Prop := Srt PTk.n l
abbrev StK (a b : List PTk) : Prop := StEq PTk.n a b
theorem isort_srt (l : List PTk) : SrtK (isort l) := by
  unfold isort SrtK Srt
  rw [List.pairwise_reverse]
  exact isV_dsc l
theorem isort_st (l : List PTk) : StK (isort l) l := fun k => by
  unfold isort
  rw [List.filter_reverse, isV_filter, List.reverse_reverse]
theorem isort_eq {z l : List PTk} (h : SrtK z) (g : StK z l) : z = isort l := StEq.eq (g.trans (isort_st l).symm) h (isort_srt l)
inductive Ch (w : Nat) : List PTk → Prop
  | last {s : List PTk} : s.length ≤ w → SrtK s → Ch w s
  | cons {s r : List PTk} : s.length = w → SrtK s → Ch w r → Ch w (s ++ r)
inductive ChF (w : Nat) : List PTk → Prop
  | nil : ChF w []
  | cons {s r : List PTk} : s.length = w → SrtK s → ChF w r → ChF w (s ++ r)
theorem ChF.snoc {w : Nat} {d s : List PTk} (h : ChF w d) (hs : s.length = w) (hS : SrtK s) : ChF w (d ++ s) := by
  induction h with
  | nil => simpa using ChF.cons hs hS ChF.nil
  | cons a b c ih => rw [List.append_assoc]; exact .cons a b ih
theorem ChF.app {w : Nat} {d r : List PTk} (h : ChF w d) (g : Ch w r) : Ch w (d ++ r) := by
  induction h with
  | nil => exact g
  | cons a b c ih => rw [List.append_assoc]; exact .cons a b ih
theorem Ch.one {w : Nat} {l : List PTk} (h : Ch w l) (hl : l.length ≤ w) : SrtK l := by
  cases h with
  | last a b => exact b
  | @cons s r a b c =>
    rw [List.length_append] at hl
    have : r = [] := List.eq_nil_of_length_eq_zero (by omega)
    subst this
    simpa using b
theorem Ch.two {w : Nat} {l : List PTk} (h : Ch w l) (hl : w < l.length) (hw : 0 < w) : ∃ X Y R, l = X ++ (Y ++ R) ∧ X.length = w ∧ SrtK X ∧ SrtK Y ∧ Ch w R ∧ 0 < Y.length ∧ (Y.length = w ∨ (Y.length < w ∧ R = [])) := by
  cases h with
  | last a b => omega
  | @cons s r a b c =>
    rw [List.length_append] at hl
    cases c with
    | last a2 b2 =>
      refine ⟨s, r, [], by simp, a, b, b2, .last (Nat.zero_le _) List.Pairwise.nil, by omega, ?_⟩
      rcases Nat.lt_or_eq_of_le a2 with g | g
      · exact .inr ⟨g, rfl⟩
      · exact .inl g
    | @cons s2 r2 a2 b2 c2 => exact ⟨s, s2, r2, rfl, a, b, b2, c2, by omega, .inl a2⟩
theorem ltK_key (x y : PTk) : ltK x y = decide (x.n < y.n) := by
  unfold ltK
  by_cases h : x.n < y.n
  · rw [decide_eq_true h, decide_eq_true (cmpU_lt h)]
  · rw [decide_eq_false h, decide_eq_false (cmpU_ge h)]
theorem symK_ok (f : Nat) (P X Y S : List PTk) (h1 : 0 < X.length) (h2 : 0 < Y.length) (hf : X.length + Y.length ≤ f) (hX : SrtK X) (hY : SrtK Y) :
    ∃ Z, symM ltK f (P ++ (X ++ (Y ++ S))) P.length (P.length + X.length) (P.length + X.length + Y.length) = P ++ (Z ++ S) ∧ SrtK Z ∧ StK Z (X ++ Y) ∧ Z.length = X.length + Y.length := symM_ok ltK_key f P X Y S h1 h2 hf hX hY
end Go.Proofs.Ytabejnjnkpdjbaa.Sim

/- Sorting, of up to 2000. -/
namespace Go.Proofs.Ytabejnjnkpdjbaa.Sim
set_option linter.unusedVariables false
set_option linter.unusedSimpArgs false
open Go.RowKit Mem
structure StX where
  a : Nat
  D : List PTk
  R : List PTk
structure StOk (N w v : Nat) (xs : List PTk) (z : StX) : Prop where
  a : z.a = z.D.length
  n : N = z.a + z.R.length
  ch : ChF w z.D
  rs : v = 0 ∨ Ch v z.R
  st : StK (z.D ++ z.R) xs
structure StB where
  w : Nat
  L : List PTk
structure StBOk (N : Nat) (xs : List PTk) (z : StB) : Prop where
  lo : 20 ≤ z.w
  hi : z.w ≤ 4020
  n : N = z.L.length
  ch : Ch z.w z.L
  st : StK z.L xs
def SSc (N w : Nat) (z : StX) (b : Nat) : St := ⟨[(0, .own 2000 N), (1, .t (i64T (N : Int))), (2, .t (.clo 57 [])), (6, .t (i64T (w : Int))), (7, .t (i64T (z.a : Int))), (8, .t (i64T ((b + z.a : Nat) : Int)))], [], [(2000, ⟨46, 4, (z.D ++ z.R).map takR⟩)]⟩
def SSb (N : Nat) (z : StB) : St := ⟨[(0, .own 2000 N), (1, .t (i64T (N : Int))), (2, .t (.clo 57 [])), (6, .t (i64T (z.w : Int)))], [], [(2000, ⟨46, 4, z.L.map takR⟩)]⟩
set_option maxRecDepth 100000 in
set_option maxHeartbeats 4000000 in
theorem stableN_ (N : Nat) (xs : List PTk) (hN : N = xs.length) (hb : N ≤ 2000) : LCalls Try.prog 111 [.own 2000 N, .t (i64T (N : Int)), .t (.clo 57 [])] [] [(2000, ⟨46, 4, xs.map takR⟩)] (resA []) [] [(2000, ⟨46, 4, (isort xs).map takR⟩)] := by
  refine lcalls_of Try.func111 rfl rfl Try.ntmps111 rfl ?_
  repeat' (first | refine rg 0 (aq0 ?_) | (refine rg 1 ?_; refine oMv ?_; refine oAs ?_; refine oAs ?_; refine oN ?_) | refine gc ?_ | refine ct ?_ | refine cf ?_ | refine sc ?_ ?_ <;> intro hc | refine rq rfl .nil ?_)
  refine swp_fam (fun z : StX => SSc N 20 z 20) (StOk N 20 0 xs) (fun z => z.R.length) ⟨0, [], xs⟩ (weak_sub (.cons rfl rfl rfl (.cons rfl rfl rfl (.cons rfl rfl rfl (.cons rfl rfl rfl (.cons rfl rfl rfl (.cons rfl rfl rfl .nil)))))) .nil (.cons rfl rfl .nil)) ⟨rfl, by simpa using hN, .nil, .inl rfl, StEq.refl _⟩ ?_
  rintro ⟨a, D, R⟩ ⟨ha, hn, hch, _, hst⟩
  dsimp only at ha hn hch hst
  unfold SSc
  dsimp only
  have hlen : ((D ++ R).map takR).length = N := by rw [List.length_map, List.length_append, hn, ha]
  by_cases h20 : a + 20 ≤ N
  · have hI : ((20 + a : Nat) : Int) ≤ ((N : Nat) : Int) := by omega
    have hR : R = R.take 20 ++ R.drop 20 := (List.take_append_drop _ _).symm
    have hsl : (R.take 20).length = 20 := by rw [List.length_take]; omega
    have hdl : (R.drop 20).length = R.length - 20 := List.length_drop
    generalize R.take 20 = seg at *
    generalize R.drop 20 = R2 at *
    subst hR
    have c1 := insS_ N D seg R2 (by rw [List.length_append, hn, ha]) hb
    have hil := isort_len seg
    rw [hsl, ← ha, ← List.append_assoc D (isort seg) R2, Nat.add_comm a 20] at c1
    have hln : ((D ++ isort seg ++ R2).map takR).length = ((D ++ (seg ++ R2)).map takR).length := by simp only [List.length_map, List.length_append, hil]; omega
    repeat' (first | refine fam_next (StX.mk (20 + a) (D ++ isort seg) R2) (by show R2.length < (seg ++ R2).length; rw [List.length_append]; omega) (weak_sub (.cons rfl rfl rfl (.cons rfl rfl rfl (.cons rfl rfl rfl (.cons rfl rfl rfl (.cons rfl rfl rfl (.cons rfl rfl rfl .nil)))))) .nil (.cons rfl rfl .nil)) ⟨by show 20 + a = (D ++ isort seg).length; rw [List.length_append]; omega, by show N = 20 + a + R2.length; rw [List.length_append] at hn; omega, hch.snoc (by omega) (isort_srt seg), .inl rfl, by show StK (D ++ isort seg ++ R2) xs; rw [List.append_assoc]; exact ((StEq.refl D).app ((isort_st seg).app (StEq.refl R2))).trans hst⟩ | refine rg 2 (aq42 ?_) | (refine rg 3 ?_; refine oMv ?_; refine oMv ?_; refine oMv ?_; refine oMv ?_; refine sops_lcall (c1) (fun i => i) (fun i => i) (fun i => Nat.beq i 2000) (.free rfl rfl) rfl rfl rfl (by ((repeat' (first | exact .nil | refine .cons rfl rfl rfl ?_)) <;> fail)) .nil (.cons rfl rfl .nil) rfl rfl (kp_id 2000 rfl rfl rfl (by first | rfl | assumption)) ?_; refine oN ?_) | refine rg 4 (aq8 ?_) | (refine rg 5 (aq16 ?_); (refine sp (po_arith (c := ((20 + (20 + a) : Nat) : Int)) rfl rfl rfl (ar_add (by refine wrap_i64 ?_; omega) (by omega))) ?_); refine aq0 ?_) | refine gc ?_ | refine ct ?_)
  have hI : ¬ ((20 + a : Nat) : Int) ≤ ((N : Nat) : Int) := by omega
  have c1 := insS_ N D R [] (by rw [List.length_append, List.append_nil, hn, ha]) hb
  rw [← ha, ← hn, List.append_nil, List.append_nil] at c1
  have hil := isort_len R
  have hln : ((D ++ isort R).map takR).length = ((D ++ R).map takR).length := by simp only [List.length_map, List.length_append, hil]
  repeat' (first | refine fam_exit ?_ | refine rg 2 (aq42 ?_) | (refine rg 6 ?_; refine oMv ?_; refine oMv ?_; refine oMv ?_; refine oMv ?_; refine sops_lcall (c1) (fun i => i) (fun i => i) (fun i => Nat.beq i 2000) (.free rfl rfl) rfl rfl rfl (by ((repeat' (first | exact .nil | refine .cons rfl rfl rfl ?_)) <;> fail)) .nil (.cons rfl rfl .nil) rfl rfl (kp_id 2000 rfl rfl rfl (by first | rfl | assumption)) ?_; refine oN ?_) | refine gc ?_ | refine ct ?_ | refine cf ?_ | refine sc ?_ ?_ <;> intro hc | refine rq rfl .nil ?_)
  have hst1 : StK (D ++ isort R) xs := ((StEq.refl D).app (isort_st R)).trans hst
  have hch1 : Ch 20 (D ++ isort R) := hch.app (.last (by omega) (isort_srt R))
  have hn1 : N = (D ++ isort R).length := by rw [List.length_append]; omega
  generalize D ++ isort R = L0 at *
  clear hch hst hI h20 hlen c1
  refine swp_fam (SSb N) (StBOk N xs) (fun z => N - z.w) ⟨20, L0⟩ (weak_sub (.cons rfl rfl rfl (.cons rfl rfl rfl (.cons rfl rfl rfl (.cons rfl rfl rfl .nil)))) .nil (.cons rfl rfl .nil)) ⟨Nat.le_refl _, by show 20 ≤ 4020; omega, hn1, hch1, hst1⟩ ?_
  clear hln hn hil ha hch1 hst1 hn1
  rintro ⟨w, L⟩ ⟨hw0, hw1, hLn, hLc, hLs⟩
  dsimp only at hw0 hw1 hLn hLc hLs
  unfold SSb
  dsimp only
  by_cases hwN : w < N
  · have hI : ((w : Nat) : Int) < ((N : Nat) : Int) := by omega
    repeat' (first | refine rg 7 (aq42 ?_) | (refine rg 8 ?_; refine oMv ?_; (refine sp (po_arith (c := ((2 * w : Nat) : Int)) rfl rfl rfl (ar_mul (by refine wrap_i64 ?_; omega) (by omega))) ?_); refine aq19 ?_) | refine gc ?_ | refine ct ?_ | refine cf ?_ | refine sc ?_ ?_ <;> intro hc | refine rq rfl .nil ?_)
    refine swp_fam (fun z : StX => SSc N w z (2 * w)) (StOk N (2 * w) w xs) (fun z => z.R.length) ⟨0, [], L⟩ (weak_sub (.cons rfl rfl rfl (.cons rfl rfl rfl (.cons rfl rfl rfl (.cons rfl rfl rfl (.cons rfl rfl rfl (.cons rfl rfl rfl .nil)))))) .nil (.cons rfl rfl .nil)) ⟨rfl, by simpa using hLn, .nil, .inr hLc, hLs⟩ ?_
    rintro ⟨a, D, R⟩ ⟨ha, hn, hch, hrs, hst⟩
    dsimp only at ha hn hch hrs hst
    have hrs : Ch w R := by rcases hrs with h | h; omega; exact h
    unfold SSc
    dsimp only
    by_cases h2 : a + 2 * w ≤ N
    · have hJ : ((2 * w + a : Nat) : Int) ≤ ((N : Nat) : Int) := by omega
      obtain ⟨X, Y, R2, rfl, hX, hXs, hYs, hR2, hY0, hY⟩ := hrs.two (by omega) (by omega)
      have hYl : Y.length = w := by
        rcases hY with h | ⟨h, rfl⟩
        · exact h
        · rw [List.length_append, List.length_append, List.length_nil] at hn; omega
      obtain ⟨Z, hZ, hZs, hZe, hZl⟩ := symK_ok N D X Y R2 (by omega) (by omega) (by rw [List.length_append, List.length_append] at hn; omega) hXs hYs
      have c1 := symMerge_ N hb N (D ++ (X ++ (Y ++ R2))) D.length (D.length + X.length) (D.length + X.length + Y.length) (by rw [List.length_append, hn, ha]) (by omega) (by omega) (by rw [List.length_append, List.length_append] at hn; omega) (by omega)
      rw [hZ, hX, hYl, ← ha, ← List.append_assoc D Z R2, show a + w + w = 2 * w + a from by omega] at c1
      unfold symC at c1
      have hln : ((D ++ Z ++ R2).map takR).length = ((D ++ (X ++ (Y ++ R2))).map takR).length := by simp only [List.length_map, List.length_append, hZl]; omega
      repeat' (first | refine fam_next (StX.mk (2 * w + a) (D ++ Z) R2) (by show R2.length < (X ++ (Y ++ R2)).length; rw [List.length_append, List.length_append]; omega) (weak_sub (.cons rfl rfl rfl (.cons rfl rfl rfl (.cons rfl rfl rfl (.cons rfl rfl rfl (.cons rfl rfl rfl (.cons rfl rfl rfl .nil)))))) .nil (.cons rfl rfl .nil)) ⟨by show 2 * w + a = (D ++ Z).length; rw [List.length_append]; omega, by show N = 2 * w + a + R2.length; rw [List.length_append, List.length_append] at hn; omega, hch.snoc (by omega) hZs, .inr hR2, by show StK (D ++ Z ++ R2) xs; rw [List.append_assoc]; refine StEq.trans ((StEq.refl D).app (hZe.app (StEq.refl R2))) ?_; rw [List.append_assoc]; exact hst⟩ | refine rg 9 (aq42 ?_) | (refine rg 10 ?_; refine oMv ?_; refine oMv ?_; refine oMv ?_; refine oMv ?_; (refine sp (po_arith (c := ((a + w : Nat) : Int)) rfl rfl rfl (ar_add (by refine wrap_i64 ?_; omega) (by omega))) ?_); refine aq16 ?_; refine sops_lcall (c1) (fun i => i) (fun i => i) (fun i => Nat.beq i 2000) (.free rfl rfl) rfl rfl rfl (by ((repeat' (first | exact .nil | refine .cons rfl rfl rfl ?_)) <;> fail)) .nil (.cons rfl rfl .nil) rfl rfl (kp_id 2000 rfl rfl rfl (by first | rfl | assumption)) ?_; refine oN ?_) | refine rg 11 (aq8 ?_) | (refine rg 12 (aq16 ?_); (first | refine sp (po_arith (c := ((a + w : Nat) : Int)) rfl rfl rfl (ar_add (by refine wrap_i64 ?_; omega) (by omega))) ?_ | refine sp (po_arith (c := ((2 * w : Nat) : Int)) rfl rfl rfl (ar_mul (by refine wrap_i64 ?_; omega) (by omega))) ?_); (first | refine sp (po_arith (c := ((a + w : Nat) : Int)) rfl rfl rfl (ar_add (by refine wrap_i64 ?_; omega) (by omega))) ?_ | refine sp (po_arith (c := ((2 * w : Nat) : Int)) rfl rfl rfl (ar_mul (by refine wrap_i64 ?_; omega) (by omega))) ?_ | refine sp (po_arith (c := ((2 * w + (2 * w + a) : Nat) : Int)) rfl rfl rfl (ar_add (by refine wrap_i64 ?_; omega) (by omega))) ?_); refine aq0 ?_) | refine gc ?_ | refine ct ?_)
    have hJ : ¬ ((2 * w + a : Nat) : Int) ≤ ((N : Nat) : Int) := by omega
    by_cases hm : a + w < N
    · have hmI : ((a + w : Nat) : Int) < ((N : Nat) : Int) := by omega
      obtain ⟨X, Y, R2, rfl, hX, hXs, hYs, hR2, hY0, hY⟩ := hrs.two (by omega) (by omega)
      have hR0 : R2 = [] := by
        rcases hY with h | ⟨h, h2⟩
        · exact List.eq_nil_of_length_eq_zero (by rw [List.length_append, List.length_append] at hn; omega)
        · exact h2
      subst hR0
      rw [List.append_nil] at hn hst ⊢
      rw [List.length_append] at hn
      obtain ⟨Z, hZ, hZs, hZe, hZl⟩ := symK_ok N D X Y [] (by omega) (by omega) (by omega) hXs hYs
      rw [List.append_nil, List.append_nil] at hZ
      have c1 := symMerge_ N hb N (D ++ (X ++ Y)) D.length (D.length + X.length) (D.length + X.length + Y.length) (by rw [List.length_append, List.length_append]; omega) (by omega) (by omega) (by omega) (by omega)
      rw [hZ, show D.length + X.length + Y.length = N from by omega, hX, ← ha] at c1
      unfold symC at c1
      have hln : ((D ++ Z).map takR).length = ((D ++ (X ++ Y)).map takR).length := by simp only [List.length_map, List.length_append, hZl]
      repeat' (first | refine fam_exit ?_ | refine fam_next (StB.mk (2 * w) (D ++ Z)) (by show N - 2 * w < N - w; omega) (weak_sub (.cons rfl rfl rfl (.cons rfl rfl rfl (.cons rfl rfl rfl (.cons rfl rfl rfl .nil)))) .nil (.cons rfl rfl .nil)) ⟨by show 20 ≤ 2 * w; omega, by show 2 * w ≤ 4020; omega, by show N = (D ++ Z).length; rw [List.length_append]; omega, hch.app (.last (by omega) hZs), StEq.trans ((StEq.refl D).app hZe) hst⟩ | refine rg 9 (aq42 ?_) | (refine rg 13 (aq16 ?_); (refine sp (po_arith (c := ((a + w : Nat) : Int)) rfl rfl rfl (ar_add (by refine wrap_i64 ?_; omega) (by omega))) ?_); refine aq0 ?_) | refine rg 14 (aq42 ?_) | (refine rg 15 (aq62 ?_); refine sops_lcall (c1) (fun i => i) (fun i => i) (fun i => Nat.beq i 2000) (.free rfl rfl) rfl rfl rfl (by ((repeat' (first | exact .nil | refine .cons rfl rfl rfl ?_)) <;> fail)) .nil (.cons rfl rfl .nil) rfl rfl (kp_id 2000 rfl rfl rfl (by first | rfl | assumption)) ?_; refine oN ?_) | (refine rg 16 ?_; refine oMv ?_; (first | refine sp (po_arith (c := ((a + w : Nat) : Int)) rfl rfl rfl (ar_add (by refine wrap_i64 ?_; omega) (by omega))) ?_ | refine sp (po_arith (c := ((2 * w : Nat) : Int)) rfl rfl rfl (ar_mul (by refine wrap_i64 ?_; omega) (by omega))) ?_); refine aq0 ?_) | refine gc ?_ | refine ct ?_ | refine cf ?_)
    have hmI : ¬ ((a + w : Nat) : Int) < ((N : Nat) : Int) := by omega
    have hRs : SrtK R := hrs.one (by omega)
    repeat' (first | refine fam_exit ?_ | refine fam_next (StB.mk (2 * w) (D ++ R)) (by show N - 2 * w < N - w; omega) (weak_sub (.cons rfl rfl rfl (.cons rfl rfl rfl (.cons rfl rfl rfl (.cons rfl rfl rfl .nil)))) .nil (.cons rfl rfl .nil)) ⟨by show 20 ≤ 2 * w; omega, by show 2 * w ≤ 4020; omega, by show N = (D ++ R).length; rw [List.length_append]; omega, hch.app (.last (by omega) hRs), hst⟩ | refine rg 9 (aq42 ?_) | (refine rg 13 (aq16 ?_); (refine sp (po_arith (c := ((a + w : Nat) : Int)) rfl rfl rfl (ar_add (by refine wrap_i64 ?_; omega) (by omega))) ?_); refine aq0 ?_) | refine rg 14 (aq42 ?_) | (refine rg 16 ?_; refine oMv ?_; (first | refine sp (po_arith (c := ((a + w : Nat) : Int)) rfl rfl rfl (ar_add (by refine wrap_i64 ?_; omega) (by omega))) ?_ | refine sp (po_arith (c := ((2 * w : Nat) : Int)) rfl rfl rfl (ar_mul (by refine wrap_i64 ?_; omega) (by omega))) ?_); refine aq0 ?_) | refine gc ?_ | refine ct ?_ | refine cf ?_)
  have hI : ¬ ((w : Nat) : Int) < ((N : Nat) : Int) := by omega
  have hL : L = isort xs := isort_eq (hLc.one (by omega)) hLs
  subst hL
  repeat' (first | refine fam_exit ?_ | refine rg 7 (aq42 ?_) | refine gc ?_ | refine ct ?_ | refine cf ?_ | refine sc ?_ ?_ <;> intro hc | refine retl (by first | exact .inr rfl | exact .inl rfl) rfl .nil ?_ rfl .nil (.cons rfl (by rfl) .nil))
  all_goals rfl
set_option maxRecDepth 100000 in
theorem sortN_ (N : Nat) (xs : List PTk) (hN : N = xs.length) (hb : N ≤ 2000) : LCalls Try.prog 56 [.own 2000 N, .t (.clo 57 [])] [] [(2000, ⟨46, 4, xs.map takR⟩)] (resA []) [] [(2000, ⟨46, 4, (isort xs).map takR⟩)] := by
  have c1 := stableN_ N xs hN hb
  refine lcalls_of Try.func56 rfl rfl Try.ntmps56 rfl ?_
  repeat' (first | (refine rg 0 ?_; refine oMv ?_; refine oMv ?_; refine sp (po_len_own rfl rfl (tyS rfl)) ?_; refine oMv ?_; refine sops_lcall (c1) (fun i => i) (fun i => i) (fun _ => false) (.free rfl rfl) rfl rfl rfl (by ((repeat' (first | exact .nil | refine .cons rfl rfl rfl ?_)) <;> fail)) .nil (.cons rfl rfl .nil) rfl rfl (fun _ h => Bool.noConfusion h) ?_; refine oN ?_) | refine gc ?_ | refine ct ?_ | refine cf ?_ | refine sc ?_ ?_ <;> intro hc | refine retl (by first | exact .inr rfl | exact .inl rfl) rfl .nil ?_ rfl .nil (.cons rfl (by rfl) .nil))
  all_goals rfl
end Go.Proofs.Ytabejnjnkpdjbaa.Sim

/- SortStableFunc. -/
namespace Go.Proofs.Ytabejnjnkpdjbaa.Sim
set_option linter.unusedVariables false
set_option linter.unusedSimpArgs false
open Go.RowKit Mem
abbrev sortB : Nat := 501
theorem sortS_ (xs : List PTk) (hn : xs.length ≤ sortB) : LCalls Try.prog 56 [.own 2000 xs.length, .t (.clo 57 [])] [] [(2000, ⟨46, 4, xs.map takR⟩)] (resA []) [] [(2000, ⟨46, 4, (isort xs).map takR⟩)] := sortN_ xs.length xs rfl (by unfold sortB at hn; omega)
end Go.Proofs.Ytabejnjnkpdjbaa.Sim
