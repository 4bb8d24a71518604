/- The walks of policy.Own and of what it calls. (Written by mk_own.py.) -/
import Derived.Test.YtlcecabfmemfeaaWOwn0
import Derived.Test.YtlcecabfmemfeaaWLong2
import Derived.Test.YtlcecabfmemfeaaWCloneTerm
import Derived.Test.YtlcecabfmemfeaaWCloneCidr
import Derived.Test.YtlcecabfmemfeaaWCloneInt
import Derived.Test.YtlcecabfmemfeaaMPolicySource
import Derived.Test.YtlcecabfmemfeaaMPolicyTarget
import Derived.Test.YtlcecabfmemfeaaMPolicyWhen
import Derived.Test.YtlcecabfmemfeaaMPolicyRule
namespace Go.Proofs.Ytlcecabfmemfeaa.WAuth
set_option linter.unusedVariables false
set_option linter.unusedSimpArgs false
open Go.RowKit Mem BigFrame WMatch WAddr WName Opn
theorem row_bound {r : List Pl.Term} (h : rowLong r = false) : r.length ≤ 20 := by
  unfold rowLong at h
  simp only [Bool.or_eq_false_iff, decide_eq_false_iff_not] at h
  omega
set_option maxRecDepth 100000 in
set_option maxHeartbeats 8000000 in
theorem ownSource (s : Pl.Source) (c0 c1 c2 : Value) {B : Nat} (w : World) (hB : B ≤ w.heap.size) (hs : SourceR B w s [c0, c1, c2]) (hlong : srcLong s = false) :
    Calls Try.prog 144 #[.agg #[c0, c1, c2]] w fun e w' => ∃ ya0 ya1 ya2 yk0 yk1 yk2, e = .returned (.agg #[.slice ya0 s.names.length yk0, .slice ya1 s.spaces.length yk1, .slice ya2 s.nets.length yk2]) ∧ Lo w w' ∧ New w.heap.size SourceR w' s [.slice ya0 s.names.length yk0, .slice ya1 s.spaces.length yk1, .slice ya2 s.nets.length yk2] := by
  obtain ⟨d0, d1, d2, he, ⟨A0, p0, e0, h0, l0, m0⟩, ⟨A1, p1, e1, h1, l1, m1⟩, ⟨A2, p2, e2, h2, l2, m2⟩⟩ := hs
  injection he with q0 he; injection he with q1 he; injection he with q2 he
  subst q0 q1 q2
  injection e0 with e0; injection e1 with e1; injection e2 with e2
  subst e0 e1 e2
  simp only [srcLong, termsB, List.any_cons, List.any_nil, Bool.or_eq_false_iff, decide_eq_false_iff_not] at hlong; have b0 := row_bound hlong.1.1; have b1 := row_bound hlong.1.2.1; have b2 := hlong.2
  have C0 : Hid (∀ W, Lo w W → Calls Try.prog 153 #[.slice A0 s.names.length p0] W fun e w' => ∃ A cap, e = .returned (.slice A s.names.length cap) ∧ Lo W w' ∧ New W.heap.size (SliceC TermR 2) w' s.names [.slice A s.names.length cap]) := Lib.hid fun W hW => by
    refine (WCloneTerm.clone TermR.kept A0 p0 s.names W (Nat.le_trans hB hW.size) (SliceAt.lo TermR.kept h0 hW hB) (fun x cs h => TermR.one h) (by omega)).mono ?_
    rintro e w' ⟨v, rfl, hl, hrow⟩
    obtain ⟨A, cap, rfl, hft⟩ := (hrow.flat (T' := fun b => W.heap.size ≤ b) TermR.flat).fresh
    exact ⟨A, cap, rfl, hl, hft⟩
  have C1 : Hid (∀ W, Lo w W → Calls Try.prog 153 #[.slice A1 s.spaces.length p1] W fun e w' => ∃ A cap, e = .returned (.slice A s.spaces.length cap) ∧ Lo W w' ∧ New W.heap.size (SliceC TermR 2) w' s.spaces [.slice A s.spaces.length cap]) := Lib.hid fun W hW => by
    refine (WCloneTerm.clone TermR.kept A1 p1 s.spaces W (Nat.le_trans hB hW.size) (SliceAt.lo TermR.kept h1 hW hB) (fun x cs h => TermR.one h) (by omega)).mono ?_
    rintro e w' ⟨v, rfl, hl, hrow⟩
    obtain ⟨A, cap, rfl, hft⟩ := (hrow.flat (T' := fun b => W.heap.size ≤ b) TermR.flat).fresh
    exact ⟨A, cap, rfl, hl, hft⟩
  have C2 : Hid (∀ W, Lo w W → Calls Try.prog 154 #[.slice A2 s.nets.length p2] W fun e w' => ∃ A cap, e = .returned (.slice A s.nets.length cap) ∧ Lo W w' ∧ New W.heap.size (SliceC CidrR 2) w' s.nets [.slice A s.nets.length cap]) := Lib.hid fun W hW => by
    refine (WCloneCidr.clone CidrR.kept A2 p2 s.nets W (Nat.le_trans hB hW.size) (SliceAt.lo CidrR.kept h2 hW hB) (fun x cs h => CidrR.one h) (by omega)).mono ?_
    rintro e w' ⟨v, rfl, hl, hrow⟩
    obtain ⟨A, cap, rfl, hft⟩ := (hrow.flat (T' := fun b => W.heap.size ≤ b) CidrR.flat).fresh
    exact ⟨A, cap, rfl, hl, hft⟩
  clear h0 h1 h2
  obtain ⟨n0, hn0⟩ : ∃ n, s.names.length = n := ⟨_, rfl⟩
  obtain ⟨n1, hn1⟩ : ∃ n, s.spaces.length = n := ⟨_, rfl⟩
  obtain ⟨n2, hn2⟩ : ∃ n, s.nets.length = n := ⟨_, rfl⟩
  have HE : Hid (∀ (bs : Nat) (W : World) (ya0 : Option Addr) (yk0 : Nat) (ya1 : Option Addr) (yk1 : Nat) (ya2 : Option Addr) (yk2 : Nat), New bs (SliceC TermR 2) W s.names [.slice ya0 s.names.length yk0] → New bs (SliceC TermR 2) W s.spaces [.slice ya1 s.spaces.length yk1] → New bs (SliceC CidrR 2) W s.nets [.slice ya2 s.nets.length yk2] → New bs SourceR W s [.slice ya0 s.names.length yk0, .slice ya1 s.spaces.length yk1, .slice ya2 s.nets.length yk2]) := Lib.hid fun bs W ya0 yk0 ya1 yk1 ya2 yk2 g0 g1 g2 w' B hw hB => ⟨_, _, _, rfl, g0 w' B hw hB, g1 w' B hw hB, g2 w' B hw hB⟩
  simp only [hn0, hn1, hn2] at C0 C1 C2 HE ⊢
  clear hn0 hn1 hn2
  go_enter Try.func144, Try.ntmps144
  go_wp2_with fail
  obtain ⟨wz, hw⟩ : ∃ wz, (w.alloc (.cells #[.slice A0 n0 p0, .slice A1 n1 p1, .slice A2 n2 p2] 80)).alloc (.cells #[.slice none 0 0, .slice none 0 0, .slice none 0 0] 80) = wz := ⟨_, rfl⟩
  rw [hw]
  have hlz : Lo w wz := by rw [← hw]; exact (by repeat (first | exact Lo.refl _ | assumption | refine Lo.drew ?_ | refine Lo.alloc ?_ _ | refine Lo.setCell ?_ (by first | (dsimp only; omega) | (simp; omega) | (simp; done)) _ | refine Lo.trans ?_ (by assumption)))
  have a0 : wz.cell? ⟨w.heap.size, 0, none⟩ = some (.slice A0 n0 p0) := by rw [← hw]; simp
  have r0 : wz.cell? ⟨w.heap.size + 1, 0, none⟩ = some (.slice none 0 0) := by rw [← hw]; simp
  have u0 : wz.frozen? ⟨w.heap.size, 0, none⟩ = false := by rw [← hw]; simp
  have s0 : wz.frozen? ⟨w.heap.size + 1, 0, none⟩ = false := by rw [← hw]; simp
  have a1 : wz.cell? ⟨w.heap.size, 1, none⟩ = some (.slice A1 n1 p1) := by rw [← hw]; simp
  have r1 : wz.cell? ⟨w.heap.size + 1, 1, none⟩ = some (.slice none 0 0) := by rw [← hw]; simp
  have u1 : wz.frozen? ⟨w.heap.size, 1, none⟩ = false := by rw [← hw]; simp
  have s1 : wz.frozen? ⟨w.heap.size + 1, 1, none⟩ = false := by rw [← hw]; simp
  have a2 : wz.cell? ⟨w.heap.size, 2, none⟩ = some (.slice A2 n2 p2) := by rw [← hw]; simp
  have r2 : wz.cell? ⟨w.heap.size + 1, 2, none⟩ = some (.slice none 0 0) := by rw [← hw]; simp
  have u2 : wz.frozen? ⟨w.heap.size, 2, none⟩ = false := by rw [← hw]; simp
  have s2 : wz.frozen? ⟨w.heap.size + 1, 2, none⟩ = false := by rw [← hw]; simp
  have hz1 : w.heap.size + 1 < wz.heap.size := World.block_lt_of_cell? _ _ r0
  clear hw
  refine wp_region_mix 10 16 (fun i v w' => match i with
        | 0 => v = .pointer (some ⟨w.heap.size, 0, none⟩)
        | 1 => v = .slice A0 n0 p0
        | 2 => ∃ A cap, v = .slice A n0 cap ∧ New wz.heap.size (SliceC TermR 2) w' s.names [.slice A n0 cap]
        | 3 => v = .pointer (some ⟨w.heap.size, 1, none⟩)
        | 4 => v = .slice A1 n1 p1
        | 5 => ∃ A cap, v = .slice A n1 cap ∧ New wz.heap.size (SliceC TermR 2) w' s.spaces [.slice A n1 cap]
        | 6 => v = .pointer (some ⟨w.heap.size, 2, none⟩)
        | 7 => v = .slice A2 n2 p2
        | 8 => ∃ A cap, v = .slice A n2 cap ∧ New wz.heap.size (SliceC CidrR 2) w' s.nets [.slice A n2 cap]
        | 9 => v = .pointer (some ⟨w.heap.size, 0, none⟩)
        | _ => True) (by kernel_rfl) rfl (by kernel_rfl) ?_ ?_ ?_
  · intro i v w1 w2 h hl12
    match i, h with
    | 0, h => exact h
    | 1, h => exact h
    | 2, ⟨A, cap, hv, hft⟩ => exact ⟨A, cap, hv, hft.lo hl12⟩
    | 3, h => exact h
    | 4, h => exact h
    | 5, ⟨A, cap, hv, hft⟩ => exact ⟨A, cap, hv, hft.lo hl12⟩
    | 6, h => exact h
    | 7, h => exact h
    | 8, ⟨A, cap, hv, hft⟩ => exact ⟨A, cap, hv, hft.lo hl12⟩
    | 9, h => exact h
    | _ + 10, _ => trivial
  · intro i o hiN ho a w' hl hd hold
    match i, hiN with
    | 0, _ =>
      injection ho with ho; subst ho
      have h1 : a.eval (.tmp 1) = .pointer (some ⟨w.heap.size, 0, none⟩) := hold 1 (by kernel_rfl)
      simp [Act.eval] at h1
      exact ⟨fun _ => wp_of_run (v := .pointer (some ⟨w.heap.size, 0, none⟩)) (w' := w') (by simp [go_sem, h1]) ⟨_, rfl, Lo.refl _, rfl⟩, fun h => by rw [wanted_free rfl] at h; cases h⟩
    | 1, _ =>
      injection ho with ho; subst ho
      have h3 : a.eval (.tmp 3) = .pointer (some ⟨w.heap.size, 0, none⟩) := hd 0 (by kernel_rfl) 3 (by kernel_rfl)
      have hc0 := lo_keep hl a0
      simp [Act.eval] at h3
      exact ⟨fun _ => wp_of_run (v := .slice A0 n0 p0) (w' := w') (by simp [go_sem, h3, hc0]) ⟨_, rfl, Lo.refl _, rfl⟩, fun h => by rw [wanted_free rfl] at h; cases h⟩
    | 2, _ =>
      injection ho with ho; subst ho
      have h4 : a.eval (.tmp 4) = .slice A0 n0 p0 := hd 1 (by kernel_rfl) 4 (by kernel_rfl)
      simp [Act.eval] at h4
      refine ⟨fun _ => ?_, fun h => by rw [wanted_free rfl] at h; cases h⟩
      refine wp_call_of (f := 153) (args := #[.slice A0 n0 p0]) (by simp [go_sem, h4]) (C0.out w' (hlz.trans hl)) ?_
      rintro e w2 ⟨A, cap, rfl, hb, hft⟩
      exact ⟨_, rfl, _, rfl, hb, A, cap, rfl, New.base hft hl.size⟩
    | 3, _ =>
      injection ho with ho; subst ho
      have h1 : a.eval (.tmp 1) = .pointer (some ⟨w.heap.size, 0, none⟩) := hold 1 (by kernel_rfl)
      simp [Act.eval] at h1
      exact ⟨fun _ => wp_of_run (v := .pointer (some ⟨w.heap.size, 1, none⟩)) (w' := w') (by simp [go_sem, h1]) ⟨_, rfl, Lo.refl _, rfl⟩, fun h => by rw [wanted_free rfl] at h; cases h⟩
    | 4, _ =>
      injection ho with ho; subst ho
      have h6 : a.eval (.tmp 6) = .pointer (some ⟨w.heap.size, 1, none⟩) := hd 3 (by kernel_rfl) 6 (by kernel_rfl)
      have hc0 := lo_keep hl a1
      simp [Act.eval] at h6
      exact ⟨fun _ => wp_of_run (v := .slice A1 n1 p1) (w' := w') (by simp [go_sem, h6, hc0]) ⟨_, rfl, Lo.refl _, rfl⟩, fun h => by rw [wanted_free rfl] at h; cases h⟩
    | 5, _ =>
      injection ho with ho; subst ho
      have h7 : a.eval (.tmp 7) = .slice A1 n1 p1 := hd 4 (by kernel_rfl) 7 (by kernel_rfl)
      simp [Act.eval] at h7
      refine ⟨fun _ => ?_, fun h => by rw [wanted_free rfl] at h; cases h⟩
      refine wp_call_of (f := 153) (args := #[.slice A1 n1 p1]) (by simp [go_sem, h7]) (C1.out w' (hlz.trans hl)) ?_
      rintro e w2 ⟨A, cap, rfl, hb, hft⟩
      exact ⟨_, rfl, _, rfl, hb, A, cap, rfl, New.base hft hl.size⟩
    | 6, _ =>
      injection ho with ho; subst ho
      have h1 : a.eval (.tmp 1) = .pointer (some ⟨w.heap.size, 0, none⟩) := hold 1 (by kernel_rfl)
      simp [Act.eval] at h1
      exact ⟨fun _ => wp_of_run (v := .pointer (some ⟨w.heap.size, 2, none⟩)) (w' := w') (by simp [go_sem, h1]) ⟨_, rfl, Lo.refl _, rfl⟩, fun h => by rw [wanted_free rfl] at h; cases h⟩
    | 7, _ =>
      injection ho with ho; subst ho
      have h9 : a.eval (.tmp 9) = .pointer (some ⟨w.heap.size, 2, none⟩) := hd 6 (by kernel_rfl) 9 (by kernel_rfl)
      have hc0 := lo_keep hl a2
      simp [Act.eval] at h9
      exact ⟨fun _ => wp_of_run (v := .slice A2 n2 p2) (w' := w') (by simp [go_sem, h9, hc0]) ⟨_, rfl, Lo.refl _, rfl⟩, fun h => by rw [wanted_free rfl] at h; cases h⟩
    | 8, _ =>
      injection ho with ho; subst ho
      have h10 : a.eval (.tmp 10) = .slice A2 n2 p2 := hd 7 (by kernel_rfl) 10 (by kernel_rfl)
      simp [Act.eval] at h10
      refine ⟨fun _ => ?_, fun h => by rw [wanted_free rfl] at h; cases h⟩
      refine wp_call_of (f := 154) (args := #[.slice A2 n2 p2]) (by simp [go_sem, h10]) (C2.out w' (hlz.trans hl)) ?_
      rintro e w2 ⟨A, cap, rfl, hb, hft⟩
      exact ⟨_, rfl, _, rfl, hb, A, cap, rfl, New.base hft hl.size⟩
    | 9, _ =>
      injection ho with ho; subst ho
      have h1 : a.eval (.tmp 1) = .pointer (some ⟨w.heap.size, 0, none⟩) := hold 1 (by kernel_rfl)
      simp [Act.eval] at h1
      exact ⟨fun _ => wp_of_run (v := .pointer (some ⟨w.heap.size, 0, none⟩)) (w' := w') (by simp [go_sem, h1]) ⟨_, rfl, Lo.refl _, rfl⟩, fun h => by rw [wanted_free rfl] at h; cases h⟩
  · intro v w2 hq hp
    have p_0 := hp 0 (by omega)
    have p_1 := hp 1 (by omega)
    have p_2 := hp 2 (by omega)
    have p_3 := hp 3 (by omega)
    have p_4 := hp 4 (by omega)
    have p_5 := hp 5 (by omega)
    have p_6 := hp 6 (by omega)
    have p_7 := hp 7 (by omega)
    have p_8 := hp 8 (by omega)
    have p_9 := hp 9 (by omega)
    clear hp
    simp only [List.range_succ, List.range_zero, List.nil_append, List.cons_append, List.foldl_cons, List.foldl_nil, List.drop_succ_cons, List.drop_zero, dstOf, List.getElem?_toArray, List.getElem?_cons_zero, List.getElem?_cons_succ, Option.bind_some, Act.put, List.setIfInBounds_toArray, List.set_cons_zero, List.set_cons_succ]
    generalize v 0 = v0 at *
    generalize v 1 = v1 at *
    generalize v 2 = v2 at *
    generalize v 3 = v3 at *
    generalize v 4 = v4 at *
    generalize v 5 = v5 at *
    generalize v 6 = v6 at *
    generalize v 7 = v7 at *
    generalize v 8 = v8 at *
    generalize v 9 = v9 at *
    subst p_0
    subst p_1
    obtain ⟨ya0, yk0, rfl, g0⟩ := p_2
    subst p_3
    subst p_4
    obtain ⟨ya1, yk1, rfl, g1⟩ := p_5
    subst p_6
    subst p_7
    obtain ⟨ya2, yk2, rfl, g2⟩ := p_8
    subst p_9
    replace u0 := (hq.facts.2.1 _ 0 (by omega)).trans u0
    replace s0 := (hq.facts.2.1 _ 0 hz1).trans s0
    replace a0 := lo_keep hq a0
    replace r0 := lo_keep hq r0
    replace u1 := (hq.facts.2.1 _ 1 (by omega)).trans u1
    replace s1 := (hq.facts.2.1 _ 1 hz1).trans s1
    replace a1 := lo_keep hq a1
    replace r1 := lo_keep hq r1
    replace u2 := (hq.facts.2.1 _ 2 (by omega)).trans u2
    replace s2 := (hq.facts.2.1 _ 2 hz1).trans s2
    replace a2 := lo_keep hq a2
    replace r2 := lo_keep hq r2
    have hzw := hq.size
    have hl2 := hlz.trans hq
    clear hq hlz
    go_wp2
    obtain ⟨w9, h9⟩ : ∃ w9, ((((((w2.setCell ⟨w.heap.size, 0, none⟩ (.slice ya0 n0 yk0)).setCell ⟨w.heap.size, 1, none⟩ (.slice ya1 n1 yk1)).setCell ⟨w.heap.size, 2, none⟩ (.slice ya2 n2 yk2)).setCell ⟨w.heap.size + 1, 0, none⟩ (.slice ya0 n0 yk0)).setCell ⟨w.heap.size + 1, 1, none⟩ (.slice ya1 n1 yk1)).setCell ⟨w.heap.size + 1, 2, none⟩ (.slice ya2 n2 yk2)) = w9 := ⟨_, rfl⟩
    rw [h9]
    have q0 : w9.cell? ⟨w.heap.size + 1, 0, none⟩ = some (.slice ya0 n0 yk0) := by
      rw [← h9]
      rw [setCell_other _ _ _ _ _ _ (by simp)]
      rw [setCell_other _ _ _ _ _ _ (by simp)]
      refine World.cell?_setCell_same _ _ _ (u := .slice none 0 0) ?_
      rw [setCell_other _ _ _ _ _ _ (by simp), setCell_other _ _ _ _ _ _ (by simp), setCell_other _ _ _ _ _ _ (by simp)]
      exact r0
    have q1 : w9.cell? ⟨w.heap.size + 1, 1, none⟩ = some (.slice ya1 n1 yk1) := by
      rw [← h9]
      rw [setCell_other _ _ _ _ _ _ (by simp)]
      refine World.cell?_setCell_same _ _ _ (u := .slice none 0 0) ?_
      rw [setCell_other _ _ _ _ _ _ (by simp), setCell_other _ _ _ _ _ _ (by simp), setCell_other _ _ _ _ _ _ (by simp), setCell_other _ _ _ _ _ _ (by simp)]
      exact r1
    have q2 : w9.cell? ⟨w.heap.size + 1, 2, none⟩ = some (.slice ya2 n2 yk2) := by
      rw [← h9]
      refine World.cell?_setCell_same _ _ _ (u := .slice none 0 0) ?_
      rw [setCell_other _ _ _ _ _ _ (by simp), setCell_other _ _ _ _ _ _ (by simp), setCell_other _ _ _ _ _ _ (by simp), setCell_other _ _ _ _ _ _ (by simp), setCell_other _ _ _ _ _ _ (by simp)]
      exact r2
    have hl9 : Lo w w9 := by rw [← h9]; exact (Lo.setCell (Lo.setCell (Lo.setCell (Lo.setCell (Lo.setCell (Lo.setCell hl2 (by simp) _) (by simp) _) (by simp) _) (by simp) _) (by simp) _) (by simp) _)
    have hs9 : w9.heap.size = w2.heap.size := by rw [← h9]; simp
    have hfar : ∀ p : Addr, wz.heap.size ≤ p.block → w9.cell? p = w2.cell? p := fun p hp => by
      rw [← h9]
      rw [setCell_far _ _ _ _ (by simp; omega), setCell_far _ _ _ _ (by simp; omega), setCell_far _ _ _ _ (by simp; omega), setCell_far _ _ _ _ (by simp; omega), setCell_far _ _ _ _ (by simp; omega), setCell_far _ _ _ _ (by simp; omega)]
    have hN := ((HE.out wz.heap.size w2 ya0 yk0 ya1 yk1 ya2 yk2 g0 g1 g2).keep (w1 := w9) fun p hp => hfar p hp.1).mono (S' := fun b => w.heap.size ≤ b ∧ b < w9.heap.size) fun b hb => ⟨by omega, by omega⟩
    clear h9
    exact bodyPost_ret (v := .agg #[.slice ya0 n0 yk0, .slice ya1 n1 yk1, .slice ya2 n2 yk2]) (by simp [results, Try.results144, go_sem, q0, q1, q2]) rfl ⟨ya0, ya1, ya2, yk0, yk1, yk2, rfl, hl9, hN⟩
set_option maxRecDepth 100000 in
set_option maxHeartbeats 8000000 in
theorem ownTarget (s : Pl.Target) (c0 c1 c2 c3 : Value) {B : Nat} (w : World) (hB : B ≤ w.heap.size) (hs : TargetR B w s [c0, c1, c2, c3]) (hlong : tgtLong s = false) :
    Calls Try.prog 146 #[.agg #[c0, c1, c2, c3]] w fun e w' => ∃ ya0 ya1 ya2 ya3 yk0 yk1 yk2 yk3, e = .returned (.agg #[.slice ya0 s.ports.length yk0, .slice ya1 s.methods.length yk1, .slice ya2 s.paths.length yk2, .slice ya3 s.hosts.length yk3]) ∧ Lo w w' ∧ New w.heap.size TargetR w' s [.slice ya0 s.ports.length yk0, .slice ya1 s.methods.length yk1, .slice ya2 s.paths.length yk2, .slice ya3 s.hosts.length yk3] := by
  obtain ⟨d0, d1, d2, d3, he, ⟨A0, p0, e0, h0, l0, m0⟩, ⟨A1, p1, e1, h1, l1, m1⟩, ⟨A2, p2, e2, h2, l2, m2⟩, ⟨A3, p3, e3, h3, l3, m3⟩⟩ := hs
  injection he with q0 he; injection he with q1 he; injection he with q2 he; injection he with q3 he
  subst q0 q1 q2 q3
  injection e0 with e0; injection e1 with e1; injection e2 with e2; injection e3 with e3
  subst e0 e1 e2 e3
  simp only [tgtLong, termsB, List.any_cons, List.any_nil, Bool.or_eq_false_iff, decide_eq_false_iff_not] at hlong; have b0 := row_bound hlong.1.1; have b1 := row_bound hlong.1.2.1; have b2 := row_bound hlong.1.2.2.1; have b3 := hlong.2
  have C0 : Hid (∀ W, Lo w W → Calls Try.prog 155 #[.slice A0 s.ports.length p0] W fun e w' => ∃ A cap, e = .returned (.slice A s.ports.length cap) ∧ Lo W w' ∧ New W.heap.size (SliceC (IntC .i64) 1) w' s.ports [.slice A s.ports.length cap]) := Lib.hid fun W hW => by
    refine (WCloneInt.clone (IntC.kept .i64) A0 p0 s.ports W (Nat.le_trans hB hW.size) (SliceAt.lo (IntC.kept .i64) h0 hW hB) (fun x cs h => IntC.one h) (by omega)).mono ?_
    rintro e w' ⟨v, rfl, hl, hrow⟩
    obtain ⟨A, cap, rfl, hft⟩ := (hrow.flat (T' := fun b => W.heap.size ≤ b) (IntC.flat .i64)).fresh
    exact ⟨A, cap, rfl, hl, hft⟩
  have C1 : Hid (∀ W, Lo w W → Calls Try.prog 153 #[.slice A1 s.methods.length p1] W fun e w' => ∃ A cap, e = .returned (.slice A s.methods.length cap) ∧ Lo W w' ∧ New W.heap.size (SliceC TermR 2) w' s.methods [.slice A s.methods.length cap]) := Lib.hid fun W hW => by
    refine (WCloneTerm.clone TermR.kept A1 p1 s.methods W (Nat.le_trans hB hW.size) (SliceAt.lo TermR.kept h1 hW hB) (fun x cs h => TermR.one h) (by omega)).mono ?_
    rintro e w' ⟨v, rfl, hl, hrow⟩
    obtain ⟨A, cap, rfl, hft⟩ := (hrow.flat (T' := fun b => W.heap.size ≤ b) TermR.flat).fresh
    exact ⟨A, cap, rfl, hl, hft⟩
  have C2 : Hid (∀ W, Lo w W → Calls Try.prog 153 #[.slice A2 s.paths.length p2] W fun e w' => ∃ A cap, e = .returned (.slice A s.paths.length cap) ∧ Lo W w' ∧ New W.heap.size (SliceC TermR 2) w' s.paths [.slice A s.paths.length cap]) := Lib.hid fun W hW => by
    refine (WCloneTerm.clone TermR.kept A2 p2 s.paths W (Nat.le_trans hB hW.size) (SliceAt.lo TermR.kept h2 hW hB) (fun x cs h => TermR.one h) (by omega)).mono ?_
    rintro e w' ⟨v, rfl, hl, hrow⟩
    obtain ⟨A, cap, rfl, hft⟩ := (hrow.flat (T' := fun b => W.heap.size ≤ b) TermR.flat).fresh
    exact ⟨A, cap, rfl, hl, hft⟩
  have C3 : Hid (∀ W, Lo w W → Calls Try.prog 153 #[.slice A3 s.hosts.length p3] W fun e w' => ∃ A cap, e = .returned (.slice A s.hosts.length cap) ∧ Lo W w' ∧ New W.heap.size (SliceC TermR 2) w' s.hosts [.slice A s.hosts.length cap]) := Lib.hid fun W hW => by
    refine (WCloneTerm.clone TermR.kept A3 p3 s.hosts W (Nat.le_trans hB hW.size) (SliceAt.lo TermR.kept h3 hW hB) (fun x cs h => TermR.one h) (by omega)).mono ?_
    rintro e w' ⟨v, rfl, hl, hrow⟩
    obtain ⟨A, cap, rfl, hft⟩ := (hrow.flat (T' := fun b => W.heap.size ≤ b) TermR.flat).fresh
    exact ⟨A, cap, rfl, hl, hft⟩
  clear h0 h1 h2 h3
  obtain ⟨n0, hn0⟩ : ∃ n, s.ports.length = n := ⟨_, rfl⟩
  obtain ⟨n1, hn1⟩ : ∃ n, s.methods.length = n := ⟨_, rfl⟩
  obtain ⟨n2, hn2⟩ : ∃ n, s.paths.length = n := ⟨_, rfl⟩
  obtain ⟨n3, hn3⟩ : ∃ n, s.hosts.length = n := ⟨_, rfl⟩
  have HE : Hid (∀ (bs : Nat) (W : World) (ya0 : Option Addr) (yk0 : Nat) (ya1 : Option Addr) (yk1 : Nat) (ya2 : Option Addr) (yk2 : Nat) (ya3 : Option Addr) (yk3 : Nat), New bs (SliceC (IntC .i64) 1) W s.ports [.slice ya0 s.ports.length yk0] → New bs (SliceC TermR 2) W s.methods [.slice ya1 s.methods.length yk1] → New bs (SliceC TermR 2) W s.paths [.slice ya2 s.paths.length yk2] → New bs (SliceC TermR 2) W s.hosts [.slice ya3 s.hosts.length yk3] → New bs TargetR W s [.slice ya0 s.ports.length yk0, .slice ya1 s.methods.length yk1, .slice ya2 s.paths.length yk2, .slice ya3 s.hosts.length yk3]) := Lib.hid fun bs W ya0 yk0 ya1 yk1 ya2 yk2 ya3 yk3 g0 g1 g2 g3 w' B hw hB => ⟨_, _, _, _, rfl, g0 w' B hw hB, g1 w' B hw hB, g2 w' B hw hB, g3 w' B hw hB⟩
  simp only [hn0, hn1, hn2, hn3] at C0 C1 C2 C3 HE ⊢
  clear hn0 hn1 hn2 hn3
  go_enter Try.func146, Try.ntmps146
  go_wp2_with fail
  obtain ⟨wz, hw⟩ : ∃ wz, (w.alloc (.cells #[.slice A0 n0 p0, .slice A1 n1 p1, .slice A2 n2 p2, .slice A3 n3 p3] 84)).alloc (.cells #[.slice none 0 0, .slice none 0 0, .slice none 0 0, .slice none 0 0] 84) = wz := ⟨_, rfl⟩
  rw [hw]
  have hlz : Lo w wz := by rw [← hw]; exact (by repeat (first | exact Lo.refl _ | assumption | refine Lo.drew ?_ | refine Lo.alloc ?_ _ | refine Lo.setCell ?_ (by first | (dsimp only; omega) | (simp; omega) | (simp; done)) _ | refine Lo.trans ?_ (by assumption)))
  have a0 : wz.cell? ⟨w.heap.size, 0, none⟩ = some (.slice A0 n0 p0) := by rw [← hw]; simp
  have r0 : wz.cell? ⟨w.heap.size + 1, 0, none⟩ = some (.slice none 0 0) := by rw [← hw]; simp
  have u0 : wz.frozen? ⟨w.heap.size, 0, none⟩ = false := by rw [← hw]; simp
  have s0 : wz.frozen? ⟨w.heap.size + 1, 0, none⟩ = false := by rw [← hw]; simp
  have a1 : wz.cell? ⟨w.heap.size, 1, none⟩ = some (.slice A1 n1 p1) := by rw [← hw]; simp
  have r1 : wz.cell? ⟨w.heap.size + 1, 1, none⟩ = some (.slice none 0 0) := by rw [← hw]; simp
  have u1 : wz.frozen? ⟨w.heap.size, 1, none⟩ = false := by rw [← hw]; simp
  have s1 : wz.frozen? ⟨w.heap.size + 1, 1, none⟩ = false := by rw [← hw]; simp
  have a2 : wz.cell? ⟨w.heap.size, 2, none⟩ = some (.slice A2 n2 p2) := by rw [← hw]; simp
  have r2 : wz.cell? ⟨w.heap.size + 1, 2, none⟩ = some (.slice none 0 0) := by rw [← hw]; simp
  have u2 : wz.frozen? ⟨w.heap.size, 2, none⟩ = false := by rw [← hw]; simp
  have s2 : wz.frozen? ⟨w.heap.size + 1, 2, none⟩ = false := by rw [← hw]; simp
  have a3 : wz.cell? ⟨w.heap.size, 3, none⟩ = some (.slice A3 n3 p3) := by rw [← hw]; simp
  have r3 : wz.cell? ⟨w.heap.size + 1, 3, none⟩ = some (.slice none 0 0) := by rw [← hw]; simp
  have u3 : wz.frozen? ⟨w.heap.size, 3, none⟩ = false := by rw [← hw]; simp
  have s3 : wz.frozen? ⟨w.heap.size + 1, 3, none⟩ = false := by rw [← hw]; simp
  have hz1 : w.heap.size + 1 < wz.heap.size := World.block_lt_of_cell? _ _ r0
  clear hw
  refine wp_region_mix 13 20 (fun i v w' => match i with
        | 0 => v = .pointer (some ⟨w.heap.size, 0, none⟩)
        | 1 => v = .slice A0 n0 p0
        | 2 => ∃ A cap, v = .slice A n0 cap ∧ New wz.heap.size (SliceC (IntC .i64) 1) w' s.ports [.slice A n0 cap]
        | 3 => v = .pointer (some ⟨w.heap.size, 1, none⟩)
        | 4 => v = .slice A1 n1 p1
        | 5 => ∃ A cap, v = .slice A n1 cap ∧ New wz.heap.size (SliceC TermR 2) w' s.methods [.slice A n1 cap]
        | 6 => v = .pointer (some ⟨w.heap.size, 2, none⟩)
        | 7 => v = .slice A2 n2 p2
        | 8 => ∃ A cap, v = .slice A n2 cap ∧ New wz.heap.size (SliceC TermR 2) w' s.paths [.slice A n2 cap]
        | 9 => v = .pointer (some ⟨w.heap.size, 3, none⟩)
        | 10 => v = .slice A3 n3 p3
        | 11 => ∃ A cap, v = .slice A n3 cap ∧ New wz.heap.size (SliceC TermR 2) w' s.hosts [.slice A n3 cap]
        | 12 => v = .pointer (some ⟨w.heap.size, 0, none⟩)
        | _ => True) (by kernel_rfl) rfl (by kernel_rfl) ?_ ?_ ?_
  · intro i v w1 w2 h hl12
    match i, h with
    | 0, h => exact h
    | 1, h => exact h
    | 2, ⟨A, cap, hv, hft⟩ => exact ⟨A, cap, hv, hft.lo hl12⟩
    | 3, h => exact h
    | 4, h => exact h
    | 5, ⟨A, cap, hv, hft⟩ => exact ⟨A, cap, hv, hft.lo hl12⟩
    | 6, h => exact h
    | 7, h => exact h
    | 8, ⟨A, cap, hv, hft⟩ => exact ⟨A, cap, hv, hft.lo hl12⟩
    | 9, h => exact h
    | 10, h => exact h
    | 11, ⟨A, cap, hv, hft⟩ => exact ⟨A, cap, hv, hft.lo hl12⟩
    | 12, h => exact h
    | _ + 13, _ => trivial
  · intro i o hiN ho a w' hl hd hold
    match i, hiN with
    | 0, _ =>
      injection ho with ho; subst ho
      have h1 : a.eval (.tmp 1) = .pointer (some ⟨w.heap.size, 0, none⟩) := hold 1 (by kernel_rfl)
      simp [Act.eval] at h1
      exact ⟨fun _ => wp_of_run (v := .pointer (some ⟨w.heap.size, 0, none⟩)) (w' := w') (by simp [go_sem, h1]) ⟨_, rfl, Lo.refl _, rfl⟩, fun h => by rw [wanted_free rfl] at h; cases h⟩
    | 1, _ =>
      injection ho with ho; subst ho
      have h3 : a.eval (.tmp 3) = .pointer (some ⟨w.heap.size, 0, none⟩) := hd 0 (by kernel_rfl) 3 (by kernel_rfl)
      have hc0 := lo_keep hl a0
      simp [Act.eval] at h3
      exact ⟨fun _ => wp_of_run (v := .slice A0 n0 p0) (w' := w') (by simp [go_sem, h3, hc0]) ⟨_, rfl, Lo.refl _, rfl⟩, fun h => by rw [wanted_free rfl] at h; cases h⟩
    | 2, _ =>
      injection ho with ho; subst ho
      have h4 : a.eval (.tmp 4) = .slice A0 n0 p0 := hd 1 (by kernel_rfl) 4 (by kernel_rfl)
      simp [Act.eval] at h4
      refine ⟨fun _ => ?_, fun h => by rw [wanted_free rfl] at h; cases h⟩
      refine wp_call_of (f := 155) (args := #[.slice A0 n0 p0]) (by simp [go_sem, h4]) (C0.out w' (hlz.trans hl)) ?_
      rintro e w2 ⟨A, cap, rfl, hb, hft⟩
      exact ⟨_, rfl, _, rfl, hb, A, cap, rfl, New.base hft hl.size⟩
    | 3, _ =>
      injection ho with ho; subst ho
      have h1 : a.eval (.tmp 1) = .pointer (some ⟨w.heap.size, 0, none⟩) := hold 1 (by kernel_rfl)
      simp [Act.eval] at h1
      exact ⟨fun _ => wp_of_run (v := .pointer (some ⟨w.heap.size, 1, none⟩)) (w' := w') (by simp [go_sem, h1]) ⟨_, rfl, Lo.refl _, rfl⟩, fun h => by rw [wanted_free rfl] at h; cases h⟩
    | 4, _ =>
      injection ho with ho; subst ho
      have h6 : a.eval (.tmp 6) = .pointer (some ⟨w.heap.size, 1, none⟩) := hd 3 (by kernel_rfl) 6 (by kernel_rfl)
      have hc0 := lo_keep hl a1
      simp [Act.eval] at h6
      exact ⟨fun _ => wp_of_run (v := .slice A1 n1 p1) (w' := w') (by simp [go_sem, h6, hc0]) ⟨_, rfl, Lo.refl _, rfl⟩, fun h => by rw [wanted_free rfl] at h; cases h⟩
    | 5, _ =>
      injection ho with ho; subst ho
      have h7 : a.eval (.tmp 7) = .slice A1 n1 p1 := hd 4 (by kernel_rfl) 7 (by kernel_rfl)
      simp [Act.eval] at h7
      refine ⟨fun _ => ?_, fun h => by rw [wanted_free rfl] at h; cases h⟩
      refine wp_call_of (f := 153) (args := #[.slice A1 n1 p1]) (by simp [go_sem, h7]) (C1.out w' (hlz.trans hl)) ?_
      rintro e w2 ⟨A, cap, rfl, hb, hft⟩
      exact ⟨_, rfl, _, rfl, hb, A, cap, rfl, New.base hft hl.size⟩
    | 6, _ =>
      injection ho with ho; subst ho
      have h1 : a.eval (.tmp 1) = .pointer (some ⟨w.heap.size, 0, none⟩) := hold 1 (by kernel_rfl)
      simp [Act.eval] at h1
      exact ⟨fun _ => wp_of_run (v := .pointer (some ⟨w.heap.size, 2, none⟩)) (w' := w') (by simp [go_sem, h1]) ⟨_, rfl, Lo.refl _, rfl⟩, fun h => by rw [wanted_free rfl] at h; cases h⟩
    | 7, _ =>
      injection ho with ho; subst ho
      have h9 : a.eval (.tmp 9) = .pointer (some ⟨w.heap.size, 2, none⟩) := hd 6 (by kernel_rfl) 9 (by kernel_rfl)
      have hc0 := lo_keep hl a2
      simp [Act.eval] at h9
      exact ⟨fun _ => wp_of_run (v := .slice A2 n2 p2) (w' := w') (by simp [go_sem, h9, hc0]) ⟨_, rfl, Lo.refl _, rfl⟩, fun h => by rw [wanted_free rfl] at h; cases h⟩
    | 8, _ =>
      injection ho with ho; subst ho
      have h10 : a.eval (.tmp 10) = .slice A2 n2 p2 := hd 7 (by kernel_rfl) 10 (by kernel_rfl)
      simp [Act.eval] at h10
      refine ⟨fun _ => ?_, fun h => by rw [wanted_free rfl] at h; cases h⟩
      refine wp_call_of (f := 153) (args := #[.slice A2 n2 p2]) (by simp [go_sem, h10]) (C2.out w' (hlz.trans hl)) ?_
      rintro e w2 ⟨A, cap, rfl, hb, hft⟩
      exact ⟨_, rfl, _, rfl, hb, A, cap, rfl, New.base hft hl.size⟩
    | 9, _ =>
      injection ho with ho; subst ho
      have h1 : a.eval (.tmp 1) = .pointer (some ⟨w.heap.size, 0, none⟩) := hold 1 (by kernel_rfl)
      simp [Act.eval] at h1
      exact ⟨fun _ => wp_of_run (v := .pointer (some ⟨w.heap.size, 3, none⟩)) (w' := w') (by simp [go_sem, h1]) ⟨_, rfl, Lo.refl _, rfl⟩, fun h => by rw [wanted_free rfl] at h; cases h⟩
    | 10, _ =>
      injection ho with ho; subst ho
      have h12 : a.eval (.tmp 12) = .pointer (some ⟨w.heap.size, 3, none⟩) := hd 9 (by kernel_rfl) 12 (by kernel_rfl)
      have hc0 := lo_keep hl a3
      simp [Act.eval] at h12
      exact ⟨fun _ => wp_of_run (v := .slice A3 n3 p3) (w' := w') (by simp [go_sem, h12, hc0]) ⟨_, rfl, Lo.refl _, rfl⟩, fun h => by rw [wanted_free rfl] at h; cases h⟩
    | 11, _ =>
      injection ho with ho; subst ho
      have h13 : a.eval (.tmp 13) = .slice A3 n3 p3 := hd 10 (by kernel_rfl) 13 (by kernel_rfl)
      simp [Act.eval] at h13
      refine ⟨fun _ => ?_, fun h => by rw [wanted_free rfl] at h; cases h⟩
      refine wp_call_of (f := 153) (args := #[.slice A3 n3 p3]) (by simp [go_sem, h13]) (C3.out w' (hlz.trans hl)) ?_
      rintro e w2 ⟨A, cap, rfl, hb, hft⟩
      exact ⟨_, rfl, _, rfl, hb, A, cap, rfl, New.base hft hl.size⟩
    | 12, _ =>
      injection ho with ho; subst ho
      have h1 : a.eval (.tmp 1) = .pointer (some ⟨w.heap.size, 0, none⟩) := hold 1 (by kernel_rfl)
      simp [Act.eval] at h1
      exact ⟨fun _ => wp_of_run (v := .pointer (some ⟨w.heap.size, 0, none⟩)) (w' := w') (by simp [go_sem, h1]) ⟨_, rfl, Lo.refl _, rfl⟩, fun h => by rw [wanted_free rfl] at h; cases h⟩
  · intro v w2 hq hp
    have p_0 := hp 0 (by omega)
    have p_1 := hp 1 (by omega)
    have p_2 := hp 2 (by omega)
    have p_3 := hp 3 (by omega)
    have p_4 := hp 4 (by omega)
    have p_5 := hp 5 (by omega)
    have p_6 := hp 6 (by omega)
    have p_7 := hp 7 (by omega)
    have p_8 := hp 8 (by omega)
    have p_9 := hp 9 (by omega)
    have p_10 := hp 10 (by omega)
    have p_11 := hp 11 (by omega)
    have p_12 := hp 12 (by omega)
    clear hp
    simp only [List.range_succ, List.range_zero, List.nil_append, List.cons_append, List.foldl_cons, List.foldl_nil, List.drop_succ_cons, List.drop_zero, dstOf, List.getElem?_toArray, List.getElem?_cons_zero, List.getElem?_cons_succ, Option.bind_some, Act.put, List.setIfInBounds_toArray, List.set_cons_zero, List.set_cons_succ]
    generalize v 0 = v0 at *
    generalize v 1 = v1 at *
    generalize v 2 = v2 at *
    generalize v 3 = v3 at *
    generalize v 4 = v4 at *
    generalize v 5 = v5 at *
    generalize v 6 = v6 at *
    generalize v 7 = v7 at *
    generalize v 8 = v8 at *
    generalize v 9 = v9 at *
    generalize v 10 = v10 at *
    generalize v 11 = v11 at *
    generalize v 12 = v12 at *
    subst p_0
    subst p_1
    obtain ⟨ya0, yk0, rfl, g0⟩ := p_2
    subst p_3
    subst p_4
    obtain ⟨ya1, yk1, rfl, g1⟩ := p_5
    subst p_6
    subst p_7
    obtain ⟨ya2, yk2, rfl, g2⟩ := p_8
    subst p_9
    subst p_10
    obtain ⟨ya3, yk3, rfl, g3⟩ := p_11
    subst p_12
    replace u0 := (hq.facts.2.1 _ 0 (by omega)).trans u0
    replace s0 := (hq.facts.2.1 _ 0 hz1).trans s0
    replace a0 := lo_keep hq a0
    replace r0 := lo_keep hq r0
    replace u1 := (hq.facts.2.1 _ 1 (by omega)).trans u1
    replace s1 := (hq.facts.2.1 _ 1 hz1).trans s1
    replace a1 := lo_keep hq a1
    replace r1 := lo_keep hq r1
    replace u2 := (hq.facts.2.1 _ 2 (by omega)).trans u2
    replace s2 := (hq.facts.2.1 _ 2 hz1).trans s2
    replace a2 := lo_keep hq a2
    replace r2 := lo_keep hq r2
    replace u3 := (hq.facts.2.1 _ 3 (by omega)).trans u3
    replace s3 := (hq.facts.2.1 _ 3 hz1).trans s3
    replace a3 := lo_keep hq a3
    replace r3 := lo_keep hq r3
    have hzw := hq.size
    have hl2 := hlz.trans hq
    clear hq hlz
    go_wp2
    obtain ⟨w9, h9⟩ : ∃ w9, ((((((((w2.setCell ⟨w.heap.size, 0, none⟩ (.slice ya0 n0 yk0)).setCell ⟨w.heap.size, 1, none⟩ (.slice ya1 n1 yk1)).setCell ⟨w.heap.size, 2, none⟩ (.slice ya2 n2 yk2)).setCell ⟨w.heap.size, 3, none⟩ (.slice ya3 n3 yk3)).setCell ⟨w.heap.size + 1, 0, none⟩ (.slice ya0 n0 yk0)).setCell ⟨w.heap.size + 1, 1, none⟩ (.slice ya1 n1 yk1)).setCell ⟨w.heap.size + 1, 2, none⟩ (.slice ya2 n2 yk2)).setCell ⟨w.heap.size + 1, 3, none⟩ (.slice ya3 n3 yk3)) = w9 := ⟨_, rfl⟩
    rw [h9]
    have q0 : w9.cell? ⟨w.heap.size + 1, 0, none⟩ = some (.slice ya0 n0 yk0) := by
      rw [← h9]
      rw [setCell_other _ _ _ _ _ _ (by simp)]
      rw [setCell_other _ _ _ _ _ _ (by simp)]
      rw [setCell_other _ _ _ _ _ _ (by simp)]
      refine World.cell?_setCell_same _ _ _ (u := .slice none 0 0) ?_
      rw [setCell_other _ _ _ _ _ _ (by simp), setCell_other _ _ _ _ _ _ (by simp), setCell_other _ _ _ _ _ _ (by simp), setCell_other _ _ _ _ _ _ (by simp)]
      exact r0
    have q1 : w9.cell? ⟨w.heap.size + 1, 1, none⟩ = some (.slice ya1 n1 yk1) := by
      rw [← h9]
      rw [setCell_other _ _ _ _ _ _ (by simp)]
      rw [setCell_other _ _ _ _ _ _ (by simp)]
      refine World.cell?_setCell_same _ _ _ (u := .slice none 0 0) ?_
      rw [setCell_other _ _ _ _ _ _ (by simp), setCell_other _ _ _ _ _ _ (by simp), setCell_other _ _ _ _ _ _ (by simp), setCell_other _ _ _ _ _ _ (by simp), setCell_other _ _ _ _ _ _ (by simp)]
      exact r1
    have q2 : w9.cell? ⟨w.heap.size + 1, 2, none⟩ = some (.slice ya2 n2 yk2) := by
      rw [← h9]
      rw [setCell_other _ _ _ _ _ _ (by simp)]
      refine World.cell?_setCell_same _ _ _ (u := .slice none 0 0) ?_
      rw [setCell_other _ _ _ _ _ _ (by simp), setCell_other _ _ _ _ _ _ (by simp), setCell_other _ _ _ _ _ _ (by simp), setCell_other _ _ _ _ _ _ (by simp), setCell_other _ _ _ _ _ _ (by simp), setCell_other _ _ _ _ _ _ (by simp)]
      exact r2
    have q3 : w9.cell? ⟨w.heap.size + 1, 3, none⟩ = some (.slice ya3 n3 yk3) := by
      rw [← h9]
      refine World.cell?_setCell_same _ _ _ (u := .slice none 0 0) ?_
      rw [setCell_other _ _ _ _ _ _ (by simp), setCell_other _ _ _ _ _ _ (by simp), setCell_other _ _ _ _ _ _ (by simp), setCell_other _ _ _ _ _ _ (by simp), setCell_other _ _ _ _ _ _ (by simp), setCell_other _ _ _ _ _ _ (by simp), setCell_other _ _ _ _ _ _ (by simp)]
      exact r3
    have hl9 : Lo w w9 := by rw [← h9]; exact (Lo.setCell (Lo.setCell (Lo.setCell (Lo.setCell (Lo.setCell (Lo.setCell (Lo.setCell (Lo.setCell hl2 (by simp) _) (by simp) _) (by simp) _) (by simp) _) (by simp) _) (by simp) _) (by simp) _) (by simp) _)
    have hs9 : w9.heap.size = w2.heap.size := by rw [← h9]; simp
    have hfar : ∀ p : Addr, wz.heap.size ≤ p.block → w9.cell? p = w2.cell? p := fun p hp => by
      rw [← h9]
      rw [setCell_far _ _ _ _ (by simp; omega), setCell_far _ _ _ _ (by simp; omega), setCell_far _ _ _ _ (by simp; omega), setCell_far _ _ _ _ (by simp; omega), setCell_far _ _ _ _ (by simp; omega), setCell_far _ _ _ _ (by simp; omega), setCell_far _ _ _ _ (by simp; omega), setCell_far _ _ _ _ (by simp; omega)]
    have hN := ((HE.out wz.heap.size w2 ya0 yk0 ya1 yk1 ya2 yk2 ya3 yk3 g0 g1 g2 g3).keep (w1 := w9) fun p hp => hfar p hp.1).mono (S' := fun b => w.heap.size ≤ b ∧ b < w9.heap.size) fun b hb => ⟨by omega, by omega⟩
    clear h9
    exact bodyPost_ret (v := .agg #[.slice ya0 n0 yk0, .slice ya1 n1 yk1, .slice ya2 n2 yk2, .slice ya3 n3 yk3]) (by simp [results, Try.results146, go_sem, q0, q1, q2, q3]) rfl ⟨ya0, ya1, ya2, ya3, yk0, yk1, yk2, yk3, rfl, hl9, hN⟩
end Go.Proofs.Ytlcecabfmemfeaa.WAuth
