/- The walks of policy.Own. (Written by mk_own.py.) -/
import Derived.Test.YtlcecabfmemfeaaWOwn2
import Derived.Test.YtlcecabfmemfeaaWLong3
namespace Go.Proofs.Ytlcecabfmemfeaa.WAuth
set_option linter.unusedVariables false
set_option linter.unusedSimpArgs false
open Go.RowKit Mem BigFrame WMatch WAddr WName Opn
theorem enters_ownRule : Enters Try.prog 128 := enters_of Try.func128 (by kernel_rfl) rfl
set_option maxRecDepth 100000 in
set_option maxHeartbeats 8000000 in
theorem ownPolicy (s : Pl.Policy) (c0 c1 c2 c3 c4 : Value) {B : Nat} (w : World) (hB : B ≤ w.heap.size) (hs : PolicyR B w s [c0, c1, c2, c3, c4]) (hlong : longPol s = false) :
    Calls Try.prog 94 #[.agg #[c0, c1, c2, c3, c4]] w fun e w' => ∃ ya4 yk4, e = .returned (.agg #[.int .u64 s.id, .string s.ns, .int .u64 s.service, .int .i64 s.deny, .slice ya4 s.rules.length yk4]) ∧ Lo w w' ∧ New w.heap.size PolicyR w' s [.int .u64 s.id, .string s.ns, .int .u64 s.service, .int .i64 s.deny, .slice ya4 s.rules.length yk4] := by
  obtain ⟨d0, d1, d2, d3, d4, he, ⟨e0, z0⟩, ⟨e1, z1⟩, ⟨e2, z2⟩, ⟨e3, z3⟩, ⟨A4, p4, e4, h4, l4, m4⟩⟩ := hs
  injection he with q0 he; injection he with q1 he; injection he with q2 he; injection he with q3 he; injection he with q4 he
  subst q0 q1 q2 q3 q4
  injection e0 with e0; injection e1 with e1; injection e2 with e2; injection e3 with e3; injection e4 with e4
  subst e0 e1 e2 e3 e4
  simp only [longPol, Bool.or_eq_false_iff, decide_eq_false_iff_not] at hlong
  have b4 := hlong.1.1
  have hrl := hlong.2
  have C4 : Hid (∀ W, Lo w W → Calls Try.prog 127 #[.slice A4 s.rules.length p4, .func (.func 128) #[] #[]] W fun e w' => ∃ A cap, e = .returned (.slice A s.rules.length cap) ∧ Lo W w' ∧ New W.heap.size (SliceC RuleR 3) w' s.rules [.slice A s.rules.length cap]) := Lib.hid fun W hW => by
    refine (MPolicyRule.mapped RuleR.kept (fun x => x) A4 p4 s.rules W (Nat.le_trans hB hW.size) (SliceAt.lo RuleR.kept h4 hW hB) (by omega) enters_ownRule ruleShape ?_).mono ?_
    · intro W' x xa0 xn0 xk0 xa1 xn1 xk1 xa2 xn2 xk2 hx hlo hr
      refine (ownRule x _ _ _ W' (Nat.le_trans hB (hW.trans hlo).size) hr (any_no hrl hx)).mono ?_
      rintro e w' h
      exact ownRule_out h
    · rintro e w' ⟨v, rfl, hl, hrow⟩
      rw [List.map_id'] at hrow
      obtain ⟨A, cap, rfl, hft⟩ := hrow.fresh
      exact ⟨A, cap, rfl, hl, hft⟩
  clear h4
  have HE : Hid (∀ (bs : Nat) (W : World) (ya4 : Option Addr) (yk4 : Nat), New bs (SliceC RuleR 3) W s.rules [.slice ya4 s.rules.length yk4] → New bs PolicyR W s [.int .u64 s.id, .string s.ns, .int .u64 s.service, .int .i64 s.deny, .slice ya4 s.rules.length yk4]) := Lib.hid fun bs W ya4 yk4 g4 w' B hw hB => ⟨_, _, _, _, _, rfl, ⟨rfl, z0⟩, ⟨rfl, z1⟩, ⟨rfl, z2⟩, ⟨rfl, z3⟩, g4 w' B hw hB⟩
  obtain ⟨n4, hn4⟩ : ∃ n, s.rules.length = n := ⟨_, rfl⟩
  obtain ⟨x0, hx0⟩ : ∃ t, s.id = t := ⟨_, rfl⟩
  obtain ⟨x1, hx1⟩ : ∃ t, s.ns = t := ⟨_, rfl⟩
  obtain ⟨x2, hx2⟩ : ∃ t, s.service = t := ⟨_, rfl⟩
  obtain ⟨x3, hx3⟩ : ∃ t, s.deny = t := ⟨_, rfl⟩
  simp only [hn4, hx0, hx1, hx2, hx3] at C4 HE ⊢
  clear hn4 hx0 hx1 hx2 hx3 z0 z1 z2 z3 hrl hlong
  go_enter Try.func94, Try.ntmps94
  go_wp2_with fail
  refine (C4.out _ ?_).mono ?_
  · exact (by repeat (first | exact Lo.refl _ | assumption | refine Lo.drew ?_ | refine Lo.alloc ?_ _ | refine Lo.setCell ?_ (by first | (dsimp only; omega) | (simp; omega) | (simp; done)) _ | refine Lo.trans ?_ (by assumption)))
  rintro e w2 ⟨ya4, yk4, rfl, hb, g4⟩
  have hlw2 : Lo w w2 := (((Lo.refl w).alloc _).alloc _).trans hb
  have hz2 : w.heap.size + 1 < w2.heap.size := hb.facts.2.2 _ (by simp)
  have a0 : w2.cell? ⟨w.heap.size, 0, none⟩ = some (.int .u64 x0) := lo_keep hb (by simp)
  have a1 : w2.cell? ⟨w.heap.size, 1, none⟩ = some (.string x1) := lo_keep hb (by simp)
  have a2 : w2.cell? ⟨w.heap.size, 2, none⟩ = some (.int .u64 x2) := lo_keep hb (by simp)
  have a3 : w2.cell? ⟨w.heap.size, 3, none⟩ = some (.int .i64 x3) := lo_keep hb (by simp)
  have a4 : w2.cell? ⟨w.heap.size, 4, none⟩ = some (.slice A4 n4 p4) := lo_keep hb (by simp)
  have r0 : w2.cell? ⟨w.heap.size + 1, 0, none⟩ = some (.int .u64 0) := lo_keep hb (by simp)
  have r1 : w2.cell? ⟨w.heap.size + 1, 1, none⟩ = some (.string ⟨#[]⟩) := lo_keep hb (by simp)
  have r2 : w2.cell? ⟨w.heap.size + 1, 2, none⟩ = some (.int .u64 0) := lo_keep hb (by simp)
  have r3 : w2.cell? ⟨w.heap.size + 1, 3, none⟩ = some (.int .i64 0) := lo_keep hb (by simp)
  have r4 : w2.cell? ⟨w.heap.size + 1, 4, none⟩ = some (.slice none 0 0) := lo_keep hb (by simp)
  have u4 : w2.frozen? ⟨w.heap.size, 4, none⟩ = false := (hb.facts.2.1 _ 4 (by simp; omega)).trans (by simp)
  have s0 : w2.frozen? ⟨w.heap.size + 1, 0, none⟩ = false := (hb.facts.2.1 _ 0 (by simp)).trans (by simp)
  have s1 : w2.frozen? ⟨w.heap.size + 1, 1, none⟩ = false := (hb.facts.2.1 _ 1 (by simp)).trans (by simp)
  have s2 : w2.frozen? ⟨w.heap.size + 1, 2, none⟩ = false := (hb.facts.2.1 _ 2 (by simp)).trans (by simp)
  have s3 : w2.frozen? ⟨w.heap.size + 1, 3, none⟩ = false := (hb.facts.2.1 _ 3 (by simp)).trans (by simp)
  have s4 : w2.frozen? ⟨w.heap.size + 1, 4, none⟩ = false := (hb.facts.2.1 _ 4 (by simp)).trans (by simp)
  have hsb : w.heap.size + 2 ≤ w2.heap.size := by omega
  have g4 := New.base (base' := w.heap.size + 2) g4 (by simp)
  clear hb
  go_wp2
  obtain ⟨w9, h9⟩ : ∃ w9, ((((((w2.setCell ⟨w.heap.size, 4, none⟩ (.slice ya4 n4 yk4)).setCell ⟨w.heap.size + 1, 0, none⟩ (.int .u64 x0)).setCell ⟨w.heap.size + 1, 1, none⟩ (.string x1)).setCell ⟨w.heap.size + 1, 2, none⟩ (.int .u64 x2)).setCell ⟨w.heap.size + 1, 3, none⟩ (.int .i64 x3)).setCell ⟨w.heap.size + 1, 4, none⟩ (.slice ya4 n4 yk4)) = w9 := ⟨_, rfl⟩
  rw [h9]
  have q0 : w9.cell? ⟨w.heap.size + 1, 0, none⟩ = some (.int .u64 x0) := by
    rw [← h9, setCell_other _ _ _ _ _ _ (by simp), setCell_other _ _ _ _ _ _ (by simp), setCell_other _ _ _ _ _ _ (by simp), setCell_other _ _ _ _ _ _ (by simp)]
    refine World.cell?_setCell_same _ _ _ (u := .int .u64 0) ?_
    rw [setCell_other _ _ _ _ _ _ (by simp)]
    exact r0
  have q1 : w9.cell? ⟨w.heap.size + 1, 1, none⟩ = some (.string x1) := by
    rw [← h9, setCell_other _ _ _ _ _ _ (by simp), setCell_other _ _ _ _ _ _ (by simp), setCell_other _ _ _ _ _ _ (by simp)]
    refine World.cell?_setCell_same _ _ _ (u := .string ⟨#[]⟩) ?_
    rw [setCell_other _ _ _ _ _ _ (by simp), setCell_other _ _ _ _ _ _ (by simp)]
    exact r1
  have q2 : w9.cell? ⟨w.heap.size + 1, 2, none⟩ = some (.int .u64 x2) := by
    rw [← h9, setCell_other _ _ _ _ _ _ (by simp), setCell_other _ _ _ _ _ _ (by simp)]
    refine World.cell?_setCell_same _ _ _ (u := .int .u64 0) ?_
    rw [setCell_other _ _ _ _ _ _ (by simp), setCell_other _ _ _ _ _ _ (by simp), setCell_other _ _ _ _ _ _ (by simp)]
    exact r2
  have q3 : w9.cell? ⟨w.heap.size + 1, 3, none⟩ = some (.int .i64 x3) := by
    rw [← h9, setCell_other _ _ _ _ _ _ (by simp)]
    refine World.cell?_setCell_same _ _ _ (u := .int .i64 0) ?_
    rw [setCell_other _ _ _ _ _ _ (by simp), setCell_other _ _ _ _ _ _ (by simp), setCell_other _ _ _ _ _ _ (by simp), setCell_other _ _ _ _ _ _ (by simp)]
    exact r3
  have q4 : w9.cell? ⟨w.heap.size + 1, 4, none⟩ = some (.slice ya4 n4 yk4) := by
    rw [← h9]
    refine World.cell?_setCell_same _ _ _ (u := .slice none 0 0) ?_
    rw [setCell_other _ _ _ _ _ _ (by simp), setCell_other _ _ _ _ _ _ (by simp), setCell_other _ _ _ _ _ _ (by simp), setCell_other _ _ _ _ _ _ (by simp), setCell_other _ _ _ _ _ _ (by simp)]
    exact r4
  have hl9 : Lo w w9 := by rw [← h9]; exact Lo.setCell (Lo.setCell (Lo.setCell (Lo.setCell (Lo.setCell (Lo.setCell hlw2 (by simp) _) (by simp) _) (by simp) _) (by simp) _) (by simp) _) (by simp) _
  have hs9 : w9.heap.size = w2.heap.size := by rw [← h9]; simp
  have hfar : ∀ p : Addr, w.heap.size + 2 ≤ p.block → w9.cell? p = w2.cell? p := fun p hp => by
    rw [← h9]
    rw [setCell_far _ _ _ _ (by simp; omega), setCell_far _ _ _ _ (by simp; omega), setCell_far _ _ _ _ (by simp; omega), setCell_far _ _ _ _ (by simp; omega), setCell_far _ _ _ _ (by simp; omega), setCell_far _ _ _ _ (by simp; omega)]
  have hN := ((HE.out (w.heap.size + 2) w2 ya4 yk4 g4).keep (w1 := w9) fun p hp => hfar p hp.1).mono (S' := fun b => w.heap.size ≤ b ∧ b < w9.heap.size) fun b hb => ⟨by omega, by omega⟩
  clear h9
  exact bodyPost_ret (v := .agg #[.int .u64 x0, .string x1, .int .u64 x2, .int .i64 x3, .slice ya4 n4 yk4]) (by simp [results, Try.results94, go_sem, q0, q1, q2, q3, q4]) rfl ⟨ya4, yk4, rfl, hl9, hN⟩
end Go.Proofs.Ytlcecabfmemfeaa.WAuth
