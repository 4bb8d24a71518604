/- The walks of gatepostlaw12.Long and gatepostlaw13.Long. -/
import Derived.Test.YtlcecabfmemfeaaGreatWLong2
namespace Go.Proofs.YtlcecabfmemfeaaGreat.WAuth
set_option linter.unusedVariables false
set_option linter.unusedSimpArgs false
open Go.RowKit Mem BigFrame WMatch WAddr WName Opn

def longPol (p : Pl.Policy) : Bool := decide (20 < p.rules.length) || decide (300 < p.ns.size) || p.rules.any longRule

set_option maxRecDepth 100000 in
set_option maxHeartbeats 4000000 in
theorem long12 (p : Pl.Policy) (c0 c1 c2 c3 c4 : Value) {B : Nat} (w : World) (hB : B ≤ w.heap.size) (hp : PolicyR B w p [c0, c1, c2, c3, c4]) :
    Calls Tryz.prog 26 #[.agg #[c0, c1, c2, c3, c4]] w fun e w' => e = .returned (.bool (longPol p)) ∧ Lo w w' := by
  obtain ⟨d0, d1, d2, d3, d4, he, ⟨e0, z0⟩, ⟨e1, z1⟩, ⟨e2, z2⟩, ⟨e3, z3⟩, ⟨A4, p4, e4, h4, l4, m4⟩⟩ := hp
  injection he with q0 he; injection he with q1 he; injection he with q2 he; injection he with q3 he; injection he with q4 he
  subst q0 q1 q2 q3 q4
  injection e0 with e0; injection e1 with e1; injection e2 with e2; injection e3 with e3; injection e4 with e4
  subst e0 e1 e2 e3 e4
  unfold maxLen at m4 z1
  have HL : Hid (longPol p = (decide (20 < p.rules.length) || decide (300 < p.ns.size) || p.rules.any longRule)) := Lib.hid rfl
  by_cases g0 : 20 < p.rules.length
  · go_enter Tryz.func26, Tryz.ntmps26
    go_wp2
    go_ret
    exact ⟨ret_bool (by rw [HL.out]; simp [g0]), (by repeat (first | exact Lo.refl _ | assumption | refine Lo.drew ?_ | refine Lo.alloc ?_ _ | refine Lo.setCell ?_ (by first | (dsimp only; omega) | (simp; omega) | (simp; done)) _ | refine Lo.trans ?_ (by assumption)))⟩
  by_cases g1 : 300 < p.ns.size
  · go_enter Tryz.func26, Tryz.ntmps26
    go_wp2
    go_ret
    exact ⟨ret_bool (by rw [HL.out]; simp [g1]), (by repeat (first | exact Lo.refl _ | assumption | refine Lo.drew ?_ | refine Lo.alloc ?_ _ | refine Lo.setCell ?_ (by first | (dsimp only; omega) | (simp; omega) | (simp; done)) _ | refine Lo.trans ?_ (by assumption)))⟩
  have HL2 : Hid (longPol p = p.rules.any longRule) := Lib.hid (by rw [HL.out]; simp [g0, g1])
  clear HL
  go_enter Tryz.func26, Tryz.ntmps26
  go_wp2
  go_loopw [3] (fun i wr => ∃ k : Nat, k ≤ p.rules.length ∧ i = .int .i64 k ∧ Lo w wr ∧ BoxAt wr w.heap.size [.int .u64 p.id, .string p.ns, .int .u64 p.service, .int .i64 p.deny, .slice A4 p.rules.length p4] ∧ Hid ((p.rules.take k).any longRule = false)) (fun i _ => p.rules.length - (intOf i).toNat)
  case atStart => exact ⟨0, Nat.zero_le _, rfl, (by repeat (first | exact Lo.refl _ | assumption | refine Lo.drew ?_ | refine Lo.alloc ?_ _ | refine Lo.setCell ?_ (by first | (dsimp only; omega) | (simp; omega) | (simp; done)) _ | refine Lo.trans ?_ (by assumption))), BoxAt.new _ _ _, Lib.hid rfl⟩
  case round =>
    obtain ⟨k, hk, rfl, hlo, hbx, hall⟩ := hrel
    have hb4 := hbx 4 _ rfl
    by_cases hlt : k < p.rules.length
    · obtain ⟨b, off, cs, rfl, hb, hl2, hc, hr⟩ := (SliceAt.lo RuleR.kept h4 hlo hB) k p.rules[k] (List.getElem?_eq_getElem hlt)
      obtain ⟨d0, d1, d2, rfl⟩ : ∃ d0 d1 d2, cs = [d0, d1, d2] := by
        match cs, hl2 with
        | [d0, d1, d2], _ => exact ⟨d0, d1, d2, rfl⟩
      have hc0 : wr.cell? ⟨b, off + k * 3, none⟩ = _ := hc 0 _ rfl
      have hc1 : wr.cell? ⟨b, off + k * 3 + 1, none⟩ = _ := hc 1 _ rfl
      have hc2 : wr.cell? ⟨b, off + k * 3 + 2, none⟩ = _ := hc 2 _ rfl
      have HC := Lib.hid (longRule_ p.rules[k] d0 d1 d2 wr (Nat.le_trans hB hlo.size) hr)
      clear hc hl2 hr
      cases hM : longRule p.rules[k]
      · have HM := Lib.hid hM
        have HN := Lib.hid (WIdxWhen.any_snoc' hall.out hlt hM)
        clear hM
        go_wp2_with fail
        refine (HC.out).mono ?_
        rw [HM.out]
        rintro e w1 ⟨rfl, hb1⟩
        go_wp2
        go_roundw
        case rel => exact ⟨k + 1, by omega, by go_num, (by repeat (first | exact Lo.refl _ | assumption | refine Lo.drew ?_ | refine Lo.alloc ?_ _ | refine Lo.setCell ?_ (by first | (dsimp only; omega) | (simp; omega) | (simp; done)) _ | refine Lo.trans ?_ (by assumption))), hbx.lo hb1, HN⟩
        case measure => simp [intOf]; omega
      · have HM := Lib.hid hM
        have HY := Lib.hid (any_yes (p := longRule) hlt hM)
        clear hM
        go_wp2_with fail
        refine (HC.out).mono ?_
        rw [HM.out]
        rintro e w1 ⟨rfl, hb1⟩
        go_wp2
        go_ret
        exact ⟨ret_bool (by rw [HL2.out, HY.out]), (by repeat (first | exact Lo.refl _ | assumption | refine Lo.drew ?_ | refine Lo.alloc ?_ _ | refine Lo.setCell ?_ (by first | (dsimp only; omega) | (simp; omega) | (simp; done)) _ | refine Lo.trans ?_ (by assumption)))⟩
    · have HF := hall.out
      rw [List.take_of_length_le (by omega)] at HF
      have HG := Lib.hid HF
      clear HF
      go_wp2
      go_ret
      exact ⟨ret_bool (by rw [HL2.out, HG.out]), (by repeat (first | exact Lo.refl _ | assumption | refine Lo.drew ?_ | refine Lo.alloc ?_ _ | refine Lo.setCell ?_ (by first | (dsimp only; omega) | (simp; omega) | (simp; done)) _ | refine Lo.trans ?_ (by assumption)))⟩

def long13 (l : List Pl.Policy) (a : Pl.Asker) (q : Pl.Req) : Bool := decide (30 < l.length) || decide (600 < wrap64 ((a.ns.size : Int) + a.sa.size)) || decide (6000 < wrap64 (wrap64 ((q.method.size : Int) + q.path.size) + q.host.size)) || longHeads q.heads || l.any longPol
/-- what of an asker and a request fits in memory, however many headers -/
structure Fits0 (B : Nat) (w : World) (a : Pl.Asker) (q : Pl.Req) (A : Option Addr) : Prop where
  ns : a.ns.size ≤ maxLen
  sa : a.sa.size ≤ maxLen
  method : q.method.size ≤ maxLen
  path : q.path.size ≤ maxLen
  host : q.host.size ≤ maxLen
  heads : SliceAt HeadR 2 B w A q.heads
  few : q.heads.length ≤ maxLen
theorem Fits0.lo {B : Nat} {w w' : World} {a : Pl.Asker} {q : Pl.Req} {A : Option Addr} (h : Fits0 B w a q A) (hl : Lo w w') (hB : B ≤ w.heap.size) : Fits0 B w' a q A :=
  { h with heads := SliceAt.lo HeadR.kept h.heads hl hB }
theorem Fits0.fits {B : Nat} {w : World} {a : Pl.Asker} {q : Pl.Req} {A : Option Addr} {l : List Pl.Policy} (h : Fits0 B w a q A) (hl : long13 l a q = false) : Fits B w a q A :=
  ⟨h.ns, h.sa, h.method, h.path, h.host, h.heads, by
    unfold long13 longHeads at hl
    simp only [Bool.or_eq_false_iff, decide_eq_false_iff_not] at hl
    omega⟩

set_option maxRecDepth 100000 in
set_option maxHeartbeats 4000000 in
theorem long13_ (l : List Pl.Policy) (A0 : Option Addr) (cap0 : Nat) (a : Pl.Asker) (q : Pl.Req) (A : Option Addr) (cap : Nat) (tg qu bd : Value) {B : Nat} (w : World) (hB : B ≤ w.heap.size) (hA : SliceAt PolicyR 5 B w A0 l) (hn : l.length ≤ maxLen) (hf : Fits0 B w a q A) (ht : tg.oneCell' = true) (hu : qu.oneCell' = true) (hbd : bd.oneCell' = true) :
    Calls Tryz.prog 7 #[.slice A0 l.length cap0, .agg #[.string a.ns, .string a.sa, .int .u32 a.addr], .agg #[.string q.method, tg, .string q.path, qu, .string q.host, .slice A q.heads.length cap, bd]] w fun e w' => e = .returned (.bool (long13 l a q)) ∧ Lo w w' := by
  obtain ⟨z0, z1, z2, z3, z4, hh, hfew⟩ := hf
  have HH : Hid (∀ W, Lo w W → Calls Tryz.prog 27 #[.slice A q.heads.length cap] W fun e w' => e = .returned (.bool (longHeads q.heads)) ∧ Lo W w') := Lib.hid fun W hW => long9 q.heads A cap W (Nat.le_trans hB hW.size) (SliceAt.lo HeadR.kept hh hW hB) hfew
  unfold maxLen at hn z0 z1 z2 z3 z4 hfew
  have HL : Hid (long13 l a q = (decide (30 < l.length) || decide (600 < wrap64 ((a.ns.size : Int) + a.sa.size)) || decide (6000 < wrap64 (wrap64 ((q.method.size : Int) + q.path.size) + q.host.size)) || longHeads q.heads || l.any longPol)) := Lib.hid rfl
  clear hh
  by_cases g0 : 30 < l.length
  · go_enter Tryz.func7, Tryz.ntmps7
    go_wp2
    go_ret
    exact ⟨ret_bool (by rw [HL.out]; simp [g0]), (by repeat (first | exact Lo.refl _ | assumption | refine Lo.drew ?_ | refine Lo.alloc ?_ _ | refine Lo.setCell ?_ (by first | (dsimp only; omega) | (simp; omega) | (simp; done)) _ | refine Lo.trans ?_ (by assumption)))⟩
  by_cases g1 : 600 < wrap64 ((a.ns.size : Int) + a.sa.size)
  · go_enter Tryz.func7, Tryz.ntmps7
    go_wp2
    go_ret
    exact ⟨ret_bool (by rw [HL.out]; simp [g1]), (by repeat (first | exact Lo.refl _ | assumption | refine Lo.drew ?_ | refine Lo.alloc ?_ _ | refine Lo.setCell ?_ (by first | (dsimp only; omega) | (simp; omega) | (simp; done)) _ | refine Lo.trans ?_ (by assumption)))⟩
  by_cases g2 : 6000 < wrap64 (wrap64 ((q.method.size : Int) + q.path.size) + q.host.size)
  · go_enter Tryz.func7, Tryz.ntmps7
    go_wp2
    go_ret
    exact ⟨ret_bool (by rw [HL.out]; simp [g2]), (by repeat (first | exact Lo.refl _ | assumption | refine Lo.drew ?_ | refine Lo.alloc ?_ _ | refine Lo.setCell ?_ (by first | (dsimp only; omega) | (simp; omega) | (simp; done)) _ | refine Lo.trans ?_ (by assumption)))⟩
  have HL2 : Hid (long13 l a q = (longHeads q.heads || l.any longPol)) := Lib.hid (by rw [HL.out]; simp [g0, g1, g2])
  clear HL
  generalize hy : longHeads q.heads = y at *
  clear hy
  cases y
  · go_enter Tryz.func7, Tryz.ntmps7
    go_wp2_with fail
    refine (HH.out _ ?_).mono ?_
    · exact (by repeat (first | exact Lo.refl _ | assumption | refine Lo.drew ?_ | refine Lo.alloc ?_ _ | refine Lo.setCell ?_ (by first | (dsimp only; omega) | (simp; omega) | (simp; done)) _ | refine Lo.trans ?_ (by assumption)))
    rintro e w1 ⟨rfl, hb⟩
    have hl1 : Lo w w1 := (by repeat (first | exact Lo.refl _ | assumption | refine Lo.drew ?_ | refine Lo.alloc ?_ _ | refine Lo.setCell ?_ (by first | (dsimp only; omega) | (simp; omega) | (simp; done)) _ | refine Lo.trans ?_ (by assumption)))
    clear hb
    go_wp2
    go_loopw [7] (fun i wr => ∃ k : Nat, k ≤ l.length ∧ i = .int .i64 k ∧ Lo w wr ∧ Hid ((l.take k).any longPol = false)) (fun i _ => l.length - (intOf i).toNat)
    case atStart => exact ⟨0, Nat.zero_le _, rfl, hl1, Lib.hid rfl⟩
    case round =>
      obtain ⟨k, hk, rfl, hlo, hall⟩ := hrel
      by_cases hlt : k < l.length
      · obtain ⟨b, off, cs, rfl, hb, hl2, hc, hr⟩ := (SliceAt.lo PolicyR.kept hA hlo hB) k l[k] (List.getElem?_eq_getElem hlt)
        obtain ⟨d0, d1, d2, d3, d4, rfl⟩ : ∃ d0 d1 d2 d3 d4, cs = [d0, d1, d2, d3, d4] := by
          match cs, hl2 with
          | [d0, d1, d2, d3, d4], _ => exact ⟨d0, d1, d2, d3, d4, rfl⟩
        have hc0 : wr.cell? ⟨b, off + k * 5, none⟩ = _ := hc 0 _ rfl
        have hc1 : wr.cell? ⟨b, off + k * 5 + 1, none⟩ = _ := hc 1 _ rfl
        have hc2 : wr.cell? ⟨b, off + k * 5 + 2, none⟩ = _ := hc 2 _ rfl
        have hc3 : wr.cell? ⟨b, off + k * 5 + 3, none⟩ = _ := hc 3 _ rfl
        have hc4 : wr.cell? ⟨b, off + k * 5 + 4, none⟩ = _ := hc 4 _ rfl
        have HC := Lib.hid (long12 l[k] d0 d1 d2 d3 d4 wr (Nat.le_trans hB hlo.size) hr)
        clear hc hl2 hr
        cases hM : longPol l[k]
        · have HM := Lib.hid hM
          have HN := Lib.hid (WIdxWhen.any_snoc' hall.out hlt hM)
          clear hM
          go_wp2_with fail
          refine (HC.out).mono ?_
          rw [HM.out]
          rintro e w1 ⟨rfl, hb1⟩
          go_wp2
          go_roundw
          case rel => exact ⟨k + 1, by omega, by go_num, (by repeat (first | exact Lo.refl _ | assumption | refine Lo.drew ?_ | refine Lo.alloc ?_ _ | refine Lo.setCell ?_ (by first | (dsimp only; omega) | (simp; omega) | (simp; done)) _ | refine Lo.trans ?_ (by assumption))), HN⟩
          case measure => simp [intOf]; omega
        · have HM := Lib.hid hM
          have HY := Lib.hid (any_yes (p := longPol) hlt hM)
          clear hM
          go_wp2_with fail
          refine (HC.out).mono ?_
          rw [HM.out]
          rintro e w1 ⟨rfl, hb1⟩
          go_wp2
          go_ret
          exact ⟨ret_bool (by rw [HL2.out, HY.out]; rfl), (by repeat (first | exact Lo.refl _ | assumption | refine Lo.drew ?_ | refine Lo.alloc ?_ _ | refine Lo.setCell ?_ (by first | (dsimp only; omega) | (simp; omega) | (simp; done)) _ | refine Lo.trans ?_ (by assumption)))⟩
      · have HF := hall.out
        rw [List.take_of_length_le (by omega)] at HF
        have HG := Lib.hid HF
        clear HF
        go_wp2
        go_ret
        exact ⟨ret_bool (by rw [HL2.out, HG.out]; rfl), (by repeat (first | exact Lo.refl _ | assumption | refine Lo.drew ?_ | refine Lo.alloc ?_ _ | refine Lo.setCell ?_ (by first | (dsimp only; omega) | (simp; omega) | (simp; done)) _ | refine Lo.trans ?_ (by assumption)))⟩
  · go_enter Tryz.func7, Tryz.ntmps7
    go_wp2_with fail
    refine (HH.out _ ?_).mono ?_
    · exact (by repeat (first | exact Lo.refl _ | assumption | refine Lo.drew ?_ | refine Lo.alloc ?_ _ | refine Lo.setCell ?_ (by first | (dsimp only; omega) | (simp; omega) | (simp; done)) _ | refine Lo.trans ?_ (by assumption)))
    rintro e w1 ⟨rfl, hb⟩
    go_wp2
    go_ret
    exact ⟨ret_bool (by rw [HL2.out]; rfl), (by repeat (first | exact Lo.refl _ | assumption | refine Lo.drew ?_ | refine Lo.alloc ?_ _ | refine Lo.setCell ?_ (by first | (dsimp only; omega) | (simp; omega) | (simp; done)) _ | refine Lo.trans ?_ (by assumption)))⟩
end Go.Proofs.YtlcecabfmemfeaaGreat.WAuth
