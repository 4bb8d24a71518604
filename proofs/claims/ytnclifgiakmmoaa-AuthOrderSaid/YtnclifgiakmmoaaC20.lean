/- Merged by bundles.py: WLong3, WEx13. -/
import Derived.Test.YtnclifgiakmmoaaC19
/- The walks of gatepostlaw12.Long and gatepostlaw13.Long. -/
namespace Go.Proofs.Ytnclifgiakmmoaa.WAuth
set_option linter.unusedVariables false
set_option linter.unusedSimpArgs false
open Go.RowKit Mem BigFrame WMatch WAddr WName Opn

def longPol (p : Pl.Policy) : Bool := decide (20 < p.rules.length) || decide (300 < p.ns.size) || p.rules.any longRule

set_option maxRecDepth 100000 in
set_option maxHeartbeats 4000000 in
theorem long12 (p : Pl.Policy) (c0 c1 c2 c3 c4 : Value) {B : Nat} (w : World) (hB : B ≤ w.heap.size) (hp : PolicyR B w p [c0, c1, c2, c3, c4]) :
    Calls Try.prog 6 #[.agg #[c0, c1, c2, c3, c4]] w fun e w' => e = .returned (.bool (longPol p)) ∧ Lo w w' := by
  obtain ⟨d0, d1, d2, d3, d4, he, ⟨e0, z0⟩, ⟨e1, z1⟩, ⟨e2, z2⟩, ⟨e3, z3⟩, ⟨A4, p4, e4, h4, l4, m4⟩⟩ := hp
  injection he with q0 he; injection he with q1 he; injection he with q2 he; injection he with q3 he; injection he with q4 he
  subst q0 q1 q2 q3 q4
  injection e0 with e0; injection e1 with e1; injection e2 with e2; injection e3 with e3; injection e4 with e4
  subst e0 e1 e2 e3 e4
  unfold maxLen at m4 z1
  have HL : Hid (longPol p = (decide (20 < p.rules.length) || decide (300 < p.ns.size) || p.rules.any longRule)) := Lib.hid rfl
  by_cases g0 : 20 < p.rules.length
  · go_enter Try.func6, Try.ntmps6
    go_wp2
    go_ret
    exact ⟨ret_bool (by rw [HL.out]; simp [g0]), (by repeat (first | exact Lo.refl _ | assumption | refine Lo.drew ?_ | refine Lo.alloc ?_ _ | refine Lo.setCell ?_ (by first | (dsimp only; omega) | (simp; omega) | (simp; done)) _ | refine Lo.trans ?_ (by assumption)))⟩
  by_cases g1 : 300 < p.ns.size
  · go_enter Try.func6, Try.ntmps6
    go_wp2
    go_ret
    exact ⟨ret_bool (by rw [HL.out]; simp [g1]), (by repeat (first | exact Lo.refl _ | assumption | refine Lo.drew ?_ | refine Lo.alloc ?_ _ | refine Lo.setCell ?_ (by first | (dsimp only; omega) | (simp; omega) | (simp; done)) _ | refine Lo.trans ?_ (by assumption)))⟩
  have HL2 : Hid (longPol p = p.rules.any longRule) := Lib.hid (by rw [HL.out]; simp [g0, g1])
  clear HL
  go_enter Try.func6, Try.ntmps6
  go_wp2
  go_loopw [3] (fun i wr => ∃ k : Nat, k ≤ p.rules.length ∧ i = .int .i64 k ∧ Lo w wr ∧ BoxAt wr w.heap.size [.int .u64 p.id, .string p.ns, .int .u64 p.service, .int .i64 p.deny, .slice A4 p.rules.length p4] ∧ Hid ((p.rules.take k).any longRule = false)) (fun i _ => p.rules.length - (intOf i).toNat)
  case atStart => exact ⟨0, Nat.zero_le _, rfl, (by repeat (first | exact Lo.refl _ | assumption | refine Lo.drew ?_ | refine Lo.alloc ?_ _ | refine Lo.setCell ?_ (by first | (dsimp only; omega) | (simp; omega) | (simp; done)) _ | refine Lo.trans ?_ (by assumption))), BoxAt.new _ _ _, Lib.hid rfl⟩
  case round =>
    obtain ⟨k, hk, rfl, hlo, hbx, hall⟩ := hrel
    have hb4 := hbx 4 _ rfl
    by_cases hlt : k < p.rules.length
    · obtain ⟨b, off, cs, rfl, hb, hl2, hc, hr⟩ := (SliceAt.lo RuleR.kept h4 hlo hB) k p.rules[k] (List.getElem?_eq_getElem hlt)
      obtain ⟨d0, d1, d2, rfl⟩ : ∃ d0 d1 d2, cs = [d0, d1, d2] := by
        match cs, hl2 with
        | [d0, d1, d2], _ => exact ⟨d0, d1, d2, rfl⟩
      have hc0 : wr.cell? ⟨b, off + k * 3, none⟩ = _ := hc 0 _ rfl
      have hc1 : wr.cell? ⟨b, off + k * 3 + 1, none⟩ = _ := hc 1 _ rfl
      have hc2 : wr.cell? ⟨b, off + k * 3 + 2, none⟩ = _ := hc 2 _ rfl
      have HC := Lib.hid (longRule_ p.rules[k] d0 d1 d2 wr (Nat.le_trans hB hlo.size) hr)
      clear hc hl2 hr
      cases hM : longRule p.rules[k]
      · have HM := Lib.hid hM
        have HN := Lib.hid (WIdxWhen.any_snoc' hall.out hlt hM)
        clear hM
        go_wp2_with fail
        refine (HC.out).mono ?_
        rw [HM.out]
        rintro e w1 ⟨rfl, hb1⟩
        go_wp2
        go_roundw
        case rel => exact ⟨k + 1, by omega, by go_num, (by repeat (first | exact Lo.refl _ | assumption | refine Lo.drew ?_ | refine Lo.alloc ?_ _ | refine Lo.setCell ?_ (by first | (dsimp only; omega) | (simp; omega) | (simp; done)) _ | refine Lo.trans ?_ (by assumption))), hbx.lo hb1, HN⟩
        case measure => simp [intOf]; omega
      · have HM := Lib.hid hM
        have HY := Lib.hid (any_yes (p := longRule) hlt hM)
        clear hM
        go_wp2_with fail
        refine (HC.out).mono ?_
        rw [HM.out]
        rintro e w1 ⟨rfl, hb1⟩
        go_wp2
        go_ret
        exact ⟨ret_bool (by rw [HL2.out, HY.out]), (by repeat (first | exact Lo.refl _ | assumption | refine Lo.drew ?_ | refine Lo.alloc ?_ _ | refine Lo.setCell ?_ (by first | (dsimp only; omega) | (simp; omega) | (simp; done)) _ | refine Lo.trans ?_ (by assumption)))⟩
    · have HF := hall.out
      rw [List.take_of_length_le (by omega)] at HF
      have HG := Lib.hid HF
      clear HF
      go_wp2
      go_ret
      exact ⟨ret_bool (by rw [HL2.out, HG.out]), (by repeat (first | exact Lo.refl _ | assumption | refine Lo.drew ?_ | refine Lo.alloc ?_ _ | refine Lo.setCell ?_ (by first | (dsimp only; omega) | (simp; omega) | (simp; done)) _ | refine Lo.trans ?_ (by assumption)))⟩

def long13 (l : List Pl.Policy) (a : Pl.Asker) (q : Pl.Req) : Bool := decide (30 < l.length) || decide (600 < wrap64 ((a.ns.size : Int) + a.sa.size)) || decide (6000 < wrap64 (wrap64 ((q.method.size : Int) + q.path.size) + q.host.size)) || longHeads q.heads || l.any longPol
/-- what of an asker and a request fits in memory, however many headers -/
structure Fits0 (B : Nat) (w : World) (a : Pl.Asker) (q : Pl.Req) (A : Option Addr) : Prop where
  ns : a.ns.size ≤ maxLen
  sa : a.sa.size ≤ maxLen
  method : q.method.size ≤ maxLen
  path : q.path.size ≤ maxLen
  host : q.host.size ≤ maxLen
  heads : SliceAt HeadR 2 B w A q.heads
  few : q.heads.length ≤ maxLen
theorem Fits0.lo {B : Nat} {w w' : World} {a : Pl.Asker} {q : Pl.Req} {A : Option Addr} (h : Fits0 B w a q A) (hl : Lo w w') (hB : B ≤ w.heap.size) : Fits0 B w' a q A :=
  { h with heads := SliceAt.lo HeadR.kept h.heads hl hB }
set_option maxRecDepth 100000 in
set_option maxHeartbeats 4000000 in
theorem long13_ (l : List Pl.Policy) (A0 : Option Addr) (cap0 : Nat) (a : Pl.Asker) (q : Pl.Req) (A : Option Addr) (cap : Nat) (tg qu bd : Value) {B : Nat} (w : World) (hB : B ≤ w.heap.size) (hA : SliceAt PolicyR 5 B w A0 l) (hn : l.length ≤ maxLen) (hf : Fits0 B w a q A) (ht : tg.oneCell' = true) (hu : qu.oneCell' = true) (hbd : bd.oneCell' = true) :
    Calls Try.prog 5 #[.slice A0 l.length cap0, .agg #[.string a.ns, .string a.sa, .int .u32 a.addr], .agg #[.string q.method, tg, .string q.path, qu, .string q.host, .slice A q.heads.length cap, bd]] w fun e w' => e = .returned (.bool (long13 l a q)) ∧ Lo w w' := by
  obtain ⟨z0, z1, z2, z3, z4, hh, hfew⟩ := hf
  have HH : Hid (∀ W, Lo w W → Calls Try.prog 11 #[.slice A q.heads.length cap] W fun e w' => e = .returned (.bool (longHeads q.heads)) ∧ Lo W w') := Lib.hid fun W hW => long9 q.heads A cap W (Nat.le_trans hB hW.size) (SliceAt.lo HeadR.kept hh hW hB) hfew
  unfold maxLen at hn z0 z1 z2 z3 z4 hfew
  have HL : Hid (long13 l a q = (decide (30 < l.length) || decide (600 < wrap64 ((a.ns.size : Int) + a.sa.size)) || decide (6000 < wrap64 (wrap64 ((q.method.size : Int) + q.path.size) + q.host.size)) || longHeads q.heads || l.any longPol)) := Lib.hid rfl
  clear hh
  by_cases g0 : 30 < l.length
  · go_enter Try.func5, Try.ntmps5
    go_wp2
    go_ret
    exact ⟨ret_bool (by rw [HL.out]; simp [g0]), (by repeat (first | exact Lo.refl _ | assumption | refine Lo.drew ?_ | refine Lo.alloc ?_ _ | refine Lo.setCell ?_ (by first | (dsimp only; omega) | (simp; omega) | (simp; done)) _ | refine Lo.trans ?_ (by assumption)))⟩
  by_cases g1 : 600 < wrap64 ((a.ns.size : Int) + a.sa.size)
  · go_enter Try.func5, Try.ntmps5
    go_wp2
    go_ret
    exact ⟨ret_bool (by rw [HL.out]; simp [g1]), (by repeat (first | exact Lo.refl _ | assumption | refine Lo.drew ?_ | refine Lo.alloc ?_ _ | refine Lo.setCell ?_ (by first | (dsimp only; omega) | (simp; omega) | (simp; done)) _ | refine Lo.trans ?_ (by assumption)))⟩
  by_cases g2 : 6000 < wrap64 (wrap64 ((q.method.size : Int) + q.path.size) + q.host.size)
  · go_enter Try.func5, Try.ntmps5
    go_wp2
    go_ret
    exact ⟨ret_bool (by rw [HL.out]; simp [g2]), (by repeat (first | exact Lo.refl _ | assumption | refine Lo.drew ?_ | refine Lo.alloc ?_ _ | refine Lo.setCell ?_ (by first | (dsimp only; omega) | (simp; omega) | (simp; done)) _ | refine Lo.trans ?_ (by assumption)))⟩
  have HL2 : Hid (long13 l a q = (longHeads q.heads || l.any longPol)) := Lib.hid (by rw [HL.out]; simp [g0, g1, g2])
  clear HL
  generalize hy : longHeads q.heads = y at *
  clear hy
  cases y
  · go_enter Try.func5, Try.ntmps5
    go_wp2_with fail
    refine (HH.out _ ?_).mono ?_
    · exact (by repeat (first | exact Lo.refl _ | assumption | refine Lo.drew ?_ | refine Lo.alloc ?_ _ | refine Lo.setCell ?_ (by first | (dsimp only; omega) | (simp; omega) | (simp; done)) _ | refine Lo.trans ?_ (by assumption)))
    rintro e w1 ⟨rfl, hb⟩
    have hl1 : Lo w w1 := (by repeat (first | exact Lo.refl _ | assumption | refine Lo.drew ?_ | refine Lo.alloc ?_ _ | refine Lo.setCell ?_ (by first | (dsimp only; omega) | (simp; omega) | (simp; done)) _ | refine Lo.trans ?_ (by assumption)))
    clear hb
    go_wp2
    go_loopw [7] (fun i wr => ∃ k : Nat, k ≤ l.length ∧ i = .int .i64 k ∧ Lo w wr ∧ Hid ((l.take k).any longPol = false)) (fun i _ => l.length - (intOf i).toNat)
    case atStart => exact ⟨0, Nat.zero_le _, rfl, hl1, Lib.hid rfl⟩
    case round =>
      obtain ⟨k, hk, rfl, hlo, hall⟩ := hrel
      by_cases hlt : k < l.length
      · obtain ⟨b, off, cs, rfl, hb, hl2, hc, hr⟩ := (SliceAt.lo PolicyR.kept hA hlo hB) k l[k] (List.getElem?_eq_getElem hlt)
        obtain ⟨d0, d1, d2, d3, d4, rfl⟩ : ∃ d0 d1 d2 d3 d4, cs = [d0, d1, d2, d3, d4] := by
          match cs, hl2 with
          | [d0, d1, d2, d3, d4], _ => exact ⟨d0, d1, d2, d3, d4, rfl⟩
        have hc0 : wr.cell? ⟨b, off + k * 5, none⟩ = _ := hc 0 _ rfl
        have hc1 : wr.cell? ⟨b, off + k * 5 + 1, none⟩ = _ := hc 1 _ rfl
        have hc2 : wr.cell? ⟨b, off + k * 5 + 2, none⟩ = _ := hc 2 _ rfl
        have hc3 : wr.cell? ⟨b, off + k * 5 + 3, none⟩ = _ := hc 3 _ rfl
        have hc4 : wr.cell? ⟨b, off + k * 5 + 4, none⟩ = _ := hc 4 _ rfl
        have HC := Lib.hid (long12 l[k] d0 d1 d2 d3 d4 wr (Nat.le_trans hB hlo.size) hr)
        clear hc hl2 hr
        cases hM : longPol l[k]
        · have HM := Lib.hid hM
          have HN := Lib.hid (WIdxWhen.any_snoc' hall.out hlt hM)
          clear hM
          go_wp2_with fail
          refine (HC.out).mono ?_
          rw [HM.out]
          rintro e w1 ⟨rfl, hb1⟩
          go_wp2
          go_roundw
          case rel => exact ⟨k + 1, by omega, by go_num, (by repeat (first | exact Lo.refl _ | assumption | refine Lo.drew ?_ | refine Lo.alloc ?_ _ | refine Lo.setCell ?_ (by first | (dsimp only; omega) | (simp; omega) | (simp; done)) _ | refine Lo.trans ?_ (by assumption))), HN⟩
          case measure => simp [intOf]; omega
        · have HM := Lib.hid hM
          have HY := Lib.hid (any_yes (p := longPol) hlt hM)
          clear hM
          go_wp2_with fail
          refine (HC.out).mono ?_
          rw [HM.out]
          rintro e w1 ⟨rfl, hb1⟩
          go_wp2
          go_ret
          exact ⟨ret_bool (by rw [HL2.out, HY.out]; rfl), (by repeat (first | exact Lo.refl _ | assumption | refine Lo.drew ?_ | refine Lo.alloc ?_ _ | refine Lo.setCell ?_ (by first | (dsimp only; omega) | (simp; omega) | (simp; done)) _ | refine Lo.trans ?_ (by assumption)))⟩
      · have HF := hall.out
        rw [List.take_of_length_le (by omega)] at HF
        have HG := Lib.hid HF
        clear HF
        go_wp2
        go_ret
        exact ⟨ret_bool (by rw [HL2.out, HG.out]; rfl), (by repeat (first | exact Lo.refl _ | assumption | refine Lo.drew ?_ | refine Lo.alloc ?_ _ | refine Lo.setCell ?_ (by first | (dsimp only; omega) | (simp; omega) | (simp; done)) _ | refine Lo.trans ?_ (by assumption)))⟩
  · go_enter Try.func5, Try.ntmps5
    go_wp2_with fail
    refine (HH.out _ ?_).mono ?_
    · exact (by repeat (first | exact Lo.refl _ | assumption | refine Lo.drew ?_ | refine Lo.alloc ?_ _ | refine Lo.setCell ?_ (by first | (dsimp only; omega) | (simp; omega) | (simp; done)) _ | refine Lo.trans ?_ (by assumption)))
    rintro e w1 ⟨rfl, hb⟩
    go_wp2
    go_ret
    exact ⟨ret_bool (by rw [HL2.out]; rfl), (by repeat (first | exact Lo.refl _ | assumption | refine Lo.drew ?_ | refine Lo.alloc ?_ _ | refine Lo.setCell ?_ (by first | (dsimp only; omega) | (simp; omega) | (simp; done)) _ | refine Lo.trans ?_ (by assumption)))⟩
end Go.Proofs.Ytnclifgiakmmoaa.WAuth

/- The walk of chapter 13's example. -/
namespace Go.Proofs.Ytnclifgiakmmoaa.Mem
set_option linter.unusedVariables false
set_option linter.unusedSimpArgs false
open Go.RowKit
theorem SliceAt.one {α : Type} {R : Rel α} {sz B b : Nat} {w : World} {x : α} {cs : List Value} {t : TypeId} {fr : Nat × Nat} (h : w.heap[b]? = some (.cells cs.toArray t fr)) (hb : b < B) (hl : cs.length = sz) (hR : R B w x cs) : SliceAt R sz B w (some ⟨b, 0, none⟩) [x] := by
  intro k y hy
  match k, hy with
  | 0, hy =>
    simp at hy; subst hy
    refine ⟨b, 0, cs, rfl, hb, hl, ?_, hR⟩
    intro j v hj
    simp only [World.cell?, h, Nat.zero_mul, Nat.zero_add]
    simpa using hj
theorem SliceAt.two {α : Type} {R : Rel α} {sz B b : Nat} {w : World} {x y : α} {cs ds : List Value} {t : TypeId} {fr : Nat × Nat} (h : w.heap[b]? = some (.cells (cs ++ ds).toArray t fr)) (hb : b < B) (hl : cs.length = sz) (hl2 : ds.length = sz) (hR : R B w x cs) (hR2 : R B w y ds) : SliceAt R sz B w (some ⟨b, 0, none⟩) [x, y] := by
  intro k z hz
  match k, hz with
  | 0, hz =>
    simp at hz; subst hz
    refine ⟨b, 0, cs, rfl, hb, hl, ?_, hR⟩
    intro j v hj
    have hjl : j < cs.length := (List.getElem?_eq_some_iff.1 hj).1
    simp only [World.cell?, h, Nat.zero_mul, Nat.zero_add]
    simp
    rw [List.getElem?_append_left hjl]; exact hj
  | 1, hz =>
    simp at hz; subst hz
    refine ⟨b, 0, ds, rfl, hb, hl2, ?_, hR2⟩
    intro j v hj
    simp only [World.cell?, h, Nat.one_mul, Nat.zero_add]
    simp
    rw [List.getElem?_append_right (by omega), hl, Nat.add_sub_cancel_left]; exact hj
end Go.Proofs.Ytnclifgiakmmoaa.Mem
namespace Go.Proofs.Ytnclifgiakmmoaa.WAuth
set_option linter.unusedVariables false
set_option linter.unusedSimpArgs false
open Go.RowKit Mem BigFrame WMatch WAddr WName Opn

theorem term13 (k : Int) (s : ByteArray) (w : World) :
    Calls Try.prog 18 #[.int .i64 k, .string s] w fun e w' => ∃ n, e = .returned (.slice (some ⟨n, 0, none⟩) 1 1) ∧ Lo w w' ∧ w'.heap[n]? = some (.cells #[.int .i64 k, .string s] 70 (0, 0)) := by
  go_enter Try.func18, Try.ntmps18
  go_wp2
  go_ret
  exact ⟨_, rfl, (by repeat (first | exact Lo.refl _ | assumption | refine Lo.drew ?_ | refine Lo.alloc ?_ _ | refine Lo.setCell ?_ (by first | (dsimp only; omega) | (simp; omega) | (simp; done)) _ | refine Lo.trans ?_ (by assumption))), heap_new_at rfl⟩

def exPols : List Pl.Policy := [
  ⟨1, ⟨#[]⟩, 0, 0, [⟨[⟨[⟨3, ⟨#[115, 97, 47, 119, 101, 98]⟩⟩], [], []⟩], [⟨[80], [⟨1, ⟨#[71, 69, 84]⟩⟩], [⟨2, ⟨#[47, 97]⟩⟩], []⟩], []⟩]⟩,
  ⟨2, ⟨#[]⟩, 0, 1, [⟨[], [], [⟨⟨#[120, 45, 98, 97, 100]⟩, [⟨4, ⟨#[]⟩⟩]⟩]⟩]⟩]

theorem nilC {α : Type} {R : Rel α} {sz B : Nat} {w : World} : SliceC R sz B w ([] : List α) [.slice none 0 0] := ⟨none, 0, rfl, SliceAt.nil, by simp, by simp [maxLen]⟩
theorem oneC {α : Type} {R : Rel α} {sz B b : Nat} {w : World} {x : α} {cs : List Value} {t : TypeId} {fr : Nat × Nat} (h : w.heap[b]? = some (.cells cs.toArray t fr)) (hb : b < B) (hl : cs.length = sz) (hR : R B w x cs) : SliceC R sz B w [x] [.slice (some ⟨b, 0, none⟩) 1 1] :=
  ⟨_, _, rfl, SliceAt.one h hb hl hR, by simp, by simp [maxLen]⟩
theorem exRead {W : World} {n1 n2 n3 n4 m1 m2 m3 m4 m5 m6 m7 : Nat}
    (h1 : W.heap[n1]? = some (.cells #[.int .i64 3, .string ⟨#[115, 97, 47, 119, 101, 98]⟩] 70 (0, 0))) (h2 : W.heap[n2]? = some (.cells #[.int .i64 1, .string ⟨#[71, 69, 84]⟩] 70 (0, 0)))
    (h3 : W.heap[n3]? = some (.cells #[.int .i64 2, .string ⟨#[47, 97]⟩] 70 (0, 0))) (h4 : W.heap[n4]? = some (.cells #[.int .i64 4, .string ⟨#[]⟩] 70 (0, 0)))
    (g1 : W.heap[m1]? = some (.cells #[.slice (some ⟨n1, 0, none⟩) 1 1, .slice none 0 0, .slice none 0 0] 55 (0, 0))) (g2 : W.heap[m2]? = some (.cells #[.int .i64 80] 3 (0, 0)))
    (g3 : W.heap[m3]? = some (.cells #[.slice (some ⟨m2, 0, none⟩) 1 1, .slice (some ⟨n2, 0, none⟩) 1 1, .slice (some ⟨n3, 0, none⟩) 1 1, .slice none 0 0] 58 (0, 0)))
    (g4 : W.heap[m4]? = some (.cells #[.slice (some ⟨m1, 0, none⟩) 1 1, .slice (some ⟨m3, 0, none⟩) 1 1, .slice none 0 0] 31 (0, 0)))
    (g5 : W.heap[m5]? = some (.cells #[.string ⟨#[120, 45, 98, 97, 100]⟩, .slice (some ⟨n4, 0, none⟩) 1 1] 60 (0, 0)))
    (g6 : W.heap[m6]? = some (.cells #[.slice none 0 0, .slice none 0 0, .slice (some ⟨m5, 0, none⟩) 1 1] 31 (0, 0)))
    (g7 : W.heap[m7]? = some (.cells #[.int .u64 1, .string ⟨#[]⟩, .int .u64 0, .int .i64 0, .slice (some ⟨m4, 0, none⟩) 1 1, .int .u64 2, .string ⟨#[]⟩, .int .u64 0, .int .i64 1, .slice (some ⟨m6, 0, none⟩) 1 1] 26 (0, 0))) :
    SliceAt PolicyR 5 W.heap.size W (some ⟨m7, 0, none⟩) exPols := by
  have hs0 : (⟨#[]⟩ : ByteArray).size ≤ maxLen := by decide
  have c1 : SliceC TermR 2 W.heap.size W [⟨3, ⟨#[115, 97, 47, 119, 101, 98]⟩⟩] [.slice (some ⟨n1, 0, none⟩) 1 1] := oneC (cs := [.int .i64 3, .string ⟨#[115, 97, 47, 119, 101, 98]⟩]) h1 (block_lt h1) rfl ⟨rfl, by decide⟩
  have c2 : SliceC TermR 2 W.heap.size W [⟨1, ⟨#[71, 69, 84]⟩⟩] [.slice (some ⟨n2, 0, none⟩) 1 1] := oneC (cs := [.int .i64 1, .string ⟨#[71, 69, 84]⟩]) h2 (block_lt h2) rfl ⟨rfl, by decide⟩
  have c3 : SliceC TermR 2 W.heap.size W [⟨2, ⟨#[47, 97]⟩⟩] [.slice (some ⟨n3, 0, none⟩) 1 1] := oneC (cs := [.int .i64 2, .string ⟨#[47, 97]⟩]) h3 (block_lt h3) rfl ⟨rfl, by decide⟩
  have c4 : SliceC TermR 2 W.heap.size W [⟨4, ⟨#[]⟩⟩] [.slice (some ⟨n4, 0, none⟩) 1 1] := oneC (cs := [.int .i64 4, .string ⟨#[]⟩]) h4 (block_lt h4) rfl ⟨rfl, by decide⟩
  have d1 : SliceC SourceR 3 W.heap.size W [⟨[⟨3, ⟨#[115, 97, 47, 119, 101, 98]⟩⟩], [], []⟩] [.slice (some ⟨m1, 0, none⟩) 1 1] := oneC (cs := [_, _, _]) g1 (block_lt g1) rfl ⟨_, _, _, rfl, c1, nilC, nilC⟩
  have d2 : SliceC (IntC .i64) 1 W.heap.size W [80] [.slice (some ⟨m2, 0, none⟩) 1 1] := oneC (cs := [_]) g2 (block_lt g2) rfl ⟨rfl, by decide⟩
  have d3 : SliceC TargetR 4 W.heap.size W [⟨[80], [⟨1, ⟨#[71, 69, 84]⟩⟩], [⟨2, ⟨#[47, 97]⟩⟩], []⟩] [.slice (some ⟨m3, 0, none⟩) 1 1] := oneC (cs := [_, _, _, _]) g3 (block_lt g3) rfl ⟨_, _, _, _, rfl, d2, c2, c3, nilC⟩
  have d4 : SliceC WhenR 2 W.heap.size W [⟨⟨#[120, 45, 98, 97, 100]⟩, [⟨4, ⟨#[]⟩⟩]⟩] [.slice (some ⟨m5, 0, none⟩) 1 1] := oneC (cs := [_, _]) g5 (block_lt g5) rfl ⟨_, _, rfl, ⟨rfl, by decide⟩, c4⟩
  have e1 : SliceC RuleR 3 W.heap.size W [⟨[⟨[⟨3, ⟨#[115, 97, 47, 119, 101, 98]⟩⟩], [], []⟩], [⟨[80], [⟨1, ⟨#[71, 69, 84]⟩⟩], [⟨2, ⟨#[47, 97]⟩⟩], []⟩], []⟩] [.slice (some ⟨m4, 0, none⟩) 1 1] := oneC (cs := [_, _, _]) g4 (block_lt g4) rfl ⟨_, _, _, rfl, d1, d3, nilC⟩
  have e2 : SliceC RuleR 3 W.heap.size W [⟨[], [], [⟨⟨#[120, 45, 98, 97, 100]⟩, [⟨4, ⟨#[]⟩⟩]⟩]⟩] [.slice (some ⟨m6, 0, none⟩) 1 1] := oneC (cs := [_, _, _]) g6 (block_lt g6) rfl ⟨_, _, _, rfl, nilC, nilC, d4⟩
  refine SliceAt.two (cs := [_, _, _, _, _]) (ds := [_, _, _, _, _]) g7 (block_lt g7) rfl rfl ?_ ?_
  · exact ⟨_, _, _, _, _, rfl, ⟨rfl, by decide⟩, ⟨rfl, hs0⟩, ⟨rfl, by decide⟩, ⟨rfl, by decide⟩, e1⟩
  · exact ⟨_, _, _, _, _, rfl, ⟨rfl, by decide⟩, ⟨rfl, hs0⟩, ⟨rfl, by decide⟩, ⟨rfl, by decide⟩, e2⟩

set_option maxRecDepth 100000 in
set_option maxHeartbeats 4000000 in
theorem example13 (w : World) :
    Calls Try.prog 13 #[] w fun e w' => ∃ A, e = .returned (.slice A 2 2) ∧ Lo w w' ∧ SliceAt PolicyR 5 w'.heap.size w' A exPols := by
  go_enter Try.func13, Try.ntmps13
  go_wp2_with fail
  refine (term13 _ _ _).mono ?_; rintro e w1 ⟨n1, rfl, hb1, hn1⟩
  go_wp2_with fail
  refine (term13 _ _ _).mono ?_; rintro e w2 ⟨n2, rfl, hb2, hn2⟩
  go_wp2_with fail
  refine (term13 _ _ _).mono ?_; rintro e w3 ⟨n3, rfl, hb3, hn3⟩
  go_wp2_with fail
  refine (term13 _ _ _).mono ?_; rintro e w4 ⟨n4, rfl, hb4, hn4⟩
  go_wp2
  go_ret
  refine ⟨some ⟨w4.heap.size + 1 + 1, 0, none⟩, rfl, (by repeat (first | exact Lo.refl _ | assumption | refine Lo.drew ?_ | refine Lo.alloc ?_ _ | refine Lo.setCell ?_ (by first | (dsimp only; omega) | (simp; omega) | (simp; done)) _ | refine Lo.trans ?_ (by assumption))), exRead (n1 := n1) (n2 := n2) (n3 := n3) (n4 := n4) (m1 := w1.heap.size) (m2 := w1.heap.size + 1) (m3 := w3.heap.size) (m4 := w3.heap.size + 1) (m5 := w4.heap.size) (m6 := w4.heap.size + 1) ?_ ?_ ?_ ?_ ?_ ?_ ?_ ?_ ?_ ?_ ?_⟩
  · exact Lo.block (a := w1) (by repeat (first | exact Lo.refl _ | assumption | refine Lo.drew ?_ | refine Lo.alloc ?_ _ | refine Lo.setCell ?_ (by first | (dsimp only; omega) | (simp; omega) | (simp; done)) _ | refine Lo.trans ?_ (by assumption))) hn1
  · exact Lo.block (a := w2) (by repeat (first | exact Lo.refl _ | assumption | refine Lo.drew ?_ | refine Lo.alloc ?_ _ | refine Lo.setCell ?_ (by first | (dsimp only; omega) | (simp; omega) | (simp; done)) _ | refine Lo.trans ?_ (by assumption))) hn2
  · exact Lo.block (a := w3) (by repeat (first | exact Lo.refl _ | assumption | refine Lo.drew ?_ | refine Lo.alloc ?_ _ | refine Lo.setCell ?_ (by first | (dsimp only; omega) | (simp; omega) | (simp; done)) _ | refine Lo.trans ?_ (by assumption))) hn3
  · exact Lo.block (a := w4) (by repeat (first | exact Lo.refl _ | assumption | refine Lo.drew ?_ | refine Lo.alloc ?_ _ | refine Lo.setCell ?_ (by first | (dsimp only; omega) | (simp; omega) | (simp; done)) _ | refine Lo.trans ?_ (by assumption))) hn4
  · exact Lo.block (a := w1.alloc _) (by repeat (first | exact Lo.refl _ | assumption | refine Lo.drew ?_ | refine Lo.alloc ?_ _ | refine Lo.setCell ?_ (by first | (dsimp only; omega) | (simp; omega) | (simp; done)) _ | refine Lo.trans ?_ (by assumption))) (heap_alloc_new w1 _)
  · exact Lo.block (a := (w1.alloc _).alloc _) (by repeat (first | exact Lo.refl _ | assumption | refine Lo.drew ?_ | refine Lo.alloc ?_ _ | refine Lo.setCell ?_ (by first | (dsimp only; omega) | (simp; omega) | (simp; done)) _ | refine Lo.trans ?_ (by assumption))) (heap_new_at (by simp))
  · exact Lo.block (a := w3.alloc _) (by repeat (first | exact Lo.refl _ | assumption | refine Lo.drew ?_ | refine Lo.alloc ?_ _ | refine Lo.setCell ?_ (by first | (dsimp only; omega) | (simp; omega) | (simp; done)) _ | refine Lo.trans ?_ (by assumption))) (heap_alloc_new w3 _)
  · exact Lo.block (a := (w3.alloc _).alloc _) (by repeat (first | exact Lo.refl _ | assumption | refine Lo.drew ?_ | refine Lo.alloc ?_ _ | refine Lo.setCell ?_ (by first | (dsimp only; omega) | (simp; omega) | (simp; done)) _ | refine Lo.trans ?_ (by assumption))) (heap_new_at (by simp))
  · exact Lo.block (a := w4.alloc _) (by repeat (first | exact Lo.refl _ | assumption | refine Lo.drew ?_ | refine Lo.alloc ?_ _ | refine Lo.setCell ?_ (by first | (dsimp only; omega) | (simp; omega) | (simp; done)) _ | refine Lo.trans ?_ (by assumption))) (heap_alloc_new w4 _)
  · exact Lo.block (a := (w4.alloc _).alloc _) (by repeat (first | exact Lo.refl _ | assumption | refine Lo.drew ?_ | refine Lo.alloc ?_ _ | refine Lo.setCell ?_ (by first | (dsimp only; omega) | (simp; omega) | (simp; done)) _ | refine Lo.trans ?_ (by assumption))) (heap_new_at (by simp))
  · exact heap_new_at (by simp)
end Go.Proofs.Ytnclifgiakmmoaa.WAuth
