/- Merged by bundles.py: WLong3, WEx13, WAwake13. -/
import Derived.Test.YtnclifgiakmmoaaA12
import Derived.Test.YtnclifgiakmmoaaA0
/- The walks of gatepostlaw12.Long and gatepostlaw13.Long. -/
namespace Go.Proofs.Ytnclifgiakmmoaa.WAuth
set_option linter.unusedVariables false
set_option linter.unusedSimpArgs false
open Go.RowKit Mem BigFrame WMatch WAddr WName Opn

def longPol (p : Pl.Policy) : Bool := decide (20 < p.rules.length) || decide (300 < p.ns.size) || p.rules.any longRule

set_option maxRecDepth 100000 in
set_option maxHeartbeats 4000000 in
theorem long12 (p : Pl.Policy) (c0 c1 c2 c3 c4 : Value) {B : Nat} (w : World) (hB : B ≤ w.heap.size) (hp : PolicyR B w p [c0, c1, c2, c3, c4]) :
    Calls Try.prog 6 #[.agg #[c0, c1, c2, c3, c4]] w fun e w' => e = .returned (.bool (longPol p)) ∧ Lo w w' := by
  obtain ⟨d0, d1, d2, d3, d4, he, ⟨e0, z0⟩, ⟨e1, z1⟩, ⟨e2, z2⟩, ⟨e3, z3⟩, ⟨A4, p4, e4, h4, l4, m4⟩⟩ := hp
  injection he with q0 he; injection he with q1 he; injection he with q2 he; injection he with q3 he; injection he with q4 he
  subst q0 q1 q2 q3 q4
  injection e0 with e0; injection e1 with e1; injection e2 with e2; injection e3 with e3; injection e4 with e4
  subst e0 e1 e2 e3 e4
  unfold maxLen at m4 z1
  have HL : Hid (longPol p = (decide (20 < p.rules.length) || decide (300 < p.ns.size) || p.rules.any longRule)) := Lib.hid rfl
  by_cases g0 : 20 < p.rules.length
  · go_enter Try.func6, Try.ntmps6
    go_wp2
    go_ret
    exact ⟨ret_bool (by rw [HL.out]; simp [g0]), (by repeat (first | exact Lo.refl _ | assumption | refine Lo.drew ?_ | refine Lo.alloc ?_ _ | refine Lo.setCell ?_ (by first | (dsimp only; omega) | (simp; omega) | (simp; done)) _ | refine Lo.trans ?_ (by assumption)))⟩
  by_cases g1 : 300 < p.ns.size
  · go_enter Try.func6, Try.ntmps6
    go_wp2
    go_ret
    exact ⟨ret_bool (by rw [HL.out]; simp [g1]), (by repeat (first | exact Lo.refl _ | assumption | refine Lo.drew ?_ | refine Lo.alloc ?_ _ | refine Lo.setCell ?_ (by first | (dsimp only; omega) | (simp; omega) | (simp; done)) _ | refine Lo.trans ?_ (by assumption)))⟩
  have HL2 : Hid (longPol p = p.rules.any longRule) := Lib.hid (by rw [HL.out]; simp [g0, g1])
  clear HL
  go_enter Try.func6, Try.ntmps6
  go_wp2
  go_loopw [3] (fun i wr => ∃ k : Nat, k ≤ p.rules.length ∧ i = .int .i64 k ∧ Lo w wr ∧ BoxAt wr w.heap.size [.int .u64 p.id, .string p.ns, .int .u64 p.service, .int .i64 p.deny, .slice A4 p.rules.length p4] ∧ Hid ((p.rules.take k).any longRule = false)) (fun i _ => p.rules.length - (intOf i).toNat)
  case atStart => exact ⟨0, Nat.zero_le _, rfl, (by repeat (first | exact Lo.refl _ | assumption | refine Lo.drew ?_ | refine Lo.alloc ?_ _ | refine Lo.setCell ?_ (by first | (dsimp only; omega) | (simp; omega) | (simp; done)) _ | refine Lo.trans ?_ (by assumption))), BoxAt.new _ _ _, Lib.hid rfl⟩
  case round =>
    obtain ⟨k, hk, rfl, hlo, hbx, hall⟩ := hrel
    have hb4 := hbx 4 _ rfl
    by_cases hlt : k < p.rules.length
    · obtain ⟨b, off, cs, rfl, hb, hl2, hc, hr⟩ := (SliceAt.lo RuleR.kept h4 hlo hB) k p.rules[k] (List.getElem?_eq_getElem hlt)
      obtain ⟨d0, d1, d2, rfl⟩ : ∃ d0 d1 d2, cs = [d0, d1, d2] := by
        match cs, hl2 with
        | [d0, d1, d2], _ => exact ⟨d0, d1, d2, rfl⟩
      have hc0 : wr.cell? ⟨b, off + k * 3, none⟩ = _ := hc 0 _ rfl
      have hc1 : wr.cell? ⟨b, off + k * 3 + 1, none⟩ = _ := hc 1 _ rfl
      have hc2 : wr.cell? ⟨b, off + k * 3 + 2, none⟩ = _ := hc 2 _ rfl
      have HC := Lib.hid (longRule_ p.rules[k] d0 d1 d2 wr (Nat.le_trans hB hlo.size) hr)
      clear hc hl2 hr
      cases hM : longRule p.rules[k]
      · have HM := Lib.hid hM
        have HN := Lib.hid (WIdxWhen.any_snoc' hall.out hlt hM)
        clear hM
        go_wp2_with fail
        refine (HC.out).mono ?_
        rw [HM.out]
        rintro e w1 ⟨rfl, hb1⟩
        go_wp2
        go_roundw
        case rel => exact ⟨k + 1, by omega, by go_num, (by repeat (first | exact Lo.refl _ | assumption | refine Lo.drew ?_ | refine Lo.alloc ?_ _ | refine Lo.setCell ?_ (by first | (dsimp only; omega) | (simp; omega) | (simp; done)) _ | refine Lo.trans ?_ (by assumption))), hbx.lo hb1, HN⟩
        case measure => simp [intOf]; omega
      · have HM := Lib.hid hM
        have HY := Lib.hid (any_yes (p := longRule) hlt hM)
        clear hM
        go_wp2_with fail
        refine (HC.out).mono ?_
        rw [HM.out]
        rintro e w1 ⟨rfl, hb1⟩
        go_wp2
        go_ret
        exact ⟨ret_bool (by rw [HL2.out, HY.out]), (by repeat (first | exact Lo.refl _ | assumption | refine Lo.drew ?_ | refine Lo.alloc ?_ _ | refine Lo.setCell ?_ (by first | (dsimp only; omega) | (simp; omega) | (simp; done)) _ | refine Lo.trans ?_ (by assumption)))⟩
    · have HF := hall.out
      rw [List.take_of_length_le (by omega)] at HF
      have HG := Lib.hid HF
      clear HF
      go_wp2
      go_ret
      exact ⟨ret_bool (by rw [HL2.out, HG.out]), (by repeat (first | exact Lo.refl _ | assumption | refine Lo.drew ?_ | refine Lo.alloc ?_ _ | refine Lo.setCell ?_ (by first | (dsimp only; omega) | (simp; omega) | (simp; done)) _ | refine Lo.trans ?_ (by assumption)))⟩

def long13 (l : List Pl.Policy) (a : Pl.Asker) (q : Pl.Req) : Bool := decide (30 < l.length) || decide (600 < wrap64 ((a.ns.size : Int) + a.sa.size)) || decide (6000 < wrap64 (wrap64 ((q.method.size : Int) + q.path.size) + q.host.size)) || longHeads q.heads || l.any longPol
/-- what of an asker and a request fits in memory, however many headers -/
structure Fits0 (B : Nat) (w : World) (a : Pl.Asker) (q : Pl.Req) (A : Option Addr) : Prop where
  ns : a.ns.size ≤ maxLen
  sa : a.sa.size ≤ maxLen
  method : q.method.size ≤ maxLen
  path : q.path.size ≤ maxLen
  host : q.host.size ≤ maxLen
  heads : SliceAt HeadR 2 B w A q.heads
  few : q.heads.length ≤ maxLen
theorem Fits0.lo {B : Nat} {w w' : World} {a : Pl.Asker} {q : Pl.Req} {A : Option Addr} (h : Fits0 B w a q A) (hl : Lo w w') (hB : B ≤ w.heap.size) : Fits0 B w' a q A :=
  { h with heads := SliceAt.lo HeadR.kept h.heads hl hB }
set_option maxRecDepth 100000 in
set_option maxHeartbeats 4000000 in
theorem long13_ (l : List Pl.Policy) (A0 : Option Addr) (cap0 : Nat) (a : Pl.Asker) (q : Pl.Req) (A : Option Addr) (cap : Nat) (tg qu bd : Value) {B : Nat} (w : World) (hB : B ≤ w.heap.size) (hA : SliceAt PolicyR 5 B w A0 l) (hn : l.length ≤ maxLen) (hf : Fits0 B w a q A) (ht : tg.oneCell' = true) (hu : qu.oneCell' = true) (hbd : bd.oneCell' = true) :
    Calls Try.prog 5 #[.slice A0 l.length cap0, .agg #[.string a.ns, .string a.sa, .int .u32 a.addr], .agg #[.string q.method, tg, .string q.path, qu, .string q.host, .slice A q.heads.length cap, bd]] w fun e w' => e = .returned (.bool (long13 l a q)) ∧ Lo w w' := by
  obtain ⟨z0, z1, z2, z3, z4, hh, hfew⟩ := hf
  have HH : Hid (∀ W, Lo w W → Calls Try.prog 11 #[.slice A q.heads.length cap] W fun e w' => e = .returned (.bool (longHeads q.heads)) ∧ Lo W w') := Lib.hid fun W hW => long9 q.heads A cap W (Nat.le_trans hB hW.size) (SliceAt.lo HeadR.kept hh hW hB) hfew
  unfold maxLen at hn z0 z1 z2 z3 z4 hfew
  have HL : Hid (long13 l a q = (decide (30 < l.length) || decide (600 < wrap64 ((a.ns.size : Int) + a.sa.size)) || decide (6000 < wrap64 (wrap64 ((q.method.size : Int) + q.path.size) + q.host.size)) || longHeads q.heads || l.any longPol)) := Lib.hid rfl
  clear hh
  by_cases g0 : 30 < l.length
  · go_enter Try.func5, Try.ntmps5
    go_wp2
    go_ret
    exact ⟨ret_bool (by rw [HL.out]; simp [g0]), (by repeat (first | exact Lo.refl _ | assumption | refine Lo.drew ?_ | refine Lo.alloc ?_ _ | refine Lo.setCell ?_ (by first | (dsimp only; omega) | (simp; omega) | (simp; done)) _ | refine Lo.trans ?_ (by assumption)))⟩
  by_cases g1 : 600 < wrap64 ((a.ns.size : Int) + a.sa.size)
  · go_enter Try.func5, Try.ntmps5
    go_wp2
    go_ret
    exact ⟨ret_bool (by rw [HL.out]; simp [g1]), (by repeat (first | exact Lo.refl _ | assumption | refine Lo.drew ?_ | refine Lo.alloc ?_ _ | refine Lo.setCell ?_ (by first | (dsimp only; omega) | (simp; omega) | (simp; done)) _ | refine Lo.trans ?_ (by assumption)))⟩
  by_cases g2 : 6000 < wrap64 (wrap64 ((q.method.size : Int) + q.path.size) + q.host.size)
  · go_enter Try.func5, Try.ntmps5
    go_wp2
    go_ret
    exact ⟨ret_bool (by rw [HL.out]; simp [g2]), (by repeat (first | exact Lo.refl _ | assumption | refine Lo.drew ?_ | refine Lo.alloc ?_ _ | refine Lo.setCell ?_ (by first | (dsimp only; omega) | (simp; omega) | (simp; done)) _ | refine Lo.trans ?_ (by assumption)))⟩
  have HL2 : Hid (long13 l a q = (longHeads q.heads || l.any longPol)) := Lib.hid (by rw [HL.out]; simp [g0, g1, g2])
  clear HL
  generalize hy : longHeads q.heads = y at *
  clear hy
  cases y
  · go_enter Try.func5, Try.ntmps5
    go_wp2_with fail
    refine (HH.out _ ?_).mono ?_
    · exact (by repeat (first | exact Lo.refl _ | assumption | refine Lo.drew ?_ | refine Lo.alloc ?_ _ | refine Lo.setCell ?_ (by first | (dsimp only; omega) | (simp; omega) | (simp; done)) _ | refine Lo.trans ?_ (by assumption)))
    rintro e w1 ⟨rfl, hb⟩
    have hl1 : Lo w w1 := (by repeat (first | exact Lo.refl _ | assumption | refine Lo.drew ?_ | refine Lo.alloc ?_ _ | refine Lo.setCell ?_ (by first | (dsimp only; omega) | (simp; omega) | (simp; done)) _ | refine Lo.trans ?_ (by assumption)))
    clear hb
    go_wp2
    go_loopw [7] (fun i wr => ∃ k : Nat, k ≤ l.length ∧ i = .int .i64 k ∧ Lo w wr ∧ Hid ((l.take k).any longPol = false)) (fun i _ => l.length - (intOf i).toNat)
    case atStart => exact ⟨0, Nat.zero_le _, rfl, hl1, Lib.hid rfl⟩
    case round =>
      obtain ⟨k, hk, rfl, hlo, hall⟩ := hrel
      by_cases hlt : k < l.length
      · obtain ⟨b, off, cs, rfl, hb, hl2, hc, hr⟩ := (SliceAt.lo PolicyR.kept hA hlo hB) k l[k] (List.getElem?_eq_getElem hlt)
        obtain ⟨d0, d1, d2, d3, d4, rfl⟩ : ∃ d0 d1 d2 d3 d4, cs = [d0, d1, d2, d3, d4] := by
          match cs, hl2 with
          | [d0, d1, d2, d3, d4], _ => exact ⟨d0, d1, d2, d3, d4, rfl⟩
        have hc0 : wr.cell? ⟨b, off + k * 5, none⟩ = _ := hc 0 _ rfl
        have hc1 : wr.cell? ⟨b, off + k * 5 + 1, none⟩ = _ := hc 1 _ rfl
        have hc2 : wr.cell? ⟨b, off + k * 5 + 2, none⟩ = _ := hc 2 _ rfl
        have hc3 : wr.cell? ⟨b, off + k * 5 + 3, none⟩ = _ := hc 3 _ rfl
        have hc4 : wr.cell? ⟨b, off + k * 5 + 4, none⟩ = _ := hc 4 _ rfl
        have HC := Lib.hid (long12 l[k] d0 d1 d2 d3 d4 wr (Nat.le_trans hB hlo.size) hr)
        clear hc hl2 hr
        cases hM : longPol l[k]
        · have HM := Lib.hid hM
          have HN := Lib.hid (WIdxWhen.any_snoc' hall.out hlt hM)
          clear hM
          go_wp2_with fail
          refine (HC.out).mono ?_
          rw [HM.out]
          rintro e w1 ⟨rfl, hb1⟩
          go_wp2
          go_roundw
          case rel => exact ⟨k + 1, by omega, by go_num, (by repeat (first | exact Lo.refl _ | assumption | refine Lo.drew ?_ | refine Lo.alloc ?_ _ | refine Lo.setCell ?_ (by first | (dsimp only; omega) | (simp; omega) | (simp; done)) _ | refine Lo.trans ?_ (by assumption))), HN⟩
          case measure => simp [intOf]; omega
        · have HM := Lib.hid hM
          have HY := Lib.hid (any_yes (p := longPol) hlt hM)
          clear hM
          go_wp2_with fail
          refine (HC.out).mono ?_
          rw [HM.out]
          rintro e w1 ⟨rfl, hb1⟩
          go_wp2
          go_ret
          exact ⟨ret_bool (by rw [HL2.out, HY.out]; rfl), (by repeat (first | exact Lo.refl _ | assumption | refine Lo.drew ?_ | refine Lo.alloc ?_ _ | refine Lo.setCell ?_ (by first | (dsimp only; omega) | (simp; omega) | (simp; done)) _ | refine Lo.trans ?_ (by assumption)))⟩
      · have HF := hall.out
        rw [List.take_of_length_le (by omega)] at HF
        have HG := Lib.hid HF
        clear HF
        go_wp2
        go_ret
        exact ⟨ret_bool (by rw [HL2.out, HG.out]; rfl), (by repeat (first | exact Lo.refl _ | assumption | refine Lo.drew ?_ | refine Lo.alloc ?_ _ | refine Lo.setCell ?_ (by first | (dsimp only; omega) | (simp; omega) | (simp; done)) _ | refine Lo.trans ?_ (by assumption)))⟩
  · go_enter Try.func5, Try.ntmps5
    go_wp2_with fail
    refine (HH.out _ ?_).mono ?_
    · exact (by repeat (first | exact Lo.refl _ | assumption | refine Lo.drew ?_ | refine Lo.alloc ?_ _ | refine Lo.setCell ?_ (by first | (dsimp only; omega) | (simp; omega) | (simp; done)) _ | refine Lo.trans ?_ (by assumption)))
    rintro e w1 ⟨rfl, hb⟩
    go_wp2
    go_ret
    exact ⟨ret_bool (by rw [HL2.out]; rfl), (by repeat (first | exact Lo.refl _ | assumption | refine Lo.drew ?_ | refine Lo.alloc ?_ _ | refine Lo.setCell ?_ (by first | (dsimp only; omega) | (simp; omega) | (simp; done)) _ | refine Lo.trans ?_ (by assumption)))⟩
end Go.Proofs.Ytnclifgiakmmoaa.WAuth

/- The walk of chapter 13's example. -/
namespace Go.Proofs.Ytnclifgiakmmoaa.Mem
set_option linter.unusedVariables false
set_option linter.unusedSimpArgs false
open Go.RowKit
theorem SliceAt.one {α : Type} {R : Rel α} {sz B b : Nat} {w : World} {x : α} {cs : List Value} {t : TypeId} {fr : Nat × Nat} (h : w.heap[b]? = some (.cells cs.toArray t fr)) (hb : b < B) (hl : cs.length = sz) (hR : R B w x cs) : SliceAt R sz B w (some ⟨b, 0, none⟩) [x] := by
  intro k y hy
  match k, hy with
  | 0, hy =>
    simp at hy; subst hy
    refine ⟨b, 0, cs, rfl, hb, hl, ?_, hR⟩
    intro j v hj
    simp only [World.cell?, h, Nat.zero_mul, Nat.zero_add]
    simpa using hj
theorem SliceAt.two {α : Type} {R : Rel α} {sz B b : Nat} {w : World} {x y : α} {cs ds : List Value} {t : TypeId} {fr : Nat × Nat} (h : w.heap[b]? = some (.cells (cs ++ ds).toArray t fr)) (hb : b < B) (hl : cs.length = sz) (hl2 : ds.length = sz) (hR : R B w x cs) (hR2 : R B w y ds) : SliceAt R sz B w (some ⟨b, 0, none⟩) [x, y] := by
  intro k z hz
  match k, hz with
  | 0, hz =>
    simp at hz; subst hz
    refine ⟨b, 0, cs, rfl, hb, hl, ?_, hR⟩
    intro j v hj
    have hjl : j < cs.length := (List.getElem?_eq_some_iff.1 hj).1
    simp only [World.cell?, h, Nat.zero_mul, Nat.zero_add]
    simp
    rw [List.getElem?_append_left hjl]; exact hj
  | 1, hz =>
    simp at hz; subst hz
    refine ⟨b, 0, ds, rfl, hb, hl2, ?_, hR2⟩
    intro j v hj
    simp only [World.cell?, h, Nat.one_mul, Nat.zero_add]
    simp
    rw [List.getElem?_append_right (by omega), hl, Nat.add_sub_cancel_left]; exact hj
end Go.Proofs.Ytnclifgiakmmoaa.Mem
namespace Go.Proofs.Ytnclifgiakmmoaa.WAuth
set_option linter.unusedVariables false
set_option linter.unusedSimpArgs false
open Go.RowKit Mem BigFrame WMatch WAddr WName Opn

theorem term13 (k : Int) (s : ByteArray) (w : World) :
    Calls Try.prog 18 #[.int .i64 k, .string s] w fun e w' => ∃ n, e = .returned (.slice (some ⟨n, 0, none⟩) 1 1) ∧ Lo w w' ∧ w'.heap[n]? = some (.cells #[.int .i64 k, .string s] 70 (0, 0)) := by
  go_enter Try.func18, Try.ntmps18
  go_wp2
  go_ret
  exact ⟨_, rfl, (by repeat (first | exact Lo.refl _ | assumption | refine Lo.drew ?_ | refine Lo.alloc ?_ _ | refine Lo.setCell ?_ (by first | (dsimp only; omega) | (simp; omega) | (simp; done)) _ | refine Lo.trans ?_ (by assumption))), heap_new_at rfl⟩

def exPols : List Pl.Policy := [
  ⟨1, ⟨#[]⟩, 0, 0, [⟨[⟨[⟨3, ⟨#[115, 97, 47, 119, 101, 98]⟩⟩], [], []⟩], [⟨[80], [⟨1, ⟨#[71, 69, 84]⟩⟩], [⟨2, ⟨#[47, 97]⟩⟩], []⟩], []⟩]⟩,
  ⟨2, ⟨#[]⟩, 0, 1, [⟨[], [], [⟨⟨#[120, 45, 98, 97, 100]⟩, [⟨4, ⟨#[]⟩⟩]⟩]⟩]⟩]

theorem nilC {α : Type} {R : Rel α} {sz B : Nat} {w : World} : SliceC R sz B w ([] : List α) [.slice none 0 0] := ⟨none, 0, rfl, SliceAt.nil, by simp, by simp [maxLen]⟩
theorem oneC {α : Type} {R : Rel α} {sz B b : Nat} {w : World} {x : α} {cs : List Value} {t : TypeId} {fr : Nat × Nat} (h : w.heap[b]? = some (.cells cs.toArray t fr)) (hb : b < B) (hl : cs.length = sz) (hR : R B w x cs) : SliceC R sz B w [x] [.slice (some ⟨b, 0, none⟩) 1 1] :=
  ⟨_, _, rfl, SliceAt.one h hb hl hR, by simp, by simp [maxLen]⟩
theorem exRead {W : World} {n1 n2 n3 n4 m1 m2 m3 m4 m5 m6 m7 : Nat}
    (h1 : W.heap[n1]? = some (.cells #[.int .i64 3, .string ⟨#[115, 97, 47, 119, 101, 98]⟩] 70 (0, 0))) (h2 : W.heap[n2]? = some (.cells #[.int .i64 1, .string ⟨#[71, 69, 84]⟩] 70 (0, 0)))
    (h3 : W.heap[n3]? = some (.cells #[.int .i64 2, .string ⟨#[47, 97]⟩] 70 (0, 0))) (h4 : W.heap[n4]? = some (.cells #[.int .i64 4, .string ⟨#[]⟩] 70 (0, 0)))
    (g1 : W.heap[m1]? = some (.cells #[.slice (some ⟨n1, 0, none⟩) 1 1, .slice none 0 0, .slice none 0 0] 55 (0, 0))) (g2 : W.heap[m2]? = some (.cells #[.int .i64 80] 3 (0, 0)))
    (g3 : W.heap[m3]? = some (.cells #[.slice (some ⟨m2, 0, none⟩) 1 1, .slice (some ⟨n2, 0, none⟩) 1 1, .slice (some ⟨n3, 0, none⟩) 1 1, .slice none 0 0] 58 (0, 0)))
    (g4 : W.heap[m4]? = some (.cells #[.slice (some ⟨m1, 0, none⟩) 1 1, .slice (some ⟨m3, 0, none⟩) 1 1, .slice none 0 0] 31 (0, 0)))
    (g5 : W.heap[m5]? = some (.cells #[.string ⟨#[120, 45, 98, 97, 100]⟩, .slice (some ⟨n4, 0, none⟩) 1 1] 60 (0, 0)))
    (g6 : W.heap[m6]? = some (.cells #[.slice none 0 0, .slice none 0 0, .slice (some ⟨m5, 0, none⟩) 1 1] 31 (0, 0)))
    (g7 : W.heap[m7]? = some (.cells #[.int .u64 1, .string ⟨#[]⟩, .int .u64 0, .int .i64 0, .slice (some ⟨m4, 0, none⟩) 1 1, .int .u64 2, .string ⟨#[]⟩, .int .u64 0, .int .i64 1, .slice (some ⟨m6, 0, none⟩) 1 1] 26 (0, 0))) :
    SliceAt PolicyR 5 W.heap.size W (some ⟨m7, 0, none⟩) exPols := by
  have hs0 : (⟨#[]⟩ : ByteArray).size ≤ maxLen := by decide
  have c1 : SliceC TermR 2 W.heap.size W [⟨3, ⟨#[115, 97, 47, 119, 101, 98]⟩⟩] [.slice (some ⟨n1, 0, none⟩) 1 1] := oneC (cs := [.int .i64 3, .string ⟨#[115, 97, 47, 119, 101, 98]⟩]) h1 (block_lt h1) rfl ⟨rfl, by decide⟩
  have c2 : SliceC TermR 2 W.heap.size W [⟨1, ⟨#[71, 69, 84]⟩⟩] [.slice (some ⟨n2, 0, none⟩) 1 1] := oneC (cs := [.int .i64 1, .string ⟨#[71, 69, 84]⟩]) h2 (block_lt h2) rfl ⟨rfl, by decide⟩
  have c3 : SliceC TermR 2 W.heap.size W [⟨2, ⟨#[47, 97]⟩⟩] [.slice (some ⟨n3, 0, none⟩) 1 1] := oneC (cs := [.int .i64 2, .string ⟨#[47, 97]⟩]) h3 (block_lt h3) rfl ⟨rfl, by decide⟩
  have c4 : SliceC TermR 2 W.heap.size W [⟨4, ⟨#[]⟩⟩] [.slice (some ⟨n4, 0, none⟩) 1 1] := oneC (cs := [.int .i64 4, .string ⟨#[]⟩]) h4 (block_lt h4) rfl ⟨rfl, by decide⟩
  have d1 : SliceC SourceR 3 W.heap.size W [⟨[⟨3, ⟨#[115, 97, 47, 119, 101, 98]⟩⟩], [], []⟩] [.slice (some ⟨m1, 0, none⟩) 1 1] := oneC (cs := [_, _, _]) g1 (block_lt g1) rfl ⟨_, _, _, rfl, c1, nilC, nilC⟩
  have d2 : SliceC (IntC .i64) 1 W.heap.size W [80] [.slice (some ⟨m2, 0, none⟩) 1 1] := oneC (cs := [_]) g2 (block_lt g2) rfl ⟨rfl, by decide⟩
  have d3 : SliceC TargetR 4 W.heap.size W [⟨[80], [⟨1, ⟨#[71, 69, 84]⟩⟩], [⟨2, ⟨#[47, 97]⟩⟩], []⟩] [.slice (some ⟨m3, 0, none⟩) 1 1] := oneC (cs := [_, _, _, _]) g3 (block_lt g3) rfl ⟨_, _, _, _, rfl, d2, c2, c3, nilC⟩
  have d4 : SliceC WhenR 2 W.heap.size W [⟨⟨#[120, 45, 98, 97, 100]⟩, [⟨4, ⟨#[]⟩⟩]⟩] [.slice (some ⟨m5, 0, none⟩) 1 1] := oneC (cs := [_, _]) g5 (block_lt g5) rfl ⟨_, _, rfl, ⟨rfl, by decide⟩, c4⟩
  have e1 : SliceC RuleR 3 W.heap.size W [⟨[⟨[⟨3, ⟨#[115, 97, 47, 119, 101, 98]⟩⟩], [], []⟩], [⟨[80], [⟨1, ⟨#[71, 69, 84]⟩⟩], [⟨2, ⟨#[47, 97]⟩⟩], []⟩], []⟩] [.slice (some ⟨m4, 0, none⟩) 1 1] := oneC (cs := [_, _, _]) g4 (block_lt g4) rfl ⟨_, _, _, rfl, d1, d3, nilC⟩
  have e2 : SliceC RuleR 3 W.heap.size W [⟨[], [], [⟨⟨#[120, 45, 98, 97, 100]⟩, [⟨4, ⟨#[]⟩⟩]⟩]⟩] [.slice (some ⟨m6, 0, none⟩) 1 1] := oneC (cs := [_, _, _]) g6 (block_lt g6) rfl ⟨_, _, _, rfl, nilC, nilC, d4⟩
  refine SliceAt.two (cs := [_, _, _, _, _]) (ds := [_, _, _, _, _]) g7 (block_lt g7) rfl rfl ?_ ?_
  · exact ⟨_, _, _, _, _, rfl, ⟨rfl, by decide⟩, ⟨rfl, hs0⟩, ⟨rfl, by decide⟩, ⟨rfl, by decide⟩, e1⟩
  · exact ⟨_, _, _, _, _, rfl, ⟨rfl, by decide⟩, ⟨rfl, hs0⟩, ⟨rfl, by decide⟩, ⟨rfl, by decide⟩, e2⟩

set_option maxRecDepth 100000 in
set_option maxHeartbeats 4000000 in
theorem example13 (w : World) :
    Calls Try.prog 13 #[] w fun e w' => ∃ A, e = .returned (.slice A 2 2) ∧ Lo w w' ∧ SliceAt PolicyR 5 w'.heap.size w' A exPols := by
  go_enter Try.func13, Try.ntmps13
  go_wp2_with fail
  refine (term13 _ _ _).mono ?_; rintro e w1 ⟨n1, rfl, hb1, hn1⟩
  go_wp2_with fail
  refine (term13 _ _ _).mono ?_; rintro e w2 ⟨n2, rfl, hb2, hn2⟩
  go_wp2_with fail
  refine (term13 _ _ _).mono ?_; rintro e w3 ⟨n3, rfl, hb3, hn3⟩
  go_wp2_with fail
  refine (term13 _ _ _).mono ?_; rintro e w4 ⟨n4, rfl, hb4, hn4⟩
  go_wp2
  go_ret
  refine ⟨some ⟨w4.heap.size + 1 + 1, 0, none⟩, rfl, (by repeat (first | exact Lo.refl _ | assumption | refine Lo.drew ?_ | refine Lo.alloc ?_ _ | refine Lo.setCell ?_ (by first | (dsimp only; omega) | (simp; omega) | (simp; done)) _ | refine Lo.trans ?_ (by assumption))), exRead (n1 := n1) (n2 := n2) (n3 := n3) (n4 := n4) (m1 := w1.heap.size) (m2 := w1.heap.size + 1) (m3 := w3.heap.size) (m4 := w3.heap.size + 1) (m5 := w4.heap.size) (m6 := w4.heap.size + 1) ?_ ?_ ?_ ?_ ?_ ?_ ?_ ?_ ?_ ?_ ?_⟩
  · exact Lo.block (a := w1) (by repeat (first | exact Lo.refl _ | assumption | refine Lo.drew ?_ | refine Lo.alloc ?_ _ | refine Lo.setCell ?_ (by first | (dsimp only; omega) | (simp; omega) | (simp; done)) _ | refine Lo.trans ?_ (by assumption))) hn1
  · exact Lo.block (a := w2) (by repeat (first | exact Lo.refl _ | assumption | refine Lo.drew ?_ | refine Lo.alloc ?_ _ | refine Lo.setCell ?_ (by first | (dsimp only; omega) | (simp; omega) | (simp; done)) _ | refine Lo.trans ?_ (by assumption))) hn2
  · exact Lo.block (a := w3) (by repeat (first | exact Lo.refl _ | assumption | refine Lo.drew ?_ | refine Lo.alloc ?_ _ | refine Lo.setCell ?_ (by first | (dsimp only; omega) | (simp; omega) | (simp; done)) _ | refine Lo.trans ?_ (by assumption))) hn3
  · exact Lo.block (a := w4) (by repeat (first | exact Lo.refl _ | assumption | refine Lo.drew ?_ | refine Lo.alloc ?_ _ | refine Lo.setCell ?_ (by first | (dsimp only; omega) | (simp; omega) | (simp; done)) _ | refine Lo.trans ?_ (by assumption))) hn4
  · exact Lo.block (a := w1.alloc _) (by repeat (first | exact Lo.refl _ | assumption | refine Lo.drew ?_ | refine Lo.alloc ?_ _ | refine Lo.setCell ?_ (by first | (dsimp only; omega) | (simp; omega) | (simp; done)) _ | refine Lo.trans ?_ (by assumption))) (heap_alloc_new w1 _)
  · exact Lo.block (a := (w1.alloc _).alloc _) (by repeat (first | exact Lo.refl _ | assumption | refine Lo.drew ?_ | refine Lo.alloc ?_ _ | refine Lo.setCell ?_ (by first | (dsimp only; omega) | (simp; omega) | (simp; done)) _ | refine Lo.trans ?_ (by assumption))) (heap_new_at (by simp))
  · exact Lo.block (a := w3.alloc _) (by repeat (first | exact Lo.refl _ | assumption | refine Lo.drew ?_ | refine Lo.alloc ?_ _ | refine Lo.setCell ?_ (by first | (dsimp only; omega) | (simp; omega) | (simp; done)) _ | refine Lo.trans ?_ (by assumption))) (heap_alloc_new w3 _)
  · exact Lo.block (a := (w3.alloc _).alloc _) (by repeat (first | exact Lo.refl _ | assumption | refine Lo.drew ?_ | refine Lo.alloc ?_ _ | refine Lo.setCell ?_ (by first | (dsimp only; omega) | (simp; omega) | (simp; done)) _ | refine Lo.trans ?_ (by assumption))) (heap_new_at (by simp))
  · exact Lo.block (a := w4.alloc _) (by repeat (first | exact Lo.refl _ | assumption | refine Lo.drew ?_ | refine Lo.alloc ?_ _ | refine Lo.setCell ?_ (by first | (dsimp only; omega) | (simp; omega) | (simp; done)) _ | refine Lo.trans ?_ (by assumption))) (heap_alloc_new w4 _)
  · exact Lo.block (a := (w4.alloc _).alloc _) (by repeat (first | exact Lo.refl _ | assumption | refine Lo.drew ?_ | refine Lo.alloc ?_ _ | refine Lo.setCell ?_ (by first | (dsimp only; omega) | (simp; omega) | (simp; done)) _ | refine Lo.trans ?_ (by assumption))) (heap_new_at (by simp))
  · exact heap_new_at (by simp)
end Go.Proofs.Ytnclifgiakmmoaa.WAuth

/- The walk of chapter 13's examples (awake). -/
namespace Go.Proofs.Ytnclifgiakmmoaa.WAuth
set_option linter.unusedVariables false
set_option linter.unusedSimpArgs false
open Go.RowKit Mem BigFrame WMatch WAddr WName Opn

def exWho : Pl.Asker := ⟨⟨#[115, 104, 111, 112]⟩, ⟨#[119, 101, 98]⟩, 0⟩
def exReq : Pl.Req := ⟨⟨#[71, 69, 84]⟩, ⟨#[47, 97, 98]⟩, ⟨#[]⟩, []⟩
def exReq2 : Pl.Req := ⟨⟨#[71, 69, 84]⟩, ⟨#[47, 97, 98]⟩, ⟨#[]⟩, [⟨⟨#[120, 45, 98, 97, 100]⟩, ⟨#[49]⟩⟩]⟩
theorem exName : (nameText exWho.ns exWho.sa).toList = [115, 112, 105, 102, 102, 101, 58, 47, 47, 109, 101, 115, 104, 47, 110, 115, 47, 115, 104, 111, 112, 47, 115, 97, 47, 119, 101, 98] := by
  have h : mayN exWho.ns exWho.sa = true := by
    simp only [mayN, label, exWho]
    have e1 : (lcs ⟨#[115, 104, 111, 112]⟩) = fun i => lcN 4 i (([115, 104, 111, 112] : List UInt8).getD i 0).toNat := by funext i; simp only [lcs, ByteArray.toList_mk]; rfl
    have e2 : (lcs ⟨#[119, 101, 98]⟩) = fun i => lcN 3 i (([119, 101, 98] : List UInt8).getD i 0).toNat := by funext i; simp only [lcs, ByteArray.toList_mk]; rfl
    rw [e1, e2]
    decide
  unfold nameText
  rw [if_pos h]
  simp only [toList_append, pre1, pre2, exWho, ByteArray.toList_mk]
  rfl
def exR1 : Pl.Rule := ⟨[⟨[⟨3, ⟨#[115, 97, 47, 119, 101, 98]⟩⟩], [], []⟩], [⟨[80], [⟨1, ⟨#[71, 69, 84]⟩⟩], [⟨2, ⟨#[47, 97]⟩⟩], []⟩], []⟩
def exR2 : Pl.Rule := ⟨[], [], [⟨⟨#[120, 45, 98, 97, 100]⟩, [⟨4, ⟨#[]⟩⟩]⟩]⟩
theorem exPols_eq : exPols = [⟨1, ⟨#[]⟩, 0, 0, [exR1]⟩, ⟨2, ⟨#[]⟩, 0, 1, [exR2]⟩] := rfl
theorem exSrc : srcP exWho ⟨[⟨3, ⟨#[115, 97, 47, 119, 101, 98]⟩⟩], [], []⟩ = true := by
  simp only [srcP, letsT, anyT, List.any_cons, List.any_nil, exName, ByteArray.toList_mk]
  decide
theorem exTgt (p : Int) (h : List Pl.Head) : tgtP p ⟨⟨#[71, 69, 84]⟩, ⟨#[47, 97, 98]⟩, ⟨#[]⟩, h⟩ ⟨[80], [⟨1, ⟨#[71, 69, 84]⟩⟩], [⟨2, ⟨#[47, 97]⟩⟩], []⟩ = ((80 : Int) == p) := by
  have e1 : letsT ⟨#[71, 69, 84]⟩ [⟨1, ⟨#[71, 69, 84]⟩⟩] = true := by simp only [letsT, anyT, List.any_cons, List.any_nil, ByteArray.toList_mk]; decide
  have e2 : letsT ⟨#[47, 97, 98]⟩ [⟨2, ⟨#[47, 97]⟩⟩] = true := by simp only [letsT, anyT, List.any_cons, List.any_nil, ByteArray.toList_mk]; decide
  have e3 : letsT ⟨#[]⟩ [] = true := rfl
  simp only [tgtP, e1, e2, e3]
  simp
theorem exM1 (p : Int) (q : Pl.Req) (hq : q = exReq ∨ q = exReq2) : matchP exWho p q exR1 = ((80 : Int) == p) := by
  rcases hq with rfl | rfl <;> simp [matchP, exR1, exSrc, exReq, exReq2, exTgt]
theorem exM2 (p : Int) : matchP exWho p exReq exR2 = false := rfl
theorem exWhen : whenP [⟨⟨#[120, 45, 98, 97, 100]⟩, ⟨#[49]⟩⟩] ⟨⟨#[120, 45, 98, 97, 100]⟩, [⟨4, ⟨#[]⟩⟩]⟩ = true := by
  have e : valsOf ⟨#[120, 45, 98, 97, 100]⟩ [⟨⟨#[120, 45, 98, 97, 100]⟩, ⟨#[49]⟩⟩] = [⟨#[49]⟩] := by
    simp only [valsOf, List.filter_cons, List.filter_nil, beq_self_eq_true, if_true, List.map_cons, List.map_nil]
  unfold whenP
  rw [e]
  simp only [List.any_cons, List.any_nil, anyT, ByteArray.toList_mk]
  decide
theorem exM3 (p : Int) : matchP exWho p exReq2 exR2 = true := by
  simp [matchP, exR2, exReq2, exWhen]
theorem ex1 : judgeV (matchP exWho 80 exReq) exPols = .tuple #[.bool true, .int .u64 1] := by
  simp [judgeV, Pl.judgeP, Pl.firstP, Pl.kindP, exPols_eq, List.find?_cons, exM1, exM2]
theorem ex2 : judgeV (matchP exWho 81 exReq) exPols = .tuple #[.bool false, .int .u64 0] := by
  simp [judgeV, Pl.judgeP, Pl.firstP, Pl.someP, Pl.kindP, exPols_eq, List.find?_cons, exM1, exM2]
theorem ex3 : judgeV (matchP exWho 80 exReq2) exPols = .tuple #[.bool false, .int .u64 2] := by
  simp [judgeV, Pl.judgeP, Pl.firstP, Pl.kindP, exPols_eq, List.find?_cons, exM3]
theorem ex4 (M : Pl.Rule → Bool) : judgeV M [] = .tuple #[.bool true, .int .u64 0] := rfl

theorem exFits (B : Nat) (w : World) : Fits B w exWho exReq none := ⟨by decide, by decide, by decide, by decide, by decide, SliceAt.nil, by decide⟩
set_option maxRecDepth 100000 in
set_option maxHeartbeats 8000000 in
theorem awake13 (w : World) : Calls Try.prog 8 #[] w fun e w' => e = .returned (.bool true) ∧ Lo w w' := by
  have J1 : Hid (∀ (W : World) (A : Option Addr) (B : Nat), B ≤ W.heap.size → SliceAt PolicyR 5 B W A exPols → Calls Try.prog 9 #[.slice A 2 2, .agg #[.string ⟨#[115, 104, 111, 112]⟩, .string ⟨#[119, 101, 98]⟩, .int .u32 0], .int .i64 80, .agg #[.string ⟨#[71, 69, 84]⟩, .string ⟨#[]⟩, .string ⟨#[47, 97, 98]⟩, .string ⟨#[]⟩, .string ⟨#[]⟩, .slice none 0 0, .slice none 0 0]] W fun e w' => e = .returned (.tuple #[.bool true, .int .u64 1]) ∧ Lo W w') := Lib.hid fun W A B hB hA => by
    have := judge exPols A 2 exWho 80 exReq none 0 ⟨#[]⟩ ⟨#[]⟩ (.slice none 0 0) W hB hA (by decide) (exFits _ _)
    rw [ex1] at this
    exact this
  have J2 : Hid (∀ (W : World) (A : Option Addr) (B : Nat), B ≤ W.heap.size → SliceAt PolicyR 5 B W A exPols → Calls Try.prog 9 #[.slice A 2 2, .agg #[.string ⟨#[115, 104, 111, 112]⟩, .string ⟨#[119, 101, 98]⟩, .int .u32 0], .int .i64 81, .agg #[.string ⟨#[71, 69, 84]⟩, .string ⟨#[]⟩, .string ⟨#[47, 97, 98]⟩, .string ⟨#[]⟩, .string ⟨#[]⟩, .slice none 0 0, .slice none 0 0]] W fun e w' => e = .returned (.tuple #[.bool false, .int .u64 0]) ∧ Lo W w') := Lib.hid fun W A B hB hA => by
    have := judge exPols A 2 exWho 81 exReq none 0 ⟨#[]⟩ ⟨#[]⟩ (.slice none 0 0) W hB hA (by decide) (exFits _ _)
    rw [ex2] at this
    exact this
  have J3 : Hid (∀ (W : World) (A Ah : Option Addr) (B : Nat), B ≤ W.heap.size → SliceAt PolicyR 5 B W A exPols → SliceAt HeadR 2 B W Ah exReq2.heads → Calls Try.prog 9 #[.slice A 2 2, .agg #[.string ⟨#[115, 104, 111, 112]⟩, .string ⟨#[119, 101, 98]⟩, .int .u32 0], .int .i64 80, .agg #[.string ⟨#[71, 69, 84]⟩, .string ⟨#[]⟩, .string ⟨#[47, 97, 98]⟩, .string ⟨#[]⟩, .string ⟨#[]⟩, .slice Ah 1 1, .slice none 0 0]] W fun e w' => e = .returned (.tuple #[.bool false, .int .u64 2]) ∧ Lo W w') := Lib.hid fun W A Ah B hB hA hh => by
    have := judge exPols A 2 exWho 80 exReq2 Ah 1 ⟨#[]⟩ ⟨#[]⟩ (.slice none 0 0) W hB hA (by decide) ⟨by decide, by decide, by decide, by decide, by decide, hh, by decide⟩
    rw [ex3] at this
    exact this
  have J4 : Hid (∀ (W : World) (Ah : Option Addr), SliceAt HeadR 2 W.heap.size W Ah exReq2.heads → Calls Try.prog 9 #[.slice none 0 0, .agg #[.string ⟨#[115, 104, 111, 112]⟩, .string ⟨#[119, 101, 98]⟩, .int .u32 0], .int .i64 80, .agg #[.string ⟨#[71, 69, 84]⟩, .string ⟨#[]⟩, .string ⟨#[47, 97, 98]⟩, .string ⟨#[]⟩, .string ⟨#[]⟩, .slice Ah 1 1, .slice none 0 0]] W fun e w' => e = .returned (.tuple #[.bool true, .int .u64 0]) ∧ Lo W w') := Lib.hid fun W Ah hh => by
    have := judge [] none 0 exWho 80 exReq2 Ah 1 ⟨#[]⟩ ⟨#[]⟩ (.slice none 0 0) W (Nat.le_refl _) SliceAt.nil (by decide) ⟨by decide, by decide, by decide, by decide, by decide, hh, by decide⟩
    rw [ex4] at this
    exact this
  go_enter Try.func8, Try.ntmps8
  go_wp2
  obtain ⟨wz, hw⟩ : ∃ wz, (w.alloc (.cells #[.string ⟨#[115, 104, 111, 112]⟩, .string ⟨#[119, 101, 98]⟩, .int .u32 0] 36)).alloc (.cells #[.string ⟨#[71, 69, 84]⟩, .string ⟨#[]⟩, .string ⟨#[47, 97, 98]⟩, .string ⟨#[]⟩, .string ⟨#[]⟩, .slice none 0 0, .slice none 0 0] 40) = wz := ⟨_, rfl⟩
  rw [hw]
  have a0 : wz.cell? ⟨w.heap.size, 0, none⟩ = some (.string ⟨#[115, 104, 111, 112]⟩) := by rw [← hw]; simp
  have a1 : wz.cell? ⟨w.heap.size, 1, none⟩ = some (.string ⟨#[119, 101, 98]⟩) := by rw [← hw]; simp
  have a2 : wz.cell? ⟨w.heap.size, 2, none⟩ = some (.int .u32 0) := by rw [← hw]; simp
  have b0 : wz.cell? ⟨w.heap.size + 1, 0, none⟩ = some (.string ⟨#[71, 69, 84]⟩) := by rw [← hw]; simp
  have b1 : wz.cell? ⟨w.heap.size + 1, 1, none⟩ = some (.string ⟨#[]⟩) := by rw [← hw]; simp
  have b2 : wz.cell? ⟨w.heap.size + 1, 2, none⟩ = some (.string ⟨#[47, 97, 98]⟩) := by rw [← hw]; simp
  have b3 : wz.cell? ⟨w.heap.size + 1, 3, none⟩ = some (.string ⟨#[]⟩) := by rw [← hw]; simp
  have b4 : wz.cell? ⟨w.heap.size + 1, 4, none⟩ = some (.string ⟨#[]⟩) := by rw [← hw]; simp
  have b5 : wz.cell? ⟨w.heap.size + 1, 5, none⟩ = some (.slice none 0 0) := by rw [← hw]; simp
  have b6 : wz.cell? ⟨w.heap.size + 1, 6, none⟩ = some (.slice none 0 0) := by rw [← hw]; simp
  have hlw : Lo w wz := by rw [← hw]; exact (by repeat (first | exact Lo.refl _ | assumption | refine Lo.drew ?_ | refine Lo.alloc ?_ _ | refine Lo.setCell ?_ (by first | (dsimp only; omega) | (simp; omega) | (simp; done)) _ | refine Lo.trans ?_ (by assumption)))
  have hfz : wz.frozen? ⟨w.heap.size + 1, 5, none⟩ = false := by rw [← hw]; simp
  clear hw
  refine wp_region_all 72 (fun i v w' => match i with
        | 0 => ∃ A B, v = .slice A 2 2 ∧ B ≤ w'.heap.size ∧ SliceAt PolicyR 5 B w' A exPols
        | 1 => v = .agg #[.string ⟨#[115, 104, 111, 112]⟩, .string ⟨#[119, 101, 98]⟩, .int .u32 0]
        | 2 => v = .agg #[.string ⟨#[71, 69, 84]⟩, .string ⟨#[]⟩, .string ⟨#[47, 97, 98]⟩, .string ⟨#[]⟩, .string ⟨#[]⟩, .slice none 0 0, .slice none 0 0]
        | 3 => v = .tuple #[.bool true, .int .u64 1]
        | 4 => v = .tuple #[.bool true, .int .u64 1]
        | 5 => v = .bool true
        | 6 => v = .int .u64 1
        | 7 => v = .bool true
        | 8 => v = .int .u64 1
        | _ => True) (by kernel_rfl) rfl (by kernel_rfl) ?_ ?_ ?_
  · intro i v w1 w2 h hl12
    match i, h with
    | 0, ⟨A, B, hv, hB, hA⟩ => exact ⟨A, B, hv, Nat.le_trans hB hl12.size, SliceAt.lo PolicyR.kept hA hl12 hB⟩
    | 1, h => exact h
    | 2, h => exact h
    | 3, h => exact h
    | 4, h => exact h
    | 5, h => exact h
    | 6, h => exact h
    | 7, h => exact h
    | 8, h => exact h
    | _ + 9, _ => trivial
  · intro i o hiN ho a w' hl hd hold
    match i, hiN with
    | 0, _ =>
      injection ho with ho; subst ho
      refine ⟨fun _ => ?_, fun h => by rw [wanted_free rfl] at h; cases h⟩
      refine wp_call_of (f := 13) (args := #[]) (by simp [go_sem]) (example13 w') ?_
      rintro e w2 ⟨A, rfl, hb, hA⟩
      exact ⟨_, rfl, _, rfl, hb, A, _, rfl, Nat.le_refl _, hA⟩
    | 1, _ =>
      injection ho with ho; subst ho
      have h1 : a.eval (.tmp 1) = .pointer (some ⟨w.heap.size, 0, none⟩) := hold 1 (by kernel_rfl)
      have hc0 := lo_keep hl a0
      have hc1 := lo_keep hl a1
      have hc2 := lo_keep hl a2
      simp [Act.eval] at h1
      exact ⟨fun _ => wp_of_run (v := .agg #[.string ⟨#[115, 104, 111, 112]⟩, .string ⟨#[119, 101, 98]⟩, .int .u32 0]) (w' := w') (by simp [go_sem, h1, hc0, hc1, hc2]) ⟨_, rfl, Lo.refl _, rfl⟩, fun h => by rw [wanted_free rfl] at h; cases h⟩
    | 2, _ =>
      injection ho with ho; subst ho
      have h2 : a.eval (.tmp 2) = .pointer (some ⟨w.heap.size + 1, 0, none⟩) := hold 2 (by kernel_rfl)
      have hc0 := lo_keep hl b0
      have hc1 := lo_keep hl b1
      have hc2 := lo_keep hl b2
      have hc3 := lo_keep hl b3
      have hc4 := lo_keep hl b4
      have hc5 := lo_keep hl b5
      have hc6 := lo_keep hl b6
      simp [Act.eval] at h2
      exact ⟨fun _ => wp_of_run (v := .agg #[.string ⟨#[71, 69, 84]⟩, .string ⟨#[]⟩, .string ⟨#[47, 97, 98]⟩, .string ⟨#[]⟩, .string ⟨#[]⟩, .slice none 0 0, .slice none 0 0]) (w' := w') (by simp [go_sem, h2, hc0, hc1, hc2, hc3, hc4, hc5, hc6]) ⟨_, rfl, Lo.refl _, rfl⟩, fun h => by rw [wanted_free rfl] at h; cases h⟩
    | 3, _ =>
      injection ho with ho; subst ho
      have h16 : a.eval (.tmp 16) = .agg #[.string ⟨#[115, 104, 111, 112]⟩, .string ⟨#[119, 101, 98]⟩, .int .u32 0] := hd 1 (by kernel_rfl) 16 (by kernel_rfl)
      have h17 : a.eval (.tmp 17) = .agg #[.string ⟨#[71, 69, 84]⟩, .string ⟨#[]⟩, .string ⟨#[47, 97, 98]⟩, .string ⟨#[]⟩, .string ⟨#[]⟩, .slice none 0 0, .slice none 0 0] := hd 2 (by kernel_rfl) 17 (by kernel_rfl)
      obtain ⟨A, B, hv, hB, hA⟩ := hd 0 (by kernel_rfl) 15 (by kernel_rfl)
      simp [Act.eval] at hv
      simp [Act.eval] at h16 h17
      refine ⟨fun _ => ?_, fun h => by rw [wanted_free rfl] at h; cases h⟩
      refine wp_call_of (f := 9) (args := #[.slice A 2 2, .agg #[.string ⟨#[115, 104, 111, 112]⟩, .string ⟨#[119, 101, 98]⟩, .int .u32 0], .int .i64 80, .agg #[.string ⟨#[71, 69, 84]⟩, .string ⟨#[]⟩, .string ⟨#[47, 97, 98]⟩, .string ⟨#[]⟩, .string ⟨#[]⟩, .slice none 0 0, .slice none 0 0]]) (by simp [go_sem, hv, h16, h17]) (J1.out w' A B hB hA) ?_
      rintro e w2 ⟨rfl, hb⟩
      exact ⟨_, rfl, _, rfl, hb, rfl⟩
    | 4, _ =>
      injection ho with ho; subst ho
      have h18 : a.eval (.tmp 18) = .tuple #[.bool true, .int .u64 1] := hd 3 (by kernel_rfl) 18 (by kernel_rfl)
      simp [Act.eval] at h18
      exact ⟨fun _ => wp_of_run (v := .tuple #[.bool true, .int .u64 1]) (w' := w') (by simp [go_sem, h18]) ⟨_, rfl, Lo.refl _, rfl⟩, fun h => by rw [wanted_free rfl] at h; cases h⟩
    | 5, _ =>
      injection ho with ho; subst ho
      have h14 : a.eval (.tmp 14) = .tuple #[.bool true, .int .u64 1] := hd 4 (by kernel_rfl) 14 (by kernel_rfl)
      simp [Act.eval] at h14
      exact ⟨fun _ => wp_of_run (v := .bool true) (w' := w') (by simp [go_sem, h14]) ⟨_, rfl, Lo.refl _, rfl⟩, fun h => by rw [wanted_free rfl] at h; cases h⟩
    | 6, _ =>
      injection ho with ho; subst ho
      have h14 : a.eval (.tmp 14) = .tuple #[.bool true, .int .u64 1] := hd 4 (by kernel_rfl) 14 (by kernel_rfl)
      simp [Act.eval] at h14
      exact ⟨fun _ => wp_of_run (v := .int .u64 1) (w' := w') (by simp [go_sem, h14]) ⟨_, rfl, Lo.refl _, rfl⟩, fun h => by rw [wanted_free rfl] at h; cases h⟩
    | 7, _ =>
      injection ho with ho; subst ho
      have h19 : a.eval (.tmp 19) = .bool true := hd 5 (by kernel_rfl) 19 (by kernel_rfl)
      simp [Act.eval] at h19
      exact ⟨fun _ => wp_of_run (v := .bool true) (w' := w') (by simp [go_sem, h19]) ⟨_, rfl, Lo.refl _, rfl⟩, fun h => by rw [wanted_free rfl] at h; cases h⟩
    | 8, _ =>
      injection ho with ho; subst ho
      have h20 : a.eval (.tmp 20) = .int .u64 1 := hd 6 (by kernel_rfl) 20 (by kernel_rfl)
      simp [Act.eval] at h20
      exact ⟨fun _ => wp_of_run (v := .int .u64 1) (w' := w') (by simp [go_sem, h20]) ⟨_, rfl, Lo.refl _, rfl⟩, fun h => by rw [wanted_free rfl] at h; cases h⟩
  · intro v wq hq hp
    have p7 := hp 7 (by simp)
    have p8 := hp 8 (by simp)
    clear hp
    simp only [List.length_cons, List.length_nil, Nat.zero_add, Nat.reduceAdd, List.range_succ, List.range_zero, List.nil_append, List.cons_append, List.foldl_cons, List.foldl_nil, dstOf, List.getElem?_toArray, List.getElem?_cons_zero, List.getElem?_cons_succ, Option.bind_some, Act.put, List.setIfInBounds_toArray, List.set_cons_zero, List.set_cons_succ]
    generalize v 7 = v7 at *
    generalize v 8 = v8 at *
    subst p7 p8
    generalize v 0 = z0 at *
    generalize v 1 = z1 at *
    generalize v 2 = z2 at *
    generalize v 3 = z3 at *
    generalize v 4 = z4 at *
    generalize v 5 = z5 at *
    generalize v 6 = z6 at *
    replace hfz := (hq.facts.2.1 (w.heap.size + 1) 5 (World.block_lt_of_cell? _ _ b0)).trans hfz
    replace a0 := lo_keep hq a0
    replace a1 := lo_keep hq a1
    replace a2 := lo_keep hq a2
    replace b0 := lo_keep hq b0
    replace b1 := lo_keep hq b1
    replace b2 := lo_keep hq b2
    replace b3 := lo_keep hq b3
    replace b4 := lo_keep hq b4
    replace b5 := lo_keep hq b5
    replace b6 := lo_keep hq b6
    have hlw := hlw.trans hq
    have hqz := hq
    clear hq
    go_wp2
    refine wp_region_all 72 (fun i v w' => match i with
          | 0 => ∃ A B, v = .slice A 2 2 ∧ B ≤ w'.heap.size ∧ SliceAt PolicyR 5 B w' A exPols
          | 1 => v = .agg #[.string ⟨#[115, 104, 111, 112]⟩, .string ⟨#[119, 101, 98]⟩, .int .u32 0]
          | 2 => v = .agg #[.string ⟨#[71, 69, 84]⟩, .string ⟨#[]⟩, .string ⟨#[47, 97, 98]⟩, .string ⟨#[]⟩, .string ⟨#[]⟩, .slice none 0 0, .slice none 0 0]
          | 3 => v = .tuple #[.bool false, .int .u64 0]
          | 4 => v = .tuple #[.bool false, .int .u64 0]
          | 5 => v = .bool false
          | 6 => v = .int .u64 0
          | 7 => v = .bool false
          | 8 => v = .int .u64 0
          | _ => True) (by kernel_rfl) rfl (by kernel_rfl) ?_ ?_ ?_
    · intro i v w1 w2 h hl12
      match i, h with
      | 0, ⟨A, B, hv, hB, hA⟩ => exact ⟨A, B, hv, Nat.le_trans hB hl12.size, SliceAt.lo PolicyR.kept hA hl12 hB⟩
      | 1, h => exact h
      | 2, h => exact h
      | 3, h => exact h
      | 4, h => exact h
      | 5, h => exact h
      | 6, h => exact h
      | 7, h => exact h
      | 8, h => exact h
      | _ + 9, _ => trivial
    · intro i o hiN ho a w' hl hd hold
      match i, hiN with
      | 0, _ =>
        injection ho with ho; subst ho
        refine ⟨fun _ => ?_, fun h => by rw [wanted_free rfl] at h; cases h⟩
        refine wp_call_of (f := 13) (args := #[]) (by simp [go_sem]) (example13 w') ?_
        rintro e w2 ⟨A, rfl, hb, hA⟩
        exact ⟨_, rfl, _, rfl, hb, A, _, rfl, Nat.le_refl _, hA⟩
      | 1, _ =>
        injection ho with ho; subst ho
        have h1 : a.eval (.tmp 1) = .pointer (some ⟨w.heap.size, 0, none⟩) := hold 1 (by kernel_rfl)
        have hc0 := lo_keep hl a0
        have hc1 := lo_keep hl a1
        have hc2 := lo_keep hl a2
        simp [Act.eval] at h1
        exact ⟨fun _ => wp_of_run (v := .agg #[.string ⟨#[115, 104, 111, 112]⟩, .string ⟨#[119, 101, 98]⟩, .int .u32 0]) (w' := w') (by simp [go_sem, h1, hc0, hc1, hc2]) ⟨_, rfl, Lo.refl _, rfl⟩, fun h => by rw [wanted_free rfl] at h; cases h⟩
      | 2, _ =>
        injection ho with ho; subst ho
        have h2 : a.eval (.tmp 2) = .pointer (some ⟨w.heap.size + 1, 0, none⟩) := hold 2 (by kernel_rfl)
        have hc0 := lo_keep hl b0
        have hc1 := lo_keep hl b1
        have hc2 := lo_keep hl b2
        have hc3 := lo_keep hl b3
        have hc4 := lo_keep hl b4
        have hc5 := lo_keep hl b5
        have hc6 := lo_keep hl b6
        simp [Act.eval] at h2
        exact ⟨fun _ => wp_of_run (v := .agg #[.string ⟨#[71, 69, 84]⟩, .string ⟨#[]⟩, .string ⟨#[47, 97, 98]⟩, .string ⟨#[]⟩, .string ⟨#[]⟩, .slice none 0 0, .slice none 0 0]) (w' := w') (by simp [go_sem, h2, hc0, hc1, hc2, hc3, hc4, hc5, hc6]) ⟨_, rfl, Lo.refl _, rfl⟩, fun h => by rw [wanted_free rfl] at h; cases h⟩
      | 3, _ =>
        injection ho with ho; subst ho
        have h23 : a.eval (.tmp 23) = .agg #[.string ⟨#[115, 104, 111, 112]⟩, .string ⟨#[119, 101, 98]⟩, .int .u32 0] := hd 1 (by kernel_rfl) 23 (by kernel_rfl)
        have h24 : a.eval (.tmp 24) = .agg #[.string ⟨#[71, 69, 84]⟩, .string ⟨#[]⟩, .string ⟨#[47, 97, 98]⟩, .string ⟨#[]⟩, .string ⟨#[]⟩, .slice none 0 0, .slice none 0 0] := hd 2 (by kernel_rfl) 24 (by kernel_rfl)
        obtain ⟨A, B, hv, hB, hA⟩ := hd 0 (by kernel_rfl) 22 (by kernel_rfl)
        simp [Act.eval] at hv
        simp [Act.eval] at h23 h24
        refine ⟨fun _ => ?_, fun h => by rw [wanted_free rfl] at h; cases h⟩
        refine wp_call_of (f := 9) (args := #[.slice A 2 2, .agg #[.string ⟨#[115, 104, 111, 112]⟩, .string ⟨#[119, 101, 98]⟩, .int .u32 0], .int .i64 81, .agg #[.string ⟨#[71, 69, 84]⟩, .string ⟨#[]⟩, .string ⟨#[47, 97, 98]⟩, .string ⟨#[]⟩, .string ⟨#[]⟩, .slice none 0 0, .slice none 0 0]]) (by simp [go_sem, hv, h23, h24]) (J2.out w' A B hB hA) ?_
        rintro e w2 ⟨rfl, hb⟩
        exact ⟨_, rfl, _, rfl, hb, rfl⟩
      | 4, _ =>
        injection ho with ho; subst ho
        have h25 : a.eval (.tmp 25) = .tuple #[.bool false, .int .u64 0] := hd 3 (by kernel_rfl) 25 (by kernel_rfl)
        simp [Act.eval] at h25
        exact ⟨fun _ => wp_of_run (v := .tuple #[.bool false, .int .u64 0]) (w' := w') (by simp [go_sem, h25]) ⟨_, rfl, Lo.refl _, rfl⟩, fun h => by rw [wanted_free rfl] at h; cases h⟩
      | 5, _ =>
        injection ho with ho; subst ho
        have h21 : a.eval (.tmp 21) = .tuple #[.bool false, .int .u64 0] := hd 4 (by kernel_rfl) 21 (by kernel_rfl)
        simp [Act.eval] at h21
        exact ⟨fun _ => wp_of_run (v := .bool false) (w' := w') (by simp [go_sem, h21]) ⟨_, rfl, Lo.refl _, rfl⟩, fun h => by rw [wanted_free rfl] at h; cases h⟩
      | 6, _ =>
        injection ho with ho; subst ho
        have h21 : a.eval (.tmp 21) = .tuple #[.bool false, .int .u64 0] := hd 4 (by kernel_rfl) 21 (by kernel_rfl)
        simp [Act.eval] at h21
        exact ⟨fun _ => wp_of_run (v := .int .u64 0) (w' := w') (by simp [go_sem, h21]) ⟨_, rfl, Lo.refl _, rfl⟩, fun h => by rw [wanted_free rfl] at h; cases h⟩
      | 7, _ =>
        injection ho with ho; subst ho
        have h26 : a.eval (.tmp 26) = .bool false := hd 5 (by kernel_rfl) 26 (by kernel_rfl)
        simp [Act.eval] at h26
        exact ⟨fun _ => wp_of_run (v := .bool false) (w' := w') (by simp [go_sem, h26]) ⟨_, rfl, Lo.refl _, rfl⟩, fun h => by rw [wanted_free rfl] at h; cases h⟩
      | 8, _ =>
        injection ho with ho; subst ho
        have h27 : a.eval (.tmp 27) = .int .u64 0 := hd 6 (by kernel_rfl) 27 (by kernel_rfl)
        simp [Act.eval] at h27
        exact ⟨fun _ => wp_of_run (v := .int .u64 0) (w' := w') (by simp [go_sem, h27]) ⟨_, rfl, Lo.refl _, rfl⟩, fun h => by rw [wanted_free rfl] at h; cases h⟩
    · intro v wq hq hp
      have p7 := hp 7 (by simp)
      have p8 := hp 8 (by simp)
      clear hp
      simp only [List.length_cons, List.length_nil, Nat.zero_add, Nat.reduceAdd, List.range_succ, List.range_zero, List.nil_append, List.cons_append, List.foldl_cons, List.foldl_nil, dstOf, List.getElem?_toArray, List.getElem?_cons_zero, List.getElem?_cons_succ, Option.bind_some, Act.put, List.setIfInBounds_toArray, List.set_cons_zero, List.set_cons_succ]
      generalize v 7 = v7 at *
      generalize v 8 = v8 at *
      subst p7 p8
      generalize v 0 = z0 at *
      generalize v 1 = z1 at *
      generalize v 2 = z2 at *
      generalize v 3 = z3 at *
      generalize v 4 = z4 at *
      generalize v 5 = z5 at *
      generalize v 6 = z6 at *
      replace hfz := (hq.facts.2.1 (w.heap.size + 1) 5 (World.block_lt_of_cell? _ _ b0)).trans hfz
      replace a0 := lo_keep hq a0
      replace a1 := lo_keep hq a1
      replace a2 := lo_keep hq a2
      replace b0 := lo_keep hq b0
      replace b1 := lo_keep hq b1
      replace b2 := lo_keep hq b2
      replace b3 := lo_keep hq b3
      replace b4 := lo_keep hq b4
      replace b5 := lo_keep hq b5
      replace b6 := lo_keep hq b6
      have hlw := hlw.trans hq
      have hqz := hq
      clear hq
      have hz1 : w.heap.size + 1 < wq.heap.size := World.block_lt_of_cell? _ _ b0
      have hz0 : w.heap.size < wq.heap.size := World.block_lt_of_cell? _ _ a0
      have c5 : (wq.alloc (.cells #[.string ⟨#[120, 45, 98, 97, 100]⟩, .string ⟨#[49]⟩] 63)).cell? ⟨w.heap.size + 1, 5, none⟩ = some (.slice none 0 0) := lo_keep ((Lo.refl _).alloc _) b5
      have f5 : (wq.alloc (.cells #[.string ⟨#[120, 45, 98, 97, 100]⟩, .string ⟨#[49]⟩] 63)).frozen? ⟨w.heap.size + 1, 5, none⟩ = false := (((Lo.refl wq).alloc _).facts.2.1 (w.heap.size + 1) 5 hz1).trans hfz
      go_wp2
      clear c5 f5
      obtain ⟨w3, hw3⟩ : ∃ w3, ((wq.setCell ⟨w.heap.size + 1, 5, none⟩ (.slice (some ⟨wq.heap.size, 0, none⟩) 1 1)).alloc (.cells #[.string ⟨#[120, 45, 98, 97, 100]⟩, .string ⟨#[49]⟩] 63)) = w3 := ⟨_, rfl⟩
      rw [hw3]
      have key : ∀ (b o : Nat) (v : Value), (b, o) ≠ (w.heap.size + 1, 5) → wq.cell? ⟨b, o, none⟩ = some v → w3.cell? ⟨b, o, none⟩ = some v := fun b o v hne hv => by
        rw [← hw3]
        refine lo_keep ((Lo.refl _).alloc _) ((World.cell?_setCell_other wq _ _ _ (fun e => ?_)).trans hv)
        injection e with e1 e2
        exact hne (by rw [← e1, ← e2])
      have hsz3 : (wq.setCell ⟨w.heap.size + 1, 5, none⟩ (.slice (some ⟨wq.heap.size, 0, none⟩) 1 1)).heap.size = wq.heap.size := by simp
      have hblk : w3.heap[wq.heap.size]? = some (.cells #[.string ⟨#[120, 45, 98, 97, 100]⟩, .string ⟨#[49]⟩] 63 (0, 0)) := by rw [← hw3]; exact heap_new_at hsz3.symm
      have hHd : SliceAt HeadR 2 w3.heap.size w3 (some ⟨wq.heap.size, 0, none⟩) exReq2.heads := SliceAt.one (cs := [.string ⟨#[120, 45, 98, 97, 100]⟩, .string ⟨#[49]⟩]) hblk (block_lt hblk) rfl ⟨_, _, rfl, ⟨rfl, by decide⟩, ⟨rfl, by decide⟩⟩
      have hBd : w3.heap.size ≤ w3.heap.size := Nat.le_refl _
      have hlw3 : Lo w w3 := by rw [← hw3]; exact (Lo.setCell hlw (by simp) _).alloc _
      replace b5 : w3.cell? ⟨w.heap.size + 1, 5, none⟩ = some (.slice (some ⟨wq.heap.size, 0, none⟩) 1 1) := by
        rw [← hw3]
        exact lo_keep ((Lo.refl _).alloc _) (World.cell?_setCell_same _ _ _ b5)
      replace a0 := key _ _ _ (by simp) a0
      replace a1 := key _ _ _ (by simp) a1
      replace a2 := key _ _ _ (by simp) a2
      replace b0 := key _ _ _ (by simp) b0
      replace b1 := key _ _ _ (by simp) b1
      replace b2 := key _ _ _ (by simp) b2
      replace b3 := key _ _ _ (by simp) b3
      replace b4 := key _ _ _ (by simp) b4
      replace b6 := key _ _ _ (by simp) b6
      replace hfz : w3.frozen? ⟨w.heap.size + 1, 5, none⟩ = false := by rw [← hw3]; exact (((Lo.refl _).alloc _).facts.2.1 (w.heap.size + 1) 5 (by rw [hsz3]; exact hz1)).trans (by simpa using hfz)
      replace hlw := hlw3
      clear key hlw3 hsz3 hblk hz0 hz1 hw3
      generalize wq.heap.size = nh at *
      refine wp_region_all 72 (fun i v w' => match i with
            | 0 => ∃ A B, v = .slice A 2 2 ∧ B ≤ w'.heap.size ∧ SliceAt PolicyR 5 B w' A exPols
            | 1 => v = .agg #[.string ⟨#[115, 104, 111, 112]⟩, .string ⟨#[119, 101, 98]⟩, .int .u32 0]
            | 2 => v = .agg #[.string ⟨#[71, 69, 84]⟩, .string ⟨#[]⟩, .string ⟨#[47, 97, 98]⟩, .string ⟨#[]⟩, .string ⟨#[]⟩, .slice (some ⟨nh, 0, none⟩) 1 1, .slice none 0 0]
            | 3 => v = .tuple #[.bool false, .int .u64 2]
            | 4 => v = .tuple #[.bool false, .int .u64 2]
            | 5 => v = .bool false
            | 6 => v = .int .u64 2
            | 7 => v = .bool false
            | 8 => v = .int .u64 2
            | _ => True) (by kernel_rfl) rfl (by kernel_rfl) ?_ ?_ ?_
      · intro i v w1 w2 h hl12
        match i, h with
        | 0, ⟨A, B, hv, hB, hA⟩ => exact ⟨A, B, hv, Nat.le_trans hB hl12.size, SliceAt.lo PolicyR.kept hA hl12 hB⟩
        | 1, h => exact h
        | 2, h => exact h
        | 3, h => exact h
        | 4, h => exact h
        | 5, h => exact h
        | 6, h => exact h
        | 7, h => exact h
        | 8, h => exact h
        | _ + 9, _ => trivial
      · intro i o hiN ho a w' hl hd hold
        match i, hiN with
        | 0, _ =>
          injection ho with ho; subst ho
          refine ⟨fun _ => ?_, fun h => by rw [wanted_free rfl] at h; cases h⟩
          refine wp_call_of (f := 13) (args := #[]) (by simp [go_sem]) (example13 w') ?_
          rintro e w2 ⟨A, rfl, hb, hA⟩
          exact ⟨_, rfl, _, rfl, hb, A, _, rfl, Nat.le_refl _, hA⟩
        | 1, _ =>
          injection ho with ho; subst ho
          have h1 : a.eval (.tmp 1) = .pointer (some ⟨w.heap.size, 0, none⟩) := hold 1 (by kernel_rfl)
          have hc0 := lo_keep hl a0
          have hc1 := lo_keep hl a1
          have hc2 := lo_keep hl a2
          simp [Act.eval] at h1
          exact ⟨fun _ => wp_of_run (v := .agg #[.string ⟨#[115, 104, 111, 112]⟩, .string ⟨#[119, 101, 98]⟩, .int .u32 0]) (w' := w') (by simp [go_sem, h1, hc0, hc1, hc2]) ⟨_, rfl, Lo.refl _, rfl⟩, fun h => by rw [wanted_free rfl] at h; cases h⟩
        | 2, _ =>
          injection ho with ho; subst ho
          have h2 : a.eval (.tmp 2) = .pointer (some ⟨w.heap.size + 1, 0, none⟩) := hold 2 (by kernel_rfl)
          have hc0 := lo_keep hl b0
          have hc1 := lo_keep hl b1
          have hc2 := lo_keep hl b2
          have hc3 := lo_keep hl b3
          have hc4 := lo_keep hl b4
          have hc5 := lo_keep hl b5
          have hc6 := lo_keep hl b6
          simp [Act.eval] at h2
          exact ⟨fun _ => wp_of_run (v := .agg #[.string ⟨#[71, 69, 84]⟩, .string ⟨#[]⟩, .string ⟨#[47, 97, 98]⟩, .string ⟨#[]⟩, .string ⟨#[]⟩, .slice (some ⟨nh, 0, none⟩) 1 1, .slice none 0 0]) (w' := w') (by simp [go_sem, h2, hc0, hc1, hc2, hc3, hc4, hc5, hc6]) ⟨_, rfl, Lo.refl _, rfl⟩, fun h => by rw [wanted_free rfl] at h; cases h⟩
        | 3, _ =>
          injection ho with ho; subst ho
          have h33 : a.eval (.tmp 33) = .agg #[.string ⟨#[115, 104, 111, 112]⟩, .string ⟨#[119, 101, 98]⟩, .int .u32 0] := hd 1 (by kernel_rfl) 33 (by kernel_rfl)
          have h34 : a.eval (.tmp 34) = .agg #[.string ⟨#[71, 69, 84]⟩, .string ⟨#[]⟩, .string ⟨#[47, 97, 98]⟩, .string ⟨#[]⟩, .string ⟨#[]⟩, .slice (some ⟨nh, 0, none⟩) 1 1, .slice none 0 0] := hd 2 (by kernel_rfl) 34 (by kernel_rfl)
          obtain ⟨A, B, hv, hB, hA⟩ := hd 0 (by kernel_rfl) 32 (by kernel_rfl)
          simp [Act.eval] at hv
          simp [Act.eval] at h33 h34
          refine ⟨fun _ => ?_, fun h => by rw [wanted_free rfl] at h; cases h⟩
          refine wp_call_of (f := 9) (args := #[.slice A 2 2, .agg #[.string ⟨#[115, 104, 111, 112]⟩, .string ⟨#[119, 101, 98]⟩, .int .u32 0], .int .i64 80, .agg #[.string ⟨#[71, 69, 84]⟩, .string ⟨#[]⟩, .string ⟨#[47, 97, 98]⟩, .string ⟨#[]⟩, .string ⟨#[]⟩, .slice (some ⟨nh, 0, none⟩) 1 1, .slice none 0 0]]) (by simp [go_sem, hv, h33, h34]) (J3.out w' A _ w'.heap.size (Nat.le_refl _) (hA.keep PolicyR.kept (fun _ _ => rfl) hB) (hHd.lo HeadR.kept hl hBd |>.keep HeadR.kept (fun _ _ => rfl) (Nat.le_trans hBd hl.size))) ?_
          rintro e w2 ⟨rfl, hb⟩
          exact ⟨_, rfl, _, rfl, hb, rfl⟩
        | 4, _ =>
          injection ho with ho; subst ho
          have h35 : a.eval (.tmp 35) = .tuple #[.bool false, .int .u64 2] := hd 3 (by kernel_rfl) 35 (by kernel_rfl)
          simp [Act.eval] at h35
          exact ⟨fun _ => wp_of_run (v := .tuple #[.bool false, .int .u64 2]) (w' := w') (by simp [go_sem, h35]) ⟨_, rfl, Lo.refl _, rfl⟩, fun h => by rw [wanted_free rfl] at h; cases h⟩
        | 5, _ =>
          injection ho with ho; subst ho
          have h31 : a.eval (.tmp 31) = .tuple #[.bool false, .int .u64 2] := hd 4 (by kernel_rfl) 31 (by kernel_rfl)
          simp [Act.eval] at h31
          exact ⟨fun _ => wp_of_run (v := .bool false) (w' := w') (by simp [go_sem, h31]) ⟨_, rfl, Lo.refl _, rfl⟩, fun h => by rw [wanted_free rfl] at h; cases h⟩
        | 6, _ =>
          injection ho with ho; subst ho
          have h31 : a.eval (.tmp 31) = .tuple #[.bool false, .int .u64 2] := hd 4 (by kernel_rfl) 31 (by kernel_rfl)
          simp [Act.eval] at h31
          exact ⟨fun _ => wp_of_run (v := .int .u64 2) (w' := w') (by simp [go_sem, h31]) ⟨_, rfl, Lo.refl _, rfl⟩, fun h => by rw [wanted_free rfl] at h; cases h⟩
        | 7, _ =>
          injection ho with ho; subst ho
          have h36 : a.eval (.tmp 36) = .bool false := hd 5 (by kernel_rfl) 36 (by kernel_rfl)
          simp [Act.eval] at h36
          exact ⟨fun _ => wp_of_run (v := .bool false) (w' := w') (by simp [go_sem, h36]) ⟨_, rfl, Lo.refl _, rfl⟩, fun h => by rw [wanted_free rfl] at h; cases h⟩
        | 8, _ =>
          injection ho with ho; subst ho
          have h37 : a.eval (.tmp 37) = .int .u64 2 := hd 6 (by kernel_rfl) 37 (by kernel_rfl)
          simp [Act.eval] at h37
          exact ⟨fun _ => wp_of_run (v := .int .u64 2) (w' := w') (by simp [go_sem, h37]) ⟨_, rfl, Lo.refl _, rfl⟩, fun h => by rw [wanted_free rfl] at h; cases h⟩
      · intro v wq hq hp
        have p7 := hp 7 (by simp)
        have p8 := hp 8 (by simp)
        clear hp
        simp only [List.length_cons, List.length_nil, Nat.zero_add, Nat.reduceAdd, List.range_succ, List.range_zero, List.nil_append, List.cons_append, List.foldl_cons, List.foldl_nil, dstOf, List.getElem?_toArray, List.getElem?_cons_zero, List.getElem?_cons_succ, Option.bind_some, Act.put, List.setIfInBounds_toArray, List.set_cons_zero, List.set_cons_succ]
        generalize v 7 = v7 at *
        generalize v 8 = v8 at *
        subst p7 p8
        generalize v 0 = z0 at *
        generalize v 1 = z1 at *
        generalize v 2 = z2 at *
        generalize v 3 = z3 at *
        generalize v 4 = z4 at *
        generalize v 5 = z5 at *
        generalize v 6 = z6 at *
        replace hfz := (hq.facts.2.1 (w.heap.size + 1) 5 (World.block_lt_of_cell? _ _ b0)).trans hfz
        replace a0 := lo_keep hq a0
        replace a1 := lo_keep hq a1
        replace a2 := lo_keep hq a2
        replace b0 := lo_keep hq b0
        replace b1 := lo_keep hq b1
        replace b2 := lo_keep hq b2
        replace b3 := lo_keep hq b3
        replace b4 := lo_keep hq b4
        replace b5 := lo_keep hq b5
        replace b6 := lo_keep hq b6
        have hlw := hlw.trans hq
        have hqz := hq
        clear hq
        have hHq : SliceAt HeadR 2 wq.heap.size wq (some ⟨nh, 0, none⟩) exReq2.heads := (hHd.lo HeadR.kept hqz hBd).keep HeadR.kept (fun _ _ => rfl) hqz.size
        go_wp2_with fail
        refine (J4.out _ _ hHq).mono ?_
        rintro e w9 ⟨rfl, hb⟩
        go_wp2
        go_ret
        exact ⟨rfl, (by repeat (first | exact Lo.refl _ | assumption | refine Lo.drew ?_ | refine Lo.alloc ?_ _ | refine Lo.setCell ?_ (by first | (dsimp only; omega) | (simp; omega) | (simp; done)) _ | refine Lo.trans ?_ (by assumption)))⟩
end Go.Proofs.Ytnclifgiakmmoaa.WAuth
