/- Merged by bundles.py: WLong3, SimBr13a, SimSp5, SimSp6. -/
import Derived.Test.YtnclifgiakmmoaaGreatH22
import Derived.Test.YtnclifgiakmmoaaGreatH17
import Derived.Test.YtnclifgiakmmoaaGreatH21
import Derived.Test.YtnclifgiakmmoaaGreatH20
/- The walks of gatepostlaw12.Long and gatepostlaw13.Long. -/
namespace Go.Proofs.YtnclifgiakmmoaaGreat.WAuth
set_option linter.unusedVariables false
set_option linter.unusedSimpArgs false
open Go.RowKit Mem BigFrame WMatch WAddr WName Opn

def longPol (p : Pl.Policy) : Bool := decide (20 < p.rules.length) || decide (300 < p.ns.size) || p.rules.any longRule

set_option maxRecDepth 100000 in
set_option maxHeartbeats 4000000 in
theorem long12 (p : Pl.Policy) (c0 c1 c2 c3 c4 : Value) {B : Nat} (w : World) (hB : B ≤ w.heap.size) (hp : PolicyR B w p [c0, c1, c2, c3, c4]) :
    Calls Tryz.prog 20 #[.agg #[c0, c1, c2, c3, c4]] w fun e w' => e = .returned (.bool (longPol p)) ∧ Lo w w' := by
  obtain ⟨d0, d1, d2, d3, d4, he, ⟨e0, z0⟩, ⟨e1, z1⟩, ⟨e2, z2⟩, ⟨e3, z3⟩, ⟨A4, p4, e4, h4, l4, m4⟩⟩ := hp
  injection he with q0 he; injection he with q1 he; injection he with q2 he; injection he with q3 he; injection he with q4 he
  subst q0 q1 q2 q3 q4
  injection e0 with e0; injection e1 with e1; injection e2 with e2; injection e3 with e3; injection e4 with e4
  subst e0 e1 e2 e3 e4
  unfold maxLen at m4 z1
  have HL : Hid (longPol p = (decide (20 < p.rules.length) || decide (300 < p.ns.size) || p.rules.any longRule)) := Lib.hid rfl
  by_cases g0 : 20 < p.rules.length
  · go_enter Tryz.func20, Tryz.ntmps20
    go_wp2
    go_ret
    exact ⟨ret_bool (by rw [HL.out]; simp [g0]), (by repeat (first | exact Lo.refl _ | assumption | refine Lo.drew ?_ | refine Lo.alloc ?_ _ | refine Lo.setCell ?_ (by first | (dsimp only; omega) | (simp; omega) | (simp; done)) _ | refine Lo.trans ?_ (by assumption)))⟩
  by_cases g1 : 300 < p.ns.size
  · go_enter Tryz.func20, Tryz.ntmps20
    go_wp2
    go_ret
    exact ⟨ret_bool (by rw [HL.out]; simp [g1]), (by repeat (first | exact Lo.refl _ | assumption | refine Lo.drew ?_ | refine Lo.alloc ?_ _ | refine Lo.setCell ?_ (by first | (dsimp only; omega) | (simp; omega) | (simp; done)) _ | refine Lo.trans ?_ (by assumption)))⟩
  have HL2 : Hid (longPol p = p.rules.any longRule) := Lib.hid (by rw [HL.out]; simp [g0, g1])
  clear HL
  go_enter Tryz.func20, Tryz.ntmps20
  go_wp2
  go_loopw [3] (fun i wr => ∃ k : Nat, k ≤ p.rules.length ∧ i = .int .i64 k ∧ Lo w wr ∧ BoxAt wr w.heap.size [.int .u64 p.id, .string p.ns, .int .u64 p.service, .int .i64 p.deny, .slice A4 p.rules.length p4] ∧ Hid ((p.rules.take k).any longRule = false)) (fun i _ => p.rules.length - (intOf i).toNat)
  case atStart => exact ⟨0, Nat.zero_le _, rfl, (by repeat (first | exact Lo.refl _ | assumption | refine Lo.drew ?_ | refine Lo.alloc ?_ _ | refine Lo.setCell ?_ (by first | (dsimp only; omega) | (simp; omega) | (simp; done)) _ | refine Lo.trans ?_ (by assumption))), BoxAt.new _ _ _, Lib.hid rfl⟩
  case round =>
    obtain ⟨k, hk, rfl, hlo, hbx, hall⟩ := hrel
    have hb4 := hbx 4 _ rfl
    by_cases hlt : k < p.rules.length
    · obtain ⟨b, off, cs, rfl, hb, hl2, hc, hr⟩ := (SliceAt.lo RuleR.kept h4 hlo hB) k p.rules[k] (List.getElem?_eq_getElem hlt)
      obtain ⟨d0, d1, d2, rfl⟩ : ∃ d0 d1 d2, cs = [d0, d1, d2] := by
        match cs, hl2 with
        | [d0, d1, d2], _ => exact ⟨d0, d1, d2, rfl⟩
      have hc0 : wr.cell? ⟨b, off + k * 3, none⟩ = _ := hc 0 _ rfl
      have hc1 : wr.cell? ⟨b, off + k * 3 + 1, none⟩ = _ := hc 1 _ rfl
      have hc2 : wr.cell? ⟨b, off + k * 3 + 2, none⟩ = _ := hc 2 _ rfl
      have HC := Lib.hid (longRule_ p.rules[k] d0 d1 d2 wr (Nat.le_trans hB hlo.size) hr)
      clear hc hl2 hr
      cases hM : longRule p.rules[k]
      · have HM := Lib.hid hM
        have HN := Lib.hid (WIdxWhen.any_snoc' hall.out hlt hM)
        clear hM
        go_wp2_with fail
        refine (HC.out).mono ?_
        rw [HM.out]
        rintro e w1 ⟨rfl, hb1⟩
        go_wp2
        go_roundw
        case rel => exact ⟨k + 1, by omega, by go_num, (by repeat (first | exact Lo.refl _ | assumption | refine Lo.drew ?_ | refine Lo.alloc ?_ _ | refine Lo.setCell ?_ (by first | (dsimp only; omega) | (simp; omega) | (simp; done)) _ | refine Lo.trans ?_ (by assumption))), hbx.lo hb1, HN⟩
        case measure => simp [intOf]; omega
      · have HM := Lib.hid hM
        have HY := Lib.hid (any_yes (p := longRule) hlt hM)
        clear hM
        go_wp2_with fail
        refine (HC.out).mono ?_
        rw [HM.out]
        rintro e w1 ⟨rfl, hb1⟩
        go_wp2
        go_ret
        exact ⟨ret_bool (by rw [HL2.out, HY.out]), (by repeat (first | exact Lo.refl _ | assumption | refine Lo.drew ?_ | refine Lo.alloc ?_ _ | refine Lo.setCell ?_ (by first | (dsimp only; omega) | (simp; omega) | (simp; done)) _ | refine Lo.trans ?_ (by assumption)))⟩
    · have HF := hall.out
      rw [List.take_of_length_le (by omega)] at HF
      have HG := Lib.hid HF
      clear HF
      go_wp2
      go_ret
      exact ⟨ret_bool (by rw [HL2.out, HG.out]), (by repeat (first | exact Lo.refl _ | assumption | refine Lo.drew ?_ | refine Lo.alloc ?_ _ | refine Lo.setCell ?_ (by first | (dsimp only; omega) | (simp; omega) | (simp; done)) _ | refine Lo.trans ?_ (by assumption)))⟩

def long13 (l : List Pl.Policy) (a : Pl.Asker) (q : Pl.Req) : Bool := decide (30 < l.length) || decide (600 < wrap64 ((a.ns.size : Int) + a.sa.size)) || decide (6000 < wrap64 (wrap64 ((q.method.size : Int) + q.path.size) + q.host.size)) || longHeads q.heads || l.any longPol
/-- what of an asker and a request fits in memory, however many headers -/
structure Fits0 (B : Nat) (w : World) (a : Pl.Asker) (q : Pl.Req) (A : Option Addr) : Prop where
  ns : a.ns.size ≤ maxLen
  sa : a.sa.size ≤ maxLen
  method : q.method.size ≤ maxLen
  path : q.path.size ≤ maxLen
  host : q.host.size ≤ maxLen
  heads : SliceAt HeadR 2 B w A q.heads
  few : q.heads.length ≤ maxLen
theorem Fits0.lo {B : Nat} {w w' : World} {a : Pl.Asker} {q : Pl.Req} {A : Option Addr} (h : Fits0 B w a q A) (hl : Lo w w') (hB : B ≤ w.heap.size) : Fits0 B w' a q A :=
  { h with heads := SliceAt.lo HeadR.kept h.heads hl hB }
set_option maxRecDepth 100000 in
set_option maxHeartbeats 4000000 in
theorem long13_ (l : List Pl.Policy) (A0 : Option Addr) (cap0 : Nat) (a : Pl.Asker) (q : Pl.Req) (A : Option Addr) (cap : Nat) (tg qu bd : Value) {B : Nat} (w : World) (hB : B ≤ w.heap.size) (hA : SliceAt PolicyR 5 B w A0 l) (hn : l.length ≤ maxLen) (hf : Fits0 B w a q A) (ht : tg.oneCell' = true) (hu : qu.oneCell' = true) (hbd : bd.oneCell' = true) :
    Calls Tryz.prog 4 #[.slice A0 l.length cap0, .agg #[.string a.ns, .string a.sa, .int .u32 a.addr], .agg #[.string q.method, tg, .string q.path, qu, .string q.host, .slice A q.heads.length cap, bd]] w fun e w' => e = .returned (.bool (long13 l a q)) ∧ Lo w w' := by
  obtain ⟨z0, z1, z2, z3, z4, hh, hfew⟩ := hf
  have HH : Hid (∀ W, Lo w W → Calls Tryz.prog 19 #[.slice A q.heads.length cap] W fun e w' => e = .returned (.bool (longHeads q.heads)) ∧ Lo W w') := Lib.hid fun W hW => long9 q.heads A cap W (Nat.le_trans hB hW.size) (SliceAt.lo HeadR.kept hh hW hB) hfew
  unfold maxLen at hn z0 z1 z2 z3 z4 hfew
  have HL : Hid (long13 l a q = (decide (30 < l.length) || decide (600 < wrap64 ((a.ns.size : Int) + a.sa.size)) || decide (6000 < wrap64 (wrap64 ((q.method.size : Int) + q.path.size) + q.host.size)) || longHeads q.heads || l.any longPol)) := Lib.hid rfl
  clear hh
  by_cases g0 : 30 < l.length
  · go_enter Tryz.func4, Tryz.ntmps4
    go_wp2
    go_ret
    exact ⟨ret_bool (by rw [HL.out]; simp [g0]), (by repeat (first | exact Lo.refl _ | assumption | refine Lo.drew ?_ | refine Lo.alloc ?_ _ | refine Lo.setCell ?_ (by first | (dsimp only; omega) | (simp; omega) | (simp; done)) _ | refine Lo.trans ?_ (by assumption)))⟩
  by_cases g1 : 600 < wrap64 ((a.ns.size : Int) + a.sa.size)
  · go_enter Tryz.func4, Tryz.ntmps4
    go_wp2
    go_ret
    exact ⟨ret_bool (by rw [HL.out]; simp [g1]), (by repeat (first | exact Lo.refl _ | assumption | refine Lo.drew ?_ | refine Lo.alloc ?_ _ | refine Lo.setCell ?_ (by first | (dsimp only; omega) | (simp; omega) | (simp; done)) _ | refine Lo.trans ?_ (by assumption)))⟩
  by_cases g2 : 6000 < wrap64 (wrap64 ((q.method.size : Int) + q.path.size) + q.host.size)
  · go_enter Tryz.func4, Tryz.ntmps4
    go_wp2
    go_ret
    exact ⟨ret_bool (by rw [HL.out]; simp [g2]), (by repeat (first | exact Lo.refl _ | assumption | refine Lo.drew ?_ | refine Lo.alloc ?_ _ | refine Lo.setCell ?_ (by first | (dsimp only; omega) | (simp; omega) | (simp; done)) _ | refine Lo.trans ?_ (by assumption)))⟩
  have HL2 : Hid (long13 l a q = (longHeads q.heads || l.any longPol)) := Lib.hid (by rw [HL.out]; simp [g0, g1, g2])
  clear HL
  generalize hy : longHeads q.heads = y at *
  clear hy
  cases y
  · go_enter Tryz.func4, Tryz.ntmps4
    go_wp2_with fail
    refine (HH.out _ ?_).mono ?_
    · exact (by repeat (first | exact Lo.refl _ | assumption | refine Lo.drew ?_ | refine Lo.alloc ?_ _ | refine Lo.setCell ?_ (by first | (dsimp only; omega) | (simp; omega) | (simp; done)) _ | refine Lo.trans ?_ (by assumption)))
    rintro e w1 ⟨rfl, hb⟩
    have hl1 : Lo w w1 := (by repeat (first | exact Lo.refl _ | assumption | refine Lo.drew ?_ | refine Lo.alloc ?_ _ | refine Lo.setCell ?_ (by first | (dsimp only; omega) | (simp; omega) | (simp; done)) _ | refine Lo.trans ?_ (by assumption)))
    clear hb
    go_wp2
    go_loopw [7] (fun i wr => ∃ k : Nat, k ≤ l.length ∧ i = .int .i64 k ∧ Lo w wr ∧ Hid ((l.take k).any longPol = false)) (fun i _ => l.length - (intOf i).toNat)
    case atStart => exact ⟨0, Nat.zero_le _, rfl, hl1, Lib.hid rfl⟩
    case round =>
      obtain ⟨k, hk, rfl, hlo, hall⟩ := hrel
      by_cases hlt : k < l.length
      · obtain ⟨b, off, cs, rfl, hb, hl2, hc, hr⟩ := (SliceAt.lo PolicyR.kept hA hlo hB) k l[k] (List.getElem?_eq_getElem hlt)
        obtain ⟨d0, d1, d2, d3, d4, rfl⟩ : ∃ d0 d1 d2 d3 d4, cs = [d0, d1, d2, d3, d4] := by
          match cs, hl2 with
          | [d0, d1, d2, d3, d4], _ => exact ⟨d0, d1, d2, d3, d4, rfl⟩
        have hc0 : wr.cell? ⟨b, off + k * 5, none⟩ = _ := hc 0 _ rfl
        have hc1 : wr.cell? ⟨b, off + k * 5 + 1, none⟩ = _ := hc 1 _ rfl
        have hc2 : wr.cell? ⟨b, off + k * 5 + 2, none⟩ = _ := hc 2 _ rfl
        have hc3 : wr.cell? ⟨b, off + k * 5 + 3, none⟩ = _ := hc 3 _ rfl
        have hc4 : wr.cell? ⟨b, off + k * 5 + 4, none⟩ = _ := hc 4 _ rfl
        have HC := Lib.hid (long12 l[k] d0 d1 d2 d3 d4 wr (Nat.le_trans hB hlo.size) hr)
        clear hc hl2 hr
        cases hM : longPol l[k]
        · have HM := Lib.hid hM
          have HN := Lib.hid (WIdxWhen.any_snoc' hall.out hlt hM)
          clear hM
          go_wp2_with fail
          refine (HC.out).mono ?_
          rw [HM.out]
          rintro e w1 ⟨rfl, hb1⟩
          go_wp2
          go_roundw
          case rel => exact ⟨k + 1, by omega, by go_num, (by repeat (first | exact Lo.refl _ | assumption | refine Lo.drew ?_ | refine Lo.alloc ?_ _ | refine Lo.setCell ?_ (by first | (dsimp only; omega) | (simp; omega) | (simp; done)) _ | refine Lo.trans ?_ (by assumption))), HN⟩
          case measure => simp [intOf]; omega
        · have HM := Lib.hid hM
          have HY := Lib.hid (any_yes (p := longPol) hlt hM)
          clear hM
          go_wp2_with fail
          refine (HC.out).mono ?_
          rw [HM.out]
          rintro e w1 ⟨rfl, hb1⟩
          go_wp2
          go_ret
          exact ⟨ret_bool (by rw [HL2.out, HY.out]; rfl), (by repeat (first | exact Lo.refl _ | assumption | refine Lo.drew ?_ | refine Lo.alloc ?_ _ | refine Lo.setCell ?_ (by first | (dsimp only; omega) | (simp; omega) | (simp; done)) _ | refine Lo.trans ?_ (by assumption)))⟩
      · have HF := hall.out
        rw [List.take_of_length_le (by omega)] at HF
        have HG := Lib.hid HF
        clear HF
        go_wp2
        go_ret
        exact ⟨ret_bool (by rw [HL2.out, HG.out]; rfl), (by repeat (first | exact Lo.refl _ | assumption | refine Lo.drew ?_ | refine Lo.alloc ?_ _ | refine Lo.setCell ?_ (by first | (dsimp only; omega) | (simp; omega) | (simp; done)) _ | refine Lo.trans ?_ (by assumption)))⟩
  · go_enter Tryz.func4, Tryz.ntmps4
    go_wp2_with fail
    refine (HH.out _ ?_).mono ?_
    · exact (by repeat (first | exact Lo.refl _ | assumption | refine Lo.drew ?_ | refine Lo.alloc ?_ _ | refine Lo.setCell ?_ (by first | (dsimp only; omega) | (simp; omega) | (simp; done)) _ | refine Lo.trans ?_ (by assumption)))
    rintro e w1 ⟨rfl, hb⟩
    go_wp2
    go_ret
    exact ⟨ret_bool (by rw [HL2.out]; rfl), (by repeat (first | exact Lo.refl _ | assumption | refine Lo.drew ?_ | refine Lo.alloc ?_ _ | refine Lo.setCell ?_ (by first | (dsimp only; omega) | (simp; omega) | (simp; done)) _ | refine Lo.trans ?_ (by assumption)))⟩
end Go.Proofs.YtnclifgiakmmoaaGreat.WAuth

/- auth's functions, as the logic of states has them. -/
namespace Go.Proofs.YtnclifgiakmmoaaGreat.Pol
set_option linter.unusedVariables false
set_option linter.unusedSimpArgs false
open Go.RowKit Mem Sim Opn WAddr WName WMatch WAuth
theorem tr2 {m : Mm} {a b : T} {x y : Value} (ha : TR m a x) (hb : TR m b y) : TR m (.tup [a, b]) (.tuple #[x, y]) := by
  refine .tup [a, b] #[x, y] rfl fun j t v h1 h2 => ?_
  match j, h1, h2 with
  | 0, h1, h2 => simp at h1 h2; subst h1 h2; exact ha
  | 1, h1, h2 => simp at h1 h2; subst h1 h2; exact hb
theorem args4 {m : Mm} {t0 t1 t2 t3 : T} {vals : Array Value} (hl : vals.size = [t0, t1, t2, t3].length) (hv : ∀ (i : Nat) t v, [t0, t1, t2, t3][i]? = some t → vals[i]? = some v → TR m t v) : ∃ x0 x1 x2 x3, vals = #[x0, x1, x2, x3] ∧ TR m t0 x0 ∧ TR m t1 x1 ∧ TR m t2 x2 ∧ TR m t3 x3 := by
  obtain ⟨l⟩ := vals
  match l, hl with
  | [x0, x1, x2, x3], _ => exact ⟨x0, x1, x2, x3, rfl, hv 0 _ _ rfl rfl, hv 1 _ _ rfl rfl, hv 2 _ _ rfl rfl, hv 3 _ _ rfl rfl⟩
theorem agg_inv {m : Mm} {cs : List T} {v : Value} (h : TR m (.agg cs) v) : ∃ vs : List Value, v = .agg vs.toArray ∧ CellsAre m cs vs := by
  cases h with
  | agg cs vs h h1 ht => exact ⟨vs.toList, by simp, by simpa using h, fun j t v h2 h3 => ⟨ht j t v h2 (by simpa using h3), h1 v (List.mem_of_getElem? h3)⟩⟩
theorem agg_bwd {m : Mm} {cs : List T} {vs : List Value} (h : CellsAre m cs vs) : TR m (.agg cs) (.agg vs.toArray) :=
  .agg cs vs.toArray (by simpa using h.1) (fun v hv => by
    obtain ⟨j, hj⟩ := List.getElem?_of_mem hv
    have hj' : vs[j]? = some v := by simpa using hj
    have hlt : j < cs.length := by rw [← h.1]; exact (List.getElem?_eq_some_iff.1 hj').1
    exact (h.2 j _ v (List.getElem?_eq_getElem hlt) hj').2) fun j t v h1 h2 => (h.2 j t v h1 (by simpa using h2)).1
theorem ask_inv {m : Mm} {a : Pl.Asker} {v : Value} (h : TR m (.agg (askT a)) v) : v = .agg #[.string a.ns, .string a.sa, .int .u32 a.addr] := by
  obtain ⟨vs, rfl, hc⟩ := agg_inv h
  rw [cells_ex hc [.string a.ns, .string a.sa, .int .u32 a.addr] rfl]
/-- what of a request fits, however many headers -/
structure OkReq0 (q : Pl.Req) : Prop where
  method : q.method.size ≤ maxLen
  path : q.path.size ≤ maxLen
  host : q.host.size ≤ maxLen
  heads : ∀ h ∈ q.heads, okHead h
theorem req_inv {m : Mm} {w : World} (hs : Sub m w) {q : Pl.Req} {tg qu : ByteArray} {bd v : Value} (hq : OkReq0 q) (h : TR m (.agg (reqT q tg qu bd)) v) : ∃ A cap, v = .agg #[.string q.method, .string tg, .string q.path, .string qu, .string q.host, .slice A q.heads.length cap, bd] ∧ SliceAt HeadR 2 w.heap.size w A q.heads ∧ q.heads.length ≤ maxLen ∧ bd.oneCell' = true := by
  obtain ⟨vs, rfl, hc⟩ := agg_inv h
  obtain ⟨u0, vs, rfl, h0, hc⟩ := cellsAre_inv hc
  obtain ⟨u1, vs, rfl, h1, hc⟩ := cellsAre_inv hc
  obtain ⟨u2, vs, rfl, h2, hc⟩ := cellsAre_inv hc
  obtain ⟨u3, vs, rfl, h3, hc⟩ := cellsAre_inv hc
  obtain ⟨u4, vs, rfl, h4, hc⟩ := cellsAre_inv hc
  obtain ⟨u5, vs, rfl, h5, hc⟩ := cellsAre_inv hc
  have hone : ∀ u ∈ vs, u.oneCell' = true := fun u hu => by
    obtain ⟨j, hj⟩ := List.getElem?_of_mem hu
    have hlt : j < 1 := by have := (List.getElem?_eq_some_iff.1 hj).1; have := hc.1; simp at this; omega
    have : j = 0 := by omega
    subst this
    exact (hc.2 0 _ u rfl hj).2
  obtain ⟨u6, vs, rfl, h6, hc⟩ := cellsAre_inv hc
  obtain rfl := cellsAre_inv0 hc
  obtain ⟨A, cap, e, hA, hc1, hc2⟩ := sl_fwd hs (by omega) (head_fwd hs) hq.heads h5
  injection e with e; subst e
  rw [tr_v h6] at hone
  rw [tr_v h0, tr_v h1, tr_v h2, tr_v h3, tr_v h4, tr_v h6]
  exact ⟨A, cap, rfl, hA, Nat.le_trans hc1 hc2, hone bd (by simp)⟩
theorem pols_inv {m : Mm} {w : World} (hs : Sub m w) {l : List Pl.Policy} {v : Value} (hl : ∀ p ∈ l, okPolicy p) (h : TR m (.sl 5 (l.map polT)) v) : ∃ A cap, v = .slice A l.length cap ∧ SliceAt PolicyR 5 w.heap.size w A l ∧ l.length ≤ maxLen := by
  obtain ⟨A, cap, e, hA, hc1, hc2⟩ := sl_fwd hs (by omega) (policy_fwd hs) hl h
  injection e with e; subst e
  exact ⟨A, cap, rfl, hA, Nat.le_trans hc1 hc2⟩
theorem p_judge (l : List Pl.Policy) (hl : ∀ p ∈ l, okPolicy p) (a : Pl.Asker) (ha : OkAsk a) (port : Int) (q : Pl.Req) (hq : OkReq0 q) (hf : q.heads.length ≤ 1000) (tg qu : ByteArray) (bd : Value) :
    PCalls Tryz.prog 50 [.sl 5 (l.map polT), .agg (askT a), .v (.int .i64 port), .agg (reqT q tg qu bd)] (.tup [.v (.bool (Pl.judgeP (matchP a port q) l).1), .v (.int .u64 (Pl.judgeP (matchP a port q) l).2)]) where
  ent := ent_of Tryz.func50 rfl rfl
  run := fun m w vals hm hvl hv _ => by
    obtain ⟨x0, x1, x2, x3, rfl, h0, h1, h2, h3⟩ := args4 hvl hv
    obtain ⟨A0, cap0, rfl, hA0, hn⟩ := pols_inv hm hl h0
    obtain rfl := ask_inv h1
    rw [tr_v h2]
    obtain ⟨A, cap, rfl, hA, _, _⟩ := req_inv hm hq h3
    refine (judge l A0 cap0 a port q A cap tg qu bd w (Nat.le_refl _) hA0 hn ⟨ha.ns, ha.sa, hq.method, hq.path, hq.host, hA, hf⟩).mono fun e w' ⟨he, hlo⟩ => ?_
    rw [he]
    exact post_ex hm hlo (tr2 (.v _) (.v _))
theorem p_long (l : List Pl.Policy) (hl : ∀ p ∈ l, okPolicy p) (a : Pl.Asker) (ha : OkAsk a) (q : Pl.Req) (hq : OkReq0 q) (tg qu : ByteArray) (bd : Value) :
    PCalls Tryz.prog 4 [.sl 5 (l.map polT), .agg (askT a), .agg (reqT q tg qu bd)] (.v (.bool (long13 l a q))) where
  ent := ent_of Tryz.func4 rfl rfl
  run := fun m w vals hm hvl hv _ => by
    obtain ⟨x0, x1, x3, rfl, h0, h1, h3⟩ := args3 hvl hv
    obtain ⟨A0, cap0, rfl, hA0, hn⟩ := pols_inv hm hl h0
    obtain rfl := ask_inv h1
    obtain ⟨A, cap, rfl, hA, hn2, hbd⟩ := req_inv hm hq h3
    refine (long13_ l A0 cap0 a q A cap (.string tg) (.string qu) bd w (Nat.le_refl _) hA0 hn ⟨ha.ns, ha.sa, hq.method, hq.path, hq.host, hA, hn2⟩ rfl rfl hbd).mono fun e w' ⟨he, hlo⟩ => ?_
    rw [he]
    exact post_ex hm hlo (.v _)
theorem few_rule {r : Pl.Rule} (h : longRule r = false) : FewR r := by
  unfold longRule at h
  simp only [Bool.or_eq_false_iff, decide_eq_false_iff_not, List.any_eq_false] at h
  obtain ⟨⟨⟨⟨⟨h1, h2⟩, h3⟩, h4⟩, h5⟩, h6⟩ := h
  refine ⟨by omega, by omega, by omega, fun s hs => ?_, fun s hs => ?_, fun s hs => ?_⟩
  · have := h4 s hs
    simp [srcLong, termsB, rowLong] at this
    omega
  · have := h5 s hs
    simp [tgtLong, termsB, rowLong] at this
    omega
  · have := h6 s hs
    simp [whenLong, termsB, rowLong] at this
    omega
theorem few_pol {p : Pl.Policy} (h : longPol p = false) : FewP p := by
  unfold longPol at h
  simp only [Bool.or_eq_false_iff, decide_eq_false_iff_not, List.any_eq_false] at h
  exact ⟨by omega, fun r hr => few_rule (by simpa using h.2 r hr)⟩
theorem few_long {l : List Pl.Policy} {a : Pl.Asker} {q : Pl.Req} (h : long13 l a q = false) : FewL l ∧ l.length ≤ 30 ∧ q.heads.length ≤ 100 ∧ ∀ p ∈ l, FewP p := by
  unfold long13 longHeads at h
  simp only [Bool.or_eq_false_iff, decide_eq_false_iff_not, List.any_eq_false] at h
  have hp : ∀ p ∈ l, FewP p := fun p hp => few_pol (by simpa using h.2 p hp)
  exact ⟨⟨by omega, fun p h => ⟨(hp p h).n, (hp p h).r⟩⟩, by omega, by omega, hp⟩
end Go.Proofs.YtnclifgiakmmoaaGreat.Pol

/- split.Four, split.Seven, by the logic of states. -/
namespace Go.Proofs.YtnclifgiakmmoaaGreat.Pol
set_option linter.unusedVariables false
set_option linter.unusedSimpArgs false
open Go.RowKit Mem Sim Opn WAddr WName WMatch WAuth
set_option maxRecDepth 100000 in
set_option maxHeartbeats 1000000 in
theorem four1_ (p : Pl.Policy) (h : FewP p) : PCalls Tryz.prog 39 [.agg (polT p)] (.agg (polT (Pl.four4 p))) := by
  have c1 := halved_ p.rules h.n h.r
  refine pcalls_of Tryz.func39 rfl rfl Tryz.ntmps39 rfl ?_
  repeat' (first | (refine rg 0 ?_; refine sbx ?_; refine sal str43 ?_; refine oN ?_) | (refine rg 1 ?_; refine oFb ?_; refine oLb ?_; refine oC (c1) rfl (ac .nil) ?_; refine oFb ?_; refine oS ?_; refine oN ?_) | (refine rg 2 ?_; (refine sp (po_load_bx_agg rfl rfl (tyT rfl) rfl (vc (vc (vc (vc (vc .nil))))) rfl) ?_); refine oS ?_; refine oN ?_) | refine gc ?_ | refine ct ?_ | refine cf ?_ | refine swp_cond rfl (fun hc => ?_) (fun hc => ?_) | exact rq1 rfl (.cell rfl rfl (tyT rfl) (vc (vc (vc (vc (vc .nil))))) rfl .nil))
theorem agg_le {a b c d : T} : ∀ m v, TR m (.agg [a, b, c, d, .v (.slice none 0 0)]) v → TR m (.agg [a, b, c, d, .sl 3 []]) v := fun m v h => by
  obtain ⟨vs, rfl, hc⟩ := agg_inv h
  obtain ⟨u0, vs, rfl, h0, hc⟩ := cellsAre_inv hc
  obtain ⟨u1, vs, rfl, h1, hc⟩ := cellsAre_inv hc
  obtain ⟨u2, vs, rfl, h2, hc⟩ := cellsAre_inv hc
  obtain ⟨u3, vs, rfl, h3, hc⟩ := cellsAre_inv hc
  obtain ⟨u4, vs, rfl, h4, hc⟩ := cellsAre_inv hc
  obtain rfl := cellsAre_inv0 hc
  cases h with
  | agg _ _ _ h5 _ =>
    exact agg_bwd (cellsAre_cons h0 (h5 _ (by simp)) (cellsAre_cons h1 (h5 _ (by simp)) (cellsAre_cons h2 (h5 _ (by simp)) (cellsAre_cons h3 (h5 _ (by simp)) (cellsAre_cons (nilT 3 m _ h4) (h5 _ (by simp)) (cellsAre_nil _))))))
def req0 : Pl.Req := ⟨⟨#[]⟩, ⟨#[]⟩, ⟨#[]⟩, []⟩
theorem req_le {a b c d e : T} {f : T} : ∀ m v, TR m (.agg [a, b, c, d, e, .v (.slice none 0 0), f]) v → TR m (.agg [a, b, c, d, e, .sl 2 [], f]) v := fun m v h => by
  obtain ⟨vs, rfl, hc⟩ := agg_inv h
  obtain ⟨u0, vs, rfl, h0, hc⟩ := cellsAre_inv hc
  obtain ⟨u1, vs, rfl, h1, hc⟩ := cellsAre_inv hc
  obtain ⟨u2, vs, rfl, h2, hc⟩ := cellsAre_inv hc
  obtain ⟨u3, vs, rfl, h3, hc⟩ := cellsAre_inv hc
  obtain ⟨u4, vs, rfl, h4, hc⟩ := cellsAre_inv hc
  obtain ⟨u5, vs, rfl, h5, hc⟩ := cellsAre_inv hc
  obtain ⟨u6, vs, rfl, h6, hc⟩ := cellsAre_inv hc
  obtain rfl := cellsAre_inv0 hc
  cases h with
  | agg _ _ _ h7 _ =>
    exact agg_bwd (cellsAre_cons h0 (h7 _ (by simp)) (cellsAre_cons h1 (h7 _ (by simp)) (cellsAre_cons h2 (h7 _ (by simp)) (cellsAre_cons h3 (h7 _ (by simp)) (cellsAre_cons h4 (h7 _ (by simp)) (cellsAre_cons (nilT 2 m _ h5) (h7 _ (by simp)) (cellsAre_cons h6 (h7 _ (by simp)) (cellsAre_nil _))))))))
theorem ok_noPol : okPolicy Pl.noPol := ⟨by decide, by decide, by decide, by decide, fun y hy => by cases hy⟩
set_option maxRecDepth 100000 in
set_option maxHeartbeats 2000000 in
theorem sSays_ (l : List Pl.Policy) (hl : ∀ p ∈ l, okPolicy p) (hn : l.length ≤ 1000) (allow : Int) (a : Pl.Asker) (ha : OkAsk a) (port : Int) (q : Pl.Req) (hq : OkReq0 q) (hf : q.heads.length ≤ 1000) (tg qu : ByteArray) (bd : Value) :
    PCalls Tryz.prog 40 [.sl 5 (l.map polT), .v (.int .i64 allow), .agg (askT a), .v (.int .i64 port), .agg (reqT q tg qu bd)] (.tup [.v (.bool (Pl.judgeP (matchP a port q) (Pl.saysL l allow)).1), .v (.int .u64 (Pl.judgeP (matchP a port q) (Pl.saysL l allow)).2)]) := by
  have hm1 : (l.map polT).length = l.length := List.length_map _
  have hbd : (l.map polT).length * 64 ≤ 140737488355328 := by omega
  have hmx : (l.map polT).length ≤ maxLen := by unfold maxLen; omega
  have c1 := clonePols (l.map polT) hbd hmx
  have c2 := p_judge (Pl.saysL l allow) (fun p hp => by
    unfold Pl.saysL at hp
    split at hp
    · rcases List.mem_append.1 hp with hp | hp
      · exact hl p hp
      · simp at hp; subst hp; exact ok_noPol
    · exact hl p hp) a ha port q hq hf tg qu bd
  unfold Pl.saysL at c2 ⊢
  refine pcalls_of Tryz.func40 rfl rfl Tryz.ntmps40 rfl ?_
  by_cases h1 : allow = 1
  · rw [if_pos h1] at c2 ⊢
    rw [List.map_append] at c2
    have g1 : ((l.map polT).length + 1) * 64 ≤ 140737488355328 := by omega
    have g2 : (l.map polT).length + 1 ≤ maxLen := by unfold maxLen; omega
    repeat' (first | (refine rg 0 ?_; refine sbx ?_; refine sbx ?_; refine oAs ?_; refine oAs ?_; refine oN ?_) | (refine rg 1 ?_; refine oMv ?_; refine oCm ?_; refine oN ?_) | (refine rg 2 ?_; refine oMv ?_; (refine sops_lcall (c1) (fun i => i) (fun i => i) (fun _ => false) (.free rfl rfl) rfl rfl rfl (by ((repeat' (first | exact .nil | refine .cons rfl rfl rfl ?_)) <;> fail)) .nil .nil rfl rfl (fun _ h => Bool.noConfusion h) ?_); refine sp (po_buildS str43 rfl .nil rfl) ?_; refine sp (po_buildSlice rfl (tyE rfl) (.cons rfl (.le agg_le) rfl rfl (.nil _)) rfl rfl rfl) ?_; refine sap rfl (tyE rfl) ?_; refine oAs ?_; refine oN ?_) | (refine rg 3 ?_; refine oMv ?_; (refine sp (po_load_bx_agg rfl rfl (tyT rfl) rfl (vc (vc (vc .nil))) rfl) ?_); refine oMv ?_; (refine sp (po_load_bx_agg rfl rfl (tyT rfl) rfl (vc (vc (vc (vc (vc (vc (vc .nil))))))) rfl) ?_); (first | refine sops_lcall (c1) (fun i => i) (fun i => i) (fun _ => false) (.free rfl rfl) rfl rfl rfl (by first | ((repeat' (first | exact .nil | refine .cons rfl rfl rfl ?_ | refine .vw rfl (by exact .t _) ?_)) <;> fail) | fail) .nil .nil rfl rfl (fun _ h => Bool.noConfusion h) ?_ | refine sp (po_call_see (c2) rfl (.cons rfl (by first | exact .t _ | exact .own rfl (by rfl)) (.cons rfl (by exact .t _) (.cons rfl (by exact .t _) (.cons rfl (by exact .t _) .nil)))) rfl) ?_); refine oEx ?_; refine oEx ?_; refine oAs ?_; refine oAs ?_; refine oN ?_) | refine gc ?_ | refine ct ?_ | refine cf ?_ | refine swp_cond rfl (fun hc => ?_) (fun hc => ?_) | refine rq rfl (rt (rt .nil)) ?_)
    rfl
  · rw [if_neg h1] at c2 ⊢
    repeat' (first | (refine rg 0 ?_; refine sbx ?_; refine sbx ?_; refine oAs ?_; refine oAs ?_; refine oN ?_) | (refine rg 1 ?_; refine oMv ?_; refine oCm ?_; refine oN ?_) | (refine rg 2 ?_; refine oMv ?_; refine sp (po_call_see (c2) rfl (.cons rfl (by first | exact .t _ | exact .own rfl (by first | rfl | assumption | omega | (simp; done) | (simp; omega) | (simp at *; omega)) | exact .nil _ | exact .emp _ | exact .fn _ | exact .fr _ _ | (repeat' first | exact .agn | refine .agc ?_ ?_ | exact .t _ | exact .own rfl rfl)) .nil) rfl) ?_; refine sp (po_buildS str43 rfl .nil rfl) ?_; refine sp (po_buildSlice rfl (tyE rfl) (dc (.nil _)) rfl rfl rfl) ?_; (first | refine sap rfl (tyE rfl) ?_ | refine san rfl (tyE rfl) ?_); refine oAs ?_; refine oN ?_) | (refine rg 3 ?_; refine oMv ?_; (refine sp (po_load_bx_agg rfl rfl (tyT rfl) rfl (vc (vc (vc .nil))) rfl) ?_); refine oMv ?_; (refine sp (po_load_bx_agg rfl rfl (tyT rfl) rfl (vc (vc (vc (vc (vc (vc (vc .nil))))))) rfl) ?_); refine sp (po_call_see (c2) rfl (.cons rfl (by exact .t _) (.cons rfl (by exact .t _) (.cons rfl (by exact .t _) (.cons rfl (by exact .t _) .nil)))) rfl) ?_; refine oEx ?_; refine oEx ?_; refine oAs ?_; refine oAs ?_; refine oN ?_) | refine gc ?_ | refine ct ?_ | refine cf ?_ | refine swp_cond rfl (fun hc => ?_) (fun hc => ?_) | refine rq rfl (rt (rt .nil)) ?_)
    rfl
set_option maxRecDepth 100000 in
set_option maxHeartbeats 2000000 in
theorem seven_ (l : List Pl.Policy) (hl : ∀ p ∈ l, okPolicy p) (hn : l.length ≤ 1000) (allow : Int) (a : Pl.Asker) (ha : OkAsk a) (port : Int) (q : Pl.Req) (hq : OkReq0 q) (hf : q.heads.length ≤ 1000) (tg qu : ByteArray) (bd : Value) :
    PCalls Tryz.prog 24 [.agg [.sl 5 (l.map polT), .v (.int .i64 allow)], .agg (askT a), .v (.int .i64 port), .agg (reqT q tg qu bd)] (.tup [.v (.bool (Pl.judgeP (matchP a port q) (Pl.saysL l allow)).1), .v (.int .u64 (Pl.judgeP (matchP a port q) (Pl.saysL l allow)).2)]) := by
  have c1 := sSays_ l hl hn allow a ha port q hq hf tg qu bd
  refine pcalls_of Tryz.func24 rfl rfl Tryz.ntmps24 rfl ?_
  repeat' (first | (refine rg 0 ?_; refine sbx ?_; refine sbx ?_; refine sbx ?_; refine oAs ?_; refine oAs ?_; refine oN ?_) | (refine rg 1 ?_; refine oFb ?_; refine oLb ?_; refine oFb ?_; refine oLb ?_; (refine sp (po_load_bx_agg rfl rfl (tyT rfl) rfl (vc (vc (vc .nil))) rfl) ?_); refine oMv ?_; (refine sp (po_load_bx_agg rfl rfl (tyT rfl) rfl (vc (vc (vc (vc (vc (vc (vc .nil))))))) rfl) ?_); refine oC (c1) rfl (ac (ac (ac (ac (ac .nil))))) ?_; refine oEx ?_; refine oEx ?_; refine oAs ?_; refine oAs ?_; refine oN ?_) | refine gc ?_ | refine ct ?_ | refine cf ?_ | refine swp_cond rfl (fun hc => ?_) (fun hc => ?_) | refine rq rfl (rt (rt .nil)) ?_)
  rfl
theorem ok_four4 {p : Pl.Policy} (h : okPolicy p) : okPolicy (Pl.four4 p) := ⟨h.1, h.2.1, h.2.2.1, h.2.2.2.1, fun r hr => by
  obtain ⟨r0, h0, rfl⟩ := List.mem_map.1 hr
  obtain ⟨h1, h2, h3⟩ := h.2.2.2.2 r0 h0
  refine ⟨h1, fun t ht => ?_, fun w hw => by cases hw⟩
  obtain ⟨t0, h4, rfl⟩ := List.mem_map.1 ht
  exact ⟨(h2 t0 h4).1, (fun y hy => by cases hy), (fun y hy => by cases hy), (fun y hy => by cases hy)⟩⟩
theorem okReq0_0 : OkReq0 req0 := ⟨by decide, by decide, by decide, fun h hh => by cases hh⟩
set_option maxRecDepth 100000 in
set_option maxHeartbeats 2000000 in
theorem fourS_ (l : List Pl.Policy) (hl : ∀ p ∈ l, okPolicy p) (hf : ∀ p ∈ l, FewP p) (hn : l.length ≤ 1000) (allow : Int) (a : Pl.Asker) (ha : OkAsk a) (port : Int) :
    PCalls Tryz.prog 22 [.agg [.sl 5 (l.map polT), .v (.int .i64 allow)], .agg (askT a), .v (.int .i64 port)] (.tup [.v (.bool (Pl.judgeP (matchP a port req0) (Pl.saysL (l.map Pl.four4) allow)).1), .v (.int .u64 (Pl.judgeP (matchP a port req0) (Pl.saysL (l.map Pl.four4) allow)).2)]) := by
  have c1 := mapSPolicy Pl.four4 39 [] l (fun p hp => four1_ p (hf p hp)) hn
  have c2 := sSays_ (l.map Pl.four4) (fun p hp => by obtain ⟨p0, h0, rfl⟩ := List.mem_map.1 hp; exact ok_four4 (hl p0 h0)) (by rw [List.length_map]; exact hn) allow a ha port req0 okReq0_0 (by decide) ⟨#[]⟩ ⟨#[]⟩ (.slice none 0 0)
  refine pcalls_of Tryz.func22 rfl rfl Tryz.ntmps22 rfl ?_
  repeat' (first | (refine rg 0 ?_; refine sbx ?_; refine sbx ?_; refine oAs ?_; refine oAs ?_; refine oN ?_) | (refine rg 1 ?_; refine oFb ?_; refine oLb ?_; (first | refine oC (c2) rfl (.cons rfl (.t _) (.cons rfl (.t _) (.cons rfl (.t _) (.cons rfl (.t _) (.cons rfl (.le req_le) .nil))))) ?_ | refine oC (c1) rfl (ac (ac .nil)) ?_); refine oAs ?_; refine oN ?_) | (refine rg 2 ?_; refine oMv ?_; refine oFb ?_; refine oLb ?_; (refine sp (po_load_bx_agg rfl rfl (tyT rfl) rfl (vc (vc (vc .nil))) rfl) ?_); refine oMv ?_; refine sp (po_buildS str37 rfl .nil rfl) ?_; (refine oC (c2) rfl (.cons rfl (.t _) (.cons rfl (.t _) (.cons rfl (.t _) (.cons rfl (.t _) (.cons rfl (.le req_le) .nil))))) ?_); refine oEx ?_; refine oEx ?_; refine oAs ?_; refine oAs ?_; refine oN ?_) | refine gc ?_ | refine ct ?_ | refine cf ?_ | refine swp_cond rfl (fun hc => ?_) (fun hc => ?_) | refine rq rfl (rt (rt .nil)) ?_)
  rfl
end Go.Proofs.YtnclifgiakmmoaaGreat.Pol

/- The chapter's examples, by the logic of states. -/
namespace Go.Proofs.YtnclifgiakmmoaaGreat.Pol
set_option linter.unusedVariables false
set_option linter.unusedSimpArgs false
open Go.RowKit Mem Sim Opn WAddr WName WMatch WAuth
inductive LeL : List T → List T → Prop
  | nil : LeL [] []
  | cons {a b : T} {as_ bs : List T} (h : ∀ m v, TR m a v → TR m b v) (hl : LeL as_ bs) : LeL (a :: as_) (b :: bs)
theorem le_refl (a : T) : ∀ m v, TR m a v → TR m a v := fun _ _ h => h
theorem LeL.at {cs ds : List T} (h : LeL cs ds) : cs.length = ds.length ∧ ∀ (j : Nat) a b m v, cs[j]? = some a → ds[j]? = some b → TR m a v → TR m b v := by
  induction h with
  | nil => exact ⟨rfl, fun j a b m v h => by simp at h⟩
  | cons h hl ih =>
    refine ⟨by simp [ih.1], fun j a b m v h1 h2 h3 => ?_⟩
    cases j with
    | zero => simp at h1 h2; subst h1 h2; exact h m v h3
    | succ j => exact ih.2 j a b m v (by simpa using h1) (by simpa using h2) h3
theorem aggLe {cs ds : List T} (h : LeL cs ds) : ∀ m v, TR m (.agg cs) v → TR m (.agg ds) v := fun m v hv => by
  obtain ⟨hl, ha⟩ := h.at
  cases hv with
  | agg _ vs h1 h2 h3 =>
    refine .agg ds vs (by omega) h2 fun j t v h4 h5 => ?_
    have hlt : j < cs.length := by rw [hl]; exact (List.getElem?_eq_some_iff.1 h4).1
    exact ha j _ t m v (List.getElem?_eq_getElem hlt) h4 (h3 j _ v (List.getElem?_eq_getElem hlt) h5)
def sGET : ByteArray := ⟨#[71, 69, 84]⟩
def sA : ByteArray := ⟨#[47, 97]⟩
def sB : ByteArray := ⟨#[47, 98]⟩
def exPols : List Pl.Policy := [⟨1, ⟨#[]⟩, 0, 0, [⟨[], [⟨[80], [⟨1, sGET⟩], [], []⟩], []⟩]⟩, ⟨2, ⟨#[]⟩, 0, 1, [⟨[], [⟨[], [], [⟨2, sA⟩], []⟩], []⟩]⟩]
set_option maxRecDepth 100000 in
set_option maxHeartbeats 1000000 in
theorem term14 (k : Int) (s : ByteArray) : PCalls Tryz.prog 41 [.v (.int .i64 k), .v (.string s)] (.sl 2 [[.v (.int .i64 k), .v (.string s)]]) := by
  refine pcalls_of Tryz.func41 rfl rfl Tryz.ntmps41 rfl ?_
  repeat' (first | (refine rg 0 ?_; refine oAs ?_; refine oN ?_) | (refine rg 1 ?_; refine oMv ?_; refine oMv ?_; refine sp (po_buildS str79 rfl (pc (pc .nil)) rfl) ?_; refine sp (po_buildSlice rfl (tyE rfl) (dc (.nil _)) rfl rfl rfl) ?_; refine oAs ?_; refine oN ?_) | refine gc ?_ | refine ct ?_ | refine cf ?_ | refine swp_cond rfl (fun hc => ?_) (fun hc => ?_) | exact rq1 rfl (rt .nil))
set_option maxRecDepth 100000 in
set_option maxHeartbeats 1000000 in
theorem example14 : PCalls Tryz.prog 23 [] (.sl 5 (exPols.map polT)) := by
  have c1 := term14 1 sGET
  have c2 := term14 2 sA
  refine pcalls_of Tryz.func23 rfl rfl Tryz.ntmps23 rfl ?_
  repeat' (first | (refine rg 0 ?_; refine oAs ?_; refine oN ?_) | (refine rg 1 ?_; (first | refine sp (po_buildSlice rfl (tyE rfl) (.cons rfl (.le (aggLe (.cons (le_refl (.sl 1 _)) (.cons (le_refl (.sl 2 _)) (.cons (nilT 2) (.cons (nilT 2) .nil)))))) rfl rfl (.nil _)) rfl rfl rfl) ?_ | refine sp (po_buildSlice rfl (tyE rfl) (.cons rfl (.le (aggLe (.cons (nilT 1) (.cons (nilT 2) (.cons (le_refl (.sl 2 _)) (.cons (nilT 2) .nil)))))) rfl rfl (.nil _)) rfl rfl rfl) ?_ | refine sp (po_buildSlice rfl (tyE rfl) (.cons rfl (.le (aggLe (.cons (nilT 3) (.cons (le_refl (.sl 4 _)) (.cons (nilT 2) .nil))))) rfl rfl (.nil _)) rfl rfl rfl) ?_ | refine sp (po_buildSlice rfl (tyE rfl) (dc (.nil _)) rfl rfl rfl) ?_); refine oC (c1) rfl (ac (ac .nil)) ?_; refine sp (po_buildS str64 rfl (pc (pc .nil)) rfl) ?_; (refine sp (po_buildSlice rfl (tyE rfl) (.cons rfl (.le (aggLe (.cons (le_refl (.sl 1 _)) (.cons (le_refl (.sl 2 _)) (.cons (nilT 2) (.cons (nilT 2) .nil)))))) rfl rfl (.nil _)) rfl rfl rfl) ?_); refine sp (po_buildS str27 rfl (pc .nil) rfl) ?_; (first | refine sp (po_buildSlice rfl (tyE rfl) (.cons rfl (.le (aggLe (.cons (le_refl (.sl 1 _)) (.cons (le_refl (.sl 2 _)) (.cons (nilT 2) (.cons (nilT 2) .nil)))))) rfl rfl (.nil _)) rfl rfl rfl) ?_ | refine sp (po_buildSlice rfl (tyE rfl) (.cons rfl (.le (aggLe (.cons (nilT 1) (.cons (nilT 2) (.cons (le_refl (.sl 2 _)) (.cons (nilT 2) .nil)))))) rfl rfl (.nil _)) rfl rfl rfl) ?_ | refine sp (po_buildSlice rfl (tyE rfl) (.cons rfl (.le (aggLe (.cons (nilT 3) (.cons (le_refl (.sl 4 _)) (.cons (nilT 2) .nil))))) rfl rfl (.nil _)) rfl rfl rfl) ?_); refine sp (po_buildS str43 rfl (pc (pc .nil)) rfl) ?_; (first | refine oC (c1) rfl (ac (ac .nil)) ?_ | refine oC (c2) rfl (ac (ac .nil)) ?_); refine sp (po_buildS str64 rfl (pc .nil) rfl) ?_; (first | refine sp (po_buildSlice rfl (tyE rfl) (.cons rfl (.le (aggLe (.cons (le_refl (.sl 1 _)) (.cons (le_refl (.sl 2 _)) (.cons (nilT 2) (.cons (nilT 2) .nil)))))) rfl rfl (.nil _)) rfl rfl rfl) ?_ | refine sp (po_buildSlice rfl (tyE rfl) (.cons rfl (.le (aggLe (.cons (nilT 1) (.cons (nilT 2) (.cons (le_refl (.sl 2 _)) (.cons (nilT 2) .nil)))))) rfl rfl (.nil _)) rfl rfl rfl) ?_); refine sp (po_buildS str27 rfl (pc .nil) rfl) ?_; (first | refine sp (po_buildSlice rfl (tyE rfl) (.cons rfl (.le (aggLe (.cons (le_refl (.sl 1 _)) (.cons (le_refl (.sl 2 _)) (.cons (nilT 2) (.cons (nilT 2) .nil)))))) rfl rfl (.nil _)) rfl rfl rfl) ?_ | refine sp (po_buildSlice rfl (tyE rfl) (.cons rfl (.le (aggLe (.cons (nilT 1) (.cons (nilT 2) (.cons (le_refl (.sl 2 _)) (.cons (nilT 2) .nil)))))) rfl rfl (.nil _)) rfl rfl rfl) ?_ | refine sp (po_buildSlice rfl (tyE rfl) (.cons rfl (.le (aggLe (.cons (nilT 3) (.cons (le_refl (.sl 4 _)) (.cons (nilT 2) .nil))))) rfl rfl (.nil _)) rfl rfl rfl) ?_); refine sp (po_buildS str43 rfl (pc (pc (pc .nil))) rfl) ?_; (first | refine sp (po_buildSlice rfl (tyE rfl) (.cons rfl (.le (aggLe (.cons (le_refl (.sl 1 _)) (.cons (le_refl (.sl 2 _)) (.cons (nilT 2) (.cons (nilT 2) .nil)))))) rfl rfl (.nil _)) rfl rfl rfl) ?_ | refine sp (po_buildSlice rfl (tyE rfl) (.cons rfl (.le (aggLe (.cons (nilT 1) (.cons (nilT 2) (.cons (le_refl (.sl 2 _)) (.cons (nilT 2) .nil)))))) rfl rfl (.nil _)) rfl rfl rfl) ?_ | refine sp (po_buildSlice rfl (tyE rfl) (.cons rfl (.le (aggLe (.cons (nilT 3) (.cons (le_refl (.sl 4 _)) (.cons (nilT 2) .nil))))) rfl rfl (.nil _)) rfl rfl rfl) ?_ | refine sp (po_buildSlice rfl (tyE rfl) (dc (dc (.nil _))) rfl rfl rfl) ?_); refine oAs ?_; refine oN ?_) | refine gc ?_ | refine ct ?_ | refine cf ?_ | refine swp_cond rfl (fun hc => ?_) (fun hc => ?_) | exact rq1 rfl (rt .nil))
def who0 : Pl.Asker := ⟨⟨#[]⟩, ⟨#[]⟩, 0⟩
def reqOf (s : ByteArray) : Pl.Req := ⟨sGET, s, ⟨#[]⟩, []⟩
theorem v1 : Pl.judgeP (matchP who0 80 req0) (Pl.saysL ((exPols.map (Pl.halfP 0 1)).map Pl.four4) (Pl.allowsP exPols)) = (true, 1) := by kernel_rfl
theorem v2 : Pl.judgeP (matchP who0 81 req0) (Pl.saysL ((exPols.map (Pl.halfP 0 1)).map Pl.four4) (Pl.allowsP exPols)) = (false, 0) := by kernel_rfl
theorem v3 : Pl.judgeP (matchP who0 80 (reqOf sB)) (Pl.saysL (exPols.map (Pl.halfP 2 2)) (Pl.allowsP exPols)) = (true, 1) := by kernel_rfl
theorem v4 : Pl.judgeP (matchP who0 80 (reqOf sA)) (Pl.saysL (exPols.map (Pl.halfP 2 2)) (Pl.allowsP exPols)) = (false, 2) := by kernel_rfl
theorem v5 : Pl.judgeP (matchP who0 80 req0) (Pl.saysL ((exPols.map (Pl.halfP 1 0)).map Pl.four4) (Pl.allowsP exPols)) = (false, 2) := by kernel_rfl
end Go.Proofs.YtnclifgiakmmoaaGreat.Pol
