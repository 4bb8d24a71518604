/- Merged by bundles.py: WFirst, WJudge, WLong. -/
import Derived.Test.YtnclifgiakmmoaaGreatH20
import Derived.Test.YtnclifgiakmmoaaGreatH18
import Derived.WalkMore
/- The walks of auth.first and auth.Judge. -/
namespace Go.Proofs.YtnclifgiakmmoaaGreat.Pl
set_option linter.unusedVariables false
set_option linter.unusedSimpArgs false
theorem first_at {M : Rule → Bool} {d : Bool} {l : List Policy} {k : Nat} (hk : k < l.length) (h : firstP M d (l.take k) = none) (h1 : kindP d l[k] = true) (h2 : l[k].rules.any M = true) : firstP M d l = some l[k] := by
  unfold firstP at *
  have hs : l.find? (fun p => kindP d p && p.rules.any M) = (l.take k ++ l[k] :: l.drop (k + 1)).find? (fun p => kindP d p && p.rules.any M) := by rw [List.getElem_cons_drop, List.take_append_drop]
  rw [hs, List.find?_append, h]
  simp only [List.find?_cons, h1, h2, Bool.and_self, if_true, Option.none_or]
theorem first_next {M : Rule → Bool} {d : Bool} {l : List Policy} {k : Nat} (hk : k < l.length) (h : firstP M d (l.take k) = none) (h1 : (kindP d l[k] && l[k].rules.any M) = false) : firstP M d (l.take (k + 1)) = none := by
  unfold firstP at *
  rw [List.take_succ_eq_append_getElem hk, List.find?_append, h]
  simp [List.find?_cons, h1]
theorem some_next (d : Bool) {l : List Policy} {k : Nat} (hk : k < l.length) : someP d (l.take (k + 1)) = (someP d (l.take k) || kindP d l[k]) := by
  unfold someP
  rw [List.take_succ_eq_append_getElem hk, List.any_append]; simp
end Go.Proofs.YtnclifgiakmmoaaGreat.Pl
namespace Go.Proofs.YtnclifgiakmmoaaGreat.WAuth
set_option linter.unusedVariables false
set_option linter.unusedSimpArgs false
open Go.RowKit Mem BigFrame WMatch WAddr WName Opn

def firstV (M : Pl.Rule → Bool) (d : Bool) (l : List Pl.Policy) : Value := match Pl.firstP M d l with
  | some p => .tuple #[.int .u64 p.id, .bool true, .bool true]
  | none => .tuple #[.int .u64 0, .bool false, .bool (Pl.someP d l)]

/-- what a function value says of any rule -/
def SaysRule (B : Nat) (w : World) (g : FuncId) (caps : Array Value) (M : Pl.Rule → Bool) : Prop :=
  ∀ (W : World) (x : Pl.Rule) (c0 c1 c2 : Value), Lo w W → RuleR B W x [c0, c1, c2] → Calls Tryz.prog g (#[.agg #[c0, c1, c2]] ++ caps) W fun e w' => e = .returned (.bool (M x)) ∧ Lo W w'
theorem any_none {α : Type} {p : α → Bool} {xs : List α} (h : (xs.take xs.length).any p = false) : xs.any p = false := by rwa [List.take_length] at h
theorem any_yes {α : Type} {p : α → Bool} {xs : List α} {k : Nat} (hk : k < xs.length) (h : p xs[k] = true) : xs.any p = true := by rw [List.any_eq_true]; exact ⟨_, List.getElem_mem hk, h⟩

set_option maxRecDepth 100000 in
set_option maxHeartbeats 4000000 in
theorem first (d : Bool) (M : Pl.Rule → Bool) (l : List Pl.Policy) (A : Option Addr) (cap : Nat) (g : FuncId) (caps : Array Value) {B : Nat} (w : World) (hB : B ≤ w.heap.size) (hA : SliceAt PolicyR 5 B w A l) (hn : l.length ≤ maxLen) (eg : Go.Proofs.Enters Tryz.prog g) (hf : SaysRule B w g caps M) :
    Calls Tryz.prog 64 #[.slice A l.length cap, .int .i64 (if d then 1 else 0), .func (.func g) #[] caps] w fun e w' => e = .returned (firstV M d l) ∧ Lo w w' := by
  unfold maxLen at hn
  have HF := Lib.hid hf
  clear hf
  unfold Go.Proofs.Enters at eg
  cases d
  · simp only [if_true, if_false, Bool.false_eq_true]
    go_enter Tryz.func64, Tryz.ntmps64
    go_wp2
    go_step3
    go_wp2
    go_step3
    go_wp2
    go_loopg [6, 7, 8, 15] l.length (fun g s6 s7 s8 s15 wr => ∃ k : Nat, k + g = l.length ∧ s15 = .int .i64 k ∧ s6 = .int .u64 0 ∧ s7 = .bool false ∧ s8 = .bool (Pl.someP false (l.take k)) ∧ Lo w wr ∧ Hid (Pl.firstP M false (l.take k) = none))
    case atStart => exact ⟨0, by omega, rfl, rfl, rfl, rfl, (by repeat (first | exact Lo.refl _ | assumption | refine Lo.drew ?_ | refine Lo.alloc ?_ _ | refine Lo.setCell ?_ (by first | (dsimp only; omega) | (simp; omega) | (simp; done)) _ | refine Lo.trans ?_ (by assumption))), Lib.hid rfl⟩
    case round =>
      obtain ⟨k, hkg, rfl, rfl, rfl, rfl, hlo, hno⟩ := hrel
      obtain ⟨wo, rfl⟩ : ∃ wo : World, wo = wr := ⟨_, rfl⟩
      obtain ⟨go, rfl⟩ : ∃ go : Nat, go = gk := ⟨_, rfl⟩
      cases go with
      | zero =>
        have hno2 := hno.out
        rw [List.take_of_length_le (by omega)] at hno2
        have HN := Lib.hid hno2
        clear hno2
        rw [List.take_of_length_le (show l.length ≤ k by omega)]
        have hkl : ¬ (k : Int) < (l.length : Int) := by omega
        go_wp2
        try rw [Exit.noGoto_ret]
        go_ret3
        refine ⟨?_, (by repeat (first | exact Lo.refl _ | assumption | refine Lo.drew ?_ | refine Lo.alloc ?_ _ | refine Lo.setCell ?_ (by first | (dsimp only; omega) | (simp; omega) | (simp; done)) _ | refine Lo.trans ?_ (by assumption)))⟩
        unfold firstV
        rw [HN.out]
        rfl
      | succ go =>
        have hlt : k < l.length := by omega
        have hkl : (k : Int) < (l.length : Int) := by omega
        obtain ⟨b, off, cs, rfl, hb, hl2, hc, hr⟩ := (SliceAt.lo PolicyR.kept hA hlo hB) k l[k] (List.getElem?_eq_getElem hlt)
        obtain ⟨c0, c1, c2, c3, c4, rfl, ⟨e0, z0⟩, ⟨e1, z1⟩, ⟨e2, z2⟩, ⟨e3, z3⟩, ⟨A4, p4, e4, h4, l4, m4⟩⟩ := hr
        injection e0 with e0; injection e1 with e1; injection e2 with e2; injection e3 with e3; injection e4 with e4; subst e0 e1 e2 e3 e4
        have hc0 : wo.cell? ⟨b, off + k * 5, none⟩ = _ := hc 0 _ rfl
        have hc1 : wo.cell? ⟨b, off + k * 5 + 1, none⟩ = _ := hc 1 _ rfl
        have hc2 : wo.cell? ⟨b, off + k * 5 + 2, none⟩ = _ := hc 2 _ rfl
        have hc3 : wo.cell? ⟨b, off + k * 5 + 3, none⟩ = _ := hc 3 _ rfl
        have hc4 : wo.cell? ⟨b, off + k * 5 + 4, none⟩ = _ := hc 4 _ rfl
        clear hc hl2
        cases hd : (l[k].deny == 1)
        · have hk1 : Pl.kindP false l[k] = true := by simp [Pl.kindP, hd]
          have HS := Lib.hid (Pl.some_next false hlt)
          have HK := Lib.hid hk1
          have hbox := BoxAt.new wo #[.int .u64 l[k].id, .string l[k].ns, .int .u64 l[k].service, .int .i64 l[k].deny, .slice A4 l[k].rules.length p4] 43
          obtain ⟨rs, hrs⟩ : ∃ rs, l[k].rules = rs := ⟨_, rfl⟩
          obtain ⟨pid, hpid⟩ : ∃ x, l[k].id = x := ⟨_, rfl⟩
          rw [hrs] at h4 l4 hc4 hbox
          rw [hpid] at hc0 hbox z0
          have HY : Hid (rs.any M = true → firstV M false l = .tuple #[.int .u64 pid, .bool true, .bool true]) := Lib.hid fun h => by
            unfold firstV
            rw [Pl.first_at hlt hno.out HK.out (by rw [hrs]; exact h), ← hpid]
          have HX : Hid (rs.any M = false → Pl.firstP M false (l.take (k + 1)) = none) := Lib.hid fun h => Pl.first_next hlt hno.out (by rw [hrs, h, Bool.and_false])
          clear hk1 hrs hpid hno
          have hns : rs.length ≤ 9223372036854775807 := by unfold maxLen at m4; omega
          have hB2 := Nat.le_trans hB hlo.size
          go_wp2
          go_loopg [6, 7, 28] rs.length (fun g s6 s7 s28 wr => ∃ j : Nat, j + g = rs.length ∧ s28 = .int .i64 j ∧ s6 = .int .u64 0 ∧ s7 = .bool false ∧ Lo wo wr ∧ BoxAt wr wo.heap.size [.int .u64 pid, .string l[k].ns, .int .u64 l[k].service, .int .i64 l[k].deny, .slice A4 rs.length p4] ∧ Hid ((rs.take j).any M = false))
          case atStart => exact ⟨0, by omega, rfl, rfl, rfl, (by repeat (first | exact Lo.refl _ | assumption | refine Lo.drew ?_ | refine Lo.alloc ?_ _ | refine Lo.setCell ?_ (by first | (dsimp only; omega) | (simp; omega) | (simp; done)) _ | refine Lo.trans ?_ (by assumption))), hbox, Lib.hid rfl⟩
          case round =>
            obtain ⟨j, hjg, rfl, rfl, rfl, hlo2, hbx, hnj⟩ := hrel
            cases gk with
            | zero =>
              have hnj2 : rs.any M = false := any_none (by have h := hnj.out; rwa [show j = rs.length by omega] at h)
              have HZ := Lib.hid (HX.out hnj2)
              clear hnj2
              have hjl : ¬ (j : Int) < (rs.length : Int) := by omega
              go_wp2
              go_roundg go
              case rel => exact ⟨k + 1, by omega, by go_num, rfl, rfl, by rw [HS.out, HK.out, Bool.or_true], (by repeat (first | exact Lo.refl _ | assumption | refine Lo.drew ?_ | refine Lo.alloc ?_ _ | refine Lo.setCell ?_ (by first | (dsimp only; omega) | (simp; omega) | (simp; done)) _ | refine Lo.trans ?_ (by assumption))), HZ⟩
              case measure => omega
            | succ gk =>
              have hjl : (j : Int) < (rs.length : Int) := by omega
              have hjr : j < rs.length := by omega
              obtain ⟨b2, off2, cs2, rfl, hb2, hl2, hc2', hr2⟩ := (SliceAt.lo RuleR.kept h4 hlo2 hB2) j rs[j] (List.getElem?_eq_getElem hjr)
              obtain ⟨d0, d1, d2, rfl⟩ : ∃ d0 d1 d2, cs2 = [d0, d1, d2] := by
                match cs2, hl2 with
                | [d0, d1, d2], _ => exact ⟨d0, d1, d2, rfl⟩
              have hr3 := hr2
              obtain ⟨_, _, _, he3, ⟨S0, k0, f0, -⟩, ⟨S1, k1, f1, -⟩, ⟨S2, k2, f2, -⟩⟩ := hr3
              injection he3 with q0 he3; injection he3 with q1 he3; injection he3 with q2 he3
              subst q0 q1 q2
              injection f0 with f0; injection f1 with f1; injection f2 with f2
              subst f0 f1 f2
              have hd0 : wr.cell? ⟨b2, off2 + j * 3, none⟩ = _ := hc2' 0 _ rfl
              have hd1 : wr.cell? ⟨b2, off2 + j * 3 + 1, none⟩ = _ := hc2' 1 _ rfl
              have hd2 : wr.cell? ⟨b2, off2 + j * 3 + 2, none⟩ = _ := hc2' 2 _ rfl
              have HC : Hid (∀ W, Lo wr W → Calls Tryz.prog g (#[.agg #[.slice S0 rs[j].from_.length k0, .slice S1 rs[j].to_.length k1, .slice S2 rs[j].when_.length k2]] ++ caps) W fun e w' => e = .returned (.bool (M rs[j])) ∧ Lo W w') := Lib.hid fun W hW => HF.out W rs[j] _ _ _ ((hlo.trans hlo2).trans hW) (RuleR.kept _ _ _ _ _ _ hr2 (hW.cells (Nat.le_trans hB2 hlo2.size)) (Nat.le_refl _))
              clear hc2' hl2 hr2
              cases hM : M rs[j]
              · have HM := Lib.hid hM
                clear hM
                go_wp2_with fail
                refine (HC.out _ ?_).mono ?_
                · exact (by repeat (first | exact Lo.refl _ | assumption | refine Lo.drew ?_ | refine Lo.alloc ?_ _ | refine Lo.setCell ?_ (by first | (dsimp only; omega) | (simp; omega) | (simp; done)) _ | refine Lo.trans ?_ (by assumption)))
                rw [HM.out]
                rintro e w1 ⟨rfl, hb1⟩
                go_wp2
                go_roundg gk
                case rel => exact ⟨j + 1, by omega, by go_num, rfl, rfl, (by repeat (first | exact Lo.refl _ | assumption | refine Lo.drew ?_ | refine Lo.alloc ?_ _ | refine Lo.setCell ?_ (by first | (dsimp only; omega) | (simp; omega) | (simp; done)) _ | refine Lo.trans ?_ (by assumption))), (hbx.old _).lo hb1, Lib.hid (WIdxWhen.any_snoc' hnj.out hjr HM.out)⟩
                case measure => omega
              · have HM := Lib.hid hM
                clear hM
                have HV := Lib.hid (HY.out (any_yes hjr HM.out))
                have h0 := hbx 0 _ rfl
                go_wp2_with fail
                refine (HC.out _ ?_).mono ?_
                · exact (by repeat (first | exact Lo.refl _ | assumption | refine Lo.drew ?_ | refine Lo.alloc ?_ _ | refine Lo.setCell ?_ (by first | (dsimp only; omega) | (simp; omega) | (simp; done)) _ | refine Lo.trans ?_ (by assumption)))
                rw [HM.out]
                rintro e w1 ⟨rfl, hb1⟩
                have h0' := lo_keep ((Lo.refl _).alloc _ |>.trans hb1) h0
                go_wp2
                try rw [Exit.noGoto_ret]
                go_ret3
                refine ⟨?_, (by repeat (first | exact Lo.refl _ | assumption | refine Lo.drew ?_ | refine Lo.alloc ?_ _ | refine Lo.setCell ?_ (by first | (dsimp only; omega) | (simp; omega) | (simp; done)) _ | refine Lo.trans ?_ (by assumption)))⟩
                rw [HV.out]
                rfl
        · have hk1 : Pl.kindP false l[k] = false := by simp [Pl.kindP, hd]
          have HS := Lib.hid (Pl.some_next false hlt)
          have HX := Lib.hid (Pl.first_next (M := M) hlt hno.out (by rw [hk1]; rfl))
          have HK := Lib.hid hk1
          clear hk1
          go_wp2
          go_roundg go
          case rel => exact ⟨k + 1, by omega, by go_num, rfl, rfl, by rw [HS.out, HK.out, Bool.or_false], (by repeat (first | exact Lo.refl _ | assumption | refine Lo.drew ?_ | refine Lo.alloc ?_ _ | refine Lo.setCell ?_ (by first | (dsimp only; omega) | (simp; omega) | (simp; done)) _ | refine Lo.trans ?_ (by assumption))), HX⟩
          case measure => omega
  · simp only [if_true, if_false, Bool.false_eq_true]
    go_enter Tryz.func64, Tryz.ntmps64
    go_wp2
    go_step3
    go_wp2
    go_step3
    go_wp2
    go_loopg [6, 7, 8, 15] l.length (fun g s6 s7 s8 s15 wr => ∃ k : Nat, k + g = l.length ∧ s15 = .int .i64 k ∧ s6 = .int .u64 0 ∧ s7 = .bool false ∧ s8 = .bool (Pl.someP true (l.take k)) ∧ Lo w wr ∧ Hid (Pl.firstP M true (l.take k) = none))
    case atStart => exact ⟨0, by omega, rfl, rfl, rfl, rfl, (by repeat (first | exact Lo.refl _ | assumption | refine Lo.drew ?_ | refine Lo.alloc ?_ _ | refine Lo.setCell ?_ (by first | (dsimp only; omega) | (simp; omega) | (simp; done)) _ | refine Lo.trans ?_ (by assumption))), Lib.hid rfl⟩
    case round =>
      obtain ⟨k, hkg, rfl, rfl, rfl, rfl, hlo, hno⟩ := hrel
      obtain ⟨wo, rfl⟩ : ∃ wo : World, wo = wr := ⟨_, rfl⟩
      obtain ⟨go, rfl⟩ : ∃ go : Nat, go = gk := ⟨_, rfl⟩
      cases go with
      | zero =>
        have hno2 := hno.out
        rw [List.take_of_length_le (by omega)] at hno2
        have HN := Lib.hid hno2
        clear hno2
        rw [List.take_of_length_le (show l.length ≤ k by omega)]
        have hkl : ¬ (k : Int) < (l.length : Int) := by omega
        go_wp2
        try rw [Exit.noGoto_ret]
        go_ret3
        refine ⟨?_, (by repeat (first | exact Lo.refl _ | assumption | refine Lo.drew ?_ | refine Lo.alloc ?_ _ | refine Lo.setCell ?_ (by first | (dsimp only; omega) | (simp; omega) | (simp; done)) _ | refine Lo.trans ?_ (by assumption)))⟩
        unfold firstV
        rw [HN.out]
        rfl
      | succ go =>
        have hlt : k < l.length := by omega
        have hkl : (k : Int) < (l.length : Int) := by omega
        obtain ⟨b, off, cs, rfl, hb, hl2, hc, hr⟩ := (SliceAt.lo PolicyR.kept hA hlo hB) k l[k] (List.getElem?_eq_getElem hlt)
        obtain ⟨c0, c1, c2, c3, c4, rfl, ⟨e0, z0⟩, ⟨e1, z1⟩, ⟨e2, z2⟩, ⟨e3, z3⟩, ⟨A4, p4, e4, h4, l4, m4⟩⟩ := hr
        injection e0 with e0; injection e1 with e1; injection e2 with e2; injection e3 with e3; injection e4 with e4; subst e0 e1 e2 e3 e4
        have hc0 : wo.cell? ⟨b, off + k * 5, none⟩ = _ := hc 0 _ rfl
        have hc1 : wo.cell? ⟨b, off + k * 5 + 1, none⟩ = _ := hc 1 _ rfl
        have hc2 : wo.cell? ⟨b, off + k * 5 + 2, none⟩ = _ := hc 2 _ rfl
        have hc3 : wo.cell? ⟨b, off + k * 5 + 3, none⟩ = _ := hc 3 _ rfl
        have hc4 : wo.cell? ⟨b, off + k * 5 + 4, none⟩ = _ := hc 4 _ rfl
        clear hc hl2
        cases hd : (l[k].deny == 1)
        · have hk1 : Pl.kindP true l[k] = false := by simp [Pl.kindP, hd]
          have HS := Lib.hid (Pl.some_next true hlt)
          have HX := Lib.hid (Pl.first_next (M := M) hlt hno.out (by rw [hk1]; rfl))
          have HK := Lib.hid hk1
          clear hk1
          go_wp2
          go_roundg go
          case rel => exact ⟨k + 1, by omega, by go_num, rfl, rfl, by rw [HS.out, HK.out, Bool.or_false], (by repeat (first | exact Lo.refl _ | assumption | refine Lo.drew ?_ | refine Lo.alloc ?_ _ | refine Lo.setCell ?_ (by first | (dsimp only; omega) | (simp; omega) | (simp; done)) _ | refine Lo.trans ?_ (by assumption))), HX⟩
          case measure => omega
        · have hk1 : Pl.kindP true l[k] = true := by simp [Pl.kindP, hd]
          have HS := Lib.hid (Pl.some_next true hlt)
          have HK := Lib.hid hk1
          have hbox := BoxAt.new wo #[.int .u64 l[k].id, .string l[k].ns, .int .u64 l[k].service, .int .i64 l[k].deny, .slice A4 l[k].rules.length p4] 43
          obtain ⟨rs, hrs⟩ : ∃ rs, l[k].rules = rs := ⟨_, rfl⟩
          obtain ⟨pid, hpid⟩ : ∃ x, l[k].id = x := ⟨_, rfl⟩
          rw [hrs] at h4 l4 hc4 hbox
          rw [hpid] at hc0 hbox z0
          have HY : Hid (rs.any M = true → firstV M true l = .tuple #[.int .u64 pid, .bool true, .bool true]) := Lib.hid fun h => by
            unfold firstV
            rw [Pl.first_at hlt hno.out HK.out (by rw [hrs]; exact h), ← hpid]
          have HX : Hid (rs.any M = false → Pl.firstP M true (l.take (k + 1)) = none) := Lib.hid fun h => Pl.first_next hlt hno.out (by rw [hrs, h, Bool.and_false])
          clear hk1 hrs hpid hno
          have hns : rs.length ≤ 9223372036854775807 := by unfold maxLen at m4; omega
          have hB2 := Nat.le_trans hB hlo.size
          go_wp2
          go_loopg [6, 7, 28] rs.length (fun g s6 s7 s28 wr => ∃ j : Nat, j + g = rs.length ∧ s28 = .int .i64 j ∧ s6 = .int .u64 0 ∧ s7 = .bool false ∧ Lo wo wr ∧ BoxAt wr wo.heap.size [.int .u64 pid, .string l[k].ns, .int .u64 l[k].service, .int .i64 l[k].deny, .slice A4 rs.length p4] ∧ Hid ((rs.take j).any M = false))
          case atStart => exact ⟨0, by omega, rfl, rfl, rfl, (by repeat (first | exact Lo.refl _ | assumption | refine Lo.drew ?_ | refine Lo.alloc ?_ _ | refine Lo.setCell ?_ (by first | (dsimp only; omega) | (simp; omega) | (simp; done)) _ | refine Lo.trans ?_ (by assumption))), hbox, Lib.hid rfl⟩
          case round =>
            obtain ⟨j, hjg, rfl, rfl, rfl, hlo2, hbx, hnj⟩ := hrel
            cases gk with
            | zero =>
              have hnj2 : rs.any M = false := any_none (by have h := hnj.out; rwa [show j = rs.length by omega] at h)
              have HZ := Lib.hid (HX.out hnj2)
              clear hnj2
              have hjl : ¬ (j : Int) < (rs.length : Int) := by omega
              go_wp2
              go_roundg go
              case rel => exact ⟨k + 1, by omega, by go_num, rfl, rfl, by rw [HS.out, HK.out, Bool.or_true], (by repeat (first | exact Lo.refl _ | assumption | refine Lo.drew ?_ | refine Lo.alloc ?_ _ | refine Lo.setCell ?_ (by first | (dsimp only; omega) | (simp; omega) | (simp; done)) _ | refine Lo.trans ?_ (by assumption))), HZ⟩
              case measure => omega
            | succ gk =>
              have hjl : (j : Int) < (rs.length : Int) := by omega
              have hjr : j < rs.length := by omega
              obtain ⟨b2, off2, cs2, rfl, hb2, hl2, hc2', hr2⟩ := (SliceAt.lo RuleR.kept h4 hlo2 hB2) j rs[j] (List.getElem?_eq_getElem hjr)
              obtain ⟨d0, d1, d2, rfl⟩ : ∃ d0 d1 d2, cs2 = [d0, d1, d2] := by
                match cs2, hl2 with
                | [d0, d1, d2], _ => exact ⟨d0, d1, d2, rfl⟩
              have hr3 := hr2
              obtain ⟨_, _, _, he3, ⟨S0, k0, f0, -⟩, ⟨S1, k1, f1, -⟩, ⟨S2, k2, f2, -⟩⟩ := hr3
              injection he3 with q0 he3; injection he3 with q1 he3; injection he3 with q2 he3
              subst q0 q1 q2
              injection f0 with f0; injection f1 with f1; injection f2 with f2
              subst f0 f1 f2
              have hd0 : wr.cell? ⟨b2, off2 + j * 3, none⟩ = _ := hc2' 0 _ rfl
              have hd1 : wr.cell? ⟨b2, off2 + j * 3 + 1, none⟩ = _ := hc2' 1 _ rfl
              have hd2 : wr.cell? ⟨b2, off2 + j * 3 + 2, none⟩ = _ := hc2' 2 _ rfl
              have HC : Hid (∀ W, Lo wr W → Calls Tryz.prog g (#[.agg #[.slice S0 rs[j].from_.length k0, .slice S1 rs[j].to_.length k1, .slice S2 rs[j].when_.length k2]] ++ caps) W fun e w' => e = .returned (.bool (M rs[j])) ∧ Lo W w') := Lib.hid fun W hW => HF.out W rs[j] _ _ _ ((hlo.trans hlo2).trans hW) (RuleR.kept _ _ _ _ _ _ hr2 (hW.cells (Nat.le_trans hB2 hlo2.size)) (Nat.le_refl _))
              clear hc2' hl2 hr2
              cases hM : M rs[j]
              · have HM := Lib.hid hM
                clear hM
                go_wp2_with fail
                refine (HC.out _ ?_).mono ?_
                · exact (by repeat (first | exact Lo.refl _ | assumption | refine Lo.drew ?_ | refine Lo.alloc ?_ _ | refine Lo.setCell ?_ (by first | (dsimp only; omega) | (simp; omega) | (simp; done)) _ | refine Lo.trans ?_ (by assumption)))
                rw [HM.out]
                rintro e w1 ⟨rfl, hb1⟩
                go_wp2
                go_roundg gk
                case rel => exact ⟨j + 1, by omega, by go_num, rfl, rfl, (by repeat (first | exact Lo.refl _ | assumption | refine Lo.drew ?_ | refine Lo.alloc ?_ _ | refine Lo.setCell ?_ (by first | (dsimp only; omega) | (simp; omega) | (simp; done)) _ | refine Lo.trans ?_ (by assumption))), (hbx.old _).lo hb1, Lib.hid (WIdxWhen.any_snoc' hnj.out hjr HM.out)⟩
                case measure => omega
              · have HM := Lib.hid hM
                clear hM
                have HV := Lib.hid (HY.out (any_yes hjr HM.out))
                have h0 := hbx 0 _ rfl
                go_wp2_with fail
                refine (HC.out _ ?_).mono ?_
                · exact (by repeat (first | exact Lo.refl _ | assumption | refine Lo.drew ?_ | refine Lo.alloc ?_ _ | refine Lo.setCell ?_ (by first | (dsimp only; omega) | (simp; omega) | (simp; done)) _ | refine Lo.trans ?_ (by assumption)))
                rw [HM.out]
                rintro e w1 ⟨rfl, hb1⟩
                have h0' := lo_keep ((Lo.refl _).alloc _ |>.trans hb1) h0
                go_wp2
                try rw [Exit.noGoto_ret]
                go_ret3
                refine ⟨?_, (by repeat (first | exact Lo.refl _ | assumption | refine Lo.drew ?_ | refine Lo.alloc ?_ _ | refine Lo.setCell ?_ (by first | (dsimp only; omega) | (simp; omega) | (simp; done)) _ | refine Lo.trans ?_ (by assumption)))⟩
                rw [HV.out]
                rfl

def judgeV (M : Pl.Rule → Bool) (l : List Pl.Policy) : Value := .tuple #[.bool (Pl.judgeP M l).1, .int .u64 (Pl.judgeP M l).2]
end Go.Proofs.YtnclifgiakmmoaaGreat.WAuth

/- The walks of auth.Judge. -/
namespace Go.Proofs.YtnclifgiakmmoaaGreat.WAuth
set_option linter.unusedVariables false
set_option linter.unusedSimpArgs false
open Go.RowKit Mem BigFrame WMatch WAddr WName Opn

theorem judge1 (r : Pl.Rule) (a : Pl.Asker) (port : Int) (q : Pl.Req) (A : Option Addr) (cap : Nat) (tg qu : ByteArray) (bd : Value) (c0 c1 c2 : Value) (b1 b2 b3 : Nat) {B : Nat} (w : World) (hB : B ≤ w.heap.size) (hr : RuleR B w r [c0, c1, c2]) (hf : Fits B w a q A)
    (ha : BoxAt w b1 [.string a.ns, .string a.sa, .int .u32 a.addr]) (hp : BoxAt w b2 [.int .i64 port]) (hq : BoxAt w b3 [.string q.method, .string tg, .string q.path, .string qu, .string q.host, .slice A q.heads.length cap, bd]) :
    Calls Tryz.prog 62 #[.agg #[c0, c1, c2], .pointer (some ⟨b1, 0, none⟩), .pointer (some ⟨b2, 0, none⟩), .pointer (some ⟨b3, 0, none⟩)] w fun e w' => e = .returned (.bool (matchP a port q r)) ∧ Lo w w' := by
  have h0 := ha 0 _ rfl
  have h1 := ha 1 _ rfl
  have h2 := ha 2 _ rfl
  have p0 := hp 0 _ rfl
  have g0 := hq 0 _ rfl
  have g1 := hq 1 _ rfl
  have g2 := hq 2 _ rfl
  have g3 := hq 3 _ rfl
  have g4 := hq 4 _ rfl
  have g5 := hq 5 _ rfl
  have g6 := hq 6 _ rfl
  have hlt1 := ha.lt
  have hlt2 := hp.lt
  have hlt3 := hq.lt
  have HS : Hid (∀ W, Lo w W → Calls Tryz.prog 63 #[.agg #[c0, c1, c2], .agg #[.string a.ns, .string a.sa, .int .u32 a.addr], .int .i64 port, .agg #[.string q.method, .string tg, .string q.path, .string qu, .string q.host, .slice A q.heads.length cap, bd]] W fun e w' => e = .returned (.bool (matchP a port q r)) ∧ Lo W w') :=
    Lib.hid fun W hW => matches_ r a port q A cap tg qu bd c0 c1 c2 W (Nat.le_trans hB hW.size) (RuleR.kept _ _ _ _ _ _ hr (hW.cells hB) (Nat.le_refl _)) (hf.lo hW hB)
  obtain ⟨_, _, _, he3, ⟨S0, k0, f0, -⟩, ⟨S1, k1, f1, -⟩, ⟨S2, k2, f2, -⟩⟩ := hr
  injection he3 with q0 he3; injection he3 with q1 he3; injection he3 with q2 he3
  subst q0 q1 q2
  injection f0 with f0; injection f1 with f1; injection f2 with f2
  subst f0 f1 f2
  clear hf ha hp hq
  go_enter Tryz.func62, Tryz.ntmps62
  go_wp2_with (go_at_call 63; refine (HS.out _ ?_).mono ?_; (exact (by repeat (first | exact Lo.refl _ | assumption | refine Lo.drew ?_ | refine Lo.alloc ?_ _ | refine Lo.setCell ?_ (by first | (dsimp only; omega) | (simp; omega) | (simp; done)) _ | refine Lo.trans ?_ (by assumption)))); rintro e w1 ⟨rfl, hb⟩)
  go_ret
  exact ⟨rfl, (by repeat (first | exact Lo.refl _ | assumption | refine Lo.drew ?_ | refine Lo.alloc ?_ _ | refine Lo.setCell ?_ (by first | (dsimp only; omega) | (simp; omega) | (simp; done)) _ | refine Lo.trans ?_ (by assumption)))⟩
theorem enters_judge1 : Enters Tryz.prog 62 := enters_of Tryz.func62 (by kernel_rfl) rfl

set_option maxRecDepth 100000 in
set_option maxHeartbeats 4000000 in
theorem judge (l : List Pl.Policy) (A0 : Option Addr) (cap0 : Nat) (a : Pl.Asker) (port : Int) (q : Pl.Req) (A : Option Addr) (cap : Nat) (tg qu : ByteArray) (bd : Value) {B : Nat} (w : World) (hB : B ≤ w.heap.size) (hA : SliceAt PolicyR 5 B w A0 l) (hn : l.length ≤ maxLen) (hf : Fits B w a q A) :
    Calls Tryz.prog 50 #[.slice A0 l.length cap0, .agg #[.string a.ns, .string a.sa, .int .u32 a.addr], .int .i64 port, .agg #[.string q.method, .string tg, .string q.path, .string qu, .string q.host, .slice A q.heads.length cap, bd]] w fun e w' => e = .returned (judgeV (matchP a port q) l) ∧ Lo w w' := by
  have HC : ∀ (d : Bool) (W : World) (b1 b2 b3 : Nat), Lo w W → BoxAt W b1 [.string a.ns, .string a.sa, .int .u32 a.addr] → BoxAt W b2 [.int .i64 port] → BoxAt W b3 [.string q.method, .string tg, .string q.path, .string qu, .string q.host, .slice A q.heads.length cap, bd] →
      Calls Tryz.prog 64 #[.slice A0 l.length cap0, .int .i64 (if d then 1 else 0), .func (.func 62) #[] #[.pointer (some ⟨b1, 0, none⟩), .pointer (some ⟨b2, 0, none⟩), .pointer (some ⟨b3, 0, none⟩)]] W fun e w' => e = .returned (firstV (matchP a port q) d l) ∧ Lo W w' := fun d W b1 b2 b3 hW g1 g2 g3 => by
    refine first d (matchP a port q) l A0 cap0 _ _ W (Nat.le_trans hB hW.size) (SliceAt.lo PolicyR.kept hA hW hB) hn enters_judge1 ?_
    intro W' x c0 c1 c2 hlo hr
    exact judge1 x a port q A cap tg qu bd c0 c1 c2 b1 b2 b3 W' (Nat.le_trans hB (hW.trans hlo).size) hr (hf.lo (hW.trans hlo) hB) (g1.lo hlo) (g2.lo hlo) (g3.lo hlo)
  have HT := Lib.hid (HC true)
  have HF := Lib.hid (HC false)
  clear HC hA hf
  have HJ : Hid (judgeV (matchP a port q) l = _) := Lib.hid rfl
  unfold judgeV Pl.judgeP at HJ
  generalize matchP a port q = M at *
  generalize q.heads.length = n3 at *
  cases hT : Pl.firstP M true l with
  | some p =>
    have hv : firstV M true l = .tuple #[.int .u64 p.id, .bool true, .bool true] := by unfold firstV; rw [hT]
    have HV := Lib.hid hv
    have hr : judgeV M l = .tuple #[.bool false, .int .u64 p.id] := by unfold judgeV Pl.judgeP; rw [hT]
    rw [hr]
    clear hv hr hT HJ
    generalize l.length = n at *
    go_enter Tryz.func50, Tryz.ntmps50
    go_wp2_with fail
    refine (HT.out _ _ _ _ ?_ (BoxAt.old (BoxAt.old (BoxAt.new _ _ _) _) _) (BoxAt.old (BoxAt.newAt _ _ (by simp)) _) (BoxAt.newAt _ _ (by simp))).mono ?_
    · exact (by repeat (first | exact Lo.refl _ | assumption | refine Lo.drew ?_ | refine Lo.alloc ?_ _ | refine Lo.setCell ?_ (by first | (dsimp only; omega) | (simp; omega) | (simp; done)) _ | refine Lo.trans ?_ (by assumption)))
    rw [HV.out]
    rintro e w1 ⟨rfl, hb⟩
    go_wp2
    go_ret2
    exact ⟨rfl, (by repeat (first | exact Lo.refl _ | assumption | refine Lo.drew ?_ | refine Lo.alloc ?_ _ | refine Lo.setCell ?_ (by first | (dsimp only; omega) | (simp; omega) | (simp; done)) _ | refine Lo.trans ?_ (by assumption)))⟩
  | none =>
    have hv : firstV M true l = .tuple #[.int .u64 0, .bool false, .bool (Pl.someP true l)] := by unfold firstV; rw [hT]
    have HV := Lib.hid hv
    clear hv
    generalize Pl.someP true l = s0 at *
    cases hF : Pl.firstP M false l with
    | some p =>
      have hv : firstV M false l = .tuple #[.int .u64 p.id, .bool true, .bool true] := by unfold firstV; rw [hF]
      have HV2 := Lib.hid hv
      have hr : judgeV M l = .tuple #[.bool true, .int .u64 p.id] := by unfold judgeV Pl.judgeP; rw [hT, hF]
      rw [hr]
      clear hv hr hT hF HJ
      generalize l.length = n at *
      go_enter Tryz.func50, Tryz.ntmps50
      go_wp2_with fail
      refine (HT.out _ _ _ _ ?_ (BoxAt.old (BoxAt.old (BoxAt.new _ _ _) _) _) (BoxAt.old (BoxAt.newAt _ _ (by simp)) _) (BoxAt.newAt _ _ (by simp))).mono ?_
      · exact (by repeat (first | exact Lo.refl _ | assumption | refine Lo.drew ?_ | refine Lo.alloc ?_ _ | refine Lo.setCell ?_ (by first | (dsimp only; omega) | (simp; omega) | (simp; done)) _ | refine Lo.trans ?_ (by assumption)))
      rw [HV.out]
      rintro e w1 ⟨rfl, hb⟩
      go_wp2_with fail
      refine (HF.out _ _ _ _ ?_ ((BoxAt.old (BoxAt.old (BoxAt.new _ _ _) _) _).lo hb) ((BoxAt.old (BoxAt.newAt _ _ (by simp)) _).lo hb) ((BoxAt.newAt _ _ (by simp)).lo hb)).mono ?_
      · exact (by repeat (first | exact Lo.refl _ | assumption | refine Lo.drew ?_ | refine Lo.alloc ?_ _ | refine Lo.setCell ?_ (by first | (dsimp only; omega) | (simp; omega) | (simp; done)) _ | refine Lo.trans ?_ (by assumption)))
      rw [HV2.out]
      rintro e w2 ⟨rfl, hb2⟩
      go_wp2
      go_ret2
      exact ⟨rfl, (by repeat (first | exact Lo.refl _ | assumption | refine Lo.drew ?_ | refine Lo.alloc ?_ _ | refine Lo.setCell ?_ (by first | (dsimp only; omega) | (simp; omega) | (simp; done)) _ | refine Lo.trans ?_ (by assumption)))⟩
    | none =>
      have hv : firstV M false l = .tuple #[.int .u64 0, .bool false, .bool (Pl.someP false l)] := by unfold firstV; rw [hF]
      have HV2 := Lib.hid hv
      have hr : judgeV M l = .tuple #[.bool (!Pl.someP false l), .int .u64 0] := by unfold judgeV Pl.judgeP; rw [hT, hF]
      rw [hr]
      clear hv hr hT hF HJ
      generalize Pl.someP false l = s1 at *
      generalize l.length = n at *
      cases s1
      all_goals
        go_enter Tryz.func50, Tryz.ntmps50
        go_wp2_with fail
        refine (HT.out _ _ _ _ ?_ (BoxAt.old (BoxAt.old (BoxAt.new _ _ _) _) _) (BoxAt.old (BoxAt.newAt _ _ (by simp)) _) (BoxAt.newAt _ _ (by simp))).mono ?_
        · exact (by repeat (first | exact Lo.refl _ | assumption | refine Lo.drew ?_ | refine Lo.alloc ?_ _ | refine Lo.setCell ?_ (by first | (dsimp only; omega) | (simp; omega) | (simp; done)) _ | refine Lo.trans ?_ (by assumption)))
        rw [HV.out]
        rintro e w1 ⟨rfl, hb⟩
        go_wp2_with fail
        refine (HF.out _ _ _ _ ?_ ((BoxAt.old (BoxAt.old (BoxAt.new _ _ _) _) _).lo hb) ((BoxAt.old (BoxAt.newAt _ _ (by simp)) _).lo hb) ((BoxAt.newAt _ _ (by simp)).lo hb)).mono ?_
        · exact (by repeat (first | exact Lo.refl _ | assumption | refine Lo.drew ?_ | refine Lo.alloc ?_ _ | refine Lo.setCell ?_ (by first | (dsimp only; omega) | (simp; omega) | (simp; done)) _ | refine Lo.trans ?_ (by assumption)))
        rw [HV2.out]
        rintro e w2 ⟨rfl, hb2⟩
        go_wp2
        go_ret2
        exact ⟨rfl, (by repeat (first | exact Lo.refl _ | assumption | refine Lo.drew ?_ | refine Lo.alloc ?_ _ | refine Lo.setCell ?_ (by first | (dsimp only; omega) | (simp; omega) | (simp; done)) _ | refine Lo.trans ?_ (by assumption)))⟩
end Go.Proofs.YtnclifgiakmmoaaGreat.WAuth

/- The walks of the laws' 'Long': gatepostlaw09.Long, gatepostlaw12.terms. -/
namespace Go.Proofs.YtnclifgiakmmoaaGreat.WAuth
set_option linter.unusedVariables false
set_option linter.unusedSimpArgs false
open Go.RowKit Mem BigFrame WMatch WAddr WName Opn

def headLong (h : Pl.Head) : Bool := decide (1000 < h.name.size) || decide (2000 < h.value.size)
def longHeads (l : List Pl.Head) : Bool := decide (100 < l.length) || l.any headLong
def rowLong (r : List Pl.Term) : Bool := decide (20 < r.length) || r.any fun t => decide (300 < t.s.size)
def termsB (rows : List (List Pl.Term)) : Bool := rows.any rowLong
set_option maxRecDepth 100000 in
set_option maxHeartbeats 1600000 in
theorem long9 (l : List Pl.Head) (A : Option Addr) (cap : Nat) {B : Nat} (w : World) (hB : B ≤ w.heap.size) (hA : SliceAt HeadR 2 B w A l) (hn : l.length ≤ maxLen) :
    Calls Tryz.prog 19 #[.slice A l.length cap] w fun e w' => e = .returned (.bool (longHeads l)) ∧ Lo w w' := by
  unfold maxLen at hn
  unfold longHeads
  by_cases h100 : 100 < l.length
  · go_enter Tryz.func19, Tryz.ntmps19
    go_wp2
    go_ret
    exact ⟨ret_bool (by simp [h100]), (by repeat (first | exact Lo.refl _ | assumption | refine Lo.drew ?_ | refine Lo.alloc ?_ _ | refine Lo.setCell ?_ (by first | (dsimp only; omega) | (simp; omega) | (simp; done)) _ | refine Lo.trans ?_ (by assumption)))⟩
  · go_enter Tryz.func19, Tryz.ntmps19
    go_wp2
    go_loopw [3] (fun i wr => ∃ k : Nat, k ≤ l.length ∧ i = .int .i64 k ∧ Lo w wr ∧ Hid ((l.take k).any headLong = false)) (fun i _ => l.length - (intOf i).toNat)
    case atStart => exact ⟨0, Nat.zero_le _, rfl, Lo.refl _, Lib.hid rfl⟩
    case round =>
      obtain ⟨k, hk, rfl, hlo, hall⟩ := hrel
      by_cases hlt : k < l.length
      · obtain ⟨b, off, cs, rfl, hb, hl2, hc, hr⟩ := (SliceAt.lo HeadR.kept hA hlo hB) k l[k] (List.getElem?_eq_getElem hlt)
        obtain ⟨c0, c1, rfl, ⟨e0, z0⟩, ⟨e1, z1⟩⟩ := hr
        injection e0 with e0; injection e1 with e1; subst e0 e1
        have hc0 : wr.cell? ⟨b, off + k * 2, none⟩ = _ := hc 0 _ rfl
        have hc1 : wr.cell? ⟨b, off + k * 2 + 1, none⟩ = _ := hc 1 _ rfl
        clear hc hl2
        have hp : headLong l[k] = (decide (1000 < l[k].name.size) || decide (2000 < l[k].value.size)) := rfl
        by_cases h1 : 1000 < l[k].name.size
        · have HY := Lib.hid (any_yes (p := headLong) hlt (by rw [hp]; simp [h1]))
          clear hp
          go_wp2
          go_ret
          exact ⟨ret_bool (by simp [HY.out]), (by repeat (first | exact Lo.refl _ | assumption | refine Lo.drew ?_ | refine Lo.alloc ?_ _ | refine Lo.setCell ?_ (by first | (dsimp only; omega) | (simp; omega) | (simp; done)) _ | refine Lo.trans ?_ (by assumption)))⟩
        · by_cases h2 : 2000 < l[k].value.size
          · have HY := Lib.hid (any_yes (p := headLong) hlt (by rw [hp]; simp [h2]))
            clear hp
            go_wp2
            go_ret
            exact ⟨ret_bool (by simp [HY.out]), (by repeat (first | exact Lo.refl _ | assumption | refine Lo.drew ?_ | refine Lo.alloc ?_ _ | refine Lo.setCell ?_ (by first | (dsimp only; omega) | (simp; omega) | (simp; done)) _ | refine Lo.trans ?_ (by assumption)))⟩
          · have HN := Lib.hid (WIdxWhen.any_snoc' hall.out hlt (by rw [hp]; simp [h1, h2]))
            clear hp
            go_wp2
            go_roundw
            case rel => exact ⟨k + 1, by omega, by go_num, (by repeat (first | exact Lo.refl _ | assumption | refine Lo.drew ?_ | refine Lo.alloc ?_ _ | refine Lo.setCell ?_ (by first | (dsimp only; omega) | (simp; omega) | (simp; done)) _ | refine Lo.trans ?_ (by assumption))), HN⟩
            case measure => simp [intOf]; omega
      · have HF := hall.out
        rw [List.take_of_length_le (by omega)] at HF
        have HG := Lib.hid HF
        clear HF
        go_wp2
        go_ret
        exact ⟨ret_bool (by rw [HG.out]; simp [h100]), (by repeat (first | exact Lo.refl _ | assumption | refine Lo.drew ?_ | refine Lo.alloc ?_ _ | refine Lo.setCell ?_ (by first | (dsimp only; omega) | (simp; omega) | (simp; done)) _ | refine Lo.trans ?_ (by assumption)))⟩

set_option maxRecDepth 100000 in
set_option maxHeartbeats 1600000 in
theorem terms (rows : List (List Pl.Term)) (A : Option Addr) (cap : Nat) {B : Nat} (w : World) (hB : B ≤ w.heap.size) (hA : SliceAt (SliceC TermR 2) 1 B w A rows) (hn : rows.length ≤ maxLen) :
    Calls Tryz.prog 21 #[.slice A rows.length cap] w fun e w' => e = .returned (.bool (termsB rows)) ∧ Lo w w' := by
  unfold maxLen at hn
  unfold termsB
  go_enter Tryz.func21, Tryz.ntmps21
  go_wp2
  go_loopw [3] (fun i wr => ∃ k : Nat, k ≤ rows.length ∧ i = .int .i64 k ∧ Lo w wr ∧ Hid ((rows.take k).any rowLong = false)) (fun i _ => rows.length - (intOf i).toNat)
  case atStart => exact ⟨0, Nat.zero_le _, rfl, Lo.refl _, Lib.hid rfl⟩
  case round =>
    obtain ⟨k, hk, rfl, hlo, hall⟩ := hrel
    obtain ⟨wo, rfl⟩ : ∃ wo : World, wo = wr := ⟨_, rfl⟩
    by_cases hlt : k < rows.length
    · obtain ⟨b, off, cs, rfl, hb, hl2, hc, hr⟩ := (SliceAt.lo (SliceC.kept TermR.kept) hA hlo hB) k rows[k] (List.getElem?_eq_getElem hlt)
      obtain ⟨A1, p1, rfl, h1, l1, m1⟩ := hr
      have hc0 : wo.cell? ⟨b, off + k, none⟩ = some (.slice A1 rows[k].length p1) := by have := hc 0 _ rfl; simpa using this
      clear hc hl2
      have hrl : rows[k].length ≤ 9223372036854775807 := by unfold maxLen at m1; omega
      have hp : rowLong rows[k] = (decide (20 < rows[k].length) || rows[k].any fun t => decide (300 < t.s.size)) := rfl
      obtain ⟨row, hrow⟩ : ∃ row, rows[k] = row := ⟨_, rfl⟩
      have HY : Hid (rowLong row = true → rows.any rowLong = true) := Lib.hid fun h => any_yes (p := rowLong) hlt (by rw [hrow]; exact h)
      have HN : Hid (rowLong row = false → (rows.take (k + 1)).any rowLong = false) := Lib.hid fun h => WIdxWhen.any_snoc' hall.out hlt (by rw [hrow]; exact h)
      rw [hrow] at hp hrl h1 l1 hc0
      clear hrow
      have HP := Lib.hid hp
      clear hp
      by_cases h20 : 20 < row.length
      · have HZ := Lib.hid (HY.out (by rw [HP.out]; simp [h20]))
        go_wp2
        go_ret
        exact ⟨ret_bool HZ.out.symm, (by repeat (first | exact Lo.refl _ | assumption | refine Lo.drew ?_ | refine Lo.alloc ?_ _ | refine Lo.setCell ?_ (by first | (dsimp only; omega) | (simp; omega) | (simp; done)) _ | refine Lo.trans ?_ (by assumption)))⟩
      · go_wp2
        go_loopw [4] (fun i wr => ∃ j : Nat, j ≤ row.length ∧ i = .int .i64 j ∧ Lo wo wr ∧ Hid ((row.take j).any (fun t => decide (300 < t.s.size)) = false)) (fun i _ => row.length - (intOf i).toNat)
        case atStart => exact ⟨0, Nat.zero_le _, rfl, Lo.refl _, Lib.hid rfl⟩
        case round =>
          obtain ⟨j, hj, rfl, hlo2, hall2⟩ := hrel
          have hc0' := lo_keep hlo2 hc0
          by_cases hjl : j < row.length
          · obtain ⟨b2, off2, rfl, hb2, ht0, ht1, hz⟩ := Terms.at_ (SliceAt.lo TermR.kept h1 hlo2 (Nat.le_trans hB hlo.size)) hjl
            by_cases h3 : 300 < row[j].s.size
            · have HZ := Lib.hid (HY.out (by rw [HP.out, any_yes (p := fun t => decide (300 < t.s.size)) hjl (by simpa using h3)]; simp))
              go_wp2
              go_ret
              exact ⟨ret_bool HZ.out.symm, (by repeat (first | exact Lo.refl _ | assumption | refine Lo.drew ?_ | refine Lo.alloc ?_ _ | refine Lo.setCell ?_ (by first | (dsimp only; omega) | (simp; omega) | (simp; done)) _ | refine Lo.trans ?_ (by assumption)))⟩
            · have HM := Lib.hid (WIdxWhen.any_snoc' hall2.out hjl (by simpa using h3))
              go_wp2
              go_roundw
              case rel => exact ⟨j + 1, by omega, by go_num, (by repeat (first | exact Lo.refl _ | assumption | refine Lo.drew ?_ | refine Lo.alloc ?_ _ | refine Lo.setCell ?_ (by first | (dsimp only; omega) | (simp; omega) | (simp; done)) _ | refine Lo.trans ?_ (by assumption))), HM⟩
              case measure => simp [intOf]; omega
          · have HF := hall2.out
            rw [List.take_of_length_le (by omega)] at HF
            have HZ := Lib.hid (HN.out (by rw [HP.out, HF]; simp [h20]))
            clear HF
            go_wp2
            go_roundw
            case rel => exact ⟨k + 1, by omega, by go_num, (by repeat (first | exact Lo.refl _ | assumption | refine Lo.drew ?_ | refine Lo.alloc ?_ _ | refine Lo.setCell ?_ (by first | (dsimp only; omega) | (simp; omega) | (simp; done)) _ | refine Lo.trans ?_ (by assumption))), HZ⟩
            case measure => simp [intOf]; omega
    · have HF := hall.out
      rw [List.take_of_length_le (by omega)] at HF
      have HG := Lib.hid HF
      clear HF
      go_wp2
      go_ret
      exact ⟨ret_bool HG.out.symm, (by repeat (first | exact Lo.refl _ | assumption | refine Lo.drew ?_ | refine Lo.alloc ?_ _ | refine Lo.setCell ?_ (by first | (dsimp only; omega) | (simp; omega) | (simp; done)) _ | refine Lo.trans ?_ (by assumption)))⟩
end Go.Proofs.YtnclifgiakmmoaaGreat.WAuth
