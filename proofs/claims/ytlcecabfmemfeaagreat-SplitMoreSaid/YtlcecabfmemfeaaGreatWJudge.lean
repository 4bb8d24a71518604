/- The walks of auth.Judge. -/
import Derived.Test.YtlcecabfmemfeaaGreatWFirst
namespace Go.Proofs.YtlcecabfmemfeaaGreat.WAuth
set_option linter.unusedVariables false
set_option linter.unusedSimpArgs false
open Go.RowKit Mem BigFrame WMatch WAddr WName Opn

theorem judge1 (r : Pl.Rule) (a : Pl.Asker) (port : Int) (q : Pl.Req) (A : Option Addr) (cap : Nat) (tg qu : ByteArray) (bd : Value) (c0 c1 c2 : Value) (b1 b2 b3 : Nat) {B : Nat} (w : World) (hB : B ≤ w.heap.size) (hr : RuleR B w r [c0, c1, c2]) (hf : Fits B w a q A)
    (ha : BoxAt w b1 [.string a.ns, .string a.sa, .int .u32 a.addr]) (hp : BoxAt w b2 [.int .i64 port]) (hq : BoxAt w b3 [.string q.method, .string tg, .string q.path, .string qu, .string q.host, .slice A q.heads.length cap, bd]) :
    Calls Tryz.prog 49 #[.agg #[c0, c1, c2], .pointer (some ⟨b1, 0, none⟩), .pointer (some ⟨b2, 0, none⟩), .pointer (some ⟨b3, 0, none⟩)] w fun e w' => e = .returned (.bool (matchP a port q r)) ∧ Lo w w' := by
  have h0 := ha 0 _ rfl
  have h1 := ha 1 _ rfl
  have h2 := ha 2 _ rfl
  have p0 := hp 0 _ rfl
  have g0 := hq 0 _ rfl
  have g1 := hq 1 _ rfl
  have g2 := hq 2 _ rfl
  have g3 := hq 3 _ rfl
  have g4 := hq 4 _ rfl
  have g5 := hq 5 _ rfl
  have g6 := hq 6 _ rfl
  have hlt1 := ha.lt
  have hlt2 := hp.lt
  have hlt3 := hq.lt
  have HS : Hid (∀ W, Lo w W → Calls Tryz.prog 50 #[.agg #[c0, c1, c2], .agg #[.string a.ns, .string a.sa, .int .u32 a.addr], .int .i64 port, .agg #[.string q.method, .string tg, .string q.path, .string qu, .string q.host, .slice A q.heads.length cap, bd]] W fun e w' => e = .returned (.bool (matchP a port q r)) ∧ Lo W w') :=
    Lib.hid fun W hW => matches_ r a port q A cap tg qu bd c0 c1 c2 W (Nat.le_trans hB hW.size) (RuleR.kept _ _ _ _ _ _ hr (hW.cells hB) (Nat.le_refl _)) (hf.lo hW hB)
  obtain ⟨_, _, _, he3, ⟨S0, k0, f0, -⟩, ⟨S1, k1, f1, -⟩, ⟨S2, k2, f2, -⟩⟩ := hr
  injection he3 with q0 he3; injection he3 with q1 he3; injection he3 with q2 he3
  subst q0 q1 q2
  injection f0 with f0; injection f1 with f1; injection f2 with f2
  subst f0 f1 f2
  clear hf ha hp hq
  go_enter Tryz.func49, Tryz.ntmps49
  go_wp2_with (go_at_call 50; refine (HS.out _ ?_).mono ?_; (exact (by repeat (first | exact Lo.refl _ | assumption | refine Lo.drew ?_ | refine Lo.alloc ?_ _ | refine Lo.setCell ?_ (by first | (dsimp only; omega) | (simp; omega) | (simp; done)) _ | refine Lo.trans ?_ (by assumption)))); rintro e w1 ⟨rfl, hb⟩)
  go_ret
  exact ⟨rfl, (by repeat (first | exact Lo.refl _ | assumption | refine Lo.drew ?_ | refine Lo.alloc ?_ _ | refine Lo.setCell ?_ (by first | (dsimp only; omega) | (simp; omega) | (simp; done)) _ | refine Lo.trans ?_ (by assumption)))⟩
theorem enters_judge1 : Enters Tryz.prog 49 := enters_of Tryz.func49 (by kernel_rfl) rfl

set_option maxRecDepth 100000 in
set_option maxHeartbeats 4000000 in
theorem judge (l : List Pl.Policy) (A0 : Option Addr) (cap0 : Nat) (a : Pl.Asker) (port : Int) (q : Pl.Req) (A : Option Addr) (cap : Nat) (tg qu : ByteArray) (bd : Value) {B : Nat} (w : World) (hB : B ≤ w.heap.size) (hA : SliceAt PolicyR 5 B w A0 l) (hn : l.length ≤ maxLen) (hf : Fits B w a q A) :
    Calls Tryz.prog 25 #[.slice A0 l.length cap0, .agg #[.string a.ns, .string a.sa, .int .u32 a.addr], .int .i64 port, .agg #[.string q.method, .string tg, .string q.path, .string qu, .string q.host, .slice A q.heads.length cap, bd]] w fun e w' => e = .returned (judgeV (matchP a port q) l) ∧ Lo w w' := by
  have HC : ∀ (d : Bool) (W : World) (b1 b2 b3 : Nat), Lo w W → BoxAt W b1 [.string a.ns, .string a.sa, .int .u32 a.addr] → BoxAt W b2 [.int .i64 port] → BoxAt W b3 [.string q.method, .string tg, .string q.path, .string qu, .string q.host, .slice A q.heads.length cap, bd] →
      Calls Tryz.prog 51 #[.slice A0 l.length cap0, .int .i64 (if d then 1 else 0), .func (.func 49) #[] #[.pointer (some ⟨b1, 0, none⟩), .pointer (some ⟨b2, 0, none⟩), .pointer (some ⟨b3, 0, none⟩)]] W fun e w' => e = .returned (firstV (matchP a port q) d l) ∧ Lo W w' := fun d W b1 b2 b3 hW g1 g2 g3 => by
    refine first d (matchP a port q) l A0 cap0 _ _ W (Nat.le_trans hB hW.size) (SliceAt.lo PolicyR.kept hA hW hB) hn enters_judge1 ?_
    intro W' x c0 c1 c2 hlo hr
    exact judge1 x a port q A cap tg qu bd c0 c1 c2 b1 b2 b3 W' (Nat.le_trans hB (hW.trans hlo).size) hr (hf.lo (hW.trans hlo) hB) (g1.lo hlo) (g2.lo hlo) (g3.lo hlo)
  have HT := Lib.hid (HC true)
  have HF := Lib.hid (HC false)
  clear HC hA hf
  have HJ : Hid (judgeV (matchP a port q) l = _) := Lib.hid rfl
  unfold judgeV Pl.judgeP at HJ
  generalize matchP a port q = M at *
  generalize q.heads.length = n3 at *
  cases hT : Pl.firstP M true l with
  | some p =>
    have hv : firstV M true l = .tuple #[.int .u64 p.id, .bool true, .bool true] := by unfold firstV; rw [hT]
    have HV := Lib.hid hv
    have hr : judgeV M l = .tuple #[.bool false, .int .u64 p.id] := by unfold judgeV Pl.judgeP; rw [hT]
    rw [hr]
    clear hv hr hT HJ
    generalize l.length = n at *
    go_enter Tryz.func25, Tryz.ntmps25
    go_wp2_with fail
    refine (HT.out _ _ _ _ ?_ (BoxAt.old (BoxAt.old (BoxAt.new _ _ _) _) _) (BoxAt.old (BoxAt.newAt _ _ (by simp)) _) (BoxAt.newAt _ _ (by simp))).mono ?_
    · exact (by repeat (first | exact Lo.refl _ | assumption | refine Lo.drew ?_ | refine Lo.alloc ?_ _ | refine Lo.setCell ?_ (by first | (dsimp only; omega) | (simp; omega) | (simp; done)) _ | refine Lo.trans ?_ (by assumption)))
    rw [HV.out]
    rintro e w1 ⟨rfl, hb⟩
    go_wp2
    go_ret2
    exact ⟨rfl, (by repeat (first | exact Lo.refl _ | assumption | refine Lo.drew ?_ | refine Lo.alloc ?_ _ | refine Lo.setCell ?_ (by first | (dsimp only; omega) | (simp; omega) | (simp; done)) _ | refine Lo.trans ?_ (by assumption)))⟩
  | none =>
    have hv : firstV M true l = .tuple #[.int .u64 0, .bool false, .bool (Pl.someP true l)] := by unfold firstV; rw [hT]
    have HV := Lib.hid hv
    clear hv
    generalize Pl.someP true l = s0 at *
    cases hF : Pl.firstP M false l with
    | some p =>
      have hv : firstV M false l = .tuple #[.int .u64 p.id, .bool true, .bool true] := by unfold firstV; rw [hF]
      have HV2 := Lib.hid hv
      have hr : judgeV M l = .tuple #[.bool true, .int .u64 p.id] := by unfold judgeV Pl.judgeP; rw [hT, hF]
      rw [hr]
      clear hv hr hT hF HJ
      generalize l.length = n at *
      go_enter Tryz.func25, Tryz.ntmps25
      go_wp2_with fail
      refine (HT.out _ _ _ _ ?_ (BoxAt.old (BoxAt.old (BoxAt.new _ _ _) _) _) (BoxAt.old (BoxAt.newAt _ _ (by simp)) _) (BoxAt.newAt _ _ (by simp))).mono ?_
      · exact (by repeat (first | exact Lo.refl _ | assumption | refine Lo.drew ?_ | refine Lo.alloc ?_ _ | refine Lo.setCell ?_ (by first | (dsimp only; omega) | (simp; omega) | (simp; done)) _ | refine Lo.trans ?_ (by assumption)))
      rw [HV.out]
      rintro e w1 ⟨rfl, hb⟩
      go_wp2_with fail
      refine (HF.out _ _ _ _ ?_ ((BoxAt.old (BoxAt.old (BoxAt.new _ _ _) _) _).lo hb) ((BoxAt.old (BoxAt.newAt _ _ (by simp)) _).lo hb) ((BoxAt.newAt _ _ (by simp)).lo hb)).mono ?_
      · exact (by repeat (first | exact Lo.refl _ | assumption | refine Lo.drew ?_ | refine Lo.alloc ?_ _ | refine Lo.setCell ?_ (by first | (dsimp only; omega) | (simp; omega) | (simp; done)) _ | refine Lo.trans ?_ (by assumption)))
      rw [HV2.out]
      rintro e w2 ⟨rfl, hb2⟩
      go_wp2
      go_ret2
      exact ⟨rfl, (by repeat (first | exact Lo.refl _ | assumption | refine Lo.drew ?_ | refine Lo.alloc ?_ _ | refine Lo.setCell ?_ (by first | (dsimp only; omega) | (simp; omega) | (simp; done)) _ | refine Lo.trans ?_ (by assumption)))⟩
    | none =>
      have hv : firstV M false l = .tuple #[.int .u64 0, .bool false, .bool (Pl.someP false l)] := by unfold firstV; rw [hF]
      have HV2 := Lib.hid hv
      have hr : judgeV M l = .tuple #[.bool (!Pl.someP false l), .int .u64 0] := by unfold judgeV Pl.judgeP; rw [hT, hF]
      rw [hr]
      clear hv hr hT hF HJ
      generalize Pl.someP false l = s1 at *
      generalize l.length = n at *
      cases s1
      all_goals
        go_enter Tryz.func25, Tryz.ntmps25
        go_wp2_with fail
        refine (HT.out _ _ _ _ ?_ (BoxAt.old (BoxAt.old (BoxAt.new _ _ _) _) _) (BoxAt.old (BoxAt.newAt _ _ (by simp)) _) (BoxAt.newAt _ _ (by simp))).mono ?_
        · exact (by repeat (first | exact Lo.refl _ | assumption | refine Lo.drew ?_ | refine Lo.alloc ?_ _ | refine Lo.setCell ?_ (by first | (dsimp only; omega) | (simp; omega) | (simp; done)) _ | refine Lo.trans ?_ (by assumption)))
        rw [HV.out]
        rintro e w1 ⟨rfl, hb⟩
        go_wp2_with fail
        refine (HF.out _ _ _ _ ?_ ((BoxAt.old (BoxAt.old (BoxAt.new _ _ _) _) _).lo hb) ((BoxAt.old (BoxAt.newAt _ _ (by simp)) _).lo hb) ((BoxAt.newAt _ _ (by simp)).lo hb)).mono ?_
        · exact (by repeat (first | exact Lo.refl _ | assumption | refine Lo.drew ?_ | refine Lo.alloc ?_ _ | refine Lo.setCell ?_ (by first | (dsimp only; omega) | (simp; omega) | (simp; done)) _ | refine Lo.trans ?_ (by assumption)))
        rw [HV2.out]
        rintro e w2 ⟨rfl, hb2⟩
        go_wp2
        go_ret2
        exact ⟨rfl, (by repeat (first | exact Lo.refl _ | assumption | refine Lo.drew ?_ | refine Lo.alloc ?_ _ | refine Lo.setCell ?_ (by first | (dsimp only; omega) | (simp; omega) | (simp; done)) _ | refine Lo.trans ?_ (by assumption)))⟩
end Go.Proofs.YtlcecabfmemfeaaGreat.WAuth
