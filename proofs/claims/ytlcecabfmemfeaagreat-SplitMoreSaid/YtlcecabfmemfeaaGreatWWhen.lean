/- The walks of auth.When. -/
import Derived.Test.YtlcecabfmemfeaaGreatWAll
namespace Go.Proofs.YtlcecabfmemfeaaGreat.WAuth
set_option linter.unusedVariables false
set_option linter.unusedSimpArgs false
open Go.RowKit Mem BigFrame WMatch WAddr WName Opn

def whenP (hs : List Pl.Head) (x : Pl.When) : Bool := (valsOf x.head hs).any fun v => anyT v x.terms

theorem when1 (v : ByteArray) (ts : List Pl.Term) (A : Option Addr) (cap b : Nat) {B : Nat} (w : World) (hB : B ≤ w.heap.size) (hA : Terms B w A ts) (hc : w.cell? ⟨b, 1, none⟩ = some (.slice A ts.length cap)) (zv : v.size ≤ maxLen) (hn : ts.length ≤ maxLen) :
    Calls Tryz.prog 101 #[.string v, .pointer (some ⟨b, 0, none⟩)] w fun e w' => e = .returned (.bool (anyT v ts)) ∧ Lo w w' := by
  have H := Lib.hid (any v A cap ts w hB hA zv hn)
  clear hA
  go_enter Tryz.func101, Tryz.ntmps101
  go_wp2_with (go_at_call 102; refine (H.out).mono ?_; rintro e w1 ⟨rfl, hb⟩)
  go_ret
  exact ⟨rfl, (by repeat (first | exact Lo.refl _ | assumption | refine Lo.drew ?_ | refine Lo.alloc ?_ _ | refine Lo.setCell ?_ (by first | (dsimp only; omega) | (simp; omega) | (simp; done)) _ | refine Lo.trans ?_ (by assumption)))⟩
theorem enters_when1 : Enters Tryz.prog 101 := enters_of Tryz.func101 (by kernel_rfl) rfl

set_option maxRecDepth 100000 in
set_option maxHeartbeats 1600000 in
theorem when_ (x : Pl.When) (hs : List Pl.Head) (A : Option Addr) (cap : Nat) (c0 c1 m t p q h bd : Value) {B : Nat} (w : World) (hB : B ≤ w.heap.size) (hx : WhenR B w x [c0, c1]) (hA : SliceAt HeadR 2 B w A hs) (h100 : hs.length ≤ 1000) :
    Calls Tryz.prog 72 #[.agg #[c0, c1], .agg #[m, t, p, q, h, .slice A hs.length cap, bd]] w fun e w' => e = .returned (.bool (whenP hs x)) ∧ Lo w w' := by
  obtain ⟨d0, d1, he, ⟨e0, z0⟩, ⟨A1, p1, e1, h1, l1, m1⟩⟩ := hx
  injection he with q0 he; injection he with q1 he
  subst q0 q1
  injection e0 with e0; injection e1 with e1
  subst e0 e1
  have C0 : ∀ W, Lo w W → Calls Tryz.prog 100 #[.string x.head, .slice A hs.length cap] W fun e w' => ∃ v, e = .returned v ∧ Lo W w' ∧ RowF (fun _ => True) StrC 9 1 W.heap.size w' v (valsOf x.head hs) := fun W hW =>
    all x.head A cap hs W (Nat.le_trans hB hW.size) (SliceAt.lo HeadR.kept hA hW hB) h100
  have C1 : ∀ (W : World) (v : Value) (b base : Nat), Lo w W → RowF (fun _ => True) StrC 9 1 base W v (valsOf x.head hs) → W.cell? ⟨b, 1, none⟩ = some (.slice A1 x.terms.length p1) →
      Calls Tryz.prog 99 #[v, .func (.func 101) #[] #[.pointer (some ⟨b, 0, none⟩)]] W fun e w' => e = .returned (.bool (whenP hs x)) ∧ Lo W w' := fun W v b base hW hv hc => by
    obtain ⟨A2, cap2, rfl, hA2, hl2, hm2⟩ := hv.at
    refine WIdxStr.containsFunc StrC.kept cap2 W (Nat.le_refl _) hA2 (Nat.le_trans hl2 hm2) enters_when1 ?_
    intro W' s c0 hs hlo hr
    obtain ⟨ea, zs⟩ := hr
    injection ea with ea; subst ea
    exact when1 s x.terms A1 p1 b W' (Nat.le_trans hB (hW.trans hlo).size) (SliceAt.lo TermR.kept h1 (hW.trans hlo) hB) (lo_keep hlo hc) zs (Nat.le_trans l1 m1)
  generalize whenP hs x = r at *
  have H0 := Lib.hid C0
  have H1 := Lib.hid C1
  clear C0 C1 h1 hA
  generalize x.terms.length = n1 at *
  generalize hs.length = n2 at *
  go_enter Tryz.func72, Tryz.ntmps72
  go_wp2_with (first
    | (go_at_call 100; refine (H0.out _ ?_).mono ?_; (exact (by repeat (first | exact Lo.refl _ | assumption | refine Lo.drew ?_ | refine Lo.alloc ?_ _ | refine Lo.setCell ?_ (by first | (dsimp only; omega) | (simp; omega) | (simp; done)) _ | refine Lo.trans ?_ (by assumption)))); rintro e w1 ⟨v, rfl, hb, hv⟩; obtain ⟨hc, hf, hz⟩ := hb.facts; have hz0 := hz w.heap.size (by first | assumption | (simp; done) | (simp; omega)); have hq0 := fun o => hc w.heap.size o (by first | assumption | (simp; done) | (simp; omega)); have hz1 := hz (w.heap.size + 1) (by first | assumption | (simp; done) | (simp; omega)); have hq1 := fun o => hc (w.heap.size + 1) o (by first | assumption | (simp; done) | (simp; omega)))
    | (go_at_call 99; refine (H1.out _ _ _ _ ?_ hv ?_).mono ?_; (exact (by repeat (first | exact Lo.refl _ | assumption | refine Lo.drew ?_ | refine Lo.alloc ?_ _ | refine Lo.setCell ?_ (by first | (dsimp only; omega) | (simp; omega) | (simp; done)) _ | refine Lo.trans ?_ (by assumption)))); (exact (hq0 1).trans (by simp)); rintro e w2 ⟨rfl, hb2⟩))
  go_ret
  exact ⟨rfl, (by repeat (first | exact Lo.refl _ | assumption | refine Lo.drew ?_ | refine Lo.alloc ?_ _ | refine Lo.setCell ?_ (by first | (dsimp only; omega) | (simp; omega) | (simp; done)) _ | refine Lo.trans ?_ (by assumption)))⟩
end Go.Proofs.YtlcecabfmemfeaaGreat.WAuth
