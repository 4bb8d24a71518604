/- The walks of auth.Source. -/
import Derived.Test.YtlcecabfmemfeaaGreatWLets
namespace Go.Proofs.YtlcecabfmemfeaaGreat.Pl
set_option linter.unusedVariables false
set_option linter.unusedSimpArgs false
structure Asker where
  ns : ByteArray
  sa : ByteArray
  addr : Int
end Go.Proofs.YtlcecabfmemfeaaGreat.Pl
namespace Go.Proofs.YtlcecabfmemfeaaGreat.WAuth
set_option linter.unusedVariables false
set_option linter.unusedSimpArgs false
open Go.RowKit Mem BigFrame WMatch WAddr WName Opn

/-- an asker as a value -/
def askV (a : Pl.Asker) : Value := .agg #[.string a.ns, .string a.sa, .int .u32 a.addr]
def srcP (a : Pl.Asker) (s : Pl.Source) : Bool := letsT (nameText a.ns a.sa) s.names && letsT a.ns s.spaces && (s.nets.isEmpty || s.nets.any fun c => inC c a.addr)

theorem source1 (c : Pl.Cidr) (x : Int) (b : Nat) (w : World) (hc : w.cell? ⟨b, 2, none⟩ = some (.int .u32 x)) (hb : b < w.heap.size) :
    Calls Tryz.prog 93 #[.agg #[.int .u32 c.addr, .int .i64 c.bits], .pointer (some ⟨b, 0, none⟩)] w fun e w' => e = .returned (.bool (inC c x)) ∧ Lo w w' := by
  go_enter Tryz.func93, Tryz.ntmps93
  go_wp2_with (go_at_call 94; refine (inA c _ _).mono ?_; rintro e w1 ⟨rfl, hb⟩)
  go_ret
  exact ⟨rfl, (by repeat (first | exact Lo.refl _ | assumption | refine Lo.drew ?_ | refine Lo.alloc ?_ _ | refine Lo.setCell ?_ (by first | (dsimp only; omega) | (simp; omega) | (simp; done)) _ | refine Lo.trans ?_ (by assumption)))⟩
theorem enters_source1 : Enters Tryz.prog 93 := enters_of Tryz.func93 (by kernel_rfl) rfl

set_option maxRecDepth 100000 in
set_option maxHeartbeats 1600000 in
theorem source (s : Pl.Source) (a : Pl.Asker) (c0 c1 c2 : Value) {B : Nat} (w : World) (hB : B ≤ w.heap.size) (hs : SourceR B w s [c0, c1, c2]) (zn : a.ns.size ≤ maxLen) (za : a.sa.size ≤ maxLen) :
    Calls Tryz.prog 66 #[.agg #[c0, c1, c2], askV a] w fun e w' => e = .returned (.bool (srcP a s)) ∧ Lo w w' := by
  obtain ⟨d0, d1, d2, he, ⟨A0, p0, e0, h0, l0, m0⟩, ⟨A1, p1, e1, h1, l1, m1⟩, ⟨A2, p2, e2, h2, l2, m2⟩⟩ := hs
  injection he with q0 he; injection he with q1 he; injection he with q2 he
  subst q0 q1 q2
  injection e0 with e0; injection e1 with e1; injection e2 with e2
  subst e0 e1 e2
  obtain ⟨nt, hnt⟩ : ∃ nt, nameText a.ns a.sa = nt := ⟨_, rfl⟩
  have znt : nt.size ≤ maxLen := by have := nameText_len a.ns a.sa; rw [hnt] at this; unfold maxLen; omega
  have C0 : ∀ W, Lo w W → Calls Tryz.prog 91 #[.string nt, .slice A0 s.names.length p0] W fun e w' => e = .returned (.bool (letsT nt s.names)) ∧ Lo W w' := fun W hW =>
    lets nt A0 p0 s.names W (Nat.le_trans hB hW.size) (SliceAt.lo TermR.kept h0 hW hB) znt (Nat.le_trans l0 m0)
  have C1 : ∀ W, Lo w W → Calls Tryz.prog 91 #[.string a.ns, .slice A1 s.spaces.length p1] W fun e w' => e = .returned (.bool (letsT a.ns s.spaces)) ∧ Lo W w' := fun W hW =>
    lets a.ns A1 p1 s.spaces W (Nat.le_trans hB hW.size) (SliceAt.lo TermR.kept h1 hW hB) zn (Nat.le_trans l1 m1)
  have C2 : ∀ (W : World) (b : Nat), Lo w W → W.cell? ⟨b, 2, none⟩ = some (.int .u32 a.addr) → Calls Tryz.prog 92 #[.slice A2 s.nets.length p2, .func (.func 93) #[] #[.pointer (some ⟨b, 0, none⟩)]] W fun e w' => e = .returned (.bool (s.nets.isEmpty || s.nets.any fun c => inC c a.addr)) ∧ Lo W w' := fun W b hW hc => by
    refine letsCidr CidrR.kept p2 W (Nat.le_trans hB hW.size) (SliceAt.lo CidrR.kept h2 hW hB) (Nat.le_trans l2 m2) enters_source1 ?_
    intro W' x c0 c1 hx hlo hr
    obtain ⟨d0, d1, he, ⟨ea, _⟩, ⟨eb, _⟩⟩ := hr
    injection he with q0 he; injection he with q1 he; subst q0 q1
    injection ea with ea; injection eb with eb; subst ea eb
    exact source1 x a.addr b W' (lo_keep hlo hc) (World.block_lt_of_cell? W' _ (lo_keep hlo hc))
  have C3 : ∀ W, Calls Tryz.prog 90 #[.agg #[.string a.ns, .string a.sa]] W fun e w' => e = .returned (.tuple #[.string nt, .int .i64 (if mayN a.ns a.sa then 0 else 1)]) ∧ Lo W w' := fun W => by rw [← hnt]; exact printName _ _ _ zn za
  have hv : srcP a s = (letsT nt s.names && letsT a.ns s.spaces && (s.nets.isEmpty || s.nets.any fun c => inC c a.addr)) := by unfold srcP; rw [hnt]
  rw [hv]
  unfold askV
  generalize letsT nt s.names = x at *
  generalize letsT a.ns s.spaces = y at *
  generalize (s.nets.isEmpty || s.nets.any fun c => inC c a.addr) = z at *
  generalize (if mayN a.ns a.sa then (0 : Int) else 1) = er at *
  have H0 := Lib.hid C0
  have H1 := Lib.hid C1
  have H2 := Lib.hid C2
  have H3 := Lib.hid C3
  clear C0 C1 C2 C3 hv hnt h0 h1 h2
  generalize s.names.length = n0 at *
  generalize s.spaces.length = n1 at *
  generalize s.nets.length = n2 at *
  cases x <;> cases y
  all_goals
    go_enter Tryz.func66, Tryz.ntmps66
    go_wp2_with (first
      | (go_at_call 90; refine (H3.out _).mono ?_; rintro e w1 ⟨rfl, hb⟩; obtain ⟨hc, hf, hz⟩ := hb.facts; have hz0 := hz w.heap.size (by first | assumption | (simp; done) | (simp; omega)); have hq0 := fun o => hc w.heap.size o (by first | assumption | (simp; done) | (simp; omega)); have hz1 := hz (w.heap.size + 1) (by first | assumption | (simp; done) | (simp; omega)); have hq1 := fun o => hc (w.heap.size + 1) o (by first | assumption | (simp; done) | (simp; omega)); (have g2 : w1.cell? ⟨w.heap.size + 1, 2, none⟩ = some (.int .u32 a.addr) := (hq1 2).trans (by simp)))
      | (go_at_call 91; first
          | ((with_reducible refine (H0.out _ ?_).mono ?_); (exact (by repeat (first | exact Lo.refl _ | assumption | refine Lo.drew ?_ | refine Lo.alloc ?_ _ | refine Lo.setCell ?_ (by first | (dsimp only; omega) | (simp; omega) | (simp; done)) _ | refine Lo.trans ?_ (by assumption)))); rintro e w2 ⟨rfl, hb⟩; obtain ⟨hc, hf, hz⟩ := hb.facts; have hz0 := hz w.heap.size (by first | assumption | (simp; done) | (simp; omega)); have hq0 := fun o => hc w.heap.size o (by first | assumption | (simp; done) | (simp; omega)); have hz1 := hz (w.heap.size + 1) (by first | assumption | (simp; done) | (simp; omega)); have hq1 := fun o => hc (w.heap.size + 1) o (by first | assumption | (simp; done) | (simp; omega)); (have g2 := lo_keep hb g2))
          | ((with_reducible refine (H1.out _ ?_).mono ?_); (exact (by repeat (first | exact Lo.refl _ | assumption | refine Lo.drew ?_ | refine Lo.alloc ?_ _ | refine Lo.setCell ?_ (by first | (dsimp only; omega) | (simp; omega) | (simp; done)) _ | refine Lo.trans ?_ (by assumption)))); rintro e w2 ⟨rfl, hb⟩; obtain ⟨hc, hf, hz⟩ := hb.facts; have hz0 := hz w.heap.size (by first | assumption | (simp; done) | (simp; omega)); have hq0 := fun o => hc w.heap.size o (by first | assumption | (simp; done) | (simp; omega)); have hz1 := hz (w.heap.size + 1) (by first | assumption | (simp; done) | (simp; omega)); have hq1 := fun o => hc (w.heap.size + 1) o (by first | assumption | (simp; done) | (simp; omega)); (have g2 := lo_keep hb g2)))
      | (go_at_call 92; refine (H2.out _ _ ?_ ?_).mono ?_; (exact (by repeat (first | exact Lo.refl _ | assumption | refine Lo.drew ?_ | refine Lo.alloc ?_ _ | refine Lo.setCell ?_ (by first | (dsimp only; omega) | (simp; omega) | (simp; done)) _ | refine Lo.trans ?_ (by assumption)))); (exact g2); rintro e w3 ⟨rfl, hb⟩))
    go_ret
    exact ⟨ret_bool (by simp), (by repeat (first | exact Lo.refl _ | assumption | refine Lo.drew ?_ | refine Lo.alloc ?_ _ | refine Lo.setCell ?_ (by first | (dsimp only; omega) | (simp; omega) | (simp; done)) _ | refine Lo.trans ?_ (by assumption)))⟩
end Go.Proofs.YtlcecabfmemfeaaGreat.WAuth
