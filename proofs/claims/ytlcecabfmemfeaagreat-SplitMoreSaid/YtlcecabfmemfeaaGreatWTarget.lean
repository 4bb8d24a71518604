/- The walks of auth.Target. -/
import Derived.Test.YtlcecabfmemfeaaGreatWSource
namespace Go.Proofs.YtlcecabfmemfeaaGreat.Pl
set_option linter.unusedVariables false
set_option linter.unusedSimpArgs false
/-- what of a request is looked at -/
structure Req where
  method : ByteArray
  path : ByteArray
  host : ByteArray
  heads : List Head
end Go.Proofs.YtlcecabfmemfeaaGreat.Pl
namespace Go.Proofs.YtlcecabfmemfeaaGreat.WAuth
set_option linter.unusedVariables false
set_option linter.unusedSimpArgs false
open Go.RowKit Mem BigFrame WMatch WAddr WName Opn

def tgtP (port : Int) (q : Pl.Req) (t : Pl.Target) : Bool := (t.ports.isEmpty || t.ports.any fun n => n == port) && letsT q.method t.methods && letsT q.path t.paths && letsT q.host t.hosts

theorem target1 (n p : Int) (b : Nat) (w : World) (hc : w.cell? ⟨b, 0, none⟩ = some (.int .i64 p)) (hb : b < w.heap.size) :
    Calls Tryz.prog 96 #[.int .i64 n, .pointer (some ⟨b, 0, none⟩)] w fun e w' => e = .returned (.bool (n == p)) ∧ Lo w w' := by
  go_enter Tryz.func96, Tryz.ntmps96
  go_wp2
  go_ret
  exact ⟨rfl, (by repeat (first | exact Lo.refl _ | assumption | refine Lo.drew ?_ | refine Lo.alloc ?_ _ | refine Lo.setCell ?_ (by first | (dsimp only; omega) | (simp; omega) | (simp; done)) _ | refine Lo.trans ?_ (by assumption)))⟩
theorem enters_target1 : Enters Tryz.prog 96 := enters_of Tryz.func96 (by kernel_rfl) rfl

/-- a request as a value: seven cells -/
def reqV (m t p q h hd bd : Value) : Value := .agg #[m, t, p, q, h, hd, bd]
set_option maxRecDepth 100000 in
set_option maxHeartbeats 1600000 in
theorem target (t : Pl.Target) (port : Int) (q : Pl.Req) (c0 c1 c2 c3 : Value) (tg qu : ByteArray) (hd bd : Value) {B : Nat} (w : World) (hB : B ≤ w.heap.size) (ht : TargetR B w t [c0, c1, c2, c3]) (zm : q.method.size ≤ maxLen) (zp : q.path.size ≤ maxLen) (zh : q.host.size ≤ maxLen) :
    Calls Tryz.prog 69 #[.agg #[c0, c1, c2, c3], .int .i64 port, .agg #[.string q.method, .string tg, .string q.path, .string qu, .string q.host, hd, bd]] w fun e w' => e = .returned (.bool (tgtP port q t)) ∧ Lo w w' := by
  obtain ⟨d0, d1, d2, d3, he, ⟨A0, p0, e0, h0, l0, m0⟩, ⟨A1, p1, e1, h1, l1, m1⟩, ⟨A2, p2, e2, h2, l2, m2⟩, ⟨A3, p3, e3, h3, l3, m3⟩⟩ := ht
  injection he with q0 he; injection he with q1 he; injection he with q2 he; injection he with q3 he
  subst q0 q1 q2 q3
  injection e0 with e0; injection e1 with e1; injection e2 with e2; injection e3 with e3
  subst e0 e1 e2 e3
  have C0 : ∀ (W : World) (b : Nat), Lo w W → W.cell? ⟨b, 0, none⟩ = some (.int .i64 port) → Calls Tryz.prog 95 #[.slice A0 t.ports.length p0, .func (.func 96) #[] #[.pointer (some ⟨b, 0, none⟩)]] W fun e w' => e = .returned (.bool (t.ports.isEmpty || t.ports.any fun n => n == port)) ∧ Lo W w' := fun W b hW hc => by
    refine letsInt (IntC.kept .i64) p0 W (Nat.le_trans hB hW.size) (SliceAt.lo (IntC.kept .i64) h0 hW hB) (Nat.le_trans l0 m0) enters_target1 ?_
    intro W' x c0 hx hlo hr
    obtain ⟨ea, _⟩ := hr
    injection ea with ea; subst ea
    exact target1 x port b W' (lo_keep hlo hc) (World.block_lt_of_cell? W' _ (lo_keep hlo hc))
  have C1 : ∀ W, Lo w W → Calls Tryz.prog 91 #[.string q.method, .slice A1 t.methods.length p1] W fun e w' => e = .returned (.bool (letsT q.method t.methods)) ∧ Lo W w' := fun W hW =>
    lets _ A1 p1 _ W (Nat.le_trans hB hW.size) (SliceAt.lo TermR.kept h1 hW hB) zm (Nat.le_trans l1 m1)
  have C2 : ∀ W, Lo w W → Calls Tryz.prog 91 #[.string q.path, .slice A2 t.paths.length p2] W fun e w' => e = .returned (.bool (letsT q.path t.paths)) ∧ Lo W w' := fun W hW =>
    lets _ A2 p2 _ W (Nat.le_trans hB hW.size) (SliceAt.lo TermR.kept h2 hW hB) zp (Nat.le_trans l2 m2)
  have C3 : ∀ W, Lo w W → Calls Tryz.prog 91 #[.string q.host, .slice A3 t.hosts.length p3] W fun e w' => e = .returned (.bool (letsT q.host t.hosts)) ∧ Lo W w' := fun W hW =>
    lets _ A3 p3 _ W (Nat.le_trans hB hW.size) (SliceAt.lo TermR.kept h3 hW hB) zh (Nat.le_trans l3 m3)
  unfold tgtP
  generalize (t.ports.isEmpty || t.ports.any fun n => n == port) = x at *
  generalize letsT q.method t.methods = y at *
  generalize letsT q.path t.paths = z at *
  generalize letsT q.host t.hosts = u at *
  have H0 := Lib.hid C0
  have H1 := Lib.hid C1
  have H2 := Lib.hid C2
  have H3 := Lib.hid C3
  clear C0 C1 C2 C3 h0 h1 h2 h3
  generalize t.ports.length = n0 at *
  generalize t.methods.length = n1 at *
  generalize t.paths.length = n2 at *
  generalize t.hosts.length = n3 at *
  cases x <;> cases y <;> cases z
  all_goals
    go_enter Tryz.func69, Tryz.ntmps69
    go_wp2_with (first
      | (go_at_call 91; first
          | ((with_reducible refine (H1.out _ ?_).mono ?_); (exact (by repeat (first | exact Lo.refl _ | assumption | refine Lo.drew ?_ | refine Lo.alloc ?_ _ | refine Lo.setCell ?_ (by first | (dsimp only; omega) | (simp; omega) | (simp; done)) _ | refine Lo.trans ?_ (by assumption)))); rintro e w2 ⟨rfl, hb⟩; obtain ⟨hc, hf, hz⟩ := hb.facts; have hz0 := hz w.heap.size (by first | assumption | (simp; done) | (simp; omega)); have hq0 := fun o => hc w.heap.size o (by first | assumption | (simp; done) | (simp; omega)); have hz1 := hz (w.heap.size + 1) (by first | assumption | (simp; done) | (simp; omega)); have hq1 := fun o => hc (w.heap.size + 1) o (by first | assumption | (simp; done) | (simp; omega)); have hz2 := hz (w.heap.size + 2) (by first | assumption | (simp; done) | (simp; omega)); have hq2 := fun o => hc (w.heap.size + 2) o (by first | assumption | (simp; done) | (simp; omega)))
          | ((with_reducible refine (H2.out _ ?_).mono ?_); (exact (by repeat (first | exact Lo.refl _ | assumption | refine Lo.drew ?_ | refine Lo.alloc ?_ _ | refine Lo.setCell ?_ (by first | (dsimp only; omega) | (simp; omega) | (simp; done)) _ | refine Lo.trans ?_ (by assumption)))); rintro e w2 ⟨rfl, hb⟩; obtain ⟨hc, hf, hz⟩ := hb.facts; have hz0 := hz w.heap.size (by first | assumption | (simp; done) | (simp; omega)); have hq0 := fun o => hc w.heap.size o (by first | assumption | (simp; done) | (simp; omega)); have hz1 := hz (w.heap.size + 1) (by first | assumption | (simp; done) | (simp; omega)); have hq1 := fun o => hc (w.heap.size + 1) o (by first | assumption | (simp; done) | (simp; omega)); have hz2 := hz (w.heap.size + 2) (by first | assumption | (simp; done) | (simp; omega)); have hq2 := fun o => hc (w.heap.size + 2) o (by first | assumption | (simp; done) | (simp; omega)))
          | ((with_reducible refine (H3.out _ ?_).mono ?_); (exact (by repeat (first | exact Lo.refl _ | assumption | refine Lo.drew ?_ | refine Lo.alloc ?_ _ | refine Lo.setCell ?_ (by first | (dsimp only; omega) | (simp; omega) | (simp; done)) _ | refine Lo.trans ?_ (by assumption)))); rintro e w2 ⟨rfl, hb⟩; obtain ⟨hc, hf, hz⟩ := hb.facts; have hz0 := hz w.heap.size (by first | assumption | (simp; done) | (simp; omega)); have hq0 := fun o => hc w.heap.size o (by first | assumption | (simp; done) | (simp; omega)); have hz1 := hz (w.heap.size + 1) (by first | assumption | (simp; done) | (simp; omega)); have hq1 := fun o => hc (w.heap.size + 1) o (by first | assumption | (simp; done) | (simp; omega)); have hz2 := hz (w.heap.size + 2) (by first | assumption | (simp; done) | (simp; omega)); have hq2 := fun o => hc (w.heap.size + 2) o (by first | assumption | (simp; done) | (simp; omega))))
      | (go_at_call 95; refine (H0.out _ _ ?_ ?_).mono ?_; (exact (by repeat (first | exact Lo.refl _ | assumption | refine Lo.drew ?_ | refine Lo.alloc ?_ _ | refine Lo.setCell ?_ (by first | (dsimp only; omega) | (simp; omega) | (simp; done)) _ | refine Lo.trans ?_ (by assumption)))); (first | (simp; done) | exact lo_keep ((Lo.refl _).alloc _) (by simp) | (simp [go_sem]; done)); rintro e w3 ⟨rfl, hb⟩; obtain ⟨hc, hf, hz⟩ := hb.facts; have hz0 := hz w.heap.size (by first | assumption | (simp; done) | (simp; omega)); have hq0 := fun o => hc w.heap.size o (by first | assumption | (simp; done) | (simp; omega)); have hz1 := hz (w.heap.size + 1) (by first | assumption | (simp; done) | (simp; omega)); have hq1 := fun o => hc (w.heap.size + 1) o (by first | assumption | (simp; done) | (simp; omega)); have hz2 := hz (w.heap.size + 2) (by first | assumption | (simp; done) | (simp; omega)); have hq2 := fun o => hc (w.heap.size + 2) o (by first | assumption | (simp; done) | (simp; omega))))
    go_ret
    exact ⟨ret_bool (by simp), (by repeat (first | exact Lo.refl _ | assumption | refine Lo.drew ?_ | refine Lo.alloc ?_ _ | refine Lo.setCell ?_ (by first | (dsimp only; omega) | (simp; omega) | (simp; done)) _ | refine Lo.trans ?_ (by assumption)))⟩
end Go.Proofs.YtlcecabfmemfeaaGreat.WAuth
