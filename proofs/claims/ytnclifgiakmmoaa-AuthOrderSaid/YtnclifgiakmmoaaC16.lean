/- Merged by bundles.py: WLets, WSource, WTarget, SimReq, WAll, WWhen. -/
import Derived.Test.YtnclifgiakmmoaaC14
import Derived.Test.YtnclifgiakmmoaaC15
import Derived.Test.YtnclifgiakmmoaaC1
/- The walks of auth.lets and auth.all, and of addr.In behind a function value. -/
namespace Go.Proofs.Ytnclifgiakmmoaa.WAuth
set_option linter.unusedVariables false
set_option linter.unusedSimpArgs false
open Go.RowKit Mem BigFrame

theorem letsSource {α : Type} {R : Rel α} (hR : Kept R) {B : Nat} {A : Option Addr} (cap : Nat) {xs : List α} {g : FuncId} {caps : Array Value} {p : α → Bool} (w : World) (hB : B ≤ w.heap.size) (hA : SliceAt R 3 B w A xs) (hn : xs.length ≤ maxLen) (eg : Go.Proofs.Enters Try.prog g) (hf : WIdxSource.Says R B w xs g caps p) :
    Calls Try.prog 19 #[.slice A xs.length cap, .func (.func g) #[] caps] w fun e w' => e = .returned (.bool (xs.isEmpty || xs.any p)) ∧ Lo w w' := by
  have HC := Lib.hid (WIdxSource.containsFunc hR cap w hB hA hn eg hf)
  unfold maxLen at hn
  cases xs with
  | nil =>
    go_enter Try.func19, Try.ntmps19
    go_wp2
    go_ret
    exact ⟨rfl, (by repeat (first | exact Lo.refl _ | assumption | refine Lo.drew ?_ | refine Lo.alloc ?_ _ | refine Lo.setCell ?_ (by first | (dsimp only; omega) | (simp; omega) | (simp; done)) _ | refine Lo.trans ?_ (by assumption)))⟩
  | cons t r =>
    have h0 : ((((t :: r).length : Nat) : Int) == 0) = false := by rw [beq_eq_false_iff_ne]; simp; omega
    obtain ⟨n, hN⟩ : ∃ n, (t :: r).length = n := ⟨_, rfl⟩
    rw [hN] at h0 HC hn ⊢
    clear hN hA
    go_enter Try.func19, Try.ntmps19
    go_wp2_with (go_at_call 28; refine (HC.out).mono ?_; rintro e w1 ⟨rfl, hb⟩)
    go_ret
    exact ⟨rfl, (by repeat (first | exact Lo.refl _ | assumption | refine Lo.drew ?_ | refine Lo.alloc ?_ _ | refine Lo.setCell ?_ (by first | (dsimp only; omega) | (simp; omega) | (simp; done)) _ | refine Lo.trans ?_ (by assumption)))⟩
theorem letsTarget {α : Type} {R : Rel α} (hR : Kept R) {B : Nat} {A : Option Addr} (cap : Nat) {xs : List α} {g : FuncId} {caps : Array Value} {p : α → Bool} (w : World) (hB : B ≤ w.heap.size) (hA : SliceAt R 4 B w A xs) (hn : xs.length ≤ maxLen) (eg : Go.Proofs.Enters Try.prog g) (hf : WIdxTarget.Says R B w xs g caps p) :
    Calls Try.prog 22 #[.slice A xs.length cap, .func (.func g) #[] caps] w fun e w' => e = .returned (.bool (xs.isEmpty || xs.any p)) ∧ Lo w w' := by
  have HC := Lib.hid (WIdxTarget.containsFunc hR cap w hB hA hn eg hf)
  unfold maxLen at hn
  cases xs with
  | nil =>
    go_enter Try.func22, Try.ntmps22
    go_wp2
    go_ret
    exact ⟨rfl, (by repeat (first | exact Lo.refl _ | assumption | refine Lo.drew ?_ | refine Lo.alloc ?_ _ | refine Lo.setCell ?_ (by first | (dsimp only; omega) | (simp; omega) | (simp; done)) _ | refine Lo.trans ?_ (by assumption)))⟩
  | cons t r =>
    have h0 : ((((t :: r).length : Nat) : Int) == 0) = false := by rw [beq_eq_false_iff_ne]; simp; omega
    obtain ⟨n, hN⟩ : ∃ n, (t :: r).length = n := ⟨_, rfl⟩
    rw [hN] at h0 HC hn ⊢
    clear hN hA
    go_enter Try.func22, Try.ntmps22
    go_wp2_with (go_at_call 34; refine (HC.out).mono ?_; rintro e w1 ⟨rfl, hb⟩)
    go_ret
    exact ⟨rfl, (by repeat (first | exact Lo.refl _ | assumption | refine Lo.drew ?_ | refine Lo.alloc ?_ _ | refine Lo.setCell ?_ (by first | (dsimp only; omega) | (simp; omega) | (simp; done)) _ | refine Lo.trans ?_ (by assumption)))⟩
theorem letsCidr {α : Type} {R : Rel α} (hR : Kept R) {B : Nat} {A : Option Addr} (cap : Nat) {xs : List α} {g : FuncId} {caps : Array Value} {p : α → Bool} (w : World) (hB : B ≤ w.heap.size) (hA : SliceAt R 2 B w A xs) (hn : xs.length ≤ maxLen) (eg : Go.Proofs.Enters Try.prog g) (hf : WIdxCidr.Says R B w xs g caps p) :
    Calls Try.prog 31 #[.slice A xs.length cap, .func (.func g) #[] caps] w fun e w' => e = .returned (.bool (xs.isEmpty || xs.any p)) ∧ Lo w w' := by
  have HC := Lib.hid (WIdxCidr.containsFunc hR cap w hB hA hn eg hf)
  unfold maxLen at hn
  cases xs with
  | nil =>
    go_enter Try.func31, Try.ntmps31
    go_wp2
    go_ret
    exact ⟨rfl, (by repeat (first | exact Lo.refl _ | assumption | refine Lo.drew ?_ | refine Lo.alloc ?_ _ | refine Lo.setCell ?_ (by first | (dsimp only; omega) | (simp; omega) | (simp; done)) _ | refine Lo.trans ?_ (by assumption)))⟩
  | cons t r =>
    have h0 : ((((t :: r).length : Nat) : Int) == 0) = false := by rw [beq_eq_false_iff_ne]; simp; omega
    obtain ⟨n, hN⟩ : ∃ n, (t :: r).length = n := ⟨_, rfl⟩
    rw [hN] at h0 HC hn ⊢
    clear hN hA
    go_enter Try.func31, Try.ntmps31
    go_wp2_with (go_at_call 45; refine (HC.out).mono ?_; rintro e w1 ⟨rfl, hb⟩)
    go_ret
    exact ⟨rfl, (by repeat (first | exact Lo.refl _ | assumption | refine Lo.drew ?_ | refine Lo.alloc ?_ _ | refine Lo.setCell ?_ (by first | (dsimp only; omega) | (simp; omega) | (simp; done)) _ | refine Lo.trans ?_ (by assumption)))⟩
theorem letsInt {α : Type} {R : Rel α} (hR : Kept R) {B : Nat} {A : Option Addr} (cap : Nat) {xs : List α} {g : FuncId} {caps : Array Value} {p : α → Bool} (w : World) (hB : B ≤ w.heap.size) (hA : SliceAt R 1 B w A xs) (hn : xs.length ≤ maxLen) (eg : Go.Proofs.Enters Try.prog g) (hf : WIdxInt.Says R B w xs g caps p) :
    Calls Try.prog 35 #[.slice A xs.length cap, .func (.func g) #[] caps] w fun e w' => e = .returned (.bool (xs.isEmpty || xs.any p)) ∧ Lo w w' := by
  have HC := Lib.hid (WIdxInt.containsFunc hR cap w hB hA hn eg hf)
  unfold maxLen at hn
  cases xs with
  | nil =>
    go_enter Try.func35, Try.ntmps35
    go_wp2
    go_ret
    exact ⟨rfl, (by repeat (first | exact Lo.refl _ | assumption | refine Lo.drew ?_ | refine Lo.alloc ?_ _ | refine Lo.setCell ?_ (by first | (dsimp only; omega) | (simp; omega) | (simp; done)) _ | refine Lo.trans ?_ (by assumption)))⟩
  | cons t r =>
    have h0 : ((((t :: r).length : Nat) : Int) == 0) = false := by rw [beq_eq_false_iff_ne]; simp; omega
    obtain ⟨n, hN⟩ : ∃ n, (t :: r).length = n := ⟨_, rfl⟩
    rw [hN] at h0 HC hn ⊢
    clear hN hA
    go_enter Try.func35, Try.ntmps35
    go_wp2_with (go_at_call 49; refine (HC.out).mono ?_; rintro e w1 ⟨rfl, hb⟩)
    go_ret
    exact ⟨rfl, (by repeat (first | exact Lo.refl _ | assumption | refine Lo.drew ?_ | refine Lo.alloc ?_ _ | refine Lo.setCell ?_ (by first | (dsimp only; omega) | (simp; omega) | (simp; done)) _ | refine Lo.trans ?_ (by assumption)))⟩
end Go.Proofs.Ytnclifgiakmmoaa.WAuth

/- The walks of auth.Source. -/
namespace Go.Proofs.Ytnclifgiakmmoaa.Pl
set_option linter.unusedVariables false
set_option linter.unusedSimpArgs false
structure Asker where
  ns : ByteArray
  sa : ByteArray
  addr : Int
end Go.Proofs.Ytnclifgiakmmoaa.Pl
namespace Go.Proofs.Ytnclifgiakmmoaa.WAuth
set_option linter.unusedVariables false
set_option linter.unusedSimpArgs false
open Go.RowKit Mem BigFrame WMatch WAddr WName Opn

/-- an asker as a value -/
def askV (a : Pl.Asker) : Value := .agg #[.string a.ns, .string a.sa, .int .u32 a.addr]
def srcP (a : Pl.Asker) (s : Pl.Source) : Bool := letsT (nameText a.ns a.sa) s.names && letsT a.ns s.spaces && (s.nets.isEmpty || s.nets.any fun c => inC c a.addr)

theorem source1 (c : Pl.Cidr) (x : Int) (b : Nat) (w : World) (hc : w.cell? ⟨b, 2, none⟩ = some (.int .u32 x)) (hb : b < w.heap.size) :
    Calls Try.prog 32 #[.agg #[.int .u32 c.addr, .int .i64 c.bits], .pointer (some ⟨b, 0, none⟩)] w fun e w' => e = .returned (.bool (inC c x)) ∧ Lo w w' := by
  go_enter Try.func32, Try.ntmps32
  go_wp2_with (go_at_call 33; refine (inA c _ _).mono ?_; rintro e w1 ⟨rfl, hb⟩)
  go_ret
  exact ⟨rfl, (by repeat (first | exact Lo.refl _ | assumption | refine Lo.drew ?_ | refine Lo.alloc ?_ _ | refine Lo.setCell ?_ (by first | (dsimp only; omega) | (simp; omega) | (simp; done)) _ | refine Lo.trans ?_ (by assumption)))⟩
theorem enters_source1 : Enters Try.prog 32 := enters_of Try.func32 (by kernel_rfl) rfl

set_option maxRecDepth 100000 in
set_option maxHeartbeats 1600000 in
theorem source (s : Pl.Source) (a : Pl.Asker) (c0 c1 c2 : Value) {B : Nat} (w : World) (hB : B ≤ w.heap.size) (hs : SourceR B w s [c0, c1, c2]) (zn : a.ns.size ≤ maxLen) (za : a.sa.size ≤ maxLen) :
    Calls Try.prog 21 #[.agg #[c0, c1, c2], askV a] w fun e w' => e = .returned (.bool (srcP a s)) ∧ Lo w w' := by
  obtain ⟨d0, d1, d2, he, ⟨A0, p0, e0, h0, l0, m0⟩, ⟨A1, p1, e1, h1, l1, m1⟩, ⟨A2, p2, e2, h2, l2, m2⟩⟩ := hs
  injection he with q0 he; injection he with q1 he; injection he with q2 he
  subst q0 q1 q2
  injection e0 with e0; injection e1 with e1; injection e2 with e2
  subst e0 e1 e2
  obtain ⟨nt, hnt⟩ : ∃ nt, nameText a.ns a.sa = nt := ⟨_, rfl⟩
  have znt : nt.size ≤ maxLen := by have := nameText_len a.ns a.sa; rw [hnt] at this; unfold maxLen; omega
  have C0 : ∀ W, Lo w W → Calls Try.prog 30 #[.string nt, .slice A0 s.names.length p0] W fun e w' => e = .returned (.bool (letsT nt s.names)) ∧ Lo W w' := fun W hW =>
    lets nt A0 p0 s.names W (Nat.le_trans hB hW.size) (SliceAt.lo TermR.kept h0 hW hB) znt (Nat.le_trans l0 m0)
  have C1 : ∀ W, Lo w W → Calls Try.prog 30 #[.string a.ns, .slice A1 s.spaces.length p1] W fun e w' => e = .returned (.bool (letsT a.ns s.spaces)) ∧ Lo W w' := fun W hW =>
    lets a.ns A1 p1 s.spaces W (Nat.le_trans hB hW.size) (SliceAt.lo TermR.kept h1 hW hB) zn (Nat.le_trans l1 m1)
  have C2 : ∀ (W : World) (b : Nat), Lo w W → W.cell? ⟨b, 2, none⟩ = some (.int .u32 a.addr) → Calls Try.prog 31 #[.slice A2 s.nets.length p2, .func (.func 32) #[] #[.pointer (some ⟨b, 0, none⟩)]] W fun e w' => e = .returned (.bool (s.nets.isEmpty || s.nets.any fun c => inC c a.addr)) ∧ Lo W w' := fun W b hW hc => by
    refine letsCidr CidrR.kept p2 W (Nat.le_trans hB hW.size) (SliceAt.lo CidrR.kept h2 hW hB) (Nat.le_trans l2 m2) enters_source1 ?_
    intro W' x c0 c1 hx hlo hr
    obtain ⟨d0, d1, he, ⟨ea, _⟩, ⟨eb, _⟩⟩ := hr
    injection he with q0 he; injection he with q1 he; subst q0 q1
    injection ea with ea; injection eb with eb; subst ea eb
    exact source1 x a.addr b W' (lo_keep hlo hc) (World.block_lt_of_cell? W' _ (lo_keep hlo hc))
  have C3 : ∀ W, Calls Try.prog 29 #[.agg #[.string a.ns, .string a.sa]] W fun e w' => e = .returned (.tuple #[.string nt, .int .i64 (if mayN a.ns a.sa then 0 else 1)]) ∧ Lo W w' := fun W => by rw [← hnt]; exact printName _ _ _ zn za
  have hv : srcP a s = (letsT nt s.names && letsT a.ns s.spaces && (s.nets.isEmpty || s.nets.any fun c => inC c a.addr)) := by unfold srcP; rw [hnt]
  rw [hv]
  unfold askV
  generalize letsT nt s.names = x at *
  generalize letsT a.ns s.spaces = y at *
  generalize (s.nets.isEmpty || s.nets.any fun c => inC c a.addr) = z at *
  generalize (if mayN a.ns a.sa then (0 : Int) else 1) = er at *
  have H0 := Lib.hid C0
  have H1 := Lib.hid C1
  have H2 := Lib.hid C2
  have H3 := Lib.hid C3
  clear C0 C1 C2 C3 hv hnt h0 h1 h2
  generalize s.names.length = n0 at *
  generalize s.spaces.length = n1 at *
  generalize s.nets.length = n2 at *
  cases x <;> cases y
  all_goals
    go_enter Try.func21, Try.ntmps21
    go_wp2_with (first
      | (go_at_call 29; refine (H3.out _).mono ?_; rintro e w1 ⟨rfl, hb⟩; obtain ⟨hc, hf, hz⟩ := hb.facts; have hz0 := hz w.heap.size (by first | assumption | (simp; done) | (simp; omega)); have hq0 := fun o => hc w.heap.size o (by first | assumption | (simp; done) | (simp; omega)); have hz1 := hz (w.heap.size + 1) (by first | assumption | (simp; done) | (simp; omega)); have hq1 := fun o => hc (w.heap.size + 1) o (by first | assumption | (simp; done) | (simp; omega)); (have g2 : w1.cell? ⟨w.heap.size + 1, 2, none⟩ = some (.int .u32 a.addr) := (hq1 2).trans (by simp)))
      | (go_at_call 30; first
          | ((with_reducible refine (H0.out _ ?_).mono ?_); (exact (by repeat (first | exact Lo.refl _ | assumption | refine Lo.drew ?_ | refine Lo.alloc ?_ _ | refine Lo.setCell ?_ (by first | (dsimp only; omega) | (simp; omega) | (simp; done)) _ | refine Lo.trans ?_ (by assumption)))); rintro e w2 ⟨rfl, hb⟩; obtain ⟨hc, hf, hz⟩ := hb.facts; have hz0 := hz w.heap.size (by first | assumption | (simp; done) | (simp; omega)); have hq0 := fun o => hc w.heap.size o (by first | assumption | (simp; done) | (simp; omega)); have hz1 := hz (w.heap.size + 1) (by first | assumption | (simp; done) | (simp; omega)); have hq1 := fun o => hc (w.heap.size + 1) o (by first | assumption | (simp; done) | (simp; omega)); (have g2 := lo_keep hb g2))
          | ((with_reducible refine (H1.out _ ?_).mono ?_); (exact (by repeat (first | exact Lo.refl _ | assumption | refine Lo.drew ?_ | refine Lo.alloc ?_ _ | refine Lo.setCell ?_ (by first | (dsimp only; omega) | (simp; omega) | (simp; done)) _ | refine Lo.trans ?_ (by assumption)))); rintro e w2 ⟨rfl, hb⟩; obtain ⟨hc, hf, hz⟩ := hb.facts; have hz0 := hz w.heap.size (by first | assumption | (simp; done) | (simp; omega)); have hq0 := fun o => hc w.heap.size o (by first | assumption | (simp; done) | (simp; omega)); have hz1 := hz (w.heap.size + 1) (by first | assumption | (simp; done) | (simp; omega)); have hq1 := fun o => hc (w.heap.size + 1) o (by first | assumption | (simp; done) | (simp; omega)); (have g2 := lo_keep hb g2)))
      | (go_at_call 31; refine (H2.out _ _ ?_ ?_).mono ?_; (exact (by repeat (first | exact Lo.refl _ | assumption | refine Lo.drew ?_ | refine Lo.alloc ?_ _ | refine Lo.setCell ?_ (by first | (dsimp only; omega) | (simp; omega) | (simp; done)) _ | refine Lo.trans ?_ (by assumption)))); (exact g2); rintro e w3 ⟨rfl, hb⟩))
    go_ret
    exact ⟨ret_bool (by simp), (by repeat (first | exact Lo.refl _ | assumption | refine Lo.drew ?_ | refine Lo.alloc ?_ _ | refine Lo.setCell ?_ (by first | (dsimp only; omega) | (simp; omega) | (simp; done)) _ | refine Lo.trans ?_ (by assumption)))⟩
end Go.Proofs.Ytnclifgiakmmoaa.WAuth

/- The walks of auth.Target. -/
namespace Go.Proofs.Ytnclifgiakmmoaa.Pl
set_option linter.unusedVariables false
set_option linter.unusedSimpArgs false
/-- what of a request is looked at -/
structure Req where
  method : ByteArray
  path : ByteArray
  host : ByteArray
  heads : List Head
end Go.Proofs.Ytnclifgiakmmoaa.Pl
namespace Go.Proofs.Ytnclifgiakmmoaa.WAuth
set_option linter.unusedVariables false
set_option linter.unusedSimpArgs false
open Go.RowKit Mem BigFrame WMatch WAddr WName Opn

def tgtP (port : Int) (q : Pl.Req) (t : Pl.Target) : Bool := (t.ports.isEmpty || t.ports.any fun n => n == port) && letsT q.method t.methods && letsT q.path t.paths && letsT q.host t.hosts

theorem target1 (n p : Int) (b : Nat) (w : World) (hc : w.cell? ⟨b, 0, none⟩ = some (.int .i64 p)) (hb : b < w.heap.size) :
    Calls Try.prog 36 #[.int .i64 n, .pointer (some ⟨b, 0, none⟩)] w fun e w' => e = .returned (.bool (n == p)) ∧ Lo w w' := by
  go_enter Try.func36, Try.ntmps36
  go_wp2
  go_ret
  exact ⟨rfl, (by repeat (first | exact Lo.refl _ | assumption | refine Lo.drew ?_ | refine Lo.alloc ?_ _ | refine Lo.setCell ?_ (by first | (dsimp only; omega) | (simp; omega) | (simp; done)) _ | refine Lo.trans ?_ (by assumption)))⟩
theorem enters_target1 : Enters Try.prog 36 := enters_of Try.func36 (by kernel_rfl) rfl

set_option maxRecDepth 100000 in
set_option maxHeartbeats 1600000 in
theorem target (t : Pl.Target) (port : Int) (q : Pl.Req) (c0 c1 c2 c3 : Value) (tg qu : ByteArray) (hd bd : Value) {B : Nat} (w : World) (hB : B ≤ w.heap.size) (ht : TargetR B w t [c0, c1, c2, c3]) (zm : q.method.size ≤ maxLen) (zp : q.path.size ≤ maxLen) (zh : q.host.size ≤ maxLen) :
    Calls Try.prog 24 #[.agg #[c0, c1, c2, c3], .int .i64 port, .agg #[.string q.method, .string tg, .string q.path, .string qu, .string q.host, hd, bd]] w fun e w' => e = .returned (.bool (tgtP port q t)) ∧ Lo w w' := by
  obtain ⟨d0, d1, d2, d3, he, ⟨A0, p0, e0, h0, l0, m0⟩, ⟨A1, p1, e1, h1, l1, m1⟩, ⟨A2, p2, e2, h2, l2, m2⟩, ⟨A3, p3, e3, h3, l3, m3⟩⟩ := ht
  injection he with q0 he; injection he with q1 he; injection he with q2 he; injection he with q3 he
  subst q0 q1 q2 q3
  injection e0 with e0; injection e1 with e1; injection e2 with e2; injection e3 with e3
  subst e0 e1 e2 e3
  have C0 : ∀ (W : World) (b : Nat), Lo w W → W.cell? ⟨b, 0, none⟩ = some (.int .i64 port) → Calls Try.prog 35 #[.slice A0 t.ports.length p0, .func (.func 36) #[] #[.pointer (some ⟨b, 0, none⟩)]] W fun e w' => e = .returned (.bool (t.ports.isEmpty || t.ports.any fun n => n == port)) ∧ Lo W w' := fun W b hW hc => by
    refine letsInt (IntC.kept .i64) p0 W (Nat.le_trans hB hW.size) (SliceAt.lo (IntC.kept .i64) h0 hW hB) (Nat.le_trans l0 m0) enters_target1 ?_
    intro W' x c0 hx hlo hr
    obtain ⟨ea, _⟩ := hr
    injection ea with ea; subst ea
    exact target1 x port b W' (lo_keep hlo hc) (World.block_lt_of_cell? W' _ (lo_keep hlo hc))
  have C1 : ∀ W, Lo w W → Calls Try.prog 30 #[.string q.method, .slice A1 t.methods.length p1] W fun e w' => e = .returned (.bool (letsT q.method t.methods)) ∧ Lo W w' := fun W hW =>
    lets _ A1 p1 _ W (Nat.le_trans hB hW.size) (SliceAt.lo TermR.kept h1 hW hB) zm (Nat.le_trans l1 m1)
  have C2 : ∀ W, Lo w W → Calls Try.prog 30 #[.string q.path, .slice A2 t.paths.length p2] W fun e w' => e = .returned (.bool (letsT q.path t.paths)) ∧ Lo W w' := fun W hW =>
    lets _ A2 p2 _ W (Nat.le_trans hB hW.size) (SliceAt.lo TermR.kept h2 hW hB) zp (Nat.le_trans l2 m2)
  have C3 : ∀ W, Lo w W → Calls Try.prog 30 #[.string q.host, .slice A3 t.hosts.length p3] W fun e w' => e = .returned (.bool (letsT q.host t.hosts)) ∧ Lo W w' := fun W hW =>
    lets _ A3 p3 _ W (Nat.le_trans hB hW.size) (SliceAt.lo TermR.kept h3 hW hB) zh (Nat.le_trans l3 m3)
  unfold tgtP
  generalize (t.ports.isEmpty || t.ports.any fun n => n == port) = x at *
  generalize letsT q.method t.methods = y at *
  generalize letsT q.path t.paths = z at *
  generalize letsT q.host t.hosts = u at *
  have H0 := Lib.hid C0
  have H1 := Lib.hid C1
  have H2 := Lib.hid C2
  have H3 := Lib.hid C3
  clear C0 C1 C2 C3 h0 h1 h2 h3
  generalize t.ports.length = n0 at *
  generalize t.methods.length = n1 at *
  generalize t.paths.length = n2 at *
  generalize t.hosts.length = n3 at *
  cases x <;> cases y <;> cases z
  all_goals
    go_enter Try.func24, Try.ntmps24
    go_wp2_with (first
      | (go_at_call 30; first
          | ((with_reducible refine (H1.out _ ?_).mono ?_); (exact (by repeat (first | exact Lo.refl _ | assumption | refine Lo.drew ?_ | refine Lo.alloc ?_ _ | refine Lo.setCell ?_ (by first | (dsimp only; omega) | (simp; omega) | (simp; done)) _ | refine Lo.trans ?_ (by assumption)))); rintro e w2 ⟨rfl, hb⟩; obtain ⟨hc, hf, hz⟩ := hb.facts; have hz0 := hz w.heap.size (by first | assumption | (simp; done) | (simp; omega)); have hq0 := fun o => hc w.heap.size o (by first | assumption | (simp; done) | (simp; omega)); have hz1 := hz (w.heap.size + 1) (by first | assumption | (simp; done) | (simp; omega)); have hq1 := fun o => hc (w.heap.size + 1) o (by first | assumption | (simp; done) | (simp; omega)); have hz2 := hz (w.heap.size + 2) (by first | assumption | (simp; done) | (simp; omega)); have hq2 := fun o => hc (w.heap.size + 2) o (by first | assumption | (simp; done) | (simp; omega)))
          | ((with_reducible refine (H2.out _ ?_).mono ?_); (exact (by repeat (first | exact Lo.refl _ | assumption | refine Lo.drew ?_ | refine Lo.alloc ?_ _ | refine Lo.setCell ?_ (by first | (dsimp only; omega) | (simp; omega) | (simp; done)) _ | refine Lo.trans ?_ (by assumption)))); rintro e w2 ⟨rfl, hb⟩; obtain ⟨hc, hf, hz⟩ := hb.facts; have hz0 := hz w.heap.size (by first | assumption | (simp; done) | (simp; omega)); have hq0 := fun o => hc w.heap.size o (by first | assumption | (simp; done) | (simp; omega)); have hz1 := hz (w.heap.size + 1) (by first | assumption | (simp; done) | (simp; omega)); have hq1 := fun o => hc (w.heap.size + 1) o (by first | assumption | (simp; done) | (simp; omega)); have hz2 := hz (w.heap.size + 2) (by first | assumption | (simp; done) | (simp; omega)); have hq2 := fun o => hc (w.heap.size + 2) o (by first | assumption | (simp; done) | (simp; omega)))
          | ((with_reducible refine (H3.out _ ?_).mono ?_); (exact (by repeat (first | exact Lo.refl _ | assumption | refine Lo.drew ?_ | refine Lo.alloc ?_ _ | refine Lo.setCell ?_ (by first | (dsimp only; omega) | (simp; omega) | (simp; done)) _ | refine Lo.trans ?_ (by assumption)))); rintro e w2 ⟨rfl, hb⟩; obtain ⟨hc, hf, hz⟩ := hb.facts; have hz0 := hz w.heap.size (by first | assumption | (simp; done) | (simp; omega)); have hq0 := fun o => hc w.heap.size o (by first | assumption | (simp; done) | (simp; omega)); have hz1 := hz (w.heap.size + 1) (by first | assumption | (simp; done) | (simp; omega)); have hq1 := fun o => hc (w.heap.size + 1) o (by first | assumption | (simp; done) | (simp; omega)); have hz2 := hz (w.heap.size + 2) (by first | assumption | (simp; done) | (simp; omega)); have hq2 := fun o => hc (w.heap.size + 2) o (by first | assumption | (simp; done) | (simp; omega))))
      | (go_at_call 35; refine (H0.out _ _ ?_ ?_).mono ?_; (exact (by repeat (first | exact Lo.refl _ | assumption | refine Lo.drew ?_ | refine Lo.alloc ?_ _ | refine Lo.setCell ?_ (by first | (dsimp only; omega) | (simp; omega) | (simp; done)) _ | refine Lo.trans ?_ (by assumption)))); (first | (simp; done) | exact lo_keep ((Lo.refl _).alloc _) (by simp) | (simp [go_sem]; done)); rintro e w3 ⟨rfl, hb⟩; obtain ⟨hc, hf, hz⟩ := hb.facts; have hz0 := hz w.heap.size (by first | assumption | (simp; done) | (simp; omega)); have hq0 := fun o => hc w.heap.size o (by first | assumption | (simp; done) | (simp; omega)); have hz1 := hz (w.heap.size + 1) (by first | assumption | (simp; done) | (simp; omega)); have hq1 := fun o => hc (w.heap.size + 1) o (by first | assumption | (simp; done) | (simp; omega)); have hz2 := hz (w.heap.size + 2) (by first | assumption | (simp; done) | (simp; omega)); have hq2 := fun o => hc (w.heap.size + 2) o (by first | assumption | (simp; done) | (simp; omega))))
    go_ret
    exact ⟨ret_bool (by simp), (by repeat (first | exact Lo.refl _ | assumption | refine Lo.drew ?_ | refine Lo.alloc ?_ _ | refine Lo.setCell ?_ (by first | (dsimp only; omega) | (simp; omega) | (simp; done)) _ | refine Lo.trans ?_ (by assumption)))⟩
end Go.Proofs.Ytnclifgiakmmoaa.WAuth

/- Policies, requests as data; how many there are. -/
namespace Go.Proofs.Ytnclifgiakmmoaa.Pol
set_option linter.unusedVariables false
set_option linter.unusedSimpArgs false
open Go.RowKit Mem Sim Opn
abbrev nil0 : A := .t (.v (.slice none 0 0))
abbrev rcells (r : Pl.Rule) : List A := [.t (.sl 3 (r.from_.map sourceT)), .t (.sl 4 (r.to_.map targetT)), .t (.sl 2 (r.when_.map whenT))]
theorem map_take_succ {α β : Type} (f : α → β) {l : List α} {k : Nat} (h : k < l.length) : (l.take (k + 1)).map f = (l.take k).map f ++ [f l[k]] := by
  rw [List.take_succ_eq_append_getElem h, List.map_append]; rfl
/-- rows that are no longer than so -/
structure FewR (r : Pl.Rule) : Prop where
  f : r.from_.length ≤ 1000
  t : r.to_.length ≤ 1000
  w : r.when_.length ≤ 1000
  fs : ∀ s ∈ r.from_, s.names.length ≤ 1000 ∧ s.spaces.length ≤ 1000 ∧ s.nets.length ≤ 1000
  ts : ∀ s ∈ r.to_, s.ports.length ≤ 1000 ∧ s.methods.length ≤ 1000 ∧ s.paths.length ≤ 1000 ∧ s.hosts.length ≤ 1000
  ws : ∀ s ∈ r.when_, s.terms.length ≤ 1000
theorem few_b {α : Type} {f : α → List T} {l : List α} (n : Nat) (h : l.length ≤ 1000) (hn : n ≤ 1000) : (l.map f).length * n ≤ 140737488355328 := by
  rw [List.length_map]
  have := Nat.mul_le_mul h hn
  omega
theorem few_m {α : Type} {f : α → List T} {l : List α} (h : l.length ≤ 1000) : (l.map f).length ≤ maxLen := by rw [List.length_map]; unfold maxLen; omega
structure FewP (p : Pl.Policy) : Prop where
  n : p.rules.length ≤ 1000
  r : ∀ r ∈ p.rules, FewR r
abbrev pcells (p : Pl.Policy) : List A := [.t (.v (.int .u64 p.id)), .t (.v (.string p.ns)), .t (.v (.int .u64 p.service)), .t (.v (.int .i64 p.deny)), .t (.sl 3 (p.rules.map ruleT))]
def askT (a : Pl.Asker) : List T := [.v (.string a.ns), .v (.string a.sa), .v (.int .u32 a.addr)]
def reqT (q : Pl.Req) (tg qu : ByteArray) (bd : Value) : List T := [.v (.string q.method), .v (.string tg), .v (.string q.path), .v (.string qu), .v (.string q.host), .sl 2 (q.heads.map headT), .v bd]
structure OkAsk (a : Pl.Asker) : Prop where
  ns : a.ns.size ≤ maxLen
  sa : a.sa.size ≤ maxLen
  addr : (Lit.int .u32 a.addr).wf = true
structure FewL (l : List Pl.Policy) : Prop where
  n : l.length ≤ 1000
  r : ∀ p ∈ l, p.rules.length ≤ 1000 ∧ ∀ r ∈ p.rules, FewR r
end Go.Proofs.Ytnclifgiakmmoaa.Pol

/- The walk of heads.All: the values of a name's headers. -/
namespace Go.Proofs.Ytnclifgiakmmoaa.WAuth
set_option linter.unusedVariables false
set_option linter.unusedSimpArgs false
open Go.RowKit Mem BigFrame WMatch Opn

/-- the values of a name's headers -/
def valsOf (n : ByteArray) (l : List Pl.Head) : List ByteArray := (l.filter fun h => h.name.toList == n.toList).map (·.value)
theorem valsOf_yes {n : ByteArray} {l : List Pl.Head} {k : Nat} (hk : k < l.length) (h : (l[k].name.toList == n.toList) = true) : valsOf n (l.take (k + 1)) = valsOf n (l.take k) ++ [l[k].value] := by
  unfold valsOf
  rw [List.take_succ_eq_append_getElem hk, List.filter_append, List.map_append]
  simp [List.filter_cons, h]
theorem valsOf_no {n : ByteArray} {l : List Pl.Head} {k : Nat} (hk : k < l.length) (h : (l[k].name.toList == n.toList) = false) : valsOf n (l.take (k + 1)) = valsOf n (l.take k) := by
  unfold valsOf
  rw [List.take_succ_eq_append_getElem hk, List.filter_append, List.map_append]
  simp [List.filter_cons, h]
theorem valsOf_len (n : ByteArray) (l : List Pl.Head) : (valsOf n l).length ≤ l.length := by
  unfold valsOf
  rw [List.length_map]
  exact List.length_filter_le _ _
theorem Try.infoStr : (Try.prog.info? 9).map (fun i => (i.zero, i.size, i.bytes)) = some (some (.string ⟨#[]⟩), 1, 16) := by kernel_rfl
theorem StrC.flat : Flat StrC := fun _ _ _ _ _ _ h => h

set_option maxRecDepth 100000 in
set_option maxHeartbeats 1600000 in
theorem all (n : ByteArray) (A : Option Addr) (cap : Nat) (l : List Pl.Head) {B : Nat} (w : World) (hB : B ≤ w.heap.size) (hA : SliceAt HeadR 2 B w A l) (h100 : l.length ≤ 1000) :
    Calls Try.prog 40 #[.string n, .slice A l.length cap] w fun e w' => ∃ v, e = .returned v ∧ Lo w w' ∧ RowF (fun _ => True) StrC 9 1 w.heap.size w' v (valsOf n l) := by
  obtain ⟨i0, hi, hz0, hz1, hz2⟩ := info_parts Try.infoStr
  go_enter Try.func40, Try.ntmps40
  go_wp2
  go_loopw [5, 10] (fun v i wr => ∃ k : Nat, k ≤ l.length ∧ i = .int .i64 k ∧ Lo w wr ∧ RowF (fun _ => True) StrC 9 1 w.heap.size wr v (valsOf n (l.take k))) (fun _ i _ => l.length - (intOf i).toNat)
  case atStart => exact ⟨0, Nat.zero_le _, rfl, Lo.refl _, RowF.nil⟩
  case round =>
    obtain ⟨k, hk, rfl, hlo, hown⟩ := hrel
    have hsz := hlo.size
    by_cases hlt : k < l.length
    · obtain ⟨b, off, cs, rfl, hb, hl2, hc, hr⟩ := (SliceAt.lo HeadR.kept hA hlo hB) k l[k] (List.getElem?_eq_getElem hlt)
      obtain ⟨c0, c1, rfl, ⟨e0, z0⟩, ⟨e1, z1⟩⟩ := hr
      injection e0 with e0; injection e1 with e1; subst e0 e1
      have hc0 := hc 0 _ rfl
      have hc1 := hc 1 _ rfl
      simp only [Nat.add_zero] at hc0
      rw [← Nat.add_assoc] at hc1
      clear hc hl2
      have hlen : (valsOf n (l.take k)).length ≤ 1000 := by
        have := valsOf_len n (l.take k)
        simp at this; omega
      have hbr := World.block_lt_of_cell? wr _ hc0
      cases he : (l[k].name.toList == n.toList)
      · have hv := Lib.hid (valsOf_no hlt he)
        go_wp2
        go_roundw
        case rel => exact ⟨k + 1, by omega, by go_num, (by repeat (first | exact Lo.refl _ | assumption | refine Lo.drew ?_ | refine Lo.alloc ?_ _ | refine Lo.setCell ?_ (by first | (dsimp only; omega) | (simp; omega) | (simp; done)) _ | refine Lo.trans ?_ (by assumption))), by rw [hv.out]; exact hown.lo (by repeat (first | exact Lo.refl _ | assumption | refine Lo.drew ?_ | refine Lo.alloc ?_ _ | refine Lo.setCell ?_ (by first | (dsimp only; omega) | (simp; omega) | (simp; done)) _ | refine Lo.trans ?_ (by assumption)))⟩
        case measure => simp [intOf]; omega
      · have hv := Lib.hid (valsOf_yes hlt he)
        have hown2 := fun (W : World) (hW : Lo wr W) => hown.lo hW
        have hcell : ((wr.alloc (.cells #[.string l[k].name, .string l[k].value] 63)).alloc (.cells #[.string l[k].value] 9)).cell? ⟨wr.heap.size + 1, 0, none⟩ = some (.string l[k].value) := by simp
        go_wp2_with (at_builtin; refine wpList_append_row (T := fun _ => True) (R := StrC) rfl (.tmp 18) (.tmp 21) 93 rfl w.heap.size 9 i0 _ 1 16 Try.underlying93 hi hz0 hz1 hz2 rfl (by omega) _ _ rfl (hown2 _ (by repeat (first | exact Lo.refl _ | assumption | refine Lo.drew ?_ | refine Lo.alloc ?_ _ | refine Lo.setCell ?_ (by first | (dsimp only; omega) | (simp; omega) | (simp; done)) _ | refine Lo.trans ?_ (by assumption)))) ⟨wr.heap.size + 1, 0, none⟩ 1 [.string l[k].value] l[k].value rfl rfl (Go.Proofs.Ytnclifgiakmmoaa.Mem.one_cell hcell) (by simp [Value.oneCell']) (Foot.flat (B := 0) StrC.flat ⟨rfl, z1⟩) (by unfold maxLen; omega) (by omega) (by first | (simp; done) | (simp; omega)) ?_; intro vm w2 hrow2 hgr2 hlo2)
        go_roundw
        case rel => exact ⟨k + 1, by omega, by go_num, hlo2 w (by repeat (first | exact Lo.refl _ | assumption | refine Lo.drew ?_ | refine Lo.alloc ?_ _ | refine Lo.setCell ?_ (by first | (dsimp only; omega) | (simp; omega) | (simp; done)) _ | refine Lo.trans ?_ (by assumption))) (Nat.le_refl _), by rw [hv.out]; exact hrow2⟩
        case measure => simp [intOf]; omega
    · have hf := hown
      rw [List.take_of_length_le (by omega)] at hf
      go_wp2
      go_ret
      exact ⟨_, rfl, hlo, hf⟩
end Go.Proofs.Ytnclifgiakmmoaa.WAuth

/- The walks of auth.When. -/
namespace Go.Proofs.Ytnclifgiakmmoaa.WAuth
set_option linter.unusedVariables false
set_option linter.unusedSimpArgs false
open Go.RowKit Mem BigFrame WMatch WAddr WName Opn

def whenP (hs : List Pl.Head) (x : Pl.When) : Bool := (valsOf x.head hs).any fun v => anyT v x.terms

theorem when1 (v : ByteArray) (ts : List Pl.Term) (A : Option Addr) (cap b : Nat) {B : Nat} (w : World) (hB : B ≤ w.heap.size) (hA : Terms B w A ts) (hc : w.cell? ⟨b, 1, none⟩ = some (.slice A ts.length cap)) (zv : v.size ≤ maxLen) (hn : ts.length ≤ maxLen) :
    Calls Try.prog 41 #[.string v, .pointer (some ⟨b, 0, none⟩)] w fun e w' => e = .returned (.bool (anyT v ts)) ∧ Lo w w' := by
  have H := Lib.hid (any v A cap ts w hB hA zv hn)
  clear hA
  go_enter Try.func41, Try.ntmps41
  go_wp2_with (go_at_call 42; refine (H.out).mono ?_; rintro e w1 ⟨rfl, hb⟩)
  go_ret
  exact ⟨rfl, (by repeat (first | exact Lo.refl _ | assumption | refine Lo.drew ?_ | refine Lo.alloc ?_ _ | refine Lo.setCell ?_ (by first | (dsimp only; omega) | (simp; omega) | (simp; done)) _ | refine Lo.trans ?_ (by assumption)))⟩
theorem enters_when1 : Enters Try.prog 41 := enters_of Try.func41 (by kernel_rfl) rfl

set_option maxRecDepth 100000 in
set_option maxHeartbeats 1600000 in
theorem when_ (x : Pl.When) (hs : List Pl.Head) (A : Option Addr) (cap : Nat) (c0 c1 m t p q h bd : Value) {B : Nat} (w : World) (hB : B ≤ w.heap.size) (hx : WhenR B w x [c0, c1]) (hA : SliceAt HeadR 2 B w A hs) (h100 : hs.length ≤ 1000) :
    Calls Try.prog 27 #[.agg #[c0, c1], .agg #[m, t, p, q, h, .slice A hs.length cap, bd]] w fun e w' => e = .returned (.bool (whenP hs x)) ∧ Lo w w' := by
  obtain ⟨d0, d1, he, ⟨e0, z0⟩, ⟨A1, p1, e1, h1, l1, m1⟩⟩ := hx
  injection he with q0 he; injection he with q1 he
  subst q0 q1
  injection e0 with e0; injection e1 with e1
  subst e0 e1
  have C0 : ∀ W, Lo w W → Calls Try.prog 40 #[.string x.head, .slice A hs.length cap] W fun e w' => ∃ v, e = .returned v ∧ Lo W w' ∧ RowF (fun _ => True) StrC 9 1 W.heap.size w' v (valsOf x.head hs) := fun W hW =>
    all x.head A cap hs W (Nat.le_trans hB hW.size) (SliceAt.lo HeadR.kept hA hW hB) h100
  have C1 : ∀ (W : World) (v : Value) (b base : Nat), Lo w W → RowF (fun _ => True) StrC 9 1 base W v (valsOf x.head hs) → W.cell? ⟨b, 1, none⟩ = some (.slice A1 x.terms.length p1) →
      Calls Try.prog 39 #[v, .func (.func 41) #[] #[.pointer (some ⟨b, 0, none⟩)]] W fun e w' => e = .returned (.bool (whenP hs x)) ∧ Lo W w' := fun W v b base hW hv hc => by
    obtain ⟨A2, cap2, rfl, hA2, hl2, hm2⟩ := hv.at
    refine WIdxStr.containsFunc StrC.kept cap2 W (Nat.le_refl _) hA2 (Nat.le_trans hl2 hm2) enters_when1 ?_
    intro W' s c0 hs hlo hr
    obtain ⟨ea, zs⟩ := hr
    injection ea with ea; subst ea
    exact when1 s x.terms A1 p1 b W' (Nat.le_trans hB (hW.trans hlo).size) (SliceAt.lo TermR.kept h1 (hW.trans hlo) hB) (lo_keep hlo hc) zs (Nat.le_trans l1 m1)
  generalize whenP hs x = r at *
  have H0 := Lib.hid C0
  have H1 := Lib.hid C1
  clear C0 C1 h1 hA
  generalize x.terms.length = n1 at *
  generalize hs.length = n2 at *
  go_enter Try.func27, Try.ntmps27
  go_wp2_with (first
    | (go_at_call 40; refine (H0.out _ ?_).mono ?_; (exact (by repeat (first | exact Lo.refl _ | assumption | refine Lo.drew ?_ | refine Lo.alloc ?_ _ | refine Lo.setCell ?_ (by first | (dsimp only; omega) | (simp; omega) | (simp; done)) _ | refine Lo.trans ?_ (by assumption)))); rintro e w1 ⟨v, rfl, hb, hv⟩; obtain ⟨hc, hf, hz⟩ := hb.facts; have hz0 := hz w.heap.size (by first | assumption | (simp; done) | (simp; omega)); have hq0 := fun o => hc w.heap.size o (by first | assumption | (simp; done) | (simp; omega)); have hz1 := hz (w.heap.size + 1) (by first | assumption | (simp; done) | (simp; omega)); have hq1 := fun o => hc (w.heap.size + 1) o (by first | assumption | (simp; done) | (simp; omega)))
    | (go_at_call 39; refine (H1.out _ _ _ _ ?_ hv ?_).mono ?_; (exact (by repeat (first | exact Lo.refl _ | assumption | refine Lo.drew ?_ | refine Lo.alloc ?_ _ | refine Lo.setCell ?_ (by first | (dsimp only; omega) | (simp; omega) | (simp; done)) _ | refine Lo.trans ?_ (by assumption)))); (exact (hq0 1).trans (by simp)); rintro e w2 ⟨rfl, hb2⟩))
  go_ret
  exact ⟨rfl, (by repeat (first | exact Lo.refl _ | assumption | refine Lo.drew ?_ | refine Lo.alloc ?_ _ | refine Lo.setCell ?_ (by first | (dsimp only; omega) | (simp; omega) | (simp; done)) _ | refine Lo.trans ?_ (by assumption)))⟩
end Go.Proofs.Ytnclifgiakmmoaa.WAuth
