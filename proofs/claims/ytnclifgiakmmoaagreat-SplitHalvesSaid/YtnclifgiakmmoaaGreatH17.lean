/- Merged by bundles.py: WAny, WLets, WSource, WTarget, SimReq. -/
import Derived.Test.YtnclifgiakmmoaaGreatH12
import Derived.Test.YtnclifgiakmmoaaGreatH16
import Derived.Test.YtnclifgiakmmoaaGreatH15
/- The walks of chapter 7's functions over rows of terms: Any, Lets, MayAll, and the reference's. -/
namespace Go.Proofs.YtnclifgiakmmoaaGreat.WMatch
set_option linter.unusedVariables false
set_option linter.unusedSimpArgs false
open Go.RowKit Mem BigFrame

def anyT (s : ByteArray) (ts : List Pl.Term) : Bool := ts.any fun t => Pl.matches_ t.k t.s.toList s.toList
def letsT (s : ByteArray) (ts : List Pl.Term) : Bool := ts.isEmpty || anyT s ts
theorem any1 (k : Int) (t s : ByteArray) (b : Nat) (w : World) (zt : t.size ≤ maxLen) (zs : s.size ≤ maxLen) (hc : w.cell? ⟨b, 0, none⟩ = some (.string s)) (hb : b < w.heap.size) :
    Calls Tryz.prog 110 #[.agg #[.int .i64 k, .string t], .pointer (some ⟨b, 0, none⟩)] w fun e w' => e = .returned (.bool (Pl.matches_ k t.toList s.toList)) ∧ Lo w w' := by
  go_enter Tryz.func110, Tryz.ntmps110
  go_wp2_with (go_at_call 111; refine (matches_ _ _ _ _ (by assumption) (by assumption)).mono ?_; rintro e w1 ⟨rfl, hb⟩)
  go_ret
  exact ⟨rfl, (by repeat (first | exact Lo.refl _ | assumption | refine Lo.drew ?_ | refine Lo.alloc ?_ _ | refine Lo.setCell ?_ (by first | (dsimp only; omega) | (simp; omega) | (simp; done)) _ | refine Lo.trans ?_ (by assumption)))⟩
theorem enters_any1 : Enters Tryz.prog 110 := enters_of Tryz.func110 (by kernel_rfl) rfl
theorem any (s : ByteArray) (A : Option Addr) (cap : Nat) (ts : List Pl.Term) {B : Nat} (w : World) (hB : B ≤ w.heap.size) (hA : Terms B w A ts) (zs : s.size ≤ maxLen) (hn : ts.length ≤ maxLen) :
    Calls Tryz.prog 100 #[.string s, .slice A ts.length cap] w fun e w' => e = .returned (.bool (anyT s ts)) ∧ Lo w w' := by
  have hA1 : Terms B (w.alloc (.cells #[.string s] 9)) A ts := hA.lo ((Lo.refl _).alloc _) hB
  have hc : (w.alloc (.cells #[.string s] 9)).cell? ⟨w.heap.size, 0, none⟩ = some (.string s) := by simp
  have hS : WIdxTerm.Says TermR B (w.alloc (.cells #[.string s] 9)) ts 110 #[.pointer (some ⟨w.heap.size, 0, none⟩)] (fun t => Pl.matches_ t.k t.s.toList s.toList) := by
    intro w' x c0 c1 hx hlo hr
    obtain ⟨he, hz⟩ := hr
    injection he with e0 he; injection he with e1 he; subst e0 e1
    exact any1 _ _ _ _ _ hz zs (lo_keep hlo hc) (hlo.facts.2.2 _ (by simp))
  have HC := Lib.hid (WIdxTerm.containsFunc TermR.kept cap (w.alloc (.cells #[.string s] 9)) (by simp; omega) hA1 hn enters_any1 hS)
  clear hc hS hA1
  go_enter Tryz.func100, Tryz.ntmps100
  go_wp2_with (go_at_call 109; refine (HC.out).mono ?_; rintro e w1 ⟨rfl, hb⟩)
  go_ret
  exact ⟨rfl, (by repeat (first | exact Lo.refl _ | assumption | refine Lo.drew ?_ | refine Lo.alloc ?_ _ | refine Lo.setCell ?_ (by first | (dsimp only; omega) | (simp; omega) | (simp; done)) _ | refine Lo.trans ?_ (by assumption)))⟩
theorem lets (s : ByteArray) (A : Option Addr) (cap : Nat) (ts : List Pl.Term) {B : Nat} (w : World) (hB : B ≤ w.heap.size) (hA : Terms B w A ts) (zs : s.size ≤ maxLen) (hn : ts.length ≤ maxLen) :
    Calls Tryz.prog 89 #[.string s, .slice A ts.length cap] w fun e w' => e = .returned (.bool (letsT s ts)) ∧ Lo w w' := by
  have HC := Lib.hid (any s A cap ts w hB hA zs hn)
  unfold letsT
  unfold maxLen at hn
  cases ts with
  | nil =>
    go_enter Tryz.func89, Tryz.ntmps89
    go_wp2
    go_ret
    exact ⟨rfl, (by repeat (first | exact Lo.refl _ | assumption | refine Lo.drew ?_ | refine Lo.alloc ?_ _ | refine Lo.setCell ?_ (by first | (dsimp only; omega) | (simp; omega) | (simp; done)) _ | refine Lo.trans ?_ (by assumption)))⟩
  | cons t r =>
    have h0 : ((((t :: r).length : Nat) : Int) == 0) = false := by rw [beq_eq_false_iff_ne]; simp; omega
    obtain ⟨n, hN⟩ : ∃ n, (t :: r).length = n := ⟨_, rfl⟩
    rw [hN] at h0 HC hn ⊢
    clear hN
    go_enter Tryz.func89, Tryz.ntmps89
    go_wp2_with (go_at_call 100; refine (HC.out).mono ?_; rintro e w1 ⟨rfl, hb⟩)
    go_ret
    exact ⟨rfl, (by repeat (first | exact Lo.refl _ | assumption | refine Lo.drew ?_ | refine Lo.alloc ?_ _ | refine Lo.setCell ?_ (by first | (dsimp only; omega) | (simp; omega) | (simp; done)) _ | refine Lo.trans ?_ (by assumption)))⟩
end Go.Proofs.YtnclifgiakmmoaaGreat.WMatch

/- The walks of auth.lets and auth.all, and of addr.In behind a function value. -/
namespace Go.Proofs.YtnclifgiakmmoaaGreat.WAuth
set_option linter.unusedVariables false
set_option linter.unusedSimpArgs false
open Go.RowKit Mem BigFrame

theorem letsSource {α : Type} {R : Rel α} (hR : Kept R) {B : Nat} {A : Option Addr} (cap : Nat) {xs : List α} {g : FuncId} {caps : Array Value} {p : α → Bool} (w : World) (hB : B ≤ w.heap.size) (hA : SliceAt R 3 B w A xs) (hn : xs.length ≤ maxLen) (eg : Go.Proofs.Enters Tryz.prog g) (hf : WIdxSource.Says R B w xs g caps p) :
    Calls Tryz.prog 75 #[.slice A xs.length cap, .func (.func g) #[] caps] w fun e w' => e = .returned (.bool (xs.isEmpty || xs.any p)) ∧ Lo w w' := by
  have HC := Lib.hid (WIdxSource.containsFunc hR cap w hB hA hn eg hf)
  unfold maxLen at hn
  cases xs with
  | nil =>
    go_enter Tryz.func75, Tryz.ntmps75
    go_wp2
    go_ret
    exact ⟨rfl, (by repeat (first | exact Lo.refl _ | assumption | refine Lo.drew ?_ | refine Lo.alloc ?_ _ | refine Lo.setCell ?_ (by first | (dsimp only; omega) | (simp; omega) | (simp; done)) _ | refine Lo.trans ?_ (by assumption)))⟩
  | cons t r =>
    have h0 : ((((t :: r).length : Nat) : Int) == 0) = false := by rw [beq_eq_false_iff_ne]; simp; omega
    obtain ⟨n, hN⟩ : ∃ n, (t :: r).length = n := ⟨_, rfl⟩
    rw [hN] at h0 HC hn ⊢
    clear hN hA
    go_enter Tryz.func75, Tryz.ntmps75
    go_wp2_with (go_at_call 87; refine (HC.out).mono ?_; rintro e w1 ⟨rfl, hb⟩)
    go_ret
    exact ⟨rfl, (by repeat (first | exact Lo.refl _ | assumption | refine Lo.drew ?_ | refine Lo.alloc ?_ _ | refine Lo.setCell ?_ (by first | (dsimp only; omega) | (simp; omega) | (simp; done)) _ | refine Lo.trans ?_ (by assumption)))⟩
theorem letsTarget {α : Type} {R : Rel α} (hR : Kept R) {B : Nat} {A : Option Addr} (cap : Nat) {xs : List α} {g : FuncId} {caps : Array Value} {p : α → Bool} (w : World) (hB : B ≤ w.heap.size) (hA : SliceAt R 4 B w A xs) (hn : xs.length ≤ maxLen) (eg : Go.Proofs.Enters Tryz.prog g) (hf : WIdxTarget.Says R B w xs g caps p) :
    Calls Tryz.prog 78 #[.slice A xs.length cap, .func (.func g) #[] caps] w fun e w' => e = .returned (.bool (xs.isEmpty || xs.any p)) ∧ Lo w w' := by
  have HC := Lib.hid (WIdxTarget.containsFunc hR cap w hB hA hn eg hf)
  unfold maxLen at hn
  cases xs with
  | nil =>
    go_enter Tryz.func78, Tryz.ntmps78
    go_wp2
    go_ret
    exact ⟨rfl, (by repeat (first | exact Lo.refl _ | assumption | refine Lo.drew ?_ | refine Lo.alloc ?_ _ | refine Lo.setCell ?_ (by first | (dsimp only; omega) | (simp; omega) | (simp; done)) _ | refine Lo.trans ?_ (by assumption)))⟩
  | cons t r =>
    have h0 : ((((t :: r).length : Nat) : Int) == 0) = false := by rw [beq_eq_false_iff_ne]; simp; omega
    obtain ⟨n, hN⟩ : ∃ n, (t :: r).length = n := ⟨_, rfl⟩
    rw [hN] at h0 HC hn ⊢
    clear hN hA
    go_enter Tryz.func78, Tryz.ntmps78
    go_wp2_with (go_at_call 54; refine (HC.out).mono ?_; rintro e w1 ⟨rfl, hb⟩)
    go_ret
    exact ⟨rfl, (by repeat (first | exact Lo.refl _ | assumption | refine Lo.drew ?_ | refine Lo.alloc ?_ _ | refine Lo.setCell ?_ (by first | (dsimp only; omega) | (simp; omega) | (simp; done)) _ | refine Lo.trans ?_ (by assumption)))⟩
theorem letsCidr {α : Type} {R : Rel α} (hR : Kept R) {B : Nat} {A : Option Addr} (cap : Nat) {xs : List α} {g : FuncId} {caps : Array Value} {p : α → Bool} (w : World) (hB : B ≤ w.heap.size) (hA : SliceAt R 2 B w A xs) (hn : xs.length ≤ maxLen) (eg : Go.Proofs.Enters Tryz.prog g) (hf : WIdxCidr.Says R B w xs g caps p) :
    Calls Tryz.prog 90 #[.slice A xs.length cap, .func (.func g) #[] caps] w fun e w' => e = .returned (.bool (xs.isEmpty || xs.any p)) ∧ Lo w w' := by
  have HC := Lib.hid (WIdxCidr.containsFunc hR cap w hB hA hn eg hf)
  unfold maxLen at hn
  cases xs with
  | nil =>
    go_enter Tryz.func90, Tryz.ntmps90
    go_wp2
    go_ret
    exact ⟨rfl, (by repeat (first | exact Lo.refl _ | assumption | refine Lo.drew ?_ | refine Lo.alloc ?_ _ | refine Lo.setCell ?_ (by first | (dsimp only; omega) | (simp; omega) | (simp; done)) _ | refine Lo.trans ?_ (by assumption)))⟩
  | cons t r =>
    have h0 : ((((t :: r).length : Nat) : Int) == 0) = false := by rw [beq_eq_false_iff_ne]; simp; omega
    obtain ⟨n, hN⟩ : ∃ n, (t :: r).length = n := ⟨_, rfl⟩
    rw [hN] at h0 HC hn ⊢
    clear hN hA
    go_enter Tryz.func90, Tryz.ntmps90
    go_wp2_with (go_at_call 103; refine (HC.out).mono ?_; rintro e w1 ⟨rfl, hb⟩)
    go_ret
    exact ⟨rfl, (by repeat (first | exact Lo.refl _ | assumption | refine Lo.drew ?_ | refine Lo.alloc ?_ _ | refine Lo.setCell ?_ (by first | (dsimp only; omega) | (simp; omega) | (simp; done)) _ | refine Lo.trans ?_ (by assumption)))⟩
theorem letsInt {α : Type} {R : Rel α} (hR : Kept R) {B : Nat} {A : Option Addr} (cap : Nat) {xs : List α} {g : FuncId} {caps : Array Value} {p : α → Bool} (w : World) (hB : B ≤ w.heap.size) (hA : SliceAt R 1 B w A xs) (hn : xs.length ≤ maxLen) (eg : Go.Proofs.Enters Tryz.prog g) (hf : WIdxInt.Says R B w xs g caps p) :
    Calls Tryz.prog 93 #[.slice A xs.length cap, .func (.func g) #[] caps] w fun e w' => e = .returned (.bool (xs.isEmpty || xs.any p)) ∧ Lo w w' := by
  have HC := Lib.hid (WIdxInt.containsFunc hR cap w hB hA hn eg hf)
  unfold maxLen at hn
  cases xs with
  | nil =>
    go_enter Tryz.func93, Tryz.ntmps93
    go_wp2
    go_ret
    exact ⟨rfl, (by repeat (first | exact Lo.refl _ | assumption | refine Lo.drew ?_ | refine Lo.alloc ?_ _ | refine Lo.setCell ?_ (by first | (dsimp only; omega) | (simp; omega) | (simp; done)) _ | refine Lo.trans ?_ (by assumption)))⟩
  | cons t r =>
    have h0 : ((((t :: r).length : Nat) : Int) == 0) = false := by rw [beq_eq_false_iff_ne]; simp; omega
    obtain ⟨n, hN⟩ : ∃ n, (t :: r).length = n := ⟨_, rfl⟩
    rw [hN] at h0 HC hn ⊢
    clear hN hA
    go_enter Tryz.func93, Tryz.ntmps93
    go_wp2_with (go_at_call 106; refine (HC.out).mono ?_; rintro e w1 ⟨rfl, hb⟩)
    go_ret
    exact ⟨rfl, (by repeat (first | exact Lo.refl _ | assumption | refine Lo.drew ?_ | refine Lo.alloc ?_ _ | refine Lo.setCell ?_ (by first | (dsimp only; omega) | (simp; omega) | (simp; done)) _ | refine Lo.trans ?_ (by assumption)))⟩
end Go.Proofs.YtnclifgiakmmoaaGreat.WAuth

/- The walks of auth.Source. -/
namespace Go.Proofs.YtnclifgiakmmoaaGreat.Pl
set_option linter.unusedVariables false
set_option linter.unusedSimpArgs false
structure Asker where
  ns : ByteArray
  sa : ByteArray
  addr : Int
end Go.Proofs.YtnclifgiakmmoaaGreat.Pl
namespace Go.Proofs.YtnclifgiakmmoaaGreat.WAuth
set_option linter.unusedVariables false
set_option linter.unusedSimpArgs false
open Go.RowKit Mem BigFrame WMatch WAddr WName Opn

/-- an asker as a value -/
def askV (a : Pl.Asker) : Value := .agg #[.string a.ns, .string a.sa, .int .u32 a.addr]
def srcP (a : Pl.Asker) (s : Pl.Source) : Bool := letsT (nameText a.ns a.sa) s.names && letsT a.ns s.spaces && (s.nets.isEmpty || s.nets.any fun c => inC c a.addr)

theorem source1 (c : Pl.Cidr) (x : Int) (b : Nat) (w : World) (hc : w.cell? ⟨b, 2, none⟩ = some (.int .u32 x)) (hb : b < w.heap.size) :
    Calls Tryz.prog 91 #[.agg #[.int .u32 c.addr, .int .i64 c.bits], .pointer (some ⟨b, 0, none⟩)] w fun e w' => e = .returned (.bool (inC c x)) ∧ Lo w w' := by
  go_enter Tryz.func91, Tryz.ntmps91
  go_wp2_with (go_at_call 92; refine (inA c _ _).mono ?_; rintro e w1 ⟨rfl, hb⟩)
  go_ret
  exact ⟨rfl, (by repeat (first | exact Lo.refl _ | assumption | refine Lo.drew ?_ | refine Lo.alloc ?_ _ | refine Lo.setCell ?_ (by first | (dsimp only; omega) | (simp; omega) | (simp; done)) _ | refine Lo.trans ?_ (by assumption)))⟩
theorem enters_source1 : Enters Tryz.prog 91 := enters_of Tryz.func91 (by kernel_rfl) rfl

set_option maxRecDepth 100000 in
set_option maxHeartbeats 1600000 in
theorem source (s : Pl.Source) (a : Pl.Asker) (c0 c1 c2 : Value) {B : Nat} (w : World) (hB : B ≤ w.heap.size) (hs : SourceR B w s [c0, c1, c2]) (zn : a.ns.size ≤ maxLen) (za : a.sa.size ≤ maxLen) :
    Calls Tryz.prog 77 #[.agg #[c0, c1, c2], askV a] w fun e w' => e = .returned (.bool (srcP a s)) ∧ Lo w w' := by
  obtain ⟨d0, d1, d2, he, ⟨A0, p0, e0, h0, l0, m0⟩, ⟨A1, p1, e1, h1, l1, m1⟩, ⟨A2, p2, e2, h2, l2, m2⟩⟩ := hs
  injection he with q0 he; injection he with q1 he; injection he with q2 he
  subst q0 q1 q2
  injection e0 with e0; injection e1 with e1; injection e2 with e2
  subst e0 e1 e2
  obtain ⟨nt, hnt⟩ : ∃ nt, nameText a.ns a.sa = nt := ⟨_, rfl⟩
  have znt : nt.size ≤ maxLen := by have := nameText_len a.ns a.sa; rw [hnt] at this; unfold maxLen; omega
  have C0 : ∀ W, Lo w W → Calls Tryz.prog 89 #[.string nt, .slice A0 s.names.length p0] W fun e w' => e = .returned (.bool (letsT nt s.names)) ∧ Lo W w' := fun W hW =>
    lets nt A0 p0 s.names W (Nat.le_trans hB hW.size) (SliceAt.lo TermR.kept h0 hW hB) znt (Nat.le_trans l0 m0)
  have C1 : ∀ W, Lo w W → Calls Tryz.prog 89 #[.string a.ns, .slice A1 s.spaces.length p1] W fun e w' => e = .returned (.bool (letsT a.ns s.spaces)) ∧ Lo W w' := fun W hW =>
    lets a.ns A1 p1 s.spaces W (Nat.le_trans hB hW.size) (SliceAt.lo TermR.kept h1 hW hB) zn (Nat.le_trans l1 m1)
  have C2 : ∀ (W : World) (b : Nat), Lo w W → W.cell? ⟨b, 2, none⟩ = some (.int .u32 a.addr) → Calls Tryz.prog 90 #[.slice A2 s.nets.length p2, .func (.func 91) #[] #[.pointer (some ⟨b, 0, none⟩)]] W fun e w' => e = .returned (.bool (s.nets.isEmpty || s.nets.any fun c => inC c a.addr)) ∧ Lo W w' := fun W b hW hc => by
    refine letsCidr CidrR.kept p2 W (Nat.le_trans hB hW.size) (SliceAt.lo CidrR.kept h2 hW hB) (Nat.le_trans l2 m2) enters_source1 ?_
    intro W' x c0 c1 hx hlo hr
    obtain ⟨d0, d1, he, ⟨ea, _⟩, ⟨eb, _⟩⟩ := hr
    injection he with q0 he; injection he with q1 he; subst q0 q1
    injection ea with ea; injection eb with eb; subst ea eb
    exact source1 x a.addr b W' (lo_keep hlo hc) (World.block_lt_of_cell? W' _ (lo_keep hlo hc))
  have C3 : ∀ W, Calls Tryz.prog 88 #[.agg #[.string a.ns, .string a.sa]] W fun e w' => e = .returned (.tuple #[.string nt, .int .i64 (if mayN a.ns a.sa then 0 else 1)]) ∧ Lo W w' := fun W => by rw [← hnt]; exact printName _ _ _ zn za
  have hv : srcP a s = (letsT nt s.names && letsT a.ns s.spaces && (s.nets.isEmpty || s.nets.any fun c => inC c a.addr)) := by unfold srcP; rw [hnt]
  rw [hv]
  unfold askV
  generalize letsT nt s.names = x at *
  generalize letsT a.ns s.spaces = y at *
  generalize (s.nets.isEmpty || s.nets.any fun c => inC c a.addr) = z at *
  generalize (if mayN a.ns a.sa then (0 : Int) else 1) = er at *
  have H0 := Lib.hid C0
  have H1 := Lib.hid C1
  have H2 := Lib.hid C2
  have H3 := Lib.hid C3
  clear C0 C1 C2 C3 hv hnt h0 h1 h2
  generalize s.names.length = n0 at *
  generalize s.spaces.length = n1 at *
  generalize s.nets.length = n2 at *
  cases x <;> cases y
  all_goals
    go_enter Tryz.func77, Tryz.ntmps77
    go_wp2_with (first
      | (go_at_call 88; refine (H3.out _).mono ?_; rintro e w1 ⟨rfl, hb⟩; obtain ⟨hc, hf, hz⟩ := hb.facts; have hz0 := hz w.heap.size (by first | assumption | (simp; done) | (simp; omega)); have hq0 := fun o => hc w.heap.size o (by first | assumption | (simp; done) | (simp; omega)); have hz1 := hz (w.heap.size + 1) (by first | assumption | (simp; done) | (simp; omega)); have hq1 := fun o => hc (w.heap.size + 1) o (by first | assumption | (simp; done) | (simp; omega)); (have g2 : w1.cell? ⟨w.heap.size + 1, 2, none⟩ = some (.int .u32 a.addr) := (hq1 2).trans (by simp)))
      | (go_at_call 89; first
          | ((with_reducible refine (H0.out _ ?_).mono ?_); (exact (by repeat (first | exact Lo.refl _ | assumption | refine Lo.drew ?_ | refine Lo.alloc ?_ _ | refine Lo.setCell ?_ (by first | (dsimp only; omega) | (simp; omega) | (simp; done)) _ | refine Lo.trans ?_ (by assumption)))); rintro e w2 ⟨rfl, hb⟩; obtain ⟨hc, hf, hz⟩ := hb.facts; have hz0 := hz w.heap.size (by first | assumption | (simp; done) | (simp; omega)); have hq0 := fun o => hc w.heap.size o (by first | assumption | (simp; done) | (simp; omega)); have hz1 := hz (w.heap.size + 1) (by first | assumption | (simp; done) | (simp; omega)); have hq1 := fun o => hc (w.heap.size + 1) o (by first | assumption | (simp; done) | (simp; omega)); (have g2 := lo_keep hb g2))
          | ((with_reducible refine (H1.out _ ?_).mono ?_); (exact (by repeat (first | exact Lo.refl _ | assumption | refine Lo.drew ?_ | refine Lo.alloc ?_ _ | refine Lo.setCell ?_ (by first | (dsimp only; omega) | (simp; omega) | (simp; done)) _ | refine Lo.trans ?_ (by assumption)))); rintro e w2 ⟨rfl, hb⟩; obtain ⟨hc, hf, hz⟩ := hb.facts; have hz0 := hz w.heap.size (by first | assumption | (simp; done) | (simp; omega)); have hq0 := fun o => hc w.heap.size o (by first | assumption | (simp; done) | (simp; omega)); have hz1 := hz (w.heap.size + 1) (by first | assumption | (simp; done) | (simp; omega)); have hq1 := fun o => hc (w.heap.size + 1) o (by first | assumption | (simp; done) | (simp; omega)); (have g2 := lo_keep hb g2)))
      | (go_at_call 90; refine (H2.out _ _ ?_ ?_).mono ?_; (exact (by repeat (first | exact Lo.refl _ | assumption | refine Lo.drew ?_ | refine Lo.alloc ?_ _ | refine Lo.setCell ?_ (by first | (dsimp only; omega) | (simp; omega) | (simp; done)) _ | refine Lo.trans ?_ (by assumption)))); (exact g2); rintro e w3 ⟨rfl, hb⟩))
    go_ret
    exact ⟨ret_bool (by simp), (by repeat (first | exact Lo.refl _ | assumption | refine Lo.drew ?_ | refine Lo.alloc ?_ _ | refine Lo.setCell ?_ (by first | (dsimp only; omega) | (simp; omega) | (simp; done)) _ | refine Lo.trans ?_ (by assumption)))⟩
end Go.Proofs.YtnclifgiakmmoaaGreat.WAuth

/- The walks of auth.Target. -/
namespace Go.Proofs.YtnclifgiakmmoaaGreat.Pl
set_option linter.unusedVariables false
set_option linter.unusedSimpArgs false
/-- what of a request is looked at -/
structure Req where
  method : ByteArray
  path : ByteArray
  host : ByteArray
  heads : List Head
end Go.Proofs.YtnclifgiakmmoaaGreat.Pl
namespace Go.Proofs.YtnclifgiakmmoaaGreat.WAuth
set_option linter.unusedVariables false
set_option linter.unusedSimpArgs false
open Go.RowKit Mem BigFrame WMatch WAddr WName Opn

def tgtP (port : Int) (q : Pl.Req) (t : Pl.Target) : Bool := (t.ports.isEmpty || t.ports.any fun n => n == port) && letsT q.method t.methods && letsT q.path t.paths && letsT q.host t.hosts

theorem target1 (n p : Int) (b : Nat) (w : World) (hc : w.cell? ⟨b, 0, none⟩ = some (.int .i64 p)) (hb : b < w.heap.size) :
    Calls Tryz.prog 94 #[.int .i64 n, .pointer (some ⟨b, 0, none⟩)] w fun e w' => e = .returned (.bool (n == p)) ∧ Lo w w' := by
  go_enter Tryz.func94, Tryz.ntmps94
  go_wp2
  go_ret
  exact ⟨rfl, (by repeat (first | exact Lo.refl _ | assumption | refine Lo.drew ?_ | refine Lo.alloc ?_ _ | refine Lo.setCell ?_ (by first | (dsimp only; omega) | (simp; omega) | (simp; done)) _ | refine Lo.trans ?_ (by assumption)))⟩
theorem enters_target1 : Enters Tryz.prog 94 := enters_of Tryz.func94 (by kernel_rfl) rfl

set_option maxRecDepth 100000 in
set_option maxHeartbeats 1600000 in
theorem target (t : Pl.Target) (port : Int) (q : Pl.Req) (c0 c1 c2 c3 : Value) (tg qu : ByteArray) (hd bd : Value) {B : Nat} (w : World) (hB : B ≤ w.heap.size) (ht : TargetR B w t [c0, c1, c2, c3]) (zm : q.method.size ≤ maxLen) (zp : q.path.size ≤ maxLen) (zh : q.host.size ≤ maxLen) :
    Calls Tryz.prog 80 #[.agg #[c0, c1, c2, c3], .int .i64 port, .agg #[.string q.method, .string tg, .string q.path, .string qu, .string q.host, hd, bd]] w fun e w' => e = .returned (.bool (tgtP port q t)) ∧ Lo w w' := by
  obtain ⟨d0, d1, d2, d3, he, ⟨A0, p0, e0, h0, l0, m0⟩, ⟨A1, p1, e1, h1, l1, m1⟩, ⟨A2, p2, e2, h2, l2, m2⟩, ⟨A3, p3, e3, h3, l3, m3⟩⟩ := ht
  injection he with q0 he; injection he with q1 he; injection he with q2 he; injection he with q3 he
  subst q0 q1 q2 q3
  injection e0 with e0; injection e1 with e1; injection e2 with e2; injection e3 with e3
  subst e0 e1 e2 e3
  have C0 : ∀ (W : World) (b : Nat), Lo w W → W.cell? ⟨b, 0, none⟩ = some (.int .i64 port) → Calls Tryz.prog 93 #[.slice A0 t.ports.length p0, .func (.func 94) #[] #[.pointer (some ⟨b, 0, none⟩)]] W fun e w' => e = .returned (.bool (t.ports.isEmpty || t.ports.any fun n => n == port)) ∧ Lo W w' := fun W b hW hc => by
    refine letsInt (IntC.kept .i64) p0 W (Nat.le_trans hB hW.size) (SliceAt.lo (IntC.kept .i64) h0 hW hB) (Nat.le_trans l0 m0) enters_target1 ?_
    intro W' x c0 hx hlo hr
    obtain ⟨ea, _⟩ := hr
    injection ea with ea; subst ea
    exact target1 x port b W' (lo_keep hlo hc) (World.block_lt_of_cell? W' _ (lo_keep hlo hc))
  have C1 : ∀ W, Lo w W → Calls Tryz.prog 89 #[.string q.method, .slice A1 t.methods.length p1] W fun e w' => e = .returned (.bool (letsT q.method t.methods)) ∧ Lo W w' := fun W hW =>
    lets _ A1 p1 _ W (Nat.le_trans hB hW.size) (SliceAt.lo TermR.kept h1 hW hB) zm (Nat.le_trans l1 m1)
  have C2 : ∀ W, Lo w W → Calls Tryz.prog 89 #[.string q.path, .slice A2 t.paths.length p2] W fun e w' => e = .returned (.bool (letsT q.path t.paths)) ∧ Lo W w' := fun W hW =>
    lets _ A2 p2 _ W (Nat.le_trans hB hW.size) (SliceAt.lo TermR.kept h2 hW hB) zp (Nat.le_trans l2 m2)
  have C3 : ∀ W, Lo w W → Calls Tryz.prog 89 #[.string q.host, .slice A3 t.hosts.length p3] W fun e w' => e = .returned (.bool (letsT q.host t.hosts)) ∧ Lo W w' := fun W hW =>
    lets _ A3 p3 _ W (Nat.le_trans hB hW.size) (SliceAt.lo TermR.kept h3 hW hB) zh (Nat.le_trans l3 m3)
  unfold tgtP
  generalize (t.ports.isEmpty || t.ports.any fun n => n == port) = x at *
  generalize letsT q.method t.methods = y at *
  generalize letsT q.path t.paths = z at *
  generalize letsT q.host t.hosts = u at *
  have H0 := Lib.hid C0
  have H1 := Lib.hid C1
  have H2 := Lib.hid C2
  have H3 := Lib.hid C3
  clear C0 C1 C2 C3 h0 h1 h2 h3
  generalize t.ports.length = n0 at *
  generalize t.methods.length = n1 at *
  generalize t.paths.length = n2 at *
  generalize t.hosts.length = n3 at *
  cases x <;> cases y <;> cases z
  all_goals
    go_enter Tryz.func80, Tryz.ntmps80
    go_wp2_with (first
      | (go_at_call 89; first
          | ((with_reducible refine (H1.out _ ?_).mono ?_); (exact (by repeat (first | exact Lo.refl _ | assumption | refine Lo.drew ?_ | refine Lo.alloc ?_ _ | refine Lo.setCell ?_ (by first | (dsimp only; omega) | (simp; omega) | (simp; done)) _ | refine Lo.trans ?_ (by assumption)))); rintro e w2 ⟨rfl, hb⟩; obtain ⟨hc, hf, hz⟩ := hb.facts; have hz0 := hz w.heap.size (by first | assumption | (simp; done) | (simp; omega)); have hq0 := fun o => hc w.heap.size o (by first | assumption | (simp; done) | (simp; omega)); have hz1 := hz (w.heap.size + 1) (by first | assumption | (simp; done) | (simp; omega)); have hq1 := fun o => hc (w.heap.size + 1) o (by first | assumption | (simp; done) | (simp; omega)); have hz2 := hz (w.heap.size + 2) (by first | assumption | (simp; done) | (simp; omega)); have hq2 := fun o => hc (w.heap.size + 2) o (by first | assumption | (simp; done) | (simp; omega)))
          | ((with_reducible refine (H2.out _ ?_).mono ?_); (exact (by repeat (first | exact Lo.refl _ | assumption | refine Lo.drew ?_ | refine Lo.alloc ?_ _ | refine Lo.setCell ?_ (by first | (dsimp only; omega) | (simp; omega) | (simp; done)) _ | refine Lo.trans ?_ (by assumption)))); rintro e w2 ⟨rfl, hb⟩; obtain ⟨hc, hf, hz⟩ := hb.facts; have hz0 := hz w.heap.size (by first | assumption | (simp; done) | (simp; omega)); have hq0 := fun o => hc w.heap.size o (by first | assumption | (simp; done) | (simp; omega)); have hz1 := hz (w.heap.size + 1) (by first | assumption | (simp; done) | (simp; omega)); have hq1 := fun o => hc (w.heap.size + 1) o (by first | assumption | (simp; done) | (simp; omega)); have hz2 := hz (w.heap.size + 2) (by first | assumption | (simp; done) | (simp; omega)); have hq2 := fun o => hc (w.heap.size + 2) o (by first | assumption | (simp; done) | (simp; omega)))
          | ((with_reducible refine (H3.out _ ?_).mono ?_); (exact (by repeat (first | exact Lo.refl _ | assumption | refine Lo.drew ?_ | refine Lo.alloc ?_ _ | refine Lo.setCell ?_ (by first | (dsimp only; omega) | (simp; omega) | (simp; done)) _ | refine Lo.trans ?_ (by assumption)))); rintro e w2 ⟨rfl, hb⟩; obtain ⟨hc, hf, hz⟩ := hb.facts; have hz0 := hz w.heap.size (by first | assumption | (simp; done) | (simp; omega)); have hq0 := fun o => hc w.heap.size o (by first | assumption | (simp; done) | (simp; omega)); have hz1 := hz (w.heap.size + 1) (by first | assumption | (simp; done) | (simp; omega)); have hq1 := fun o => hc (w.heap.size + 1) o (by first | assumption | (simp; done) | (simp; omega)); have hz2 := hz (w.heap.size + 2) (by first | assumption | (simp; done) | (simp; omega)); have hq2 := fun o => hc (w.heap.size + 2) o (by first | assumption | (simp; done) | (simp; omega))))
      | (go_at_call 93; refine (H0.out _ _ ?_ ?_).mono ?_; (exact (by repeat (first | exact Lo.refl _ | assumption | refine Lo.drew ?_ | refine Lo.alloc ?_ _ | refine Lo.setCell ?_ (by first | (dsimp only; omega) | (simp; omega) | (simp; done)) _ | refine Lo.trans ?_ (by assumption)))); (first | (simp; done) | exact lo_keep ((Lo.refl _).alloc _) (by simp) | (simp [go_sem]; done)); rintro e w3 ⟨rfl, hb⟩; obtain ⟨hc, hf, hz⟩ := hb.facts; have hz0 := hz w.heap.size (by first | assumption | (simp; done) | (simp; omega)); have hq0 := fun o => hc w.heap.size o (by first | assumption | (simp; done) | (simp; omega)); have hz1 := hz (w.heap.size + 1) (by first | assumption | (simp; done) | (simp; omega)); have hq1 := fun o => hc (w.heap.size + 1) o (by first | assumption | (simp; done) | (simp; omega)); have hz2 := hz (w.heap.size + 2) (by first | assumption | (simp; done) | (simp; omega)); have hq2 := fun o => hc (w.heap.size + 2) o (by first | assumption | (simp; done) | (simp; omega))))
    go_ret
    exact ⟨ret_bool (by simp), (by repeat (first | exact Lo.refl _ | assumption | refine Lo.drew ?_ | refine Lo.alloc ?_ _ | refine Lo.setCell ?_ (by first | (dsimp only; omega) | (simp; omega) | (simp; done)) _ | refine Lo.trans ?_ (by assumption)))⟩
end Go.Proofs.YtnclifgiakmmoaaGreat.WAuth

/- Policies, requests as data; how many there are. -/
namespace Go.Proofs.YtnclifgiakmmoaaGreat.Pol
set_option linter.unusedVariables false
set_option linter.unusedSimpArgs false
open Go.RowKit Mem Sim Opn
abbrev nil0 : A := .t (.v (.slice none 0 0))
abbrev rcells (r : Pl.Rule) : List A := [.t (.sl 3 (r.from_.map sourceT)), .t (.sl 4 (r.to_.map targetT)), .t (.sl 2 (r.when_.map whenT))]
theorem map_take_succ {α β : Type} (f : α → β) {l : List α} {k : Nat} (h : k < l.length) : (l.take (k + 1)).map f = (l.take k).map f ++ [f l[k]] := by
  rw [List.take_succ_eq_append_getElem h, List.map_append]; rfl
/-- rows that are no longer than so -/
structure FewR (r : Pl.Rule) : Prop where
  f : r.from_.length ≤ 1000
  t : r.to_.length ≤ 1000
  w : r.when_.length ≤ 1000
  fs : ∀ s ∈ r.from_, s.names.length ≤ 1000 ∧ s.spaces.length ≤ 1000 ∧ s.nets.length ≤ 1000
  ts : ∀ s ∈ r.to_, s.ports.length ≤ 1000 ∧ s.methods.length ≤ 1000 ∧ s.paths.length ≤ 1000 ∧ s.hosts.length ≤ 1000
  ws : ∀ s ∈ r.when_, s.terms.length ≤ 1000
theorem few_b {α : Type} {f : α → List T} {l : List α} (n : Nat) (h : l.length ≤ 1000) (hn : n ≤ 1000) : (l.map f).length * n ≤ 140737488355328 := by
  rw [List.length_map]
  have := Nat.mul_le_mul h hn
  omega
theorem few_m {α : Type} {f : α → List T} {l : List α} (h : l.length ≤ 1000) : (l.map f).length ≤ maxLen := by rw [List.length_map]; unfold maxLen; omega
structure FewP (p : Pl.Policy) : Prop where
  n : p.rules.length ≤ 1000
  r : ∀ r ∈ p.rules, FewR r
abbrev pcells (p : Pl.Policy) : List A := [.t (.v (.int .u64 p.id)), .t (.v (.string p.ns)), .t (.v (.int .u64 p.service)), .t (.v (.int .i64 p.deny)), .t (.sl 3 (p.rules.map ruleT))]
def askT (a : Pl.Asker) : List T := [.v (.string a.ns), .v (.string a.sa), .v (.int .u32 a.addr)]
def reqT (q : Pl.Req) (tg qu : ByteArray) (bd : Value) : List T := [.v (.string q.method), .v (.string tg), .v (.string q.path), .v (.string qu), .v (.string q.host), .sl 2 (q.heads.map headT), .v bd]
structure OkAsk (a : Pl.Asker) : Prop where
  ns : a.ns.size ≤ maxLen
  sa : a.sa.size ≤ maxLen
  addr : (Lit.int .u32 a.addr).wf = true
structure FewL (l : List Pl.Policy) : Prop where
  n : l.length ≤ 1000
  r : ∀ p ∈ l, p.rules.length ≤ 1000 ∧ ∀ r ∈ p.rules, FewR r
end Go.Proofs.YtnclifgiakmmoaaGreat.Pol
