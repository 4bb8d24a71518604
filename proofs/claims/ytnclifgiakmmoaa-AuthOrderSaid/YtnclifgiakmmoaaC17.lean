/- Merged by bundles.py: WMatches, SimRefC, PlAuth, SimRefD, SimRefE, SimCopy, SimL. -/
import Derived.Test.YtnclifgiakmmoaaC16
import Derived.Test.YtnclifgiakmmoaaC14
import Derived.Test.YtnclifgiakmmoaaC15
import Derived.Test.YtnclifgiakmmoaaC8
import Derived.Test.YtnclifgiakmmoaaC6
/- The walks of auth.all and auth.Matches. -/
namespace Go.Proofs.Ytnclifgiakmmoaa.Mem
set_option linter.unusedVariables false
set_option linter.unusedSimpArgs false
open Go.RowKit
/-- a block's first cells -/
def BoxAt (w : World) (b : Nat) (cs : List Value) : Prop := ∀ (j : Nat) v, cs[j]? = some v → w.cell? ⟨b, j, none⟩ = some v
theorem BoxAt.lo {w w' : World} {b : Nat} {cs : List Value} (h : BoxAt w b cs) (hl : Lo w w') : BoxAt w' b cs := fun j v hj => lo_keep hl (h j v hj)
theorem BoxAt.new (w : World) (cs : Array Value) (t : TypeId) : BoxAt (w.alloc (.cells cs t)) w.heap.size cs.toList := by
  intro j v hj
  simp only [World.cell?, heap_alloc_new]
  simpa using hj
theorem BoxAt.old {w : World} {b : Nat} {cs : List Value} (h : BoxAt w b cs) (o : Obj) : BoxAt (w.alloc o) b cs := h.lo ((Lo.refl _).alloc _)
theorem BoxAt.newAt {w : World} {b : Nat} (cs : Array Value) (t : TypeId) (h : b = w.heap.size) : BoxAt (w.alloc (.cells cs t)) b cs.toList := by subst h; exact BoxAt.new _ _ _
theorem BoxAt.lt {w : World} {b : Nat} {v : Value} {cs : List Value} (h : BoxAt w b (v :: cs)) : b < w.heap.size := World.block_lt_of_cell? w _ (h 0 v rfl)
end Go.Proofs.Ytnclifgiakmmoaa.Mem
namespace Go.Proofs.Ytnclifgiakmmoaa.WAuth
set_option linter.unusedVariables false
set_option linter.unusedSimpArgs false
open Go.RowKit Mem BigFrame WMatch WAddr WName Opn

theorem allWhen1 {p : Bool} (c0 c1 : Value) (g : FuncId) (caps : Array Value) (b : Nat) (w : World) (hc : w.cell? ⟨b, 0, none⟩ = some (.func (.func g) #[] caps)) (eg : Go.Proofs.Enters Try.prog g)
    (hf : ∀ W, Lo w W → Calls Try.prog g (#[.agg #[c0, c1]] ++ caps) W fun e w' => e = .returned (.bool p) ∧ Lo W w') :
    Calls Try.prog 38 #[.agg #[c0, c1], .pointer (some ⟨b, 0, none⟩)] w fun e w' => e = .returned (.bool (!p)) ∧ Lo w w' := by
  have HF := Lib.hid hf
  clear hf
  unfold Go.Proofs.Enters at eg
  have hb := World.block_lt_of_cell? w _ hc
  go_enter Try.func38, Try.ntmps38
  go_wp2_with fail
  refine (HF.out _ ?_).mono ?_
  · exact (by repeat (first | exact Lo.refl _ | assumption | refine Lo.drew ?_ | refine Lo.alloc ?_ _ | refine Lo.setCell ?_ (by first | (dsimp only; omega) | (simp; omega) | (simp; done)) _ | refine Lo.trans ?_ (by assumption)))
  rintro e w1 ⟨rfl, hb1⟩
  go_wp2
  go_ret
  exact ⟨rfl, (by repeat (first | exact Lo.refl _ | assumption | refine Lo.drew ?_ | refine Lo.alloc ?_ _ | refine Lo.setCell ?_ (by first | (dsimp only; omega) | (simp; omega) | (simp; done)) _ | refine Lo.trans ?_ (by assumption)))⟩
theorem enters_allWhen1 : Enters Try.prog 38 := enters_of Try.func38 (by kernel_rfl) rfl
theorem all_not {α : Type} (xs : List α) (p : α → Bool) : (!(xs.any fun x => !p x)) = xs.all p := by
  induction xs with
  | nil => rfl
  | cons x r ih => simp only [List.any_cons, List.all_cons, Bool.not_or, ih, Bool.not_not]
theorem allWhen {α : Type} {R : Rel α} (hR : Kept R) {B : Nat} {A : Option Addr} (cap : Nat) {xs : List α} {g : FuncId} {caps : Array Value} {p : α → Bool} (w : World) (hB : B ≤ w.heap.size) (hA : SliceAt R 2 B w A xs) (hn : xs.length ≤ maxLen) (eg : Go.Proofs.Enters Try.prog g) (hf : WIdxWhen.Says R B w xs g caps p) :
    Calls Try.prog 25 #[.slice A xs.length cap, .func (.func g) #[] caps] w fun e w' => e = .returned (.bool (xs.all p)) ∧ Lo w w' := by
  have HC : ∀ (W : World) (b : Nat), Lo w W → W.cell? ⟨b, 0, none⟩ = some (.func (.func g) #[] caps) →
      Calls Try.prog 37 #[.slice A xs.length cap, .func (.func 38) #[] #[.pointer (some ⟨b, 0, none⟩)]] W fun e w' => e = .returned (.bool (xs.any fun x => !p x)) ∧ Lo W w' := fun W b hW hc => by
    refine WIdxWhen.containsFunc hR cap W (Nat.le_trans hB hW.size) (SliceAt.lo hR hA hW hB) hn enters_allWhen1 ?_
    intro W' x c0 c1 hx hlo hr
    refine allWhen1 c0 c1 g caps b W' (lo_keep hlo hc) eg fun W2 hW2 => hf W2 x c0 c1 hx ((hW.trans hlo).trans hW2) ?_
    exact hR _ _ _ _ _ _ hr (fun q hq => hW2.cell q (Nat.lt_of_lt_of_le hq (Nat.le_trans hB (hW.trans hlo).size))) (Nat.le_refl _)
  have H := Lib.hid HC
  rw [← all_not]
  clear HC hf hA
  generalize (xs.any fun x => !p x) = r at *
  generalize xs.length = n at *
  go_enter Try.func25, Try.ntmps25
  go_wp2_with fail
  refine (H.out _ _ ?_ ?_).mono ?_
  · exact (by repeat (first | exact Lo.refl _ | assumption | refine Lo.drew ?_ | refine Lo.alloc ?_ _ | refine Lo.setCell ?_ (by first | (dsimp only; omega) | (simp; omega) | (simp; done)) _ | refine Lo.trans ?_ (by assumption)))
  · simp
  rintro e w1 ⟨rfl, hb⟩
  go_wp2
  go_ret
  exact ⟨rfl, (by repeat (first | exact Lo.refl _ | assumption | refine Lo.drew ?_ | refine Lo.alloc ?_ _ | refine Lo.setCell ?_ (by first | (dsimp only; omega) | (simp; omega) | (simp; done)) _ | refine Lo.trans ?_ (by assumption)))⟩

theorem matches1 (s : Pl.Source) (a : Pl.Asker) (c0 c1 c2 : Value) (b : Nat) {B : Nat} (w : World) (hB : B ≤ w.heap.size) (hs : SourceR B w s [c0, c1, c2]) (zn : a.ns.size ≤ maxLen) (za : a.sa.size ≤ maxLen) (hb : BoxAt w b [.string a.ns, .string a.sa, .int .u32 a.addr]) :
    Calls Try.prog 20 #[.agg #[c0, c1, c2], .pointer (some ⟨b, 0, none⟩)] w fun e w' => e = .returned (.bool (srcP a s)) ∧ Lo w w' := by
  have h0 := hb 0 _ rfl
  have h1 := hb 1 _ rfl
  have h2 := hb 2 _ rfl
  have hlt := hb.lt
  have HS : Hid (∀ W, Lo w W → Calls Try.prog 21 #[.agg #[c0, c1, c2], .agg #[.string a.ns, .string a.sa, .int .u32 a.addr]] W fun e w' => e = .returned (.bool (srcP a s)) ∧ Lo W w') :=
    Lib.hid fun W hW => source s a c0 c1 c2 W (Nat.le_trans hB hW.size) (SourceR.kept _ _ _ _ _ _ hs (hW.cells hB) (Nat.le_refl _)) zn za
  clear hs hb
  go_enter Try.func20, Try.ntmps20
  go_wp2_with (go_at_call 21; refine (HS.out _ ?_).mono ?_; (exact (by repeat (first | exact Lo.refl _ | assumption | refine Lo.drew ?_ | refine Lo.alloc ?_ _ | refine Lo.setCell ?_ (by first | (dsimp only; omega) | (simp; omega) | (simp; done)) _ | refine Lo.trans ?_ (by assumption)))); rintro e w1 ⟨rfl, hb⟩)
  go_ret
  exact ⟨rfl, (by repeat (first | exact Lo.refl _ | assumption | refine Lo.drew ?_ | refine Lo.alloc ?_ _ | refine Lo.setCell ?_ (by first | (dsimp only; omega) | (simp; omega) | (simp; done)) _ | refine Lo.trans ?_ (by assumption)))⟩
theorem matches2 (t : Pl.Target) (port : Int) (q : Pl.Req) (tg qu : ByteArray) (hd bd : Value) (c0 c1 c2 c3 : Value) (b1 b2 : Nat) {B : Nat} (w : World) (hB : B ≤ w.heap.size) (ht : TargetR B w t [c0, c1, c2, c3]) (zm : q.method.size ≤ maxLen) (zp : q.path.size ≤ maxLen) (zh : q.host.size ≤ maxLen)
    (hp : BoxAt w b1 [.int .i64 port]) (hq : BoxAt w b2 [.string q.method, .string tg, .string q.path, .string qu, .string q.host, hd, bd]) :
    Calls Try.prog 23 #[.agg #[c0, c1, c2, c3], .pointer (some ⟨b1, 0, none⟩), .pointer (some ⟨b2, 0, none⟩)] w fun e w' => e = .returned (.bool (tgtP port q t)) ∧ Lo w w' := by
  have h0 := hp 0 _ rfl
  have g0 := hq 0 _ rfl
  have g1 := hq 1 _ rfl
  have g2 := hq 2 _ rfl
  have g3 := hq 3 _ rfl
  have g4 := hq 4 _ rfl
  have g5 := hq 5 _ rfl
  have g6 := hq 6 _ rfl
  have hlt1 := hp.lt
  have hlt2 := hq.lt
  have HS : Hid (∀ W, Lo w W → Calls Try.prog 24 #[.agg #[c0, c1, c2, c3], .int .i64 port, .agg #[.string q.method, .string tg, .string q.path, .string qu, .string q.host, hd, bd]] W fun e w' => e = .returned (.bool (tgtP port q t)) ∧ Lo W w') :=
    Lib.hid fun W hW => target t port q c0 c1 c2 c3 tg qu hd bd W (Nat.le_trans hB hW.size) (TargetR.kept _ _ _ _ _ _ ht (hW.cells hB) (Nat.le_refl _)) zm zp zh
  clear ht hp hq
  go_enter Try.func23, Try.ntmps23
  go_wp2_with (go_at_call 24; refine (HS.out _ ?_).mono ?_; (exact (by repeat (first | exact Lo.refl _ | assumption | refine Lo.drew ?_ | refine Lo.alloc ?_ _ | refine Lo.setCell ?_ (by first | (dsimp only; omega) | (simp; omega) | (simp; done)) _ | refine Lo.trans ?_ (by assumption)))); rintro e w1 ⟨rfl, hb⟩)
  go_ret
  exact ⟨rfl, (by repeat (first | exact Lo.refl _ | assumption | refine Lo.drew ?_ | refine Lo.alloc ?_ _ | refine Lo.setCell ?_ (by first | (dsimp only; omega) | (simp; omega) | (simp; done)) _ | refine Lo.trans ?_ (by assumption)))⟩
theorem matches3 (x : Pl.When) (hs : List Pl.Head) (A : Option Addr) (cap : Nat) (m t p q h bd : Value) (c0 c1 : Value) (b : Nat) {B : Nat} (w : World) (hB : B ≤ w.heap.size) (hx : WhenR B w x [c0, c1]) (hA : SliceAt HeadR 2 B w A hs) (h100 : hs.length ≤ 1000)
    (hq : BoxAt w b [m, t, p, q, h, .slice A hs.length cap, bd]) :
    Calls Try.prog 26 #[.agg #[c0, c1], .pointer (some ⟨b, 0, none⟩)] w fun e w' => e = .returned (.bool (whenP hs x)) ∧ Lo w w' := by
  have g0 := hq 0 _ rfl
  have g1 := hq 1 _ rfl
  have g2 := hq 2 _ rfl
  have g3 := hq 3 _ rfl
  have g4 := hq 4 _ rfl
  have g5 := hq 5 _ rfl
  have g6 := hq 6 _ rfl
  have hlt := hq.lt
  have HS : Hid (∀ W, Lo w W → Calls Try.prog 27 #[.agg #[c0, c1], .agg #[m, t, p, q, h, .slice A hs.length cap, bd]] W fun e w' => e = .returned (.bool (whenP hs x)) ∧ Lo W w') :=
    Lib.hid fun W hW => when_ x hs A cap c0 c1 m t p q h bd W (Nat.le_trans hB hW.size) (WhenR.kept _ _ _ _ _ _ hx (hW.cells hB) (Nat.le_refl _)) (SliceAt.lo HeadR.kept hA hW hB) h100
  clear hx hA hq
  go_enter Try.func26, Try.ntmps26
  go_wp2_with (go_at_call 27; refine (HS.out _ ?_).mono ?_; (exact (by repeat (first | exact Lo.refl _ | assumption | refine Lo.drew ?_ | refine Lo.alloc ?_ _ | refine Lo.setCell ?_ (by first | (dsimp only; omega) | (simp; omega) | (simp; done)) _ | refine Lo.trans ?_ (by assumption)))); rintro e w1 ⟨rfl, hb⟩)
  go_ret
  exact ⟨rfl, (by repeat (first | exact Lo.refl _ | assumption | refine Lo.drew ?_ | refine Lo.alloc ?_ _ | refine Lo.setCell ?_ (by first | (dsimp only; omega) | (simp; omega) | (simp; done)) _ | refine Lo.trans ?_ (by assumption)))⟩
theorem enters_matches1 : Enters Try.prog 20 := enters_of Try.func20 (by kernel_rfl) rfl
theorem enters_matches2 : Enters Try.prog 23 := enters_of Try.func23 (by kernel_rfl) rfl
theorem enters_matches3 : Enters Try.prog 26 := enters_of Try.func26 (by kernel_rfl) rfl

def matchP (a : Pl.Asker) (port : Int) (q : Pl.Req) (r : Pl.Rule) : Bool := (r.from_.isEmpty || r.from_.any (srcP a)) && (r.to_.isEmpty || r.to_.any (tgtP port q)) && r.when_.all (whenP q.heads)

/-- what of an asker and a request fits in memory -/
structure Fits (B : Nat) (w : World) (a : Pl.Asker) (q : Pl.Req) (A : Option Addr) : Prop where
  ns : a.ns.size ≤ maxLen
  sa : a.sa.size ≤ maxLen
  method : q.method.size ≤ maxLen
  path : q.path.size ≤ maxLen
  host : q.host.size ≤ maxLen
  heads : SliceAt HeadR 2 B w A q.heads
  few : q.heads.length ≤ 1000
theorem Fits.lo {B : Nat} {w w' : World} {a : Pl.Asker} {q : Pl.Req} {A : Option Addr} (h : Fits B w a q A) (hl : Lo w w') (hB : B ≤ w.heap.size) : Fits B w' a q A :=
  { h with heads := SliceAt.lo HeadR.kept h.heads hl hB }

set_option maxRecDepth 100000 in
set_option maxHeartbeats 4000000 in
theorem matches_ (r : Pl.Rule) (a : Pl.Asker) (port : Int) (q : Pl.Req) (A : Option Addr) (cap : Nat) (tg qu : ByteArray) (bd : Value) (c0 c1 c2 : Value) {B : Nat} (w : World) (hB : B ≤ w.heap.size) (hr : RuleR B w r [c0, c1, c2]) (hf : Fits B w a q A) :
    Calls Try.prog 15 #[.agg #[c0, c1, c2], .agg #[.string a.ns, .string a.sa, .int .u32 a.addr], .int .i64 port, .agg #[.string q.method, .string tg, .string q.path, .string qu, .string q.host, .slice A q.heads.length cap, bd]] w fun e w' => e = .returned (.bool (matchP a port q r)) ∧ Lo w w' := by
  obtain ⟨d0, d1, d2, he, ⟨A0, p0, e0, h0, l0, m0⟩, ⟨A1, p1, e1, h1, l1, m1⟩, ⟨A2, p2, e2, h2, l2, m2⟩⟩ := hr
  injection he with q0 he; injection he with q1 he; injection he with q2 he
  subst q0 q1 q2
  injection e0 with e0; injection e1 with e1; injection e2 with e2
  subst e0 e1 e2
  have C0 : ∀ (W : World) (b : Nat), Lo w W → BoxAt W b [.string a.ns, .string a.sa, .int .u32 a.addr] → Calls Try.prog 19 #[.slice A0 r.from_.length p0, .func (.func 20) #[] #[.pointer (some ⟨b, 0, none⟩)]] W fun e w' => e = .returned (.bool (r.from_.isEmpty || r.from_.any (srcP a))) ∧ Lo W w' := fun W b hW hb => by
    refine letsSource SourceR.kept p0 W (Nat.le_trans hB hW.size) (SliceAt.lo SourceR.kept h0 hW hB) (Nat.le_trans l0 m0) enters_matches1 ?_
    intro W' x c0 c1 c2 hx hlo hr
    exact matches1 x a c0 c1 c2 b W' (Nat.le_trans hB (hW.trans hlo).size) hr hf.ns hf.sa (hb.lo hlo)
  have C1 : ∀ (W : World) (b1 b2 : Nat), Lo w W → BoxAt W b1 [.int .i64 port] → BoxAt W b2 [.string q.method, .string tg, .string q.path, .string qu, .string q.host, .slice A q.heads.length cap, bd] → Calls Try.prog 22 #[.slice A1 r.to_.length p1, .func (.func 23) #[] #[.pointer (some ⟨b1, 0, none⟩), .pointer (some ⟨b2, 0, none⟩)]] W fun e w' => e = .returned (.bool (r.to_.isEmpty || r.to_.any (tgtP port q))) ∧ Lo W w' := fun W b1 b2 hW hb hb2 => by
    refine letsTarget TargetR.kept p1 W (Nat.le_trans hB hW.size) (SliceAt.lo TargetR.kept h1 hW hB) (Nat.le_trans l1 m1) enters_matches2 ?_
    intro W' x c0 c1 c2 c3 hx hlo hr
    exact matches2 x port q tg qu _ bd c0 c1 c2 c3 b1 b2 W' (Nat.le_trans hB (hW.trans hlo).size) hr hf.method hf.path hf.host (hb.lo hlo) (hb2.lo hlo)
  have C2 : ∀ (W : World) (b : Nat), Lo w W → BoxAt W b [.string q.method, .string tg, .string q.path, .string qu, .string q.host, .slice A q.heads.length cap, bd] → Calls Try.prog 25 #[.slice A2 r.when_.length p2, .func (.func 26) #[] #[.pointer (some ⟨b, 0, none⟩)]] W fun e w' => e = .returned (.bool (r.when_.all (whenP q.heads))) ∧ Lo W w' := fun W b hW hb => by
    refine allWhen WhenR.kept p2 W (Nat.le_trans hB hW.size) (SliceAt.lo WhenR.kept h2 hW hB) (Nat.le_trans l2 m2) enters_matches3 ?_
    intro W' x c0 c1 hx hlo hr
    exact matches3 x q.heads A cap _ _ _ _ _ bd c0 c1 b W' (Nat.le_trans hB (hW.trans hlo).size) hr (SliceAt.lo HeadR.kept hf.heads (hW.trans hlo) hB) hf.few (hb.lo hlo)
  unfold matchP
  generalize (r.from_.isEmpty || r.from_.any (srcP a)) = x at *
  generalize (r.to_.isEmpty || r.to_.any (tgtP port q)) = y at *
  generalize r.when_.all (whenP q.heads) = z at *
  have H0 := Lib.hid C0
  have H1 := Lib.hid C1
  have H2 := Lib.hid C2
  clear C0 C1 C2 h0 h1 h2 hf
  generalize r.from_.length = n0 at *
  generalize r.to_.length = n1 at *
  generalize r.when_.length = n2 at *
  generalize q.heads.length = n3 at *
  cases x <;> cases y
  all_goals
    go_enter Try.func15, Try.ntmps15
    go_wp2_with (first
      | (go_at_call 19; (have gA := BoxAt.old (BoxAt.old (BoxAt.newAt (w := w.alloc (.cells #[.slice A0 n0 p0, .slice A1 n1 p1, .slice A2 n2 p2] 31)) #[.string a.ns, .string a.sa, .int .u32 a.addr] 36 (by simp : w.heap.size + 1 = _)) (.cells #[.int .i64 port] 3)) (.cells #[.string q.method, .string tg, .string q.path, .string qu, .string q.host, .slice A n3 cap, bd] 40)); (have gP := BoxAt.old (BoxAt.newAt (w := (w.alloc (.cells #[.slice A0 n0 p0, .slice A1 n1 p1, .slice A2 n2 p2] 31)).alloc (.cells #[.string a.ns, .string a.sa, .int .u32 a.addr] 36)) #[.int .i64 port] 3 (by simp : w.heap.size + 2 = _)) (.cells #[.string q.method, .string tg, .string q.path, .string qu, .string q.host, .slice A n3 cap, bd] 40)); (have gQ := BoxAt.newAt (w := ((w.alloc (.cells #[.slice A0 n0 p0, .slice A1 n1 p1, .slice A2 n2 p2] 31)).alloc (.cells #[.string a.ns, .string a.sa, .int .u32 a.addr] 36)).alloc (.cells #[.int .i64 port] 3)) #[.string q.method, .string tg, .string q.path, .string qu, .string q.host, .slice A n3 cap, bd] 40 (by simp : w.heap.size + 3 = _)); refine (H0.out _ _ ?_ gA).mono ?_; (exact (by repeat (first | exact Lo.refl _ | assumption | refine Lo.drew ?_ | refine Lo.alloc ?_ _ | refine Lo.setCell ?_ (by first | (dsimp only; omega) | (simp; omega) | (simp; done)) _ | refine Lo.trans ?_ (by assumption)))); rintro e w1 ⟨rfl, hb⟩; (have gP := gP.lo hb); (have gQ := gQ.lo hb); obtain ⟨hc, hf, hz⟩ := hb.facts; have hz0 := hz w.heap.size (by first | assumption | (simp; done) | (simp; omega)); have hq0 := fun o => hc w.heap.size o (by first | assumption | (simp; done) | (simp; omega)); have hz1 := hz (w.heap.size + 1) (by first | assumption | (simp; done) | (simp; omega)); have hq1 := fun o => hc (w.heap.size + 1) o (by first | assumption | (simp; done) | (simp; omega)); have hz2 := hz (w.heap.size + 2) (by first | assumption | (simp; done) | (simp; omega)); have hq2 := fun o => hc (w.heap.size + 2) o (by first | assumption | (simp; done) | (simp; omega)); have hz3 := hz (w.heap.size + 3) (by first | assumption | (simp; done) | (simp; omega)); have hq3 := fun o => hc (w.heap.size + 3) o (by first | assumption | (simp; done) | (simp; omega)))
      | (go_at_call 22; refine (H1.out _ _ _ ?_ gP gQ).mono ?_; (exact (by repeat (first | exact Lo.refl _ | assumption | refine Lo.drew ?_ | refine Lo.alloc ?_ _ | refine Lo.setCell ?_ (by first | (dsimp only; omega) | (simp; omega) | (simp; done)) _ | refine Lo.trans ?_ (by assumption)))); rintro e w2 ⟨rfl, hb⟩; (have gQ := gQ.lo hb); obtain ⟨hc, hf, hz⟩ := hb.facts; have hz0 := hz w.heap.size (by first | assumption | (simp; done) | (simp; omega)); have hq0 := fun o => hc w.heap.size o (by first | assumption | (simp; done) | (simp; omega)); have hz1 := hz (w.heap.size + 1) (by first | assumption | (simp; done) | (simp; omega)); have hq1 := fun o => hc (w.heap.size + 1) o (by first | assumption | (simp; done) | (simp; omega)); have hz2 := hz (w.heap.size + 2) (by first | assumption | (simp; done) | (simp; omega)); have hq2 := fun o => hc (w.heap.size + 2) o (by first | assumption | (simp; done) | (simp; omega)); have hz3 := hz (w.heap.size + 3) (by first | assumption | (simp; done) | (simp; omega)); have hq3 := fun o => hc (w.heap.size + 3) o (by first | assumption | (simp; done) | (simp; omega)))
      | (go_at_call 25; refine (H2.out _ _ ?_ gQ).mono ?_; (exact (by repeat (first | exact Lo.refl _ | assumption | refine Lo.drew ?_ | refine Lo.alloc ?_ _ | refine Lo.setCell ?_ (by first | (dsimp only; omega) | (simp; omega) | (simp; done)) _ | refine Lo.trans ?_ (by assumption)))); rintro e w3 ⟨rfl, hb⟩))
    go_ret
    exact ⟨ret_bool (by simp), (by repeat (first | exact Lo.refl _ | assumption | refine Lo.drew ?_ | refine Lo.alloc ?_ _ | refine Lo.setCell ?_ (by first | (dsimp only; omega) | (simp; omega) | (simp; done)) _ | refine Lo.trans ?_ (by assumption)))⟩
end Go.Proofs.Ytnclifgiakmmoaa.WAuth

/- The document's answer for auth: walks. -/
namespace Go.Proofs.Ytnclifgiakmmoaa.Pol
set_option linter.unusedVariables false
set_option linter.unusedSimpArgs false
open Go.RowKit Mem Sim Opn WAddr WName WMatch WAuth
abbrev reqA (q : Pl.Req) (tg qu : ByteArray) (bd : Value) : List A := [.t (.v (.string q.method)), .t (.v (.string tg)), .t (.v (.string q.path)), .t (.v (.string qu)), .t (.v (.string q.host)), .t (.sl 2 (q.heads.map headT)), .t (.v bd)]
abbrev askA (a : Pl.Asker) : List A := [.t (.v (.string a.ns)), .t (.v (.string a.sa)), .t (.v (.int .u32 a.addr))]
end Go.Proofs.Ytnclifgiakmmoaa.Pol

/- Plain: what a row of policies says; its laws. -/
namespace Go.Proofs.Ytnclifgiakmmoaa.Pl
set_option linter.unusedVariables false
set_option linter.unusedSimpArgs false

def kindP (d : Bool) (p : Policy) : Bool := (p.deny == 1) == d
def firstP (M : Rule → Bool) (d : Bool) (l : List Policy) : Option Policy := l.find? fun p => kindP d p && p.rules.any M
def someP (d : Bool) (l : List Policy) : Bool := l.any (kindP d)
def judgeP (M : Rule → Bool) (l : List Policy) : Bool × Int :=
  match firstP M true l with
  | some p => (false, p.id)
  | none => match firstP M false l with
    | some p => (true, p.id)
    | none => (!someP false l, 0)

def hitP (M : Rule → Bool) (d : Bool) (l : List Policy) : Bool := l.any fun p => kindP d p && p.rules.any M
theorem firstP_isSome (M : Rule → Bool) (d : Bool) (l : List Policy) : (firstP M d l).isSome = hitP M d l := by
  unfold firstP hitP
  rw [Bool.eq_iff_iff, List.find?_isSome, List.any_eq_true]
theorem yesP (M : Rule → Bool) (l : List Policy) : (judgeP M l).1 = (!hitP M true l && (hitP M false l || !someP false l)) := by
  rw [← firstP_isSome, ← firstP_isSome]
  unfold judgeP
  cases firstP M true l <;> simp
  cases firstP M false l <;> simp
/-- AuthOrder: turned round, the first one's rules in another order -/
theorem order_turn (M : Rule → Bool) (a b : List Policy) (p q : Policy) (hd : q.deny = p.deny) (hr : q.rules = p.rules.reverse) : (judgeP M (q :: b ++ a)).1 = (judgeP M (a ++ p :: b)).1 := by
  have ha : q.rules.any M = p.rules.any M := by rw [hr, List.any_reverse]
  have hk : ∀ d, kindP d q = kindP d p := by intro d; simp [kindP, hd]
  have e : ∀ d, hitP M d (q :: b ++ a) = hitP M d (a ++ p :: b) := by
    intro d
    simp [hitP, ha, hk]
    cases List.any a (fun p => kindP d p && p.rules.any M) <;> simp
  have e2 : ∀ d, someP d (q :: b ++ a) = someP d (a ++ p :: b) := by
    intro d
    simp [someP, hk]
    cases List.any a (kindP d) <;> simp
  rw [yesP, yesP, e, e, e2]
theorem order_twice (M : Rule → Bool) (a b : List Policy) (p q : Policy) (hd : q.deny = p.deny) (hr : q.rules = p.rules.reverse) : (judgeP M ((q :: b ++ a) ++ [p])).1 = (judgeP M (a ++ p :: b)).1 := by
  have ha : q.rules.any M = p.rules.any M := by rw [hr, List.any_reverse]
  have hk : ∀ d, kindP d q = kindP d p := by intro d; simp [kindP, hd]
  have e : ∀ d, hitP M d ((q :: b ++ a) ++ [p]) = hitP M d (a ++ p :: b) := by
    intro d
    simp [hitP, ha, hk]
    cases List.any a (fun p => kindP d p && p.rules.any M) <;> cases (kindP d p && p.rules.any M) <;> simp
  have e2 : ∀ d, someP d ((q :: b ++ a) ++ [p]) = someP d (a ++ p :: b) := by
    intro d
    simp [someP, hk]
    cases List.any a (kindP d) <;> cases (kindP d p) <;> simp
  rw [yesP, yesP, e, e, e2]
end Go.Proofs.Ytnclifgiakmmoaa.Pl

/- The document's answer for auth: Matches, Says, Judge. -/
namespace Go.Proofs.Ytnclifgiakmmoaa.Pol
set_option linter.unusedVariables false
set_option linter.unusedSimpArgs false
open Go.RowKit Mem Sim Opn WAddr WName WMatch WAuth
section
open Pl
variable (M : Pl.Rule → Bool)
end
def hitR (M : Pl.Rule → Bool) (r : Pl.Rule) : List T := [.v (.int .i64 (if M r = true then 1 else 0))]
def hitP (M : Pl.Rule → Bool) (p : Pl.Policy) : List T := [.sl 1 (p.rules.map (hitR M))]
end Go.Proofs.Ytnclifgiakmmoaa.Pol

/- The document's answer for auth: Judge. -/
namespace Go.Proofs.Ytnclifgiakmmoaa.Pol
set_option linter.unusedVariables false
set_option linter.unusedSimpArgs false
open Go.RowKit Mem Sim Opn WAddr WName WMatch WAuth
section
variable (M : Pl.Rule → Bool) (l : List Pl.Policy) (a : Pl.Asker) (port : Int) (q : Pl.Req) (tg qu : ByteArray) (bd : Value)
def J1 (k : Nat) : St := ⟨[(0, .t (.sl 5 (l.map polT))), (2, .t (.v (.int .i64 port))), (5, .bp 5 0), (7, .bp 7 0), (10, .own 110 ((l.take k).map (hitP M)).length), (11, .t (.v (.int .i64 (k : Int))))], [(5, askA a), (7, reqA q tg qu bd)], [(110, ⟨56, 1, (l.take k).map (hitP M)⟩)]⟩
def J2 (k : Nat) (p : Pl.Policy) (j : Nat) : St := ⟨[(0, .t (.sl 5 (l.map polT))), (2, .t (.v (.int .i64 port))), (5, .bp 5 0), (7, .bp 7 0), (10, .own 110 ((l.take k).map (hitP M)).length), (11, .t (.v (.int .i64 (k : Int)))), (12, .own 112 ((p.rules.take j).map (hitR M)).length), (13, .t (.v (.int .i64 (j : Int))))], [(5, askA a), (7, reqA q tg qu bd)], [(110, ⟨56, 1, (l.take k).map (hitP M)⟩), (112, ⟨3, 1, (p.rules.take j).map (hitR M)⟩)]⟩
end
end Go.Proofs.Ytnclifgiakmmoaa.Pol

/- The document's answer for policies: copies. -/
namespace Go.Proofs.Ytnclifgiakmmoaa.Pol
set_option linter.unusedVariables false
set_option linter.unusedSimpArgs false
open Go.RowKit Mem Sim Opn
def C1 (r : Pl.Rule) (k : Nat) : St := ⟨[(1, .bp 1 0), (2, .bp 2 0), (3, .bp 3 0), (4, .t (.v (.int .i64 (k : Int))))], [(1, rcells r), (2, [nil0, nil0, nil0]), (3, [.own 103 ((r.from_.take k).map sourceT).length, nil0, nil0])], [(103, ⟨55, 3, (r.from_.take k).map sourceT⟩)]⟩
def C2 (r : Pl.Rule) (k : Nat) : St := ⟨[(1, .bp 1 0), (2, .bp 2 0), (3, .bp 3 0), (6, .t (.v (.int .i64 (k : Int))))], [(1, rcells r), (2, [nil0, nil0, nil0]), (3, [.own 103 (r.from_.map sourceT).length, .own 104 ((r.to_.take k).map targetT).length, nil0])], [(103, ⟨55, 3, r.from_.map sourceT⟩), (104, ⟨58, 4, (r.to_.take k).map targetT⟩)]⟩
def C3 (r : Pl.Rule) (k : Nat) : St := ⟨[(1, .bp 1 0), (2, .bp 2 0), (3, .bp 3 0), (8, .t (.v (.int .i64 (k : Int))))], [(1, rcells r), (2, [nil0, nil0, nil0]), (3, [.own 103 (r.from_.map sourceT).length, .own 104 (r.to_.map targetT).length, .own 105 ((r.when_.take k).map whenT).length])], [(103, ⟨55, 3, r.from_.map sourceT⟩), (104, ⟨58, 4, r.to_.map targetT⟩), (105, ⟨60, 2, (r.when_.take k).map whenT⟩)]⟩
set_option maxRecDepth 100000 in
set_option maxHeartbeats 4000000 in
theorem copyRule_ (r : Pl.Rule) (hf : FewR r) : PCalls Try.prog 17 [.agg (ruleT r)] (.agg (ruleT r)) := by
  have h1 := hf.f
  have h2 := hf.t
  have h3 := hf.w
  have hm1 : (r.from_.map sourceT).length = r.from_.length := List.length_map _
  have hm2 : (r.to_.map targetT).length = r.to_.length := List.length_map _
  have hm3 : (r.when_.map whenT).length = r.when_.length := List.length_map _
  refine pcalls_of Try.func17 rfl rfl Try.ntmps17 rfl ?_
  repeat' (first | (refine rg 0 ?_; refine sbx ?_; refine sal str31 ?_; refine oN ?_) | (refine rg 1 ?_; refine sal str31 ?_; refine oN ?_) | (refine rg 2 ?_; refine oAs ?_; refine oN ?_) | refine gc ?_ | refine ct ?_ | refine cf ?_ | refine swp_cond rfl (fun hc => ?_) (fun hc => ?_) | refine rq rfl (.cell rfl rfl (tyT rfl) (vc (vc (vc .nil))) rfl .nil) ?_)
  refine swp_for (C1 r) (fun _ => True) r.from_.length ?_ trivial ?_
  · refine Weak.trans (weak_own0_bx (q := 103) 55 3 (i := 3) (j := 0) rfl rfl rfl) ?_
    exact (weak_sub (.cons rfl rfl rfl (.cons rfl rfl rfl (.cons rfl rfl rfl (.cons rfl rfl rfl .nil)))) (.cons rfl rfl rfl (.cons rfl rfl rfl (.cons rfl rfl rfl .nil))) (.cons rfl rfl .nil))
  intro k hk _
  unfold C1
  by_cases hlt : k < r.from_.length
  · have hsn := map_take_succ sourceT hlt
    obtain ⟨b0, b1, b2⟩ := hf.fs _ (List.getElem_mem hlt)
    have e0 := few_b (f := termT) 24 b0 (by omega)
    have e1 := few_b (f := termT) 24 b1 (by omega)
    have e2 := few_b (f := cidrT) 16 b2 (by omega)
    have m0 := few_m (f := termT) b0
    have m1 := few_m (f := termT) b1
    have m2 := few_m (f := cidrT) b2
    repeat' (first | refine for_next hlt (weak_sub (.cons rfl (by rfl) rfl (.cons rfl (by rfl) rfl (.cons rfl (by rfl) rfl (.cons rfl (by rfl) rfl .nil)))) (.cons rfl (by rfl) rfl (.cons rfl (by rfl) rfl (.cons rfl (by first | rfl | (rw [hsn]; rfl)) rfl .nil))) (.cons rfl (by first | rfl | (rw [hsn]; rfl)) .nil)) trivial | (refine rg 3 ?_; refine oMv ?_; refine oFb ?_; refine oLb ?_; refine sp (pln rfl (tyS rfl)) ?_; refine oCm ?_; refine oN ?_) | (refine rg 5 ?_; refine oFb ?_; refine oLb ?_; refine oMv ?_; refine sp (pix rfl (tyS rfl)) ?_; (first | refine sp (po_load_bx_agg rfl rfl (tyT rfl) rfl (vc (vc (vc .nil))) rfl) ?_ | refine sp (po_load_agg rfl rfl (tyT rfl) rfl rfl) ?_); refine sal str55 ?_; refine oS ?_; refine oN ?_) | (refine swp_draw (id := 6) 16 mixed (by kernel_rfl) (by kernel_rfl) ?_; refine dFb ?_; refine dLb ?_; refine dp (po_buildSlice0 rfl (tyE rfl)) ?_; refine dFb ?_; refine dLb ?_; refine dp (pan rfl (tyE rfl)) ?_; refine dp (po_buildSlice0 rfl (tyE rfl)) ?_; refine dFb ?_; refine dLb ?_; refine dp (pan rfl (tyE rfl)) ?_; refine dp (po_buildSlice0 rfl (tyE rfl)) ?_; refine dFb ?_; refine dLb ?_; refine dp (pan rfl (tyE rfl)) ?_; refine dp (po_buildS str55 rfl (pc (pc (pc .nil))) rfl) ?_; refine dp (po_buildSlice rfl (tyE rfl) (dc (.nil _)) rfl rfl rfl) ?_; refine dN ?_; refine sap rfl (tyE rfl) ?_; refine oFb ?_; refine oS ?_; refine oN ?_) | (refine rg 4 ?_; refine oMv ?_; refine sp (xinc rfl) ?_; refine oAs ?_; refine oN ?_) | refine gc ?_ | refine ct ?_)
  · obtain rfl : k = r.from_.length := by omega
    repeat' (first | (refine rg 3 ?_; refine oMv ?_; refine oFb ?_; refine oLb ?_; refine sp (pln rfl (tyS rfl)) ?_; refine oCm ?_; refine oN ?_) | (refine rg 7 ?_; refine oAs ?_; refine oN ?_) | refine gc ?_ | refine ct ?_ | refine cf ?_ | refine swp_cond rfl (fun hc => ?_) (fun hc => ?_) | refine rq rfl (.cell rfl rfl (tyT rfl) (vc (vc (vc .nil))) rfl .nil) ?_)
    refine swp_for (C2 r) (fun _ => True) r.to_.length ?_ trivial ?_
    · refine Weak.trans (weak_own0_bx (q := 104) 58 4 (i := 3) (j := 1) rfl rfl rfl) ?_
      rw [List.take_length]
      exact (weak_sub (.cons rfl rfl rfl (.cons rfl rfl rfl (.cons rfl rfl rfl (.cons rfl rfl rfl .nil)))) (.cons rfl rfl rfl (.cons rfl rfl rfl (.cons rfl rfl rfl .nil))) (.cons rfl rfl (.cons rfl rfl .nil)))
    intro k hk _
    unfold C2
    by_cases hlt : k < r.to_.length
    · have hsn := map_take_succ targetT hlt
      obtain ⟨b0, b1, b2, b3⟩ := hf.ts _ (List.getElem_mem hlt)
      have e0 := few_b (f := intT) 8 b0 (by omega)
      have e1 := few_b (f := termT) 24 b1 (by omega)
      have e2 := few_b (f := termT) 24 b2 (by omega)
      have e3 := few_b (f := termT) 24 b3 (by omega)
      have m0 := few_m (f := intT) b0
      have m1 := few_m (f := termT) b1
      have m2 := few_m (f := termT) b2
      have m3 := few_m (f := termT) b3
      repeat' (first | refine for_next hlt (weak_sub (.cons rfl (by rfl) rfl (.cons rfl (by rfl) rfl (.cons rfl (by rfl) rfl (.cons rfl (by rfl) rfl .nil)))) (.cons rfl (by rfl) rfl (.cons rfl (by rfl) rfl (.cons rfl (by first | rfl | (rw [hsn]; rfl)) rfl .nil))) (.cons rfl (by rfl) (.cons rfl (by first | rfl | (rw [hsn]; rfl)) .nil))) trivial | (refine rg 8 ?_; refine oMv ?_; refine oFb ?_; refine oLb ?_; refine sp (pln rfl (tyS rfl)) ?_; refine oCm ?_; refine oN ?_) | (refine rg 10 ?_; refine oFb ?_; refine oLb ?_; refine oMv ?_; refine sp (pix rfl (tyS rfl)) ?_; (first | refine sp (po_load_bx_agg rfl rfl (tyT rfl) rfl (vc (vc (vc (vc .nil)))) rfl) ?_ | refine sp (po_load_agg rfl rfl (tyT rfl) rfl rfl) ?_); refine sal str58 ?_; refine oS ?_; refine oN ?_) | (refine swp_draw (id := 11) 20 mixed (by kernel_rfl) (by kernel_rfl) ?_; refine dFb ?_; refine dLb ?_; refine dp (po_buildSlice0 rfl (tyE rfl)) ?_; refine dFb ?_; refine dLb ?_; refine dp (pan rfl (tyE rfl)) ?_; refine dp (po_buildSlice0 rfl (tyE rfl)) ?_; refine dFb ?_; refine dLb ?_; refine dp (pan rfl (tyE rfl)) ?_; refine dp (po_buildSlice0 rfl (tyE rfl)) ?_; refine dFb ?_; refine dLb ?_; refine dp (pan rfl (tyE rfl)) ?_; refine dp (po_buildSlice0 rfl (tyE rfl)) ?_; refine dFb ?_; refine dLb ?_; refine dp (pan rfl (tyE rfl)) ?_; refine dp (po_buildS str58 rfl (pc (pc (pc (pc .nil)))) rfl) ?_; refine dp (po_buildSlice rfl (tyE rfl) (dc (.nil _)) rfl rfl rfl) ?_; refine dN ?_; refine sap rfl (tyE rfl) ?_; refine oFb ?_; refine oS ?_; refine oN ?_) | (refine rg 9 ?_; refine oMv ?_; refine sp (xinc rfl) ?_; refine oAs ?_; refine oN ?_) | refine gc ?_ | refine ct ?_)
    · obtain rfl : k = r.to_.length := by omega
      repeat' (first | (refine rg 8 ?_; refine oMv ?_; refine oFb ?_; refine oLb ?_; refine sp (pln rfl (tyS rfl)) ?_; refine oCm ?_; refine oN ?_) | (refine rg 12 ?_; refine oAs ?_; refine oN ?_) | refine gc ?_ | refine ct ?_ | refine cf ?_ | refine swp_cond rfl (fun hc => ?_) (fun hc => ?_) | refine rq rfl (.cell rfl rfl (tyT rfl) (vc (vc (vc .nil))) rfl .nil) ?_)
      refine swp_for (C3 r) (fun _ => True) r.when_.length ?_ trivial ?_
      · refine Weak.trans (weak_own0_bx (q := 105) 60 2 (i := 3) (j := 2) rfl rfl rfl) ?_
        rw [List.take_length]
        exact (weak_sub (.cons rfl rfl rfl (.cons rfl rfl rfl (.cons rfl rfl rfl (.cons rfl rfl rfl .nil)))) (.cons rfl rfl rfl (.cons rfl rfl rfl (.cons rfl rfl rfl .nil))) (.cons rfl rfl (.cons rfl rfl (.cons rfl rfl .nil))))
      intro k hk _
      unfold C3
      by_cases hlt : k < r.when_.length
      · have hsn := map_take_succ whenT hlt
        have b0 := hf.ws _ (List.getElem_mem hlt)
        have e0 := few_b (f := termT) 24 b0 (by omega)
        have m0 := few_m (f := termT) b0
        repeat' (first | refine for_next hlt (weak_sub (.cons rfl (by rfl) rfl (.cons rfl (by rfl) rfl (.cons rfl (by rfl) rfl (.cons rfl (by rfl) rfl .nil)))) (.cons rfl (by rfl) rfl (.cons rfl (by rfl) rfl (.cons rfl (by first | rfl | (rw [hsn]; rfl)) rfl .nil))) (.cons rfl (by rfl) (.cons rfl (by rfl) (.cons rfl (by first | rfl | (rw [hsn]; rfl)) .nil)))) trivial | (refine rg 13 ?_; refine oMv ?_; refine oFb ?_; refine oLb ?_; refine sp (pln rfl (tyS rfl)) ?_; refine oCm ?_; refine oN ?_) | (refine swp_draw (id := 15) 18 mixed (by kernel_rfl) (by kernel_rfl) ?_; refine dFb ?_; refine dLb ?_; refine dFb ?_; refine dLb ?_; refine dMv ?_; refine dp (pix rfl (tyS rfl)) ?_; (first | refine dFb ?_ | refine dFd ?_); (first | refine dLb ?_ | refine dLd ?_); refine dp (po_buildSlice0 rfl (tyE rfl)) ?_; refine dFb ?_; refine dLb ?_; refine dMv ?_; refine dp (pix rfl (tyS rfl)) ?_; (first | refine dFb ?_ | refine dFd ?_); (first | refine dLb ?_ | refine dLd ?_); refine dp (pan rfl (tyE rfl)) ?_; refine dp (po_buildS str60 rfl (pc (pc .nil)) rfl) ?_; refine dp (po_buildSlice rfl (tyE rfl) (dc (.nil _)) rfl rfl rfl) ?_; refine dN ?_; refine sap rfl (tyE rfl) ?_; refine oFb ?_; refine oS ?_; refine oN ?_) | (refine rg 14 ?_; refine oMv ?_; refine sp (xinc rfl) ?_; refine oAs ?_; refine oN ?_) | refine gc ?_ | refine ct ?_)
      · obtain rfl : k = r.when_.length := by omega
        rw [List.take_length]
        repeat' (first | (refine rg 13 ?_; refine oMv ?_; refine oFb ?_; refine oLb ?_; refine sp (pln rfl (tyS rfl)) ?_; refine oCm ?_; refine oN ?_) | (refine rg 16 ?_; (refine sp (po_load_bx_agg rfl rfl (tyT rfl) rfl (vc (vc (vc .nil))) rfl) ?_); refine oS ?_; refine oN ?_) | refine gc ?_ | refine ct ?_ | refine cf ?_ | refine swp_cond rfl (fun hc => ?_) (fun hc => ?_) | refine rq rfl (.cell rfl rfl (tyT rfl) (vc (vc (vc .nil))) rfl .nil) ?_)
        rfl
end Go.Proofs.Ytnclifgiakmmoaa.Pol

/- A region that draws its order, at whose end two boxes are made and written, in any order ('x, y := a[i], b[i]'). -/
namespace Go.Proofs.Ytnclifgiakmmoaa.Sim
set_option linter.unusedVariables false
set_option linter.unusedSimpArgs false
open Go.RowKit Mem
section
variable {C : Ctx} {bx : List (Nat × List A)} {ow : List (Nat × Own)} {w : World} {m : Mm} {g : Gh}
theorem ACells.mono {m' : Mm} (hm : ∀ b o v, m b o = some v → m' b o = some v) {ys : List A} {us : List Value} (h : ACells m g ys us) : ACells m' g ys us := ⟨h.1, fun j y u h1 h2 => ⟨(h.2 j y u h1 h2).1.mono hm, (h.2 j y u h1 h2).2⟩⟩
theorem ACells.addB {i b : Nat} (hi : g.lb i = false) {ys : List A} {us : List Value} (h : ACells m g ys us) : ACells m (g.addB i b) ys us := ⟨h.1, fun j y u h1 h2 => ⟨(h.2 j y u h1 h2).1.addB hi, (h.2 j y u h1 h2).2⟩⟩
end

section
variable {P : Program} {N : Nat} {Q : Exit → St → Prop} {ops : Array Oper} {rest : List Oper} {o : Oper} {tm : List (Nat × A)} {bx : List (Nat × List A)} {ow : List (Nat × Own)} {n : Nat}
end

end Go.Proofs.Ytnclifgiakmmoaa.Sim
