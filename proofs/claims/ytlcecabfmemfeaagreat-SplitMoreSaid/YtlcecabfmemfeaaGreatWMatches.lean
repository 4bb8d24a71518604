/- The walks of auth.all and auth.Matches. -/
import Derived.Test.YtlcecabfmemfeaaGreatWWhen
namespace Go.Proofs.YtlcecabfmemfeaaGreat.Mem
set_option linter.unusedVariables false
set_option linter.unusedSimpArgs false
open Go.RowKit
/-- a block's first cells -/
def BoxAt (w : World) (b : Nat) (cs : List Value) : Prop := ∀ (j : Nat) v, cs[j]? = some v → w.cell? ⟨b, j, none⟩ = some v
theorem BoxAt.lo {w w' : World} {b : Nat} {cs : List Value} (h : BoxAt w b cs) (hl : Lo w w') : BoxAt w' b cs := fun j v hj => lo_keep hl (h j v hj)
theorem BoxAt.new (w : World) (cs : Array Value) (t : TypeId) : BoxAt (w.alloc (.cells cs t)) w.heap.size cs.toList := by
  intro j v hj
  simp only [World.cell?, heap_alloc_new]
  simpa using hj
theorem BoxAt.old {w : World} {b : Nat} {cs : List Value} (h : BoxAt w b cs) (o : Obj) : BoxAt (w.alloc o) b cs := h.lo ((Lo.refl _).alloc _)
theorem BoxAt.newAt {w : World} {b : Nat} (cs : Array Value) (t : TypeId) (h : b = w.heap.size) : BoxAt (w.alloc (.cells cs t)) b cs.toList := by subst h; exact BoxAt.new _ _ _
theorem BoxAt.lt {w : World} {b : Nat} {v : Value} {cs : List Value} (h : BoxAt w b (v :: cs)) : b < w.heap.size := World.block_lt_of_cell? w _ (h 0 v rfl)
end Go.Proofs.YtlcecabfmemfeaaGreat.Mem
namespace Go.Proofs.YtlcecabfmemfeaaGreat.WAuth
set_option linter.unusedVariables false
set_option linter.unusedSimpArgs false
open Go.RowKit Mem BigFrame WMatch WAddr WName Opn

theorem allWhen1 {p : Bool} (c0 c1 : Value) (g : FuncId) (caps : Array Value) (b : Nat) (w : World) (hc : w.cell? ⟨b, 0, none⟩ = some (.func (.func g) #[] caps)) (eg : Go.Proofs.Enters Tryz.prog g)
    (hf : ∀ W, Lo w W → Calls Tryz.prog g (#[.agg #[c0, c1]] ++ caps) W fun e w' => e = .returned (.bool p) ∧ Lo W w') :
    Calls Tryz.prog 98 #[.agg #[c0, c1], .pointer (some ⟨b, 0, none⟩)] w fun e w' => e = .returned (.bool (!p)) ∧ Lo w w' := by
  have HF := Lib.hid hf
  clear hf
  unfold Go.Proofs.Enters at eg
  have hb := World.block_lt_of_cell? w _ hc
  go_enter Tryz.func98, Tryz.ntmps98
  go_wp2_with fail
  refine (HF.out _ ?_).mono ?_
  · exact (by repeat (first | exact Lo.refl _ | assumption | refine Lo.drew ?_ | refine Lo.alloc ?_ _ | refine Lo.setCell ?_ (by first | (dsimp only; omega) | (simp; omega) | (simp; done)) _ | refine Lo.trans ?_ (by assumption)))
  rintro e w1 ⟨rfl, hb1⟩
  go_wp2
  go_ret
  exact ⟨rfl, (by repeat (first | exact Lo.refl _ | assumption | refine Lo.drew ?_ | refine Lo.alloc ?_ _ | refine Lo.setCell ?_ (by first | (dsimp only; omega) | (simp; omega) | (simp; done)) _ | refine Lo.trans ?_ (by assumption)))⟩
theorem enters_allWhen1 : Enters Tryz.prog 98 := enters_of Tryz.func98 (by kernel_rfl) rfl
theorem all_not {α : Type} (xs : List α) (p : α → Bool) : (!(xs.any fun x => !p x)) = xs.all p := by
  induction xs with
  | nil => rfl
  | cons x r ih => simp only [List.any_cons, List.all_cons, Bool.not_or, ih, Bool.not_not]
theorem allWhen {α : Type} {R : Rel α} (hR : Kept R) {B : Nat} {A : Option Addr} (cap : Nat) {xs : List α} {g : FuncId} {caps : Array Value} {p : α → Bool} (w : World) (hB : B ≤ w.heap.size) (hA : SliceAt R 2 B w A xs) (hn : xs.length ≤ maxLen) (eg : Go.Proofs.Enters Tryz.prog g) (hf : WIdxWhen.Says R B w xs g caps p) :
    Calls Tryz.prog 70 #[.slice A xs.length cap, .func (.func g) #[] caps] w fun e w' => e = .returned (.bool (xs.all p)) ∧ Lo w w' := by
  have HC : ∀ (W : World) (b : Nat), Lo w W → W.cell? ⟨b, 0, none⟩ = some (.func (.func g) #[] caps) →
      Calls Tryz.prog 97 #[.slice A xs.length cap, .func (.func 98) #[] #[.pointer (some ⟨b, 0, none⟩)]] W fun e w' => e = .returned (.bool (xs.any fun x => !p x)) ∧ Lo W w' := fun W b hW hc => by
    refine WIdxWhen.containsFunc hR cap W (Nat.le_trans hB hW.size) (SliceAt.lo hR hA hW hB) hn enters_allWhen1 ?_
    intro W' x c0 c1 hx hlo hr
    refine allWhen1 c0 c1 g caps b W' (lo_keep hlo hc) eg fun W2 hW2 => hf W2 x c0 c1 hx ((hW.trans hlo).trans hW2) ?_
    exact hR _ _ _ _ _ _ hr (fun q hq => hW2.cell q (Nat.lt_of_lt_of_le hq (Nat.le_trans hB (hW.trans hlo).size))) (Nat.le_refl _)
  have H := Lib.hid HC
  rw [← all_not]
  clear HC hf hA
  generalize (xs.any fun x => !p x) = r at *
  generalize xs.length = n at *
  go_enter Tryz.func70, Tryz.ntmps70
  go_wp2_with fail
  refine (H.out _ _ ?_ ?_).mono ?_
  · exact (by repeat (first | exact Lo.refl _ | assumption | refine Lo.drew ?_ | refine Lo.alloc ?_ _ | refine Lo.setCell ?_ (by first | (dsimp only; omega) | (simp; omega) | (simp; done)) _ | refine Lo.trans ?_ (by assumption)))
  · simp
  rintro e w1 ⟨rfl, hb⟩
  go_wp2
  go_ret
  exact ⟨rfl, (by repeat (first | exact Lo.refl _ | assumption | refine Lo.drew ?_ | refine Lo.alloc ?_ _ | refine Lo.setCell ?_ (by first | (dsimp only; omega) | (simp; omega) | (simp; done)) _ | refine Lo.trans ?_ (by assumption)))⟩

theorem matches1 (s : Pl.Source) (a : Pl.Asker) (c0 c1 c2 : Value) (b : Nat) {B : Nat} (w : World) (hB : B ≤ w.heap.size) (hs : SourceR B w s [c0, c1, c2]) (zn : a.ns.size ≤ maxLen) (za : a.sa.size ≤ maxLen) (hb : BoxAt w b [.string a.ns, .string a.sa, .int .u32 a.addr]) :
    Calls Tryz.prog 65 #[.agg #[c0, c1, c2], .pointer (some ⟨b, 0, none⟩)] w fun e w' => e = .returned (.bool (srcP a s)) ∧ Lo w w' := by
  have h0 := hb 0 _ rfl
  have h1 := hb 1 _ rfl
  have h2 := hb 2 _ rfl
  have hlt := hb.lt
  have HS : Hid (∀ W, Lo w W → Calls Tryz.prog 66 #[.agg #[c0, c1, c2], .agg #[.string a.ns, .string a.sa, .int .u32 a.addr]] W fun e w' => e = .returned (.bool (srcP a s)) ∧ Lo W w') :=
    Lib.hid fun W hW => source s a c0 c1 c2 W (Nat.le_trans hB hW.size) (SourceR.kept _ _ _ _ _ _ hs (hW.cells hB) (Nat.le_refl _)) zn za
  clear hs hb
  go_enter Tryz.func65, Tryz.ntmps65
  go_wp2_with (go_at_call 66; refine (HS.out _ ?_).mono ?_; (exact (by repeat (first | exact Lo.refl _ | assumption | refine Lo.drew ?_ | refine Lo.alloc ?_ _ | refine Lo.setCell ?_ (by first | (dsimp only; omega) | (simp; omega) | (simp; done)) _ | refine Lo.trans ?_ (by assumption)))); rintro e w1 ⟨rfl, hb⟩)
  go_ret
  exact ⟨rfl, (by repeat (first | exact Lo.refl _ | assumption | refine Lo.drew ?_ | refine Lo.alloc ?_ _ | refine Lo.setCell ?_ (by first | (dsimp only; omega) | (simp; omega) | (simp; done)) _ | refine Lo.trans ?_ (by assumption)))⟩
theorem matches2 (t : Pl.Target) (port : Int) (q : Pl.Req) (tg qu : ByteArray) (hd bd : Value) (c0 c1 c2 c3 : Value) (b1 b2 : Nat) {B : Nat} (w : World) (hB : B ≤ w.heap.size) (ht : TargetR B w t [c0, c1, c2, c3]) (zm : q.method.size ≤ maxLen) (zp : q.path.size ≤ maxLen) (zh : q.host.size ≤ maxLen)
    (hp : BoxAt w b1 [.int .i64 port]) (hq : BoxAt w b2 [.string q.method, .string tg, .string q.path, .string qu, .string q.host, hd, bd]) :
    Calls Tryz.prog 68 #[.agg #[c0, c1, c2, c3], .pointer (some ⟨b1, 0, none⟩), .pointer (some ⟨b2, 0, none⟩)] w fun e w' => e = .returned (.bool (tgtP port q t)) ∧ Lo w w' := by
  have h0 := hp 0 _ rfl
  have g0 := hq 0 _ rfl
  have g1 := hq 1 _ rfl
  have g2 := hq 2 _ rfl
  have g3 := hq 3 _ rfl
  have g4 := hq 4 _ rfl
  have g5 := hq 5 _ rfl
  have g6 := hq 6 _ rfl
  have hlt1 := hp.lt
  have hlt2 := hq.lt
  have HS : Hid (∀ W, Lo w W → Calls Tryz.prog 69 #[.agg #[c0, c1, c2, c3], .int .i64 port, .agg #[.string q.method, .string tg, .string q.path, .string qu, .string q.host, hd, bd]] W fun e w' => e = .returned (.bool (tgtP port q t)) ∧ Lo W w') :=
    Lib.hid fun W hW => target t port q c0 c1 c2 c3 tg qu hd bd W (Nat.le_trans hB hW.size) (TargetR.kept _ _ _ _ _ _ ht (hW.cells hB) (Nat.le_refl _)) zm zp zh
  clear ht hp hq
  go_enter Tryz.func68, Tryz.ntmps68
  go_wp2_with (go_at_call 69; refine (HS.out _ ?_).mono ?_; (exact (by repeat (first | exact Lo.refl _ | assumption | refine Lo.drew ?_ | refine Lo.alloc ?_ _ | refine Lo.setCell ?_ (by first | (dsimp only; omega) | (simp; omega) | (simp; done)) _ | refine Lo.trans ?_ (by assumption)))); rintro e w1 ⟨rfl, hb⟩)
  go_ret
  exact ⟨rfl, (by repeat (first | exact Lo.refl _ | assumption | refine Lo.drew ?_ | refine Lo.alloc ?_ _ | refine Lo.setCell ?_ (by first | (dsimp only; omega) | (simp; omega) | (simp; done)) _ | refine Lo.trans ?_ (by assumption)))⟩
theorem matches3 (x : Pl.When) (hs : List Pl.Head) (A : Option Addr) (cap : Nat) (m t p q h bd : Value) (c0 c1 : Value) (b : Nat) {B : Nat} (w : World) (hB : B ≤ w.heap.size) (hx : WhenR B w x [c0, c1]) (hA : SliceAt HeadR 2 B w A hs) (h100 : hs.length ≤ 1000)
    (hq : BoxAt w b [m, t, p, q, h, .slice A hs.length cap, bd]) :
    Calls Tryz.prog 71 #[.agg #[c0, c1], .pointer (some ⟨b, 0, none⟩)] w fun e w' => e = .returned (.bool (whenP hs x)) ∧ Lo w w' := by
  have g0 := hq 0 _ rfl
  have g1 := hq 1 _ rfl
  have g2 := hq 2 _ rfl
  have g3 := hq 3 _ rfl
  have g4 := hq 4 _ rfl
  have g5 := hq 5 _ rfl
  have g6 := hq 6 _ rfl
  have hlt := hq.lt
  have HS : Hid (∀ W, Lo w W → Calls Tryz.prog 72 #[.agg #[c0, c1], .agg #[m, t, p, q, h, .slice A hs.length cap, bd]] W fun e w' => e = .returned (.bool (whenP hs x)) ∧ Lo W w') :=
    Lib.hid fun W hW => when_ x hs A cap c0 c1 m t p q h bd W (Nat.le_trans hB hW.size) (WhenR.kept _ _ _ _ _ _ hx (hW.cells hB) (Nat.le_refl _)) (SliceAt.lo HeadR.kept hA hW hB) h100
  clear hx hA hq
  go_enter Tryz.func71, Tryz.ntmps71
  go_wp2_with (go_at_call 72; refine (HS.out _ ?_).mono ?_; (exact (by repeat (first | exact Lo.refl _ | assumption | refine Lo.drew ?_ | refine Lo.alloc ?_ _ | refine Lo.setCell ?_ (by first | (dsimp only; omega) | (simp; omega) | (simp; done)) _ | refine Lo.trans ?_ (by assumption)))); rintro e w1 ⟨rfl, hb⟩)
  go_ret
  exact ⟨rfl, (by repeat (first | exact Lo.refl _ | assumption | refine Lo.drew ?_ | refine Lo.alloc ?_ _ | refine Lo.setCell ?_ (by first | (dsimp only; omega) | (simp; omega) | (simp; done)) _ | refine Lo.trans ?_ (by assumption)))⟩
theorem enters_matches1 : Enters Tryz.prog 65 := enters_of Tryz.func65 (by kernel_rfl) rfl
theorem enters_matches2 : Enters Tryz.prog 68 := enters_of Tryz.func68 (by kernel_rfl) rfl
theorem enters_matches3 : Enters Tryz.prog 71 := enters_of Tryz.func71 (by kernel_rfl) rfl

def matchP (a : Pl.Asker) (port : Int) (q : Pl.Req) (r : Pl.Rule) : Bool := (r.from_.isEmpty || r.from_.any (srcP a)) && (r.to_.isEmpty || r.to_.any (tgtP port q)) && r.when_.all (whenP q.heads)

/-- what of an asker and a request fits in memory -/
structure Fits (B : Nat) (w : World) (a : Pl.Asker) (q : Pl.Req) (A : Option Addr) : Prop where
  ns : a.ns.size ≤ maxLen
  sa : a.sa.size ≤ maxLen
  method : q.method.size ≤ maxLen
  path : q.path.size ≤ maxLen
  host : q.host.size ≤ maxLen
  heads : SliceAt HeadR 2 B w A q.heads
  few : q.heads.length ≤ 1000
theorem Fits.lo {B : Nat} {w w' : World} {a : Pl.Asker} {q : Pl.Req} {A : Option Addr} (h : Fits B w a q A) (hl : Lo w w') (hB : B ≤ w.heap.size) : Fits B w' a q A :=
  { h with heads := SliceAt.lo HeadR.kept h.heads hl hB }

set_option maxRecDepth 100000 in
set_option maxHeartbeats 4000000 in
theorem matches_ (r : Pl.Rule) (a : Pl.Asker) (port : Int) (q : Pl.Req) (A : Option Addr) (cap : Nat) (tg qu : ByteArray) (bd : Value) (c0 c1 c2 : Value) {B : Nat} (w : World) (hB : B ≤ w.heap.size) (hr : RuleR B w r [c0, c1, c2]) (hf : Fits B w a q A) :
    Calls Tryz.prog 50 #[.agg #[c0, c1, c2], .agg #[.string a.ns, .string a.sa, .int .u32 a.addr], .int .i64 port, .agg #[.string q.method, .string tg, .string q.path, .string qu, .string q.host, .slice A q.heads.length cap, bd]] w fun e w' => e = .returned (.bool (matchP a port q r)) ∧ Lo w w' := by
  obtain ⟨d0, d1, d2, he, ⟨A0, p0, e0, h0, l0, m0⟩, ⟨A1, p1, e1, h1, l1, m1⟩, ⟨A2, p2, e2, h2, l2, m2⟩⟩ := hr
  injection he with q0 he; injection he with q1 he; injection he with q2 he
  subst q0 q1 q2
  injection e0 with e0; injection e1 with e1; injection e2 with e2
  subst e0 e1 e2
  have C0 : ∀ (W : World) (b : Nat), Lo w W → BoxAt W b [.string a.ns, .string a.sa, .int .u32 a.addr] → Calls Tryz.prog 64 #[.slice A0 r.from_.length p0, .func (.func 65) #[] #[.pointer (some ⟨b, 0, none⟩)]] W fun e w' => e = .returned (.bool (r.from_.isEmpty || r.from_.any (srcP a))) ∧ Lo W w' := fun W b hW hb => by
    refine letsSource SourceR.kept p0 W (Nat.le_trans hB hW.size) (SliceAt.lo SourceR.kept h0 hW hB) (Nat.le_trans l0 m0) enters_matches1 ?_
    intro W' x c0 c1 c2 hx hlo hr
    exact matches1 x a c0 c1 c2 b W' (Nat.le_trans hB (hW.trans hlo).size) hr hf.ns hf.sa (hb.lo hlo)
  have C1 : ∀ (W : World) (b1 b2 : Nat), Lo w W → BoxAt W b1 [.int .i64 port] → BoxAt W b2 [.string q.method, .string tg, .string q.path, .string qu, .string q.host, .slice A q.heads.length cap, bd] → Calls Tryz.prog 67 #[.slice A1 r.to_.length p1, .func (.func 68) #[] #[.pointer (some ⟨b1, 0, none⟩), .pointer (some ⟨b2, 0, none⟩)]] W fun e w' => e = .returned (.bool (r.to_.isEmpty || r.to_.any (tgtP port q))) ∧ Lo W w' := fun W b1 b2 hW hb hb2 => by
    refine letsTarget TargetR.kept p1 W (Nat.le_trans hB hW.size) (SliceAt.lo TargetR.kept h1 hW hB) (Nat.le_trans l1 m1) enters_matches2 ?_
    intro W' x c0 c1 c2 c3 hx hlo hr
    exact matches2 x port q tg qu _ bd c0 c1 c2 c3 b1 b2 W' (Nat.le_trans hB (hW.trans hlo).size) hr hf.method hf.path hf.host (hb.lo hlo) (hb2.lo hlo)
  have C2 : ∀ (W : World) (b : Nat), Lo w W → BoxAt W b [.string q.method, .string tg, .string q.path, .string qu, .string q.host, .slice A q.heads.length cap, bd] → Calls Tryz.prog 70 #[.slice A2 r.when_.length p2, .func (.func 71) #[] #[.pointer (some ⟨b, 0, none⟩)]] W fun e w' => e = .returned (.bool (r.when_.all (whenP q.heads))) ∧ Lo W w' := fun W b hW hb => by
    refine allWhen WhenR.kept p2 W (Nat.le_trans hB hW.size) (SliceAt.lo WhenR.kept h2 hW hB) (Nat.le_trans l2 m2) enters_matches3 ?_
    intro W' x c0 c1 hx hlo hr
    exact matches3 x q.heads A cap _ _ _ _ _ bd c0 c1 b W' (Nat.le_trans hB (hW.trans hlo).size) hr (SliceAt.lo HeadR.kept hf.heads (hW.trans hlo) hB) hf.few (hb.lo hlo)
  unfold matchP
  generalize (r.from_.isEmpty || r.from_.any (srcP a)) = x at *
  generalize (r.to_.isEmpty || r.to_.any (tgtP port q)) = y at *
  generalize r.when_.all (whenP q.heads) = z at *
  have H0 := Lib.hid C0
  have H1 := Lib.hid C1
  have H2 := Lib.hid C2
  clear C0 C1 C2 h0 h1 h2 hf
  generalize r.from_.length = n0 at *
  generalize r.to_.length = n1 at *
  generalize r.when_.length = n2 at *
  generalize q.heads.length = n3 at *
  cases x <;> cases y
  all_goals
    go_enter Tryz.func50, Tryz.ntmps50
    go_wp2_with (first
      | (go_at_call 64; (have gA := BoxAt.old (BoxAt.old (BoxAt.newAt (w := w.alloc (.cells #[.slice A0 n0 p0, .slice A1 n1 p1, .slice A2 n2 p2] 46)) #[.string a.ns, .string a.sa, .int .u32 a.addr] 29 (by simp : w.heap.size + 1 = _)) (.cells #[.int .i64 port] 3)) (.cells #[.string q.method, .string tg, .string q.path, .string qu, .string q.host, .slice A n3 cap, bd] 33)); (have gP := BoxAt.old (BoxAt.newAt (w := (w.alloc (.cells #[.slice A0 n0 p0, .slice A1 n1 p1, .slice A2 n2 p2] 46)).alloc (.cells #[.string a.ns, .string a.sa, .int .u32 a.addr] 29)) #[.int .i64 port] 3 (by simp : w.heap.size + 2 = _)) (.cells #[.string q.method, .string tg, .string q.path, .string qu, .string q.host, .slice A n3 cap, bd] 33)); (have gQ := BoxAt.newAt (w := ((w.alloc (.cells #[.slice A0 n0 p0, .slice A1 n1 p1, .slice A2 n2 p2] 46)).alloc (.cells #[.string a.ns, .string a.sa, .int .u32 a.addr] 29)).alloc (.cells #[.int .i64 port] 3)) #[.string q.method, .string tg, .string q.path, .string qu, .string q.host, .slice A n3 cap, bd] 33 (by simp : w.heap.size + 3 = _)); refine (H0.out _ _ ?_ gA).mono ?_; (exact (by repeat (first | exact Lo.refl _ | assumption | refine Lo.drew ?_ | refine Lo.alloc ?_ _ | refine Lo.setCell ?_ (by first | (dsimp only; omega) | (simp; omega) | (simp; done)) _ | refine Lo.trans ?_ (by assumption)))); rintro e w1 ⟨rfl, hb⟩; (have gP := gP.lo hb); (have gQ := gQ.lo hb); obtain ⟨hc, hf, hz⟩ := hb.facts; have hz0 := hz w.heap.size (by first | assumption | (simp; done) | (simp; omega)); have hq0 := fun o => hc w.heap.size o (by first | assumption | (simp; done) | (simp; omega)); have hz1 := hz (w.heap.size + 1) (by first | assumption | (simp; done) | (simp; omega)); have hq1 := fun o => hc (w.heap.size + 1) o (by first | assumption | (simp; done) | (simp; omega)); have hz2 := hz (w.heap.size + 2) (by first | assumption | (simp; done) | (simp; omega)); have hq2 := fun o => hc (w.heap.size + 2) o (by first | assumption | (simp; done) | (simp; omega)); have hz3 := hz (w.heap.size + 3) (by first | assumption | (simp; done) | (simp; omega)); have hq3 := fun o => hc (w.heap.size + 3) o (by first | assumption | (simp; done) | (simp; omega)))
      | (go_at_call 67; refine (H1.out _ _ _ ?_ gP gQ).mono ?_; (exact (by repeat (first | exact Lo.refl _ | assumption | refine Lo.drew ?_ | refine Lo.alloc ?_ _ | refine Lo.setCell ?_ (by first | (dsimp only; omega) | (simp; omega) | (simp; done)) _ | refine Lo.trans ?_ (by assumption)))); rintro e w2 ⟨rfl, hb⟩; (have gQ := gQ.lo hb); obtain ⟨hc, hf, hz⟩ := hb.facts; have hz0 := hz w.heap.size (by first | assumption | (simp; done) | (simp; omega)); have hq0 := fun o => hc w.heap.size o (by first | assumption | (simp; done) | (simp; omega)); have hz1 := hz (w.heap.size + 1) (by first | assumption | (simp; done) | (simp; omega)); have hq1 := fun o => hc (w.heap.size + 1) o (by first | assumption | (simp; done) | (simp; omega)); have hz2 := hz (w.heap.size + 2) (by first | assumption | (simp; done) | (simp; omega)); have hq2 := fun o => hc (w.heap.size + 2) o (by first | assumption | (simp; done) | (simp; omega)); have hz3 := hz (w.heap.size + 3) (by first | assumption | (simp; done) | (simp; omega)); have hq3 := fun o => hc (w.heap.size + 3) o (by first | assumption | (simp; done) | (simp; omega)))
      | (go_at_call 70; refine (H2.out _ _ ?_ gQ).mono ?_; (exact (by repeat (first | exact Lo.refl _ | assumption | refine Lo.drew ?_ | refine Lo.alloc ?_ _ | refine Lo.setCell ?_ (by first | (dsimp only; omega) | (simp; omega) | (simp; done)) _ | refine Lo.trans ?_ (by assumption)))); rintro e w3 ⟨rfl, hb⟩))
    go_ret
    exact ⟨ret_bool (by simp), (by repeat (first | exact Lo.refl _ | assumption | refine Lo.drew ?_ | refine Lo.alloc ?_ _ | refine Lo.setCell ?_ (by first | (dsimp only; omega) | (simp; omega) | (simp; done)) _ | refine Lo.trans ?_ (by assumption)))⟩
end Go.Proofs.YtlcecabfmemfeaaGreat.WAuth
