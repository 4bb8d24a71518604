/- The walks of policy.ownWhen, ownRule, Own. (Written by mk_own.py.) -/
import Derived.Test.YtlcecabfmemfeaaWOwn
import Derived.Test.YtlcecabfmemfeaaWLong3
namespace Go.Proofs.Ytlcecabfmemfeaa.WAuth
set_option linter.unusedVariables false
set_option linter.unusedSimpArgs false
open Go.RowKit Mem BigFrame WMatch WAddr WName Opn
theorem any_no {α : Type} {p : α → Bool} {xs : List α} (h : xs.any p = false) {x : α} (hx : x ∈ xs) : p x = false := by
  rw [List.any_eq_false] at h
  simpa using h x hx
theorem sourceShape (B : Nat) (w : World) (x : Pl.Source) (cs : List Value) (h : SourceR B w x cs) : ∃ (xa0 : Option Addr) (xn0 xk0 : Nat) (xa1 : Option Addr) (xn1 xk1 : Nat) (xa2 : Option Addr) (xn2 xk2 : Nat), cs = [.slice xa0 xn0 xk0, .slice xa1 xn1 xk1, .slice xa2 xn2 xk2] := by
  obtain ⟨_, _, _, rfl, ⟨_, _, e0, -⟩, ⟨_, _, e1, -⟩, ⟨_, _, e2, -⟩⟩ := h
  injection e0 with e0; injection e1 with e1; injection e2 with e2; subst e0 e1 e2
  exact ⟨_, _, _, _, _, _, _, _, _, rfl⟩
theorem targetShape (B : Nat) (w : World) (x : Pl.Target) (cs : List Value) (h : TargetR B w x cs) : ∃ (xa0 : Option Addr) (xn0 xk0 : Nat) (xa1 : Option Addr) (xn1 xk1 : Nat) (xa2 : Option Addr) (xn2 xk2 : Nat) (xa3 : Option Addr) (xn3 xk3 : Nat), cs = [.slice xa0 xn0 xk0, .slice xa1 xn1 xk1, .slice xa2 xn2 xk2, .slice xa3 xn3 xk3] := by
  obtain ⟨_, _, _, _, rfl, ⟨_, _, e0, -⟩, ⟨_, _, e1, -⟩, ⟨_, _, e2, -⟩, ⟨_, _, e3, -⟩⟩ := h
  injection e0 with e0; injection e1 with e1; injection e2 with e2; injection e3 with e3; subst e0 e1 e2 e3
  exact ⟨_, _, _, _, _, _, _, _, _, _, _, _, rfl⟩
theorem whenShape (B : Nat) (w : World) (x : Pl.When) (cs : List Value) (h : WhenR B w x cs) : ∃ (xt0 : ByteArray) (xa1 : Option Addr) (xn1 xk1 : Nat), cs = [.string xt0, .slice xa1 xn1 xk1] := by
  obtain ⟨_, _, rfl, ⟨e0, -⟩, ⟨_, _, e1, -⟩⟩ := h
  injection e0 with e0; injection e1 with e1; subst e0 e1
  exact ⟨_, _, _, _, rfl⟩
theorem ruleShape (B : Nat) (w : World) (x : Pl.Rule) (cs : List Value) (h : RuleR B w x cs) : ∃ (xa0 : Option Addr) (xn0 xk0 : Nat) (xa1 : Option Addr) (xn1 xk1 : Nat) (xa2 : Option Addr) (xn2 xk2 : Nat), cs = [.slice xa0 xn0 xk0, .slice xa1 xn1 xk1, .slice xa2 xn2 xk2] := by
  obtain ⟨_, _, _, rfl, ⟨_, _, e0, -⟩, ⟨_, _, e1, -⟩, ⟨_, _, e2, -⟩⟩ := h
  injection e0 with e0; injection e1 with e1; injection e2 with e2; subst e0 e1 e2
  exact ⟨_, _, _, _, _, _, _, _, _, rfl⟩
theorem ownSource_out {x : Pl.Source} {W w' : World} {e : Ending} (h : ∃ ya0 ya1 ya2 yk0 yk1 yk2, e = .returned (.agg #[.slice ya0 x.names.length yk0, .slice ya1 x.spaces.length yk1, .slice ya2 x.nets.length yk2]) ∧ Lo W w' ∧ New W.heap.size SourceR w' x [.slice ya0 x.names.length yk0, .slice ya1 x.spaces.length yk1, .slice ya2 x.nets.length yk2]) :
    ∃ (ya0 : Option Addr) (yn0 yk0 : Nat) (ya1 : Option Addr) (yn1 yk1 : Nat) (ya2 : Option Addr) (yn2 yk2 : Nat), e = .returned (.agg #[.slice ya0 yn0 yk0, .slice ya1 yn1 yk1, .slice ya2 yn2 yk2]) ∧ Lo W w' ∧ Foot (fun b => W.heap.size ≤ b ∧ b < w'.heap.size) SourceR w' x [.slice ya0 yn0 yk0, .slice ya1 yn1 yk1, .slice ya2 yn2 yk2] := by
  obtain ⟨a0, a1, a2, k0, k1, k2, h1, h2, h3⟩ := h
  exact ⟨_, _, _, _, _, _, _, _, _, h1, h2, h3⟩
theorem ownTarget_out {x : Pl.Target} {W w' : World} {e : Ending} (h : ∃ ya0 ya1 ya2 ya3 yk0 yk1 yk2 yk3, e = .returned (.agg #[.slice ya0 x.ports.length yk0, .slice ya1 x.methods.length yk1, .slice ya2 x.paths.length yk2, .slice ya3 x.hosts.length yk3]) ∧ Lo W w' ∧ New W.heap.size TargetR w' x [.slice ya0 x.ports.length yk0, .slice ya1 x.methods.length yk1, .slice ya2 x.paths.length yk2, .slice ya3 x.hosts.length yk3]) :
    ∃ (ya0 : Option Addr) (yn0 yk0 : Nat) (ya1 : Option Addr) (yn1 yk1 : Nat) (ya2 : Option Addr) (yn2 yk2 : Nat) (ya3 : Option Addr) (yn3 yk3 : Nat), e = .returned (.agg #[.slice ya0 yn0 yk0, .slice ya1 yn1 yk1, .slice ya2 yn2 yk2, .slice ya3 yn3 yk3]) ∧ Lo W w' ∧ Foot (fun b => W.heap.size ≤ b ∧ b < w'.heap.size) TargetR w' x [.slice ya0 yn0 yk0, .slice ya1 yn1 yk1, .slice ya2 yn2 yk2, .slice ya3 yn3 yk3] := by
  obtain ⟨a0, a1, a2, a3, k0, k1, k2, k3, h1, h2, h3⟩ := h
  exact ⟨_, _, _, _, _, _, _, _, _, _, _, _, h1, h2, h3⟩
theorem ownRule_out {x : Pl.Rule} {W w' : World} {e : Ending} (h : ∃ ya0 ya1 ya2 yk0 yk1 yk2, e = .returned (.agg #[.slice ya0 x.from_.length yk0, .slice ya1 x.to_.length yk1, .slice ya2 x.when_.length yk2]) ∧ Lo W w' ∧ New W.heap.size RuleR w' x [.slice ya0 x.from_.length yk0, .slice ya1 x.to_.length yk1, .slice ya2 x.when_.length yk2]) :
    ∃ (ya0 : Option Addr) (yn0 yk0 : Nat) (ya1 : Option Addr) (yn1 yk1 : Nat) (ya2 : Option Addr) (yn2 yk2 : Nat), e = .returned (.agg #[.slice ya0 yn0 yk0, .slice ya1 yn1 yk1, .slice ya2 yn2 yk2]) ∧ Lo W w' ∧ Foot (fun b => W.heap.size ≤ b ∧ b < w'.heap.size) RuleR w' x [.slice ya0 yn0 yk0, .slice ya1 yn1 yk1, .slice ya2 yn2 yk2] := by
  obtain ⟨a0, a1, a2, k0, k1, k2, h1, h2, h3⟩ := h
  exact ⟨_, _, _, _, _, _, _, _, _, h1, h2, h3⟩

set_option maxRecDepth 100000 in
set_option maxHeartbeats 8000000 in
theorem ownWhen (s : Pl.When) (c0 c1 : Value) {B : Nat} (w : World) (hB : B ≤ w.heap.size) (hs : WhenR B w s [c0, c1]) (hlong : whenLong s = false) :
    Calls Try.prog 148 #[.agg #[c0, c1]] w fun e w' => ∃ ya1 yk1, e = .returned (.agg #[.string s.head, .slice ya1 s.terms.length yk1]) ∧ Lo w w' ∧ New w.heap.size WhenR w' s [.string s.head, .slice ya1 s.terms.length yk1] := by
  obtain ⟨d0, d1, he, ⟨e0, z0⟩, ⟨A1, p1, e1, h1, l1, m1⟩⟩ := hs
  injection he with q0 he; injection he with q1 he
  subst q0 q1
  injection e0 with e0; injection e1 with e1
  subst e0 e1
  simp only [whenLong, termsB, List.any_cons, List.any_nil, Bool.or_eq_false_iff, decide_eq_false_iff_not] at hlong
  have b1 := row_bound hlong.1.1
  have C1 : Hid (∀ W, Lo w W → Calls Try.prog 153 #[.slice A1 s.terms.length p1] W fun e w' => ∃ A cap, e = .returned (.slice A s.terms.length cap) ∧ Lo W w' ∧ New W.heap.size (SliceC TermR 2) w' s.terms [.slice A s.terms.length cap]) := Lib.hid fun W hW => by
    refine (WCloneTerm.clone TermR.kept A1 p1 s.terms W (Nat.le_trans hB hW.size) (SliceAt.lo TermR.kept h1 hW hB) (fun x cs h => TermR.one h) (by omega)).mono ?_
    rintro e w' ⟨v, rfl, hl, hrow⟩
    obtain ⟨A, cap, rfl, hft⟩ := (hrow.flat (T' := fun b => W.heap.size ≤ b) TermR.flat).fresh
    exact ⟨A, cap, rfl, hl, hft⟩
  clear h1
  have HE : Hid (∀ (bs : Nat) (W : World) (ya1 : Option Addr) (yk1 : Nat), New bs (SliceC TermR 2) W s.terms [.slice ya1 s.terms.length yk1] → New bs WhenR W s [.string s.head, .slice ya1 s.terms.length yk1]) := Lib.hid fun bs W ya1 yk1 g1 w' B hw hB => ⟨_, _, rfl, ⟨rfl, z0⟩, g1 w' B hw hB⟩
  obtain ⟨n1, hn1⟩ : ∃ n, s.terms.length = n := ⟨_, rfl⟩
  obtain ⟨t0, ht0⟩ : ∃ t, s.head = t := ⟨_, rfl⟩
  simp only [hn1, ht0] at C1 HE ⊢
  clear hn1 ht0 z0
  go_enter Try.func148, Try.ntmps148
  go_wp2_with fail
  refine (C1.out _ ?_).mono ?_
  · exact (by repeat (first | exact Lo.refl _ | assumption | refine Lo.drew ?_ | refine Lo.alloc ?_ _ | refine Lo.setCell ?_ (by first | (dsimp only; omega) | (simp; omega) | (simp; done)) _ | refine Lo.trans ?_ (by assumption)))
  rintro e w2 ⟨ya1, yk1, rfl, hb, g1⟩
  have hlw2 : Lo w w2 := (((Lo.refl w).alloc _).alloc _).trans hb
  have hz2 : w.heap.size + 1 < w2.heap.size := hb.facts.2.2 _ (by simp)
  have a0 : w2.cell? ⟨w.heap.size, 0, none⟩ = some (.string t0) := lo_keep hb (by simp)
  have a1 : w2.cell? ⟨w.heap.size, 1, none⟩ = some (.slice A1 n1 p1) := lo_keep hb (by simp)
  have r0 : w2.cell? ⟨w.heap.size + 1, 0, none⟩ = some (.string ⟨#[]⟩) := lo_keep hb (by simp)
  have r1 : w2.cell? ⟨w.heap.size + 1, 1, none⟩ = some (.slice none 0 0) := lo_keep hb (by simp)
  have u0 : w2.frozen? ⟨w.heap.size, 0, none⟩ = false := (hb.facts.2.1 _ 0 (by simp; omega)).trans (by simp)
  have u1 : w2.frozen? ⟨w.heap.size, 1, none⟩ = false := (hb.facts.2.1 _ 1 (by simp; omega)).trans (by simp)
  have s0 : w2.frozen? ⟨w.heap.size + 1, 0, none⟩ = false := (hb.facts.2.1 _ 0 (by simp)).trans (by simp)
  have s1 : w2.frozen? ⟨w.heap.size + 1, 1, none⟩ = false := (hb.facts.2.1 _ 1 (by simp)).trans (by simp)
  have hsb : w.heap.size + 2 ≤ w2.heap.size := by omega
  have g1 := New.base (base' := w.heap.size + 2) g1 (by simp)
  clear hb
  go_wp2
  obtain ⟨w9, h9⟩ : ∃ w9, (((w2.setCell ⟨w.heap.size, 1, none⟩ (.slice ya1 n1 yk1)).setCell ⟨w.heap.size + 1, 0, none⟩ (.string t0)).setCell ⟨w.heap.size + 1, 1, none⟩ (.slice ya1 n1 yk1)) = w9 := ⟨_, rfl⟩
  rw [h9]
  have q0 : w9.cell? ⟨w.heap.size + 1, 0, none⟩ = some (.string t0) := by
    rw [← h9, setCell_other _ _ _ _ _ _ (by simp)]
    refine World.cell?_setCell_same _ _ _ (u := .string ⟨#[]⟩) ?_
    rw [setCell_other _ _ _ _ _ _ (by simp)]
    exact r0
  have q1 : w9.cell? ⟨w.heap.size + 1, 1, none⟩ = some (.slice ya1 n1 yk1) := by
    rw [← h9]
    refine World.cell?_setCell_same _ _ _ (u := .slice none 0 0) ?_
    rw [setCell_other _ _ _ _ _ _ (by simp), setCell_other _ _ _ _ _ _ (by simp)]
    exact r1
  have hl9 : Lo w w9 := by rw [← h9]; exact Lo.setCell (Lo.setCell (Lo.setCell hlw2 (by simp) _) (by simp) _) (by simp) _
  have hs9 : w9.heap.size = w2.heap.size := by rw [← h9]; simp
  have hfar : ∀ p : Addr, w.heap.size + 2 ≤ p.block → w9.cell? p = w2.cell? p := fun p hp => by
    rw [← h9]
    rw [setCell_far _ _ _ _ (by simp; omega), setCell_far _ _ _ _ (by simp; omega), setCell_far _ _ _ _ (by simp; omega)]
  have hN := ((HE.out (w.heap.size + 2) w2 ya1 yk1 g1).keep (w1 := w9) fun p hp => hfar p hp.1).mono (S' := fun b => w.heap.size ≤ b ∧ b < w9.heap.size) fun b hb => ⟨by omega, by omega⟩
  clear h9
  exact bodyPost_ret (v := .agg #[.string t0, .slice ya1 n1 yk1]) (by simp [results, Try.results148, go_sem, q0, q1]) rfl ⟨ya1, yk1, rfl, hl9, hN⟩
theorem ownWhen_out {x : Pl.When} {W w' : World} {e : Ending} (h : ∃ ya1 yk1, e = .returned (.agg #[.string x.head, .slice ya1 x.terms.length yk1]) ∧ Lo W w' ∧ New W.heap.size WhenR w' x [.string x.head, .slice ya1 x.terms.length yk1]) :
    ∃ (yt0 : ByteArray) (ya1 : Option Addr) (yn1 yk1 : Nat), e = .returned (.agg #[.string yt0, .slice ya1 yn1 yk1]) ∧ Lo W w' ∧ Foot (fun b => W.heap.size ≤ b ∧ b < w'.heap.size) WhenR w' x [.string yt0, .slice ya1 yn1 yk1] := by
  obtain ⟨a1, k1, h1, h2, h3⟩ := h
  exact ⟨_, _, _, _, h1, h2, h3⟩
theorem enters_ownSource : Enters Try.prog 144 := enters_of Try.func144 (by kernel_rfl) rfl
theorem enters_ownTarget : Enters Try.prog 146 := enters_of Try.func146 (by kernel_rfl) rfl
theorem enters_ownWhen : Enters Try.prog 148 := enters_of Try.func148 (by kernel_rfl) rfl
set_option maxRecDepth 100000 in
set_option maxHeartbeats 8000000 in
theorem ownRule (s : Pl.Rule) (c0 c1 c2 : Value) {B : Nat} (w : World) (hB : B ≤ w.heap.size) (hs : RuleR B w s [c0, c1, c2]) (hlong : longRule s = false) :
    Calls Try.prog 128 #[.agg #[c0, c1, c2]] w fun e w' => ∃ ya0 ya1 ya2 yk0 yk1 yk2, e = .returned (.agg #[.slice ya0 s.from_.length yk0, .slice ya1 s.to_.length yk1, .slice ya2 s.when_.length yk2]) ∧ Lo w w' ∧ New w.heap.size RuleR w' s [.slice ya0 s.from_.length yk0, .slice ya1 s.to_.length yk1, .slice ya2 s.when_.length yk2] := by
  obtain ⟨d0, d1, d2, he, ⟨A0, p0, e0, h0, l0, m0⟩, ⟨A1, p1, e1, h1, l1, m1⟩, ⟨A2, p2, e2, h2, l2, m2⟩⟩ := hs
  injection he with q0 he; injection he with q1 he; injection he with q2 he
  subst q0 q1 q2
  injection e0 with e0; injection e1 with e1; injection e2 with e2
  subst e0 e1 e2
  simp only [longRule, Bool.or_eq_false_iff, decide_eq_false_iff_not] at hlong; have b0 := hlong.1.1.1.1.1; have b1 := hlong.1.1.1.1.2; have b2 := hlong.1.1.1.2; have hlong0 := hlong.1.1.2; have hlong1 := hlong.1.2; have hlong2 := hlong.2
  have C0 : Hid (∀ W, Lo w W → Calls Try.prog 143 #[.slice A0 s.from_.length p0, .func (.func 144) #[] #[]] W fun e w' => ∃ A cap, e = .returned (.slice A s.from_.length cap) ∧ Lo W w' ∧ New W.heap.size (SliceC SourceR 3) w' s.from_ [.slice A s.from_.length cap]) := Lib.hid fun W hW => by
    refine (MPolicySource.mapped SourceR.kept (fun x => x) A0 p0 s.from_ W (Nat.le_trans hB hW.size) (SliceAt.lo SourceR.kept h0 hW hB) (by omega) enters_ownSource sourceShape ?_).mono ?_
    · intro W' x xa0 xn0 xk0 xa1 xn1 xk1 xa2 xn2 xk2 hx hlo hr
      refine (ownSource x _ _ _ W' (Nat.le_trans hB (hW.trans hlo).size) hr (any_no hlong0 hx)).mono ?_
      rintro e w' h
      exact ownSource_out h
    · rintro e w' ⟨v, rfl, hl, hrow⟩
      rw [List.map_id'] at hrow
      obtain ⟨A, cap, rfl, hft⟩ := hrow.fresh
      exact ⟨A, cap, rfl, hl, hft⟩
  have C1 : Hid (∀ W, Lo w W → Calls Try.prog 145 #[.slice A1 s.to_.length p1, .func (.func 146) #[] #[]] W fun e w' => ∃ A cap, e = .returned (.slice A s.to_.length cap) ∧ Lo W w' ∧ New W.heap.size (SliceC TargetR 4) w' s.to_ [.slice A s.to_.length cap]) := Lib.hid fun W hW => by
    refine (MPolicyTarget.mapped TargetR.kept (fun x => x) A1 p1 s.to_ W (Nat.le_trans hB hW.size) (SliceAt.lo TargetR.kept h1 hW hB) (by omega) enters_ownTarget targetShape ?_).mono ?_
    · intro W' x xa0 xn0 xk0 xa1 xn1 xk1 xa2 xn2 xk2 xa3 xn3 xk3 hx hlo hr
      refine (ownTarget x _ _ _ _ W' (Nat.le_trans hB (hW.trans hlo).size) hr (any_no hlong1 hx)).mono ?_
      rintro e w' h
      exact ownTarget_out h
    · rintro e w' ⟨v, rfl, hl, hrow⟩
      rw [List.map_id'] at hrow
      obtain ⟨A, cap, rfl, hft⟩ := hrow.fresh
      exact ⟨A, cap, rfl, hl, hft⟩
  have C2 : Hid (∀ W, Lo w W → Calls Try.prog 147 #[.slice A2 s.when_.length p2, .func (.func 148) #[] #[]] W fun e w' => ∃ A cap, e = .returned (.slice A s.when_.length cap) ∧ Lo W w' ∧ New W.heap.size (SliceC WhenR 2) w' s.when_ [.slice A s.when_.length cap]) := Lib.hid fun W hW => by
    refine (MPolicyWhen.mapped WhenR.kept (fun x => x) A2 p2 s.when_ W (Nat.le_trans hB hW.size) (SliceAt.lo WhenR.kept h2 hW hB) (by omega) enters_ownWhen whenShape ?_).mono ?_
    · intro W' x xt0 xa1 xn1 xk1 hx hlo hr
      refine (ownWhen x _ _ W' (Nat.le_trans hB (hW.trans hlo).size) hr (any_no hlong2 hx)).mono ?_
      rintro e w' h
      exact ownWhen_out h
    · rintro e w' ⟨v, rfl, hl, hrow⟩
      rw [List.map_id'] at hrow
      obtain ⟨A, cap, rfl, hft⟩ := hrow.fresh
      exact ⟨A, cap, rfl, hl, hft⟩
  clear h0 h1 h2
  obtain ⟨n0, hn0⟩ : ∃ n, s.from_.length = n := ⟨_, rfl⟩
  obtain ⟨n1, hn1⟩ : ∃ n, s.to_.length = n := ⟨_, rfl⟩
  obtain ⟨n2, hn2⟩ : ∃ n, s.when_.length = n := ⟨_, rfl⟩
  have HE : Hid (∀ (bs : Nat) (W : World) (ya0 : Option Addr) (yk0 : Nat) (ya1 : Option Addr) (yk1 : Nat) (ya2 : Option Addr) (yk2 : Nat), New bs (SliceC SourceR 3) W s.from_ [.slice ya0 s.from_.length yk0] → New bs (SliceC TargetR 4) W s.to_ [.slice ya1 s.to_.length yk1] → New bs (SliceC WhenR 2) W s.when_ [.slice ya2 s.when_.length yk2] → New bs RuleR W s [.slice ya0 s.from_.length yk0, .slice ya1 s.to_.length yk1, .slice ya2 s.when_.length yk2]) := Lib.hid fun bs W ya0 yk0 ya1 yk1 ya2 yk2 g0 g1 g2 w' B hw hB => ⟨_, _, _, rfl, g0 w' B hw hB, g1 w' B hw hB, g2 w' B hw hB⟩
  simp only [hn0, hn1, hn2] at C0 C1 C2 HE ⊢
  clear hn0 hn1 hn2
  go_enter Try.func128, Try.ntmps128
  go_wp2_with fail
  obtain ⟨wz, hw⟩ : ∃ wz, (w.alloc (.cells #[.slice A0 n0 p0, .slice A1 n1 p1, .slice A2 n2 p2] 71)).alloc (.cells #[.slice none 0 0, .slice none 0 0, .slice none 0 0] 71) = wz := ⟨_, rfl⟩
  rw [hw]
  have hlz : Lo w wz := by rw [← hw]; exact (by repeat (first | exact Lo.refl _ | assumption | refine Lo.drew ?_ | refine Lo.alloc ?_ _ | refine Lo.setCell ?_ (by first | (dsimp only; omega) | (simp; omega) | (simp; done)) _ | refine Lo.trans ?_ (by assumption)))
  have a0 : wz.cell? ⟨w.heap.size, 0, none⟩ = some (.slice A0 n0 p0) := by rw [← hw]; simp
  have r0 : wz.cell? ⟨w.heap.size + 1, 0, none⟩ = some (.slice none 0 0) := by rw [← hw]; simp
  have u0 : wz.frozen? ⟨w.heap.size, 0, none⟩ = false := by rw [← hw]; simp
  have s0 : wz.frozen? ⟨w.heap.size + 1, 0, none⟩ = false := by rw [← hw]; simp
  have a1 : wz.cell? ⟨w.heap.size, 1, none⟩ = some (.slice A1 n1 p1) := by rw [← hw]; simp
  have r1 : wz.cell? ⟨w.heap.size + 1, 1, none⟩ = some (.slice none 0 0) := by rw [← hw]; simp
  have u1 : wz.frozen? ⟨w.heap.size, 1, none⟩ = false := by rw [← hw]; simp
  have s1 : wz.frozen? ⟨w.heap.size + 1, 1, none⟩ = false := by rw [← hw]; simp
  have a2 : wz.cell? ⟨w.heap.size, 2, none⟩ = some (.slice A2 n2 p2) := by rw [← hw]; simp
  have r2 : wz.cell? ⟨w.heap.size + 1, 2, none⟩ = some (.slice none 0 0) := by rw [← hw]; simp
  have u2 : wz.frozen? ⟨w.heap.size, 2, none⟩ = false := by rw [← hw]; simp
  have s2 : wz.frozen? ⟨w.heap.size + 1, 2, none⟩ = false := by rw [← hw]; simp
  have hz1 : w.heap.size + 1 < wz.heap.size := World.block_lt_of_cell? _ _ r0
  clear hw
  refine wp_region_mix 10 16 (fun i v w' => match i with
        | 0 => v = .pointer (some ⟨w.heap.size, 0, none⟩)
        | 1 => v = .slice A0 n0 p0
        | 2 => ∃ A cap, v = .slice A n0 cap ∧ New wz.heap.size (SliceC SourceR 3) w' s.from_ [.slice A n0 cap]
        | 3 => v = .pointer (some ⟨w.heap.size, 1, none⟩)
        | 4 => v = .slice A1 n1 p1
        | 5 => ∃ A cap, v = .slice A n1 cap ∧ New wz.heap.size (SliceC TargetR 4) w' s.to_ [.slice A n1 cap]
        | 6 => v = .pointer (some ⟨w.heap.size, 2, none⟩)
        | 7 => v = .slice A2 n2 p2
        | 8 => ∃ A cap, v = .slice A n2 cap ∧ New wz.heap.size (SliceC WhenR 2) w' s.when_ [.slice A n2 cap]
        | 9 => v = .pointer (some ⟨w.heap.size, 0, none⟩)
        | _ => True) (by kernel_rfl) rfl (by kernel_rfl) ?_ ?_ ?_
  · intro i v w1 w2 h hl12
    match i, h with
    | 0, h => exact h
    | 1, h => exact h
    | 2, ⟨A, cap, hv, hft⟩ => exact ⟨A, cap, hv, hft.lo hl12⟩
    | 3, h => exact h
    | 4, h => exact h
    | 5, ⟨A, cap, hv, hft⟩ => exact ⟨A, cap, hv, hft.lo hl12⟩
    | 6, h => exact h
    | 7, h => exact h
    | 8, ⟨A, cap, hv, hft⟩ => exact ⟨A, cap, hv, hft.lo hl12⟩
    | 9, h => exact h
    | _ + 10, _ => trivial
  · intro i o hiN ho a w' hl hd hold
    match i, hiN with
    | 0, _ =>
      injection ho with ho; subst ho
      have h1 : a.eval (.tmp 1) = .pointer (some ⟨w.heap.size, 0, none⟩) := hold 1 (by kernel_rfl)
      simp [Act.eval] at h1
      exact ⟨fun _ => wp_of_run (v := .pointer (some ⟨w.heap.size, 0, none⟩)) (w' := w') (by simp [go_sem, h1]) ⟨_, rfl, Lo.refl _, rfl⟩, fun h => by rw [wanted_free rfl] at h; cases h⟩
    | 1, _ =>
      injection ho with ho; subst ho
      have h3 : a.eval (.tmp 3) = .pointer (some ⟨w.heap.size, 0, none⟩) := hd 0 (by kernel_rfl) 3 (by kernel_rfl)
      have hc0 := lo_keep hl a0
      simp [Act.eval] at h3
      exact ⟨fun _ => wp_of_run (v := .slice A0 n0 p0) (w' := w') (by simp [go_sem, h3, hc0]) ⟨_, rfl, Lo.refl _, rfl⟩, fun h => by rw [wanted_free rfl] at h; cases h⟩
    | 2, _ =>
      injection ho with ho; subst ho
      have h4 : a.eval (.tmp 4) = .slice A0 n0 p0 := hd 1 (by kernel_rfl) 4 (by kernel_rfl)
      simp [Act.eval] at h4
      refine ⟨fun _ => ?_, fun h => by rw [wanted_free rfl] at h; cases h⟩
      refine wp_call_of (f := 143) (args := #[.slice A0 n0 p0, .func (.func 144) #[] #[]]) (by simp [go_sem, h4]) (C0.out w' (hlz.trans hl)) ?_
      rintro e w2 ⟨A, cap, rfl, hb, hft⟩
      exact ⟨_, rfl, _, rfl, hb, A, cap, rfl, New.base hft hl.size⟩
    | 3, _ =>
      injection ho with ho; subst ho
      have h1 : a.eval (.tmp 1) = .pointer (some ⟨w.heap.size, 0, none⟩) := hold 1 (by kernel_rfl)
      simp [Act.eval] at h1
      exact ⟨fun _ => wp_of_run (v := .pointer (some ⟨w.heap.size, 1, none⟩)) (w' := w') (by simp [go_sem, h1]) ⟨_, rfl, Lo.refl _, rfl⟩, fun h => by rw [wanted_free rfl] at h; cases h⟩
    | 4, _ =>
      injection ho with ho; subst ho
      have h6 : a.eval (.tmp 6) = .pointer (some ⟨w.heap.size, 1, none⟩) := hd 3 (by kernel_rfl) 6 (by kernel_rfl)
      have hc0 := lo_keep hl a1
      simp [Act.eval] at h6
      exact ⟨fun _ => wp_of_run (v := .slice A1 n1 p1) (w' := w') (by simp [go_sem, h6, hc0]) ⟨_, rfl, Lo.refl _, rfl⟩, fun h => by rw [wanted_free rfl] at h; cases h⟩
    | 5, _ =>
      injection ho with ho; subst ho
      have h7 : a.eval (.tmp 7) = .slice A1 n1 p1 := hd 4 (by kernel_rfl) 7 (by kernel_rfl)
      simp [Act.eval] at h7
      refine ⟨fun _ => ?_, fun h => by rw [wanted_free rfl] at h; cases h⟩
      refine wp_call_of (f := 145) (args := #[.slice A1 n1 p1, .func (.func 146) #[] #[]]) (by simp [go_sem, h7]) (C1.out w' (hlz.trans hl)) ?_
      rintro e w2 ⟨A, cap, rfl, hb, hft⟩
      exact ⟨_, rfl, _, rfl, hb, A, cap, rfl, New.base hft hl.size⟩
    | 6, _ =>
      injection ho with ho; subst ho
      have h1 : a.eval (.tmp 1) = .pointer (some ⟨w.heap.size, 0, none⟩) := hold 1 (by kernel_rfl)
      simp [Act.eval] at h1
      exact ⟨fun _ => wp_of_run (v := .pointer (some ⟨w.heap.size, 2, none⟩)) (w' := w') (by simp [go_sem, h1]) ⟨_, rfl, Lo.refl _, rfl⟩, fun h => by rw [wanted_free rfl] at h; cases h⟩
    | 7, _ =>
      injection ho with ho; subst ho
      have h9 : a.eval (.tmp 9) = .pointer (some ⟨w.heap.size, 2, none⟩) := hd 6 (by kernel_rfl) 9 (by kernel_rfl)
      have hc0 := lo_keep hl a2
      simp [Act.eval] at h9
      exact ⟨fun _ => wp_of_run (v := .slice A2 n2 p2) (w' := w') (by simp [go_sem, h9, hc0]) ⟨_, rfl, Lo.refl _, rfl⟩, fun h => by rw [wanted_free rfl] at h; cases h⟩
    | 8, _ =>
      injection ho with ho; subst ho
      have h10 : a.eval (.tmp 10) = .slice A2 n2 p2 := hd 7 (by kernel_rfl) 10 (by kernel_rfl)
      simp [Act.eval] at h10
      refine ⟨fun _ => ?_, fun h => by rw [wanted_free rfl] at h; cases h⟩
      refine wp_call_of (f := 147) (args := #[.slice A2 n2 p2, .func (.func 148) #[] #[]]) (by simp [go_sem, h10]) (C2.out w' (hlz.trans hl)) ?_
      rintro e w2 ⟨A, cap, rfl, hb, hft⟩
      exact ⟨_, rfl, _, rfl, hb, A, cap, rfl, New.base hft hl.size⟩
    | 9, _ =>
      injection ho with ho; subst ho
      have h1 : a.eval (.tmp 1) = .pointer (some ⟨w.heap.size, 0, none⟩) := hold 1 (by kernel_rfl)
      simp [Act.eval] at h1
      exact ⟨fun _ => wp_of_run (v := .pointer (some ⟨w.heap.size, 0, none⟩)) (w' := w') (by simp [go_sem, h1]) ⟨_, rfl, Lo.refl _, rfl⟩, fun h => by rw [wanted_free rfl] at h; cases h⟩
  · intro v w2 hq hp
    have p_0 := hp 0 (by omega)
    have p_1 := hp 1 (by omega)
    have p_2 := hp 2 (by omega)
    have p_3 := hp 3 (by omega)
    have p_4 := hp 4 (by omega)
    have p_5 := hp 5 (by omega)
    have p_6 := hp 6 (by omega)
    have p_7 := hp 7 (by omega)
    have p_8 := hp 8 (by omega)
    have p_9 := hp 9 (by omega)
    clear hp
    simp only [List.range_succ, List.range_zero, List.nil_append, List.cons_append, List.foldl_cons, List.foldl_nil, List.drop_succ_cons, List.drop_zero, dstOf, List.getElem?_toArray, List.getElem?_cons_zero, List.getElem?_cons_succ, Option.bind_some, Act.put, List.setIfInBounds_toArray, List.set_cons_zero, List.set_cons_succ]
    generalize v 0 = v0 at *
    generalize v 1 = v1 at *
    generalize v 2 = v2 at *
    generalize v 3 = v3 at *
    generalize v 4 = v4 at *
    generalize v 5 = v5 at *
    generalize v 6 = v6 at *
    generalize v 7 = v7 at *
    generalize v 8 = v8 at *
    generalize v 9 = v9 at *
    subst p_0
    subst p_1
    obtain ⟨ya0, yk0, rfl, g0⟩ := p_2
    subst p_3
    subst p_4
    obtain ⟨ya1, yk1, rfl, g1⟩ := p_5
    subst p_6
    subst p_7
    obtain ⟨ya2, yk2, rfl, g2⟩ := p_8
    subst p_9
    replace u0 := (hq.facts.2.1 _ 0 (by omega)).trans u0
    replace s0 := (hq.facts.2.1 _ 0 hz1).trans s0
    replace a0 := lo_keep hq a0
    replace r0 := lo_keep hq r0
    replace u1 := (hq.facts.2.1 _ 1 (by omega)).trans u1
    replace s1 := (hq.facts.2.1 _ 1 hz1).trans s1
    replace a1 := lo_keep hq a1
    replace r1 := lo_keep hq r1
    replace u2 := (hq.facts.2.1 _ 2 (by omega)).trans u2
    replace s2 := (hq.facts.2.1 _ 2 hz1).trans s2
    replace a2 := lo_keep hq a2
    replace r2 := lo_keep hq r2
    have hzw := hq.size
    have hl2 := hlz.trans hq
    clear hq hlz
    go_wp2
    obtain ⟨w9, h9⟩ : ∃ w9, ((((((w2.setCell ⟨w.heap.size, 0, none⟩ (.slice ya0 n0 yk0)).setCell ⟨w.heap.size, 1, none⟩ (.slice ya1 n1 yk1)).setCell ⟨w.heap.size, 2, none⟩ (.slice ya2 n2 yk2)).setCell ⟨w.heap.size + 1, 0, none⟩ (.slice ya0 n0 yk0)).setCell ⟨w.heap.size + 1, 1, none⟩ (.slice ya1 n1 yk1)).setCell ⟨w.heap.size + 1, 2, none⟩ (.slice ya2 n2 yk2)) = w9 := ⟨_, rfl⟩
    rw [h9]
    have q0 : w9.cell? ⟨w.heap.size + 1, 0, none⟩ = some (.slice ya0 n0 yk0) := by
      rw [← h9]
      rw [setCell_other _ _ _ _ _ _ (by simp)]
      rw [setCell_other _ _ _ _ _ _ (by simp)]
      refine World.cell?_setCell_same _ _ _ (u := .slice none 0 0) ?_
      rw [setCell_other _ _ _ _ _ _ (by simp), setCell_other _ _ _ _ _ _ (by simp), setCell_other _ _ _ _ _ _ (by simp)]
      exact r0
    have q1 : w9.cell? ⟨w.heap.size + 1, 1, none⟩ = some (.slice ya1 n1 yk1) := by
      rw [← h9]
      rw [setCell_other _ _ _ _ _ _ (by simp)]
      refine World.cell?_setCell_same _ _ _ (u := .slice none 0 0) ?_
      rw [setCell_other _ _ _ _ _ _ (by simp), setCell_other _ _ _ _ _ _ (by simp), setCell_other _ _ _ _ _ _ (by simp), setCell_other _ _ _ _ _ _ (by simp)]
      exact r1
    have q2 : w9.cell? ⟨w.heap.size + 1, 2, none⟩ = some (.slice ya2 n2 yk2) := by
      rw [← h9]
      refine World.cell?_setCell_same _ _ _ (u := .slice none 0 0) ?_
      rw [setCell_other _ _ _ _ _ _ (by simp), setCell_other _ _ _ _ _ _ (by simp), setCell_other _ _ _ _ _ _ (by simp), setCell_other _ _ _ _ _ _ (by simp), setCell_other _ _ _ _ _ _ (by simp)]
      exact r2
    have hl9 : Lo w w9 := by rw [← h9]; exact (Lo.setCell (Lo.setCell (Lo.setCell (Lo.setCell (Lo.setCell (Lo.setCell hl2 (by simp) _) (by simp) _) (by simp) _) (by simp) _) (by simp) _) (by simp) _)
    have hs9 : w9.heap.size = w2.heap.size := by rw [← h9]; simp
    have hfar : ∀ p : Addr, wz.heap.size ≤ p.block → w9.cell? p = w2.cell? p := fun p hp => by
      rw [← h9]
      rw [setCell_far _ _ _ _ (by simp; omega), setCell_far _ _ _ _ (by simp; omega), setCell_far _ _ _ _ (by simp; omega), setCell_far _ _ _ _ (by simp; omega), setCell_far _ _ _ _ (by simp; omega), setCell_far _ _ _ _ (by simp; omega)]
    have hN := ((HE.out wz.heap.size w2 ya0 yk0 ya1 yk1 ya2 yk2 g0 g1 g2).keep (w1 := w9) fun p hp => hfar p hp.1).mono (S' := fun b => w.heap.size ≤ b ∧ b < w9.heap.size) fun b hb => ⟨by omega, by omega⟩
    clear h9
    exact bodyPost_ret (v := .agg #[.slice ya0 n0 yk0, .slice ya1 n1 yk1, .slice ya2 n2 yk2]) (by simp [results, Try.results128, go_sem, q0, q1, q2]) rfl ⟨ya0, ya1, ya2, yk0, yk1, yk2, rfl, hl9, hN⟩
end Go.Proofs.Ytlcecabfmemfeaa.WAuth
