/- The walks of auth.Holds, auth.Of, policy.Seventh. -/
import Derived.Test.YtlcecabfmemfeaaWOwn3
namespace Go.Proofs.Ytlcecabfmemfeaa.WAuth
set_option linter.unusedVariables false
set_option linter.unusedSimpArgs false
open Go.RowKit Mem BigFrame WMatch WAddr WName Opn

def holdsP (ns : ByteArray) (sv : Int) (p : Pl.Policy) : Bool := (p.ns.toList.isEmpty || p.ns.toList == ns.toList) && (p.service == 0 || p.service == sv)

set_option maxRecDepth 100000 in
set_option maxHeartbeats 4000000 in
theorem holds (p : Pl.Policy) (ns : ByteArray) (sv : Int) (A : Option Addr) (n cap : Nat) (w : World) :
    Calls Try.prog 52 #[.agg #[.int .u64 p.id, .string p.ns, .int .u64 p.service, .int .i64 p.deny, .slice A n cap], .string ns, .int .u64 sv] w fun e w' => e = .returned (.bool (holdsP ns sv p)) ∧ Lo w w' := by
  unfold holdsP
  cases h1 : p.ns.toList.isEmpty <;> cases h2 : (p.ns.toList == ns.toList) <;> cases h3 : (p.service == 0) <;> cases h4 : (p.service == sv)
  all_goals
    go_enter Try.func52, Try.ntmps52
    go_wp2
    go_ret
    exact ⟨ret_bool (by simp), (by repeat (first | exact Lo.refl _ | assumption | refine Lo.drew ?_ | refine Lo.alloc ?_ _ | refine Lo.setCell ?_ (by first | (dsimp only; omega) | (simp; omega) | (simp; done)) _ | refine Lo.trans ?_ (by assumption)))⟩

theorem policyShape (B : Nat) (w : World) (x : Pl.Policy) (cs : List Value) (h : PolicyR B w x cs) : ∃ (A : Option Addr) (cap : Nat), cs = [.int .u64 x.id, .string x.ns, .int .u64 x.service, .int .i64 x.deny, .slice A x.rules.length cap] := by
  obtain ⟨_, _, _, _, _, rfl, ⟨e0, -⟩, ⟨e1, -⟩, ⟨e2, -⟩, ⟨e3, -⟩, ⟨_, _, e4, -⟩⟩ := h
  injection e0 with e0; injection e1 with e1; injection e2 with e2; injection e3 with e3; injection e4 with e4; subst e0 e1 e2 e3 e4
  exact ⟨_, _, rfl⟩
theorem infoPol : (Try.prog.info? 61).map (fun i => (i.zero, i.size, i.bytes)) = some (some (.agg #[.int .u64 0, .string ⟨#[]⟩, .int .u64 0, .int .i64 0, .slice none 0 0]), 5, 64) := by kernel_rfl
theorem filter_yes {α : Type} {p : α → Bool} {xs : List α} {k : Nat} (hk : k < xs.length) (h : p xs[k] = true) : (xs.take (k + 1)).filter p = (xs.take k).filter p ++ [xs[k]] := by
  rw [List.take_succ_eq_append_getElem hk, List.filter_append]; simp [h]
theorem filter_no {α : Type} {p : α → Bool} {xs : List α} {k : Nat} (hk : k < xs.length) (h : p xs[k] = false) : (xs.take (k + 1)).filter p = (xs.take k).filter p := by
  rw [List.take_succ_eq_append_getElem hk, List.filter_append]; simp [h]

set_option maxRecDepth 100000 in
set_option maxHeartbeats 8000000 in
theorem of_ (l : List Pl.Policy) (ns : ByteArray) (sv : Int) (A : Option Addr) (cap : Nat) {B : Nat} (w : World) (hB : B ≤ w.heap.size) (hA : SliceAt PolicyR 5 B w A l) (hlong : l.any longPol = false) (h30 : l.length ≤ 1000) :
    Calls Try.prog 50 #[.slice A l.length cap, .string ns, .int .u64 sv] w fun e w' => ∃ v, e = .returned v ∧ Lo w w' ∧ RowF (fun b => w.heap.size ≤ b) PolicyR 61 5 w.heap.size w' v (l.filter (holdsP ns sv)) := by
  obtain ⟨i0, hi, hz0, hz1, hz2⟩ := info_parts infoPol
  go_enter Try.func50, Try.ntmps50
  go_wp2
  go_loopw [7, 12] (fun v i wr => ∃ k : Nat, k ≤ l.length ∧ i = .int .i64 k ∧ Lo w wr ∧ RowF (fun b => w.heap.size ≤ b) PolicyR 61 5 w.heap.size wr v ((l.take k).filter (holdsP ns sv))) (fun _ i _ => l.length - (intOf i).toNat)
  case atStart => exact ⟨0, Nat.zero_le _, rfl, Lo.refl _, RowF.nil⟩
  case round =>
    obtain ⟨k, hk, rfl, hlo, hown⟩ := hrel
    have hsz := hlo.size
    by_cases hlt : k < l.length
    · obtain ⟨b, off, cs, rfl, hb, hl2, hc, hr⟩ := (SliceAt.lo PolicyR.kept hA hlo hB) k l[k] (List.getElem?_eq_getElem hlt)
      obtain ⟨xa, xk, rfl⟩ := policyShape _ _ _ _ hr
      have hc0 : wr.cell? ⟨b, off + k * 5, none⟩ = _ := hc 0 _ rfl
      have hc1 : wr.cell? ⟨b, off + k * 5 + 1, none⟩ = _ := hc 1 _ rfl
      have hc2 : wr.cell? ⟨b, off + k * 5 + 2, none⟩ = _ := hc 2 _ rfl
      have hc3 : wr.cell? ⟨b, off + k * 5 + 3, none⟩ = _ := hc 3 _ rfl
      have hc4 : wr.cell? ⟨b, off + k * 5 + 4, none⟩ = _ := hc 4 _ rfl
      clear hc hl2
      have hbr := World.block_lt_of_cell? wr _ hc0
      have hlen : ((l.take k).filter (holdsP ns sv)).length ≤ 1000 := by
        have := List.length_filter_le (holdsP ns sv) (l.take k)
        simp at this ⊢; omega
      have HH := Lib.hid fun (W : World) => holds l[k] ns sv xa l[k].rules.length xk W
      have HO : Hid (∀ W, Lo wr W → Calls Try.prog 94 #[.agg #[.int .u64 l[k].id, .string l[k].ns, .int .u64 l[k].service, .int .i64 l[k].deny, .slice xa l[k].rules.length xk]] W fun e w' => ∃ ya4 yk4, e = .returned (.agg #[.int .u64 l[k].id, .string l[k].ns, .int .u64 l[k].service, .int .i64 l[k].deny, .slice ya4 l[k].rules.length yk4]) ∧ Lo W w' ∧ New W.heap.size PolicyR w' l[k] [.int .u64 l[k].id, .string l[k].ns, .int .u64 l[k].service, .int .i64 l[k].deny, .slice ya4 l[k].rules.length yk4]) :=
        Lib.hid fun W hW => ownPolicy l[k] _ _ _ _ _ W (Nat.le_trans (Nat.le_trans hB hlo.size) hW.size) (PolicyR.kept _ _ _ _ _ _ hr (hW.cells (Nat.le_trans hB hlo.size)) (Nat.le_refl _)) (any_no hlong (List.getElem_mem hlt))
      clear hr
      cases hp : holdsP ns sv l[k]
      · have HS := Lib.hid (filter_no hlt hp)
        have HP := Lib.hid hp
        clear hp HO
        go_wp2_with fail
        refine (HH.out _).mono ?_
        rw [HP.out]
        rintro e w1 ⟨rfl, hb1⟩
        go_wp2
        go_roundw
        case rel => exact ⟨k + 1, by omega, by go_num, (by repeat (first | exact Lo.refl _ | assumption | refine Lo.drew ?_ | refine Lo.alloc ?_ _ | refine Lo.setCell ?_ (by first | (dsimp only; omega) | (simp; omega) | (simp; done)) _ | refine Lo.trans ?_ (by assumption))), by rw [HS.out]; exact hown.lo (((Lo.refl _).alloc _).trans hb1)⟩
        case measure => simp [intOf]; omega
      · have HS := Lib.hid (filter_yes hlt hp)
        have HP := Lib.hid hp
        clear hp
        generalize hys : (l.take k).filter (holdsP ns sv) = ys at *
        clear hys
        have hbx := BoxAt.new wr #[.int .u64 l[k].id, .string l[k].ns, .int .u64 l[k].service, .int .i64 l[k].deny, .slice xa l[k].rules.length xk] 61
        go_wp2_with fail
        refine (HH.out _).mono ?_
        rw [HP.out]
        rintro e w1 ⟨rfl, hb1⟩
        have g0 := hbx.lo hb1 0 _ rfl
        have g1 := hbx.lo hb1 1 _ rfl
        have g2 := hbx.lo hb1 2 _ rfl
        have g3 := hbx.lo hb1 3 _ rfl
        have g4 := hbx.lo hb1 4 _ rfl
        have hlo1 : Lo wr w1 := ((Lo.refl _).alloc _).trans hb1
        have hz1w := World.block_lt_of_cell? w1 _ g0
        clear hb1 hbx
        go_wp2_with fail
        refine (HO.out _ ?_).mono ?_
        · exact hlo1
        rintro e w2 ⟨ya, yk, rfl, hb2, hft⟩
        have hlo2 : Lo wr w2 := hlo1.trans hb2
        have hrow := fun (W : World) (hW : Lo wr W) => hown.lo hW
        have hfoot := foot_new hft hown hlo2.size hlo1.size (fun b hb => by have := hlo1.size; omega) (.cells #[.int .u64 l[k].id, .string l[k].ns, .int .u64 l[k].service, .int .i64 l[k].deny, .slice ya l[k].rules.length yk] 61)
        have hsz2 := hlo2.size
        have HCell : Hid (∀ (j : Nat) u, [.int .u64 l[k].id, .string l[k].ns, .int .u64 l[k].service, .int .i64 l[k].deny, .slice ya l[k].rules.length yk][j]? = some u → (w2.alloc (.cells #[.int .u64 l[k].id, .string l[k].ns, .int .u64 l[k].service, .int .i64 l[k].deny, .slice ya l[k].rules.length yk] 61)).cell? ((⟨w2.heap.size, 0, none⟩ : Addr).add j) = some u) := Lib.hid (cells_of_block (heap_alloc_new w2 _))
        clear hft
        go_wp2_with (at_builtin; refine wpList_append_row (T := fun b => w.heap.size ≤ b) (R := PolicyR) rfl (.tmp 20) (.tmp 23) 47 rfl w.heap.size 61 i0 _ 5 64 Try.underlying47 hi hz0 hz1 hz2 rfl (by omega) _ _ rfl (hrow _ (hlo2.alloc _)) ⟨w2.heap.size, 0, none⟩ 1 [.int .u64 l[k].id, .string l[k].ns, .int .u64 l[k].service, .int .i64 l[k].deny, .slice ya l[k].rules.length yk] l[k] rfl rfl HCell.out (by simp [Value.oneCell']) hfoot (by unfold maxLen; omega) (by omega) (by simp; omega) ?_; intro vm w3 hrow3 hgr3 hlo3)
        go_roundw
        case rel => exact ⟨k + 1, by omega, by go_num, hlo3 w ((hlo.trans hlo2).alloc _) (Nat.le_refl _), by rw [HS.out]; exact hrow3⟩
        case measure => simp [intOf]; omega
    · have hf := hown
      rw [List.take_of_length_le (by omega)] at hf
      go_wp2
      go_ret
      exact ⟨_, rfl, hlo, hf⟩

/-- does a rule look at a request? -/
def looksT (t : Pl.Target) : Bool := decide (0 < t.methods.length + t.paths.length + t.hosts.length)
def seventhP (r : Pl.Rule) : Bool := decide (0 < r.when_.length) || r.to_.any looksT
theorem seventh1 (t : Pl.Target) (A0 A1 A2 A3 : Option Addr) (k0 k1 k2 k3 : Nat) (w : World) (h1 : t.methods.length ≤ 20) (h2 : t.paths.length ≤ 20) (h3 : t.hosts.length ≤ 20) :
    Calls Try.prog 96 #[.agg #[.slice A0 t.ports.length k0, .slice A1 t.methods.length k1, .slice A2 t.paths.length k2, .slice A3 t.hosts.length k3]] w fun e w' => e = .returned (.bool (looksT t)) ∧ Lo w w' := by
  unfold looksT
  generalize t.ports.length = n0 at *
  generalize t.methods.length = n1 at *
  generalize t.paths.length = n2 at *
  generalize t.hosts.length = n3 at *
  go_enter Try.func96, Try.ntmps96
  go_wp2
  go_ret
  exact ⟨ret_bool (by rw [Bool.eq_iff_iff]; simp only [decide_eq_true_eq]; omega), (by repeat (first | exact Lo.refl _ | assumption | refine Lo.drew ?_ | refine Lo.alloc ?_ _ | refine Lo.setCell ?_ (by first | (dsimp only; omega) | (simp; omega) | (simp; done)) _ | refine Lo.trans ?_ (by assumption)))⟩
theorem enters_seventh1 : Enters Try.prog 96 := enters_of Try.func96 (by kernel_rfl) rfl
set_option maxHeartbeats 1600000 in
theorem seventh (r : Pl.Rule) (c0 c1 c2 : Value) {B : Nat} (w : World) (hB : B ≤ w.heap.size) (hr : RuleR B w r [c0, c1, c2]) (hlong : r.to_.any tgtLong = false) :
    Calls Try.prog 53 #[.agg #[c0, c1, c2]] w fun e w' => e = .returned (.bool (seventhP r)) ∧ Lo w w' := by
  obtain ⟨d0, d1, d2, he, ⟨A0, p0, e0, h0, l0, m0⟩, ⟨A1, p1, e1, h1, l1, m1⟩, ⟨A2, p2, e2, h2, l2, m2⟩⟩ := hr
  injection he with q0 he; injection he with q1 he; injection he with q2 he
  subst q0 q1 q2
  injection e0 with e0; injection e1 with e1; injection e2 with e2
  subst e0 e1 e2
  have HC : Hid (∀ W, Lo w W → Calls Try.prog 95 #[.slice A1 r.to_.length p1, .func (.func 96) #[] #[]] W fun e w' => e = .returned (.bool (r.to_.any looksT)) ∧ Lo W w') := Lib.hid fun W hW => by
    refine WIdxTarget.containsFunc TargetR.kept p1 W (Nat.le_trans hB hW.size) (SliceAt.lo TargetR.kept h1 hW hB) (Nat.le_trans l1 m1) enters_seventh1 ?_
    intro W' x c0 c1 c2 c3 hx hlo hr
    obtain ⟨_, _, _, _, he, ⟨_, _, e0, -⟩, ⟨_, _, e1, -⟩, ⟨_, _, e2, -⟩, ⟨_, _, e3, -⟩⟩ := hr
    injection he with q0 he; injection he with q1 he; injection he with q2 he; injection he with q3 he
    subst q0 q1 q2 q3
    injection e0 with e0; injection e1 with e1; injection e2 with e2; injection e3 with e3; subst e0 e1 e2 e3
    have hx2 := any_no hlong hx
    simp only [tgtLong, termsB, List.any_cons, List.any_nil, Bool.or_eq_false_iff, decide_eq_false_iff_not] at hx2
    exact seventh1 x _ _ _ _ _ _ _ _ W' (row_bound hx2.1.1) (row_bound hx2.1.2.1) (row_bound hx2.1.2.2.1)
  unfold seventhP
  clear h0 h1 h2
  generalize r.to_.any looksT = y at *
  generalize r.to_.length = n1 at *
  generalize r.from_.length = n0 at *
  by_cases h0 : 0 < r.when_.length
  all_goals
    generalize r.when_.length = n2 at *
    go_enter Try.func53, Try.ntmps53
    go_wp2_with (go_at_call 95; refine (HC.out _ ?_).mono ?_; (exact (by repeat (first | exact Lo.refl _ | assumption | refine Lo.drew ?_ | refine Lo.alloc ?_ _ | refine Lo.setCell ?_ (by first | (dsimp only; omega) | (simp; omega) | (simp; done)) _ | refine Lo.trans ?_ (by assumption)))); rintro e w1 ⟨rfl, hb⟩)
    go_ret
    exact ⟨ret_bool (by simp [h0]), (by repeat (first | exact Lo.refl _ | assumption | refine Lo.drew ?_ | refine Lo.alloc ?_ _ | refine Lo.setCell ?_ (by first | (dsimp only; omega) | (simp; omega) | (simp; done)) _ | refine Lo.trans ?_ (by assumption)))⟩
end Go.Proofs.Ytlcecabfmemfeaa.WAuth
