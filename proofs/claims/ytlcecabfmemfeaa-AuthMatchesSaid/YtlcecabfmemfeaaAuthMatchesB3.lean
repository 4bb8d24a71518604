/- Merged by bundle.py: WOf, SimBr13b, AuthMatches. -/
import Derived.Test.YtlcecabfmemfeaaAuthMatchesB2
/- The walks of auth.Holds, auth.Of, policy.Seventh. -/
namespace Go.Proofs.Ytlcecabfmemfeaa.WAuth
set_option linter.unusedVariables false
set_option linter.unusedSimpArgs false
open Go.RowKit Mem BigFrame WMatch WAddr WName Opn

def holdsP (ns : ByteArray) (sv : Int) (p : Pl.Policy) : Bool := (p.ns.toList.isEmpty || p.ns.toList == ns.toList) && (p.service == 0 || p.service == sv)

set_option maxRecDepth 100000 in
set_option maxHeartbeats 4000000 in
theorem holds (p : Pl.Policy) (ns : ByteArray) (sv : Int) (A : Option Addr) (n cap : Nat) (w : World) :
    Calls Try.prog 52 #[.agg #[.int .u64 p.id, .string p.ns, .int .u64 p.service, .int .i64 p.deny, .slice A n cap], .string ns, .int .u64 sv] w fun e w' => e = .returned (.bool (holdsP ns sv p)) ∧ Lo w w' := by
  unfold holdsP
  cases h1 : p.ns.toList.isEmpty <;> cases h2 : (p.ns.toList == ns.toList) <;> cases h3 : (p.service == 0) <;> cases h4 : (p.service == sv)
  all_goals
    go_enter Try.func52, Try.ntmps52
    go_wp2
    go_ret
    exact ⟨ret_bool (by simp), (by repeat (first | exact Lo.refl _ | assumption | refine Lo.drew ?_ | refine Lo.alloc ?_ _ | refine Lo.setCell ?_ (by first | (dsimp only; omega) | (simp; omega) | (simp; done)) _ | refine Lo.trans ?_ (by assumption)))⟩

theorem policyShape (B : Nat) (w : World) (x : Pl.Policy) (cs : List Value) (h : PolicyR B w x cs) : ∃ (A : Option Addr) (cap : Nat), cs = [.int .u64 x.id, .string x.ns, .int .u64 x.service, .int .i64 x.deny, .slice A x.rules.length cap] := by
  obtain ⟨_, _, _, _, _, rfl, ⟨e0, -⟩, ⟨e1, -⟩, ⟨e2, -⟩, ⟨e3, -⟩, ⟨_, _, e4, -⟩⟩ := h
  injection e0 with e0; injection e1 with e1; injection e2 with e2; injection e3 with e3; injection e4 with e4; subst e0 e1 e2 e3 e4
  exact ⟨_, _, rfl⟩
theorem infoPol : (Try.prog.info? 61).map (fun i => (i.zero, i.size, i.bytes)) = some (some (.agg #[.int .u64 0, .string ⟨#[]⟩, .int .u64 0, .int .i64 0, .slice none 0 0]), 5, 64) := by kernel_rfl
theorem filter_yes {α : Type} {p : α → Bool} {xs : List α} {k : Nat} (hk : k < xs.length) (h : p xs[k] = true) : (xs.take (k + 1)).filter p = (xs.take k).filter p ++ [xs[k]] := by
  rw [List.take_succ_eq_append_getElem hk, List.filter_append]; simp [h]
theorem filter_no {α : Type} {p : α → Bool} {xs : List α} {k : Nat} (hk : k < xs.length) (h : p xs[k] = false) : (xs.take (k + 1)).filter p = (xs.take k).filter p := by
  rw [List.take_succ_eq_append_getElem hk, List.filter_append]; simp [h]

set_option maxRecDepth 100000 in
set_option maxHeartbeats 8000000 in
theorem of_ (l : List Pl.Policy) (ns : ByteArray) (sv : Int) (A : Option Addr) (cap : Nat) {B : Nat} (w : World) (hB : B ≤ w.heap.size) (hA : SliceAt PolicyR 5 B w A l) (hlong : l.any longPol = false) (h30 : l.length ≤ 1000) :
    Calls Try.prog 50 #[.slice A l.length cap, .string ns, .int .u64 sv] w fun e w' => ∃ v, e = .returned v ∧ Lo w w' ∧ RowF (fun b => w.heap.size ≤ b) PolicyR 61 5 w.heap.size w' v (l.filter (holdsP ns sv)) := by
  obtain ⟨i0, hi, hz0, hz1, hz2⟩ := info_parts infoPol
  go_enter Try.func50, Try.ntmps50
  go_wp2
  go_loopw [7, 12] (fun v i wr => ∃ k : Nat, k ≤ l.length ∧ i = .int .i64 k ∧ Lo w wr ∧ RowF (fun b => w.heap.size ≤ b) PolicyR 61 5 w.heap.size wr v ((l.take k).filter (holdsP ns sv))) (fun _ i _ => l.length - (intOf i).toNat)
  case atStart => exact ⟨0, Nat.zero_le _, rfl, Lo.refl _, RowF.nil⟩
  case round =>
    obtain ⟨k, hk, rfl, hlo, hown⟩ := hrel
    have hsz := hlo.size
    by_cases hlt : k < l.length
    · obtain ⟨b, off, cs, rfl, hb, hl2, hc, hr⟩ := (SliceAt.lo PolicyR.kept hA hlo hB) k l[k] (List.getElem?_eq_getElem hlt)
      obtain ⟨xa, xk, rfl⟩ := policyShape _ _ _ _ hr
      have hc0 : wr.cell? ⟨b, off + k * 5, none⟩ = _ := hc 0 _ rfl
      have hc1 : wr.cell? ⟨b, off + k * 5 + 1, none⟩ = _ := hc 1 _ rfl
      have hc2 : wr.cell? ⟨b, off + k * 5 + 2, none⟩ = _ := hc 2 _ rfl
      have hc3 : wr.cell? ⟨b, off + k * 5 + 3, none⟩ = _ := hc 3 _ rfl
      have hc4 : wr.cell? ⟨b, off + k * 5 + 4, none⟩ = _ := hc 4 _ rfl
      clear hc hl2
      have hbr := World.block_lt_of_cell? wr _ hc0
      have hlen : ((l.take k).filter (holdsP ns sv)).length ≤ 1000 := by
        have := List.length_filter_le (holdsP ns sv) (l.take k)
        simp at this ⊢; omega
      have HH := Lib.hid fun (W : World) => holds l[k] ns sv xa l[k].rules.length xk W
      have HO : Hid (∀ W, Lo wr W → Calls Try.prog 94 #[.agg #[.int .u64 l[k].id, .string l[k].ns, .int .u64 l[k].service, .int .i64 l[k].deny, .slice xa l[k].rules.length xk]] W fun e w' => ∃ ya4 yk4, e = .returned (.agg #[.int .u64 l[k].id, .string l[k].ns, .int .u64 l[k].service, .int .i64 l[k].deny, .slice ya4 l[k].rules.length yk4]) ∧ Lo W w' ∧ New W.heap.size PolicyR w' l[k] [.int .u64 l[k].id, .string l[k].ns, .int .u64 l[k].service, .int .i64 l[k].deny, .slice ya4 l[k].rules.length yk4]) :=
        Lib.hid fun W hW => ownPolicy l[k] _ _ _ _ _ W (Nat.le_trans (Nat.le_trans hB hlo.size) hW.size) (PolicyR.kept _ _ _ _ _ _ hr (hW.cells (Nat.le_trans hB hlo.size)) (Nat.le_refl _)) (any_no hlong (List.getElem_mem hlt))
      clear hr
      cases hp : holdsP ns sv l[k]
      · have HS := Lib.hid (filter_no hlt hp)
        have HP := Lib.hid hp
        clear hp HO
        go_wp2_with fail
        refine (HH.out _).mono ?_
        rw [HP.out]
        rintro e w1 ⟨rfl, hb1⟩
        go_wp2
        go_roundw
        case rel => exact ⟨k + 1, by omega, by go_num, (by repeat (first | exact Lo.refl _ | assumption | refine Lo.drew ?_ | refine Lo.alloc ?_ _ | refine Lo.setCell ?_ (by first | (dsimp only; omega) | (simp; omega) | (simp; done)) _ | refine Lo.trans ?_ (by assumption))), by rw [HS.out]; exact hown.lo (((Lo.refl _).alloc _).trans hb1)⟩
        case measure => simp [intOf]; omega
      · have HS := Lib.hid (filter_yes hlt hp)
        have HP := Lib.hid hp
        clear hp
        generalize hys : (l.take k).filter (holdsP ns sv) = ys at *
        clear hys
        have hbx := BoxAt.new wr #[.int .u64 l[k].id, .string l[k].ns, .int .u64 l[k].service, .int .i64 l[k].deny, .slice xa l[k].rules.length xk] 61
        go_wp2_with fail
        refine (HH.out _).mono ?_
        rw [HP.out]
        rintro e w1 ⟨rfl, hb1⟩
        have g0 := hbx.lo hb1 0 _ rfl
        have g1 := hbx.lo hb1 1 _ rfl
        have g2 := hbx.lo hb1 2 _ rfl
        have g3 := hbx.lo hb1 3 _ rfl
        have g4 := hbx.lo hb1 4 _ rfl
        have hlo1 : Lo wr w1 := ((Lo.refl _).alloc _).trans hb1
        have hz1w := World.block_lt_of_cell? w1 _ g0
        clear hb1 hbx
        go_wp2_with fail
        refine (HO.out _ ?_).mono ?_
        · exact hlo1
        rintro e w2 ⟨ya, yk, rfl, hb2, hft⟩
        have hlo2 : Lo wr w2 := hlo1.trans hb2
        have hrow := fun (W : World) (hW : Lo wr W) => hown.lo hW
        have hfoot := foot_new hft hown hlo2.size hlo1.size (fun b hb => by have := hlo1.size; omega) (.cells #[.int .u64 l[k].id, .string l[k].ns, .int .u64 l[k].service, .int .i64 l[k].deny, .slice ya l[k].rules.length yk] 61)
        have hsz2 := hlo2.size
        have HCell : Hid (∀ (j : Nat) u, [.int .u64 l[k].id, .string l[k].ns, .int .u64 l[k].service, .int .i64 l[k].deny, .slice ya l[k].rules.length yk][j]? = some u → (w2.alloc (.cells #[.int .u64 l[k].id, .string l[k].ns, .int .u64 l[k].service, .int .i64 l[k].deny, .slice ya l[k].rules.length yk] 61)).cell? ((⟨w2.heap.size, 0, none⟩ : Addr).add j) = some u) := Lib.hid (cells_of_block (heap_alloc_new w2 _))
        clear hft
        go_wp2_with (at_builtin; refine wpList_append_row (T := fun b => w.heap.size ≤ b) (R := PolicyR) rfl (.tmp 20) (.tmp 23) 47 rfl w.heap.size 61 i0 _ 5 64 Try.underlying47 hi hz0 hz1 hz2 rfl (by omega) _ _ rfl (hrow _ (hlo2.alloc _)) ⟨w2.heap.size, 0, none⟩ 1 [.int .u64 l[k].id, .string l[k].ns, .int .u64 l[k].service, .int .i64 l[k].deny, .slice ya l[k].rules.length yk] l[k] rfl rfl HCell.out (by simp [Value.oneCell']) hfoot (by unfold maxLen; omega) (by omega) (by simp; omega) ?_; intro vm w3 hrow3 hgr3 hlo3)
        go_roundw
        case rel => exact ⟨k + 1, by omega, by go_num, hlo3 w ((hlo.trans hlo2).alloc _) (Nat.le_refl _), by rw [HS.out]; exact hrow3⟩
        case measure => simp [intOf]; omega
    · have hf := hown
      rw [List.take_of_length_le (by omega)] at hf
      go_wp2
      go_ret
      exact ⟨_, rfl, hlo, hf⟩

/-- does a rule look at a request? -/
def looksT (t : Pl.Target) : Bool := decide (0 < t.methods.length + t.paths.length + t.hosts.length)
def seventhP (r : Pl.Rule) : Bool := decide (0 < r.when_.length) || r.to_.any looksT
theorem seventh1 (t : Pl.Target) (A0 A1 A2 A3 : Option Addr) (k0 k1 k2 k3 : Nat) (w : World) (h1 : t.methods.length ≤ 20) (h2 : t.paths.length ≤ 20) (h3 : t.hosts.length ≤ 20) :
    Calls Try.prog 96 #[.agg #[.slice A0 t.ports.length k0, .slice A1 t.methods.length k1, .slice A2 t.paths.length k2, .slice A3 t.hosts.length k3]] w fun e w' => e = .returned (.bool (looksT t)) ∧ Lo w w' := by
  unfold looksT
  generalize t.ports.length = n0 at *
  generalize t.methods.length = n1 at *
  generalize t.paths.length = n2 at *
  generalize t.hosts.length = n3 at *
  go_enter Try.func96, Try.ntmps96
  go_wp2
  go_ret
  exact ⟨ret_bool (by rw [Bool.eq_iff_iff]; simp only [decide_eq_true_eq]; omega), (by repeat (first | exact Lo.refl _ | assumption | refine Lo.drew ?_ | refine Lo.alloc ?_ _ | refine Lo.setCell ?_ (by first | (dsimp only; omega) | (simp; omega) | (simp; done)) _ | refine Lo.trans ?_ (by assumption)))⟩
theorem enters_seventh1 : Enters Try.prog 96 := enters_of Try.func96 (by kernel_rfl) rfl
set_option maxHeartbeats 1600000 in
theorem seventh (r : Pl.Rule) (c0 c1 c2 : Value) {B : Nat} (w : World) (hB : B ≤ w.heap.size) (hr : RuleR B w r [c0, c1, c2]) (hlong : r.to_.any tgtLong = false) :
    Calls Try.prog 53 #[.agg #[c0, c1, c2]] w fun e w' => e = .returned (.bool (seventhP r)) ∧ Lo w w' := by
  obtain ⟨d0, d1, d2, he, ⟨A0, p0, e0, h0, l0, m0⟩, ⟨A1, p1, e1, h1, l1, m1⟩, ⟨A2, p2, e2, h2, l2, m2⟩⟩ := hr
  injection he with q0 he; injection he with q1 he; injection he with q2 he
  subst q0 q1 q2
  injection e0 with e0; injection e1 with e1; injection e2 with e2
  subst e0 e1 e2
  have HC : Hid (∀ W, Lo w W → Calls Try.prog 95 #[.slice A1 r.to_.length p1, .func (.func 96) #[] #[]] W fun e w' => e = .returned (.bool (r.to_.any looksT)) ∧ Lo W w') := Lib.hid fun W hW => by
    refine WIdxTarget.containsFunc TargetR.kept p1 W (Nat.le_trans hB hW.size) (SliceAt.lo TargetR.kept h1 hW hB) (Nat.le_trans l1 m1) enters_seventh1 ?_
    intro W' x c0 c1 c2 c3 hx hlo hr
    obtain ⟨_, _, _, _, he, ⟨_, _, e0, -⟩, ⟨_, _, e1, -⟩, ⟨_, _, e2, -⟩, ⟨_, _, e3, -⟩⟩ := hr
    injection he with q0 he; injection he with q1 he; injection he with q2 he; injection he with q3 he
    subst q0 q1 q2 q3
    injection e0 with e0; injection e1 with e1; injection e2 with e2; injection e3 with e3; subst e0 e1 e2 e3
    have hx2 := any_no hlong hx
    simp only [tgtLong, termsB, List.any_cons, List.any_nil, Bool.or_eq_false_iff, decide_eq_false_iff_not] at hx2
    exact seventh1 x _ _ _ _ _ _ _ _ W' (row_bound hx2.1.1) (row_bound hx2.1.2.1) (row_bound hx2.1.2.2.1)
  unfold seventhP
  clear h0 h1 h2
  generalize r.to_.any looksT = y at *
  generalize r.to_.length = n1 at *
  generalize r.from_.length = n0 at *
  by_cases h0 : 0 < r.when_.length
  all_goals
    generalize r.when_.length = n2 at *
    go_enter Try.func53, Try.ntmps53
    go_wp2_with (go_at_call 95; refine (HC.out _ ?_).mono ?_; (exact (by repeat (first | exact Lo.refl _ | assumption | refine Lo.drew ?_ | refine Lo.alloc ?_ _ | refine Lo.setCell ?_ (by first | (dsimp only; omega) | (simp; omega) | (simp; done)) _ | refine Lo.trans ?_ (by assumption)))); rintro e w1 ⟨rfl, hb⟩)
    go_ret
    exact ⟨ret_bool (by simp [h0]), (by repeat (first | exact Lo.refl _ | assumption | refine Lo.drew ?_ | refine Lo.alloc ?_ _ | refine Lo.setCell ?_ (by first | (dsimp only; omega) | (simp; omega) | (simp; done)) _ | refine Lo.trans ?_ (by assumption)))⟩
end Go.Proofs.Ytlcecabfmemfeaa.WAuth

/- auth's other functions, as the logic of states has them. -/
namespace Go.Proofs.Ytlcecabfmemfeaa.Pol
set_option linter.unusedVariables false
set_option linter.unusedSimpArgs false
open Go.RowKit Mem Sim Opn WAddr WName WMatch WAuth
/-- a world whose old blocks are empty -/
def wipe (n : Nat) (w : World) : World := { w with heap := w.heap.mapIdx fun i o => if i < n then .cells #[] 0 (0, 0) else o }
theorem wipe_new {n : Nat} {w : World} {p : Addr} (h : n ≤ p.block) : (wipe n w).cell? p = w.cell? p := by
  unfold wipe World.cell?
  simp only [Array.getElem?_mapIdx]
  cases w.heap[p.block]? with
  | none => rfl
  | some o => simp only [Option.map_some]; rw [if_neg (by omega)]
theorem wipe_old {n : Nat} {w : World} {p : Addr} (h : p.block < n) : (wipe n w).cell? p = none := by
  unfold wipe World.cell?
  simp only [Array.getElem?_mapIdx]
  cases w.heap[p.block]? with
  | none => rfl
  | some o => simp only [Option.map_some]; rw [if_pos h]; simp
/-- a row made anew, its elements made anew, too -/
theorem row_tree {α : Type} {R : Rel α} {enc : α → List T} {e : TypeId} {sz : Nat} {m : Mm} {w w' : World} {v : Value} {xs : List α} (hsz : ∀ x, (enc x).length = sz) (hR : ∀ B w x cs, R B w x cs → CellsAre (allm w) (enc x) cs) (h : RowF (fun b => w.heap.size ≤ b) R e sz w.heap.size w' v xs) : TR (upm m w w') (.sl sz (xs.map enc)) v := by
  obtain ⟨A, cap, rfl, h1, h2, hf⟩ := h.slice
  have hge := h.own_ge
  obtain ⟨_, hA⟩ := hf (wipe w.heap.size w') w'.heap.size (fun p hp => wipe_new (by
    rcases hp.2 with h3 | h3
    · exact h3
    · exact (hge _ h3.symm).1)) (fun b hb => hb.1)
  have ht := tr_rows_bwd (allm (wipe w.heap.size w')) hA h1 h2 hsz (fun x _ cs hr => hR _ _ x cs hr) (fun b o v _ h => h)
  refine ht.mono fun b o v hv => ?_
  unfold upm
  unfold allm at hv
  by_cases hb : b < w.heap.size
  · rw [wipe_old hb] at hv; cases hv
  · rw [if_neg hb]; rwa [wipe_new (p := ⟨b, o, none⟩) (by show _ ≤ b; omega)] at hv
theorem p_source (s : Pl.Source) (hs : okSource s) (a : Pl.Asker) (ha : OkAsk a) : PCalls Try.prog 44 [.agg (sourceT s), .agg (askT a)] (.v (.bool (srcP a s))) where
  ent := ent_of Try.func44 rfl rfl
  run := fun m w vals hm hvl hv => by
    obtain ⟨x0, x1, rfl, h0, h1⟩ := args2 hvl hv
    obtain ⟨vs, rfl, hc⟩ := agg_inv h0
    have hr := source_fwd hm s vs hs hc
    obtain ⟨c0, c1, c2, rfl⟩ : ∃ c0 c1 c2, vs = [c0, c1, c2] := by obtain ⟨c0, c1, c2, h, _⟩ := hr; exact ⟨c0, c1, c2, h⟩
    obtain rfl := ask_inv h1
    refine (source s a c0 c1 c2 w (Nat.le_refl _) hr ha.ns ha.sa).mono fun e w' ⟨he, hlo⟩ => ?_
    rw [he]
    exact post_ex hm hlo (.v _)
theorem p_target (t : Pl.Target) (ht : okTarget t) (port : Int) (q : Pl.Req) (hq : OkReq0 q) (tg qu : ByteArray) (bd : Value) : PCalls Try.prog 46 [.agg (targetT t), .v (.int .i64 port), .agg (reqT q tg qu bd)] (.v (.bool (tgtP port q t))) where
  ent := ent_of Try.func46 rfl rfl
  run := fun m w vals hm hvl hv => by
    obtain ⟨x0, x1, x2, rfl, h0, h1, h2⟩ := args3 hvl hv
    obtain ⟨vs, rfl, hc⟩ := agg_inv h0
    have hr := target_fwd hm t vs ht hc
    obtain ⟨c0, c1, c2, c3, rfl⟩ : ∃ c0 c1 c2 c3, vs = [c0, c1, c2, c3] := by obtain ⟨c0, c1, c2, c3, h, _⟩ := hr; exact ⟨c0, c1, c2, c3, h⟩
    rw [tr_v h1]
    obtain ⟨A, cap, rfl, hA, _, _⟩ := req_inv hm hq h2
    refine (target t port q c0 c1 c2 c3 tg qu _ bd w (Nat.le_refl _) hr hq.method hq.path hq.host).mono fun e w' ⟨he, hlo⟩ => ?_
    rw [he]
    exact post_ex hm hlo (.v _)
theorem p_when (x : Pl.When) (hx : okWhen x) (q : Pl.Req) (hq : OkReq0 q) (hf : q.heads.length ≤ 1000) (tg qu : ByteArray) (bd : Value) : PCalls Try.prog 48 [.agg (whenT x), .agg (reqT q tg qu bd)] (.v (.bool (whenP q.heads x))) where
  ent := ent_of Try.func48 rfl rfl
  run := fun m w vals hm hvl hv => by
    obtain ⟨x0, x1, rfl, h0, h1⟩ := args2 hvl hv
    obtain ⟨vs, rfl, hc⟩ := agg_inv h0
    have hr := when_fwd hm x vs hx hc
    obtain ⟨c0, c1, rfl⟩ : ∃ c0 c1, vs = [c0, c1] := by obtain ⟨c0, c1, h, _⟩ := hr; exact ⟨c0, c1, h⟩
    obtain ⟨A, cap, rfl, hA, _, _⟩ := req_inv hm hq h1
    refine (when_ x q.heads A cap c0 c1 _ _ _ _ _ bd w (Nat.le_refl _) hr hA hf).mono fun e w' ⟨he, hlo⟩ => ?_
    rw [he]
    exact post_ex hm hlo (.v _)
theorem p_matches (r : Pl.Rule) (hr : okRule r) (a : Pl.Asker) (ha : OkAsk a) (port : Int) (q : Pl.Req) (hq : OkReq0 q) (hf : q.heads.length ≤ 1000) (tg qu : ByteArray) (bd : Value) : PCalls Try.prog 42 [.agg (ruleT r), .agg (askT a), .v (.int .i64 port), .agg (reqT q tg qu bd)] (.v (.bool (matchP a port q r))) where
  ent := ent_of Try.func42 rfl rfl
  run := fun m w vals hm hvl hv => by
    obtain ⟨x0, x1, x2, x3, rfl, h0, h1, h2, h3⟩ := args4 hvl hv
    obtain ⟨vs, rfl, hc⟩ := agg_inv h0
    have hrr := rule_fwd hm r vs hr hc
    obtain ⟨c0, c1, c2, rfl⟩ : ∃ c0 c1 c2, vs = [c0, c1, c2] := by obtain ⟨c0, c1, c2, h, _⟩ := hrr; exact ⟨c0, c1, c2, h⟩
    obtain rfl := ask_inv h1
    rw [tr_v h2]
    obtain ⟨A, cap, rfl, hA, _, _⟩ := req_inv hm hq h3
    refine (matches_ r a port q A cap tg qu bd c0 c1 c2 w (Nat.le_refl _) hrr ⟨ha.ns, ha.sa, hq.method, hq.path, hq.host, hA, hf⟩).mono fun e w' ⟨he, hlo⟩ => ?_
    rw [he]
    exact post_ex hm hlo (.v _)
theorem p_longRule (r : Pl.Rule) (hr : okRule r) : PCalls Try.prog 41 [.agg (ruleT r)] (.v (.bool (longRule r))) where
  ent := ent_of Try.func41 rfl rfl
  run := fun m w vals hm hvl hv => by
    obtain ⟨x0, rfl, h0⟩ := args1 hvl hv
    obtain ⟨vs, rfl, hc⟩ := agg_inv h0
    have hrr := rule_fwd hm r vs hr hc
    obtain ⟨c0, c1, c2, rfl⟩ : ∃ c0 c1 c2, vs = [c0, c1, c2] := by obtain ⟨c0, c1, c2, h, _⟩ := hrr; exact ⟨c0, c1, c2, h⟩
    refine (longRule_ r c0 c1 c2 w (Nat.le_refl _) hrr).mono fun e w' ⟨he, hlo⟩ => ?_
    rw [he]
    exact post_ex hm hlo (.v _)
theorem p_of (l : List Pl.Policy) (hl : ∀ p ∈ l, okPolicy p) (hlong : l.any longPol = false) (hn : l.length ≤ 1000) (ns : ByteArray) (sv : Int) : PCalls Try.prog 50 [.sl 5 (l.map polT), .v (.string ns), .v (.int .u64 sv)] (.sl 5 ((l.filter (holdsP ns sv)).map polT)) where
  ent := ent_of Try.func50 rfl rfl
  run := fun m w vals hm hvl hv => by
    obtain ⟨x0, x1, x2, rfl, h0, h1, h2⟩ := args3 hvl hv
    obtain ⟨A0, cap0, rfl, hA0, _⟩ := pols_inv hm hl h0
    rw [tr_v h1, tr_v h2]
    refine (of_ l ns sv A0 cap0 w (Nat.le_refl _) hA0 hlong hn).mono fun e w' ⟨v, he, hlo, hr⟩ => ?_
    rw [he]
    exact post_ex hm hlo (row_tree (fun _ => rfl) (fun B w x cs h => policy_bwd x cs h) hr)
theorem pol_inv {m : Mm} {w : World} (hs : Sub m w) {p : Pl.Policy} {v : Value} (hp : okPolicy p) (h : TR m (.agg (polT p)) v) : ∃ c0 c1 c2 c3 c4, v = .agg #[c0, c1, c2, c3, c4] ∧ PolicyR w.heap.size w p [c0, c1, c2, c3, c4] := by
  obtain ⟨vs, rfl, hc⟩ := agg_inv h
  have hr := policy_fwd hs p vs hp hc
  obtain ⟨c0, c1, c2, c3, c4, rfl⟩ : ∃ c0 c1 c2 c3 c4, vs = [c0, c1, c2, c3, c4] := by obtain ⟨c0, c1, c2, c3, c4, h, _⟩ := hr; exact ⟨c0, c1, c2, c3, c4, h⟩
  exact ⟨c0, c1, c2, c3, c4, rfl, hr⟩
theorem p_holds (p : Pl.Policy) (hp : okPolicy p) (ns : ByteArray) (sv : Int) : PCalls Try.prog 52 [.agg (polT p), .v (.string ns), .v (.int .u64 sv)] (.v (.bool (holdsP ns sv p))) where
  ent := ent_of Try.func52 rfl rfl
  run := fun m w vals hm hvl hv => by
    obtain ⟨x0, x1, x2, rfl, h0, h1, h2⟩ := args3 hvl hv
    obtain ⟨c0, c1, c2, c3, c4, rfl, hr⟩ := pol_inv hm hp h0
    obtain ⟨A, cap, hsh⟩ := policyShape _ _ _ _ hr
    injection hsh with e0 hsh; injection hsh with e1 hsh; injection hsh with e2 hsh; injection hsh with e3 hsh; injection hsh with e4 hsh
    subst e0 e1 e2 e3 e4
    rw [tr_v h1, tr_v h2]
    refine (holds p ns sv A p.rules.length cap w).mono fun e w' ⟨he, hlo⟩ => ?_
    rw [he]
    exact post_ex hm hlo (.v _)
set_option maxRecDepth 100000 in
theorem holds_ (p : Pl.Policy) (ns : ByteArray) (sv : Int) : PCalls Try.prog 51 [.agg (polT p), .v (.string ns), .v (.int .u64 sv)] (.v (.bool (holdsP ns sv p))) := by
  have e1 : p.ns.toList.isEmpty = decide (p.ns = ⟨#[]⟩) := by
    have e0 : (⟨#[]⟩ : ByteArray).toList = [] := by unfold ByteArray.toList ByteArray.toList.loop; rfl
    rw [← str_eq, e0]; cases p.ns.toList <;> rfl
  have e2 : ∀ x y : Int, (x == y) = decide (x = y) := fun x y => by rw [Bool.eq_iff_iff]; simp
  unfold holdsP
  rw [e1, str_eq, e2, e2]
  clear e1 e2
  refine pcalls_of Try.func51 rfl rfl Try.ntmps51 rfl ?_
  repeat' (first
    | refine then_go ?_
    | refine swp_seq ?_
    | ((refine swp_region (id := 0) ?_) <;> (refine sops_box (.free rfl rfl) rfl rfl rfl rfl rfl rfl ?_) <;> (refine sops_pure (.free rfl rfl) rfl rfl (po_assign rfl rfl) ?_) <;> (refine sops_nil ?_))
    | ((refine swp_region (id := 1) ?_) <;> (first | refine sops_pure (.free rfl rfl) rfl rfl (po_field_bx rfl rfl (tyF rfl)) ?_ | refine sops_pure (.free rfl rfl) rfl rfl (po_field rfl rfl (tyF rfl)) ?_) <;> (first | refine sops_pure (.free rfl rfl) rfl rfl (po_load_bx rfl rfl (tyT rfl) rfl rfl) ?_ | refine sops_pure (.free rfl rfl) rfl rfl (po_load rfl rfl (tyT rfl) rfl) ?_) <;> (refine sops_pure (.free rfl rfl) rfl rfl (po_str rfl rfl rfl rfl) ?_) <;> (refine sops_pure (.free rfl rfl) rfl rfl (po_move rfl rfl) ?_) <;> (first | refine sops_pure (.yes rfl rfl rfl (by first | assumption | with_reducible rfl | decide | (simp only [decide_eq_true_eq, decide_eq_false_iff_not]; omega))) rfl rfl (po_field_bx rfl rfl (tyF rfl)) ?_ | refine sops_pure (.yes rfl rfl rfl (by first | assumption | with_reducible rfl | decide | (simp only [decide_eq_true_eq, decide_eq_false_iff_not]; omega))) rfl rfl (po_field rfl rfl (tyF rfl)) ?_ | refine sops_skip (.no1 rfl rfl rfl (by first | assumption | with_reducible rfl | decide | (simp only [decide_eq_true_eq, decide_eq_false_iff_not]; omega))) rfl rfl ?_ | ((refine sops_split rfl rfl rfl (fun hc => ?_) (fun hc => ?_)) <;> (first | refine sops_pure (.yes rfl rfl rfl (by first | assumption | with_reducible rfl | decide | (simp only [decide_eq_true_eq, decide_eq_false_iff_not]; omega))) rfl rfl (po_field_bx rfl rfl (tyF rfl)) ?_ | refine sops_pure (.yes rfl rfl rfl (by first | assumption | with_reducible rfl | decide | (simp only [decide_eq_true_eq, decide_eq_false_iff_not]; omega))) rfl rfl (po_field rfl rfl (tyF rfl)) ?_ | refine sops_skip (.no1 rfl rfl rfl (by first | assumption | with_reducible rfl | decide | (simp only [decide_eq_true_eq, decide_eq_false_iff_not]; omega))) rfl rfl ?_))) <;> (first | refine sops_pure (.yes rfl rfl rfl (by first | assumption | with_reducible rfl | decide | (simp only [decide_eq_true_eq, decide_eq_false_iff_not]; omega))) rfl rfl (po_load_bx rfl rfl (tyT rfl) rfl rfl) ?_ | refine sops_pure (.yes rfl rfl rfl (by first | assumption | with_reducible rfl | decide | (simp only [decide_eq_true_eq, decide_eq_false_iff_not]; omega))) rfl rfl (po_load rfl rfl (tyT rfl) rfl) ?_ | refine sops_skip (.no1 rfl rfl rfl (by first | assumption | with_reducible rfl | decide | (simp only [decide_eq_true_eq, decide_eq_false_iff_not]; omega))) rfl rfl ?_) <;> (first | refine sops_pure (.yes rfl rfl rfl (by first | assumption | with_reducible rfl | decide | (simp only [decide_eq_true_eq, decide_eq_false_iff_not]; omega))) rfl rfl (po_move rfl rfl) ?_ | refine sops_skip (.no1 rfl rfl rfl (by first | assumption | with_reducible rfl | decide | (simp only [decide_eq_true_eq, decide_eq_false_iff_not]; omega))) rfl rfl ?_) <;> (first | refine sops_pure (.yes rfl rfl rfl (by first | assumption | with_reducible rfl | decide | (simp only [decide_eq_true_eq, decide_eq_false_iff_not]; omega))) rfl rfl (po_str rfl rfl rfl rfl) ?_ | refine sops_skip (.no1 rfl rfl rfl (by first | assumption | with_reducible rfl | decide | (simp only [decide_eq_true_eq, decide_eq_false_iff_not]; omega))) rfl rfl ?_) <;> (first | refine sops_pure (.free rfl rfl) rfl rfl (po_pick_t rfl rfl (by first | assumption | with_reducible rfl | decide | (simp only [decide_eq_true_eq, decide_eq_false_iff_not]; omega)) rfl) ?_ | refine sops_pure (.free rfl rfl) rfl rfl (po_pick_f rfl rfl (by first | assumption | with_reducible rfl | decide | (simp only [decide_eq_true_eq, decide_eq_false_iff_not]; omega)) rfl) ?_) <;> (refine sops_nil ?_))
    | ((refine swp_region (id := 2) ?_) <;> (refine sops_pure (.free rfl rfl) rfl rfl (po_assign rfl rfl) ?_) <;> (refine sops_nil ?_))
    | ((refine swp_region (id := 3) ?_) <;> (first | refine sops_pure (.free rfl rfl) rfl rfl (po_field_bx rfl rfl (tyF rfl)) ?_ | refine sops_pure (.free rfl rfl) rfl rfl (po_field rfl rfl (tyF rfl)) ?_) <;> (first | refine sops_pure (.free rfl rfl) rfl rfl (po_load_bx rfl rfl (tyT rfl) rfl rfl) ?_ | refine sops_pure (.free rfl rfl) rfl rfl (po_load rfl rfl (tyT rfl) rfl) ?_) <;> (refine sops_pure (.free rfl rfl) rfl rfl (po_cmp rfl rfl rfl rfl) ?_) <;> (refine sops_pure (.free rfl rfl) rfl rfl (po_move rfl rfl) ?_) <;> (first | refine sops_pure (.yes rfl rfl rfl (by first | assumption | with_reducible rfl | decide | (simp only [decide_eq_true_eq, decide_eq_false_iff_not]; omega))) rfl rfl (po_field_bx rfl rfl (tyF rfl)) ?_ | refine sops_pure (.yes rfl rfl rfl (by first | assumption | with_reducible rfl | decide | (simp only [decide_eq_true_eq, decide_eq_false_iff_not]; omega))) rfl rfl (po_field rfl rfl (tyF rfl)) ?_ | refine sops_skip (.no0 rfl rfl rfl (by first | assumption | with_reducible rfl | decide | (simp only [decide_eq_true_eq, decide_eq_false_iff_not]; omega))) rfl rfl ?_ | ((refine sops_split rfl rfl rfl (fun hc => ?_) (fun hc => ?_)) <;> (first | refine sops_pure (.yes rfl rfl rfl (by first | assumption | with_reducible rfl | decide | (simp only [decide_eq_true_eq, decide_eq_false_iff_not]; omega))) rfl rfl (po_field_bx rfl rfl (tyF rfl)) ?_ | refine sops_pure (.yes rfl rfl rfl (by first | assumption | with_reducible rfl | decide | (simp only [decide_eq_true_eq, decide_eq_false_iff_not]; omega))) rfl rfl (po_field rfl rfl (tyF rfl)) ?_ | refine sops_skip (.no0 rfl rfl rfl (by first | assumption | with_reducible rfl | decide | (simp only [decide_eq_true_eq, decide_eq_false_iff_not]; omega))) rfl rfl ?_))) <;> (first | refine sops_pure (.yes rfl rfl rfl (by first | assumption | with_reducible rfl | decide | (simp only [decide_eq_true_eq, decide_eq_false_iff_not]; omega))) rfl rfl (po_load_bx rfl rfl (tyT rfl) rfl rfl) ?_ | refine sops_pure (.yes rfl rfl rfl (by first | assumption | with_reducible rfl | decide | (simp only [decide_eq_true_eq, decide_eq_false_iff_not]; omega))) rfl rfl (po_load rfl rfl (tyT rfl) rfl) ?_ | refine sops_skip (.no0 rfl rfl rfl (by first | assumption | with_reducible rfl | decide | (simp only [decide_eq_true_eq, decide_eq_false_iff_not]; omega))) rfl rfl ?_) <;> (first | refine sops_pure (.yes rfl rfl rfl (by first | assumption | with_reducible rfl | decide | (simp only [decide_eq_true_eq, decide_eq_false_iff_not]; omega))) rfl rfl (po_move rfl rfl) ?_ | refine sops_skip (.no0 rfl rfl rfl (by first | assumption | with_reducible rfl | decide | (simp only [decide_eq_true_eq, decide_eq_false_iff_not]; omega))) rfl rfl ?_) <;> (first | refine sops_pure (.yes rfl rfl rfl (by first | assumption | with_reducible rfl | decide | (simp only [decide_eq_true_eq, decide_eq_false_iff_not]; omega))) rfl rfl (po_cmp rfl rfl rfl rfl) ?_ | refine sops_skip (.no0 rfl rfl rfl (by first | assumption | with_reducible rfl | decide | (simp only [decide_eq_true_eq, decide_eq_false_iff_not]; omega))) rfl rfl ?_) <;> (first | refine sops_pure (.free rfl rfl) rfl rfl (po_pick_t rfl rfl (by first | assumption | with_reducible rfl | decide | (simp only [decide_eq_true_eq, decide_eq_false_iff_not]; omega)) rfl) ?_ | refine sops_pure (.free rfl rfl) rfl rfl (po_pick_f rfl rfl (by first | assumption | with_reducible rfl | decide | (simp only [decide_eq_true_eq, decide_eq_false_iff_not]; omega)) rfl) ?_) <;> (refine sops_pure (.free rfl rfl) rfl rfl (po_assign rfl rfl) ?_) <;> (refine sops_nil ?_))
    | refine swp_ret ?_
    | refine swp_skip ?_
    | refine swp_block ?_
    | refine swp_exit ?_
    | refine block_go ?_
    | refine block_exit ?_
    | refine block_far rfl ?_
    | refine block_ret ?_
    | refine then_ret ?_
    | refine then_exit ?_
    | refine for_ret ?_
    | refine for_exit ?_
    | refine swp_cond_t rfl (by first | assumption | with_reducible rfl | decide | (simp only [decide_eq_true_eq, Bool.not_eq_true', decide_eq_false_iff_not]; omega)) ?_
    | refine swp_cond_f rfl (by first | assumption | with_reducible rfl | decide | (simp only [decide_eq_false_iff_not, Bool.not_eq_false', decide_eq_true_eq]; omega)) ?_
    | refine swp_cond rfl (fun hc => ?_) (fun hc => ?_)
    | refine retq (by first | exact .inr rfl | exact .inl rfl) rfl (.tmp rfl (by first | exact .t _ | exact .own rfl rfl | exact .nil _ | exact .emp _) .nil) ?_)
  all_goals
    refine eq_b ?_
    simp_all
end Go.Proofs.Ytlcecabfmemfeaa.Pol

/- For every row of policies, rule, asker, port, request, namespace and service, the law AuthMatches returns true. -/
namespace Go.Proofs.Ytlcecabfmemfeaa.AuthMatches
set_option linter.unusedVariables false
set_option linter.unusedSimpArgs false
open Go.RowKit Mem Sim Opn WAddr WName WMatch WAuth Pol
section
variable (l : List Pl.Policy) (r : Pl.Rule) (a : Pl.Asker) (port : Int) (q : Pl.Req) (tg qu : ByteArray) (bd : Value) (ns : ByteArray) (sv : Int)
abbrev params : List T := [.sl 5 (l.map polT), .agg (ruleT r), .agg (askT a), .v (.int .i64 port), .agg (reqT q tg qu bd), .v (.string ns), .v (.int .u64 sv)]
def N1 (s k : Nat) : St := ⟨[(0, .t (.sl 5 (l.map polT))), (3, .t (.v (.int .i64 port))), (5, .t (.v (.string ns))), (6, .t (.v (.int .u64 sv))), (8, .bp 8 0), (9, .bp 9 0), (11, .bp 11 0), (s, .t (.v (.int .i64 (k : Int))))], [(8, ruleA r), (9, askA a), (11, reqA q tg qu bd)], []⟩
def N4 (k : Nat) : St := ⟨[(0, .t (.sl 5 (l.map polT))), (5, .t (.v (.string ns))), (6, .t (.v (.int .u64 sv))), (18, .t (.sl 5 ((l.filter (holdsP ns sv)).map polT))), (19, .t (.v (.int .i64 (((l.take k).filter (holdsP ns sv)).length : Int)))), (20, .t (.v (.int .i64 (k : Int))))], [], []⟩
end
theorem filter_at {α : Type} {p : α → Bool} {l : List α} {k : Nat} (hk : k < l.length) (h : p l[k] = true) : (l.filter p)[((l.take k).filter p).length]? = some l[k] := by
  have e : l = l.take k ++ (l[k] :: l.drop (k + 1)) := by rw [← List.drop_eq_getElem_cons hk, List.take_append_drop]
  have e2 : l.filter p = (l.take k).filter p ++ (l[k] :: (l.drop (k + 1)).filter p) := by
    conv => lhs; rw [e]
    rw [List.filter_append, List.filter_cons, if_pos h]
  rw [e2, List.getElem?_append_right (Nat.le_refl _), Nat.sub_self]; rfl
set_option maxRecDepth 100000 in
set_option maxHeartbeats 1000000 in
theorem long_ (l : List Pl.Policy) (hl : ∀ p ∈ l, okPolicy p) (r : Pl.Rule) (hr : okRule r) (a : Pl.Asker) (ha : OkAsk a) (port : Int) (q : Pl.Req) (hq : OkReq0 q) (tg qu : ByteArray) (bd : Value) (ns : ByteArray) (sv : Int) (h : (long13 l a q || longRule r || decide ((600 : Int) < (ns.size : Int))) = true) : PCalls Try.prog 12 (params l r a port q tg qu bd ns sv) (.v (.bool true)) := by
  have hlong := p_long l hl a ha q hq tg qu bd
  have hlr := p_longRule r hr
  have haw := p_awake13
  refine pcalls_of Try.func12 rfl rfl Try.ntmps12 rfl ?_
  cases h1 : long13 l a q <;> cases h2 : longRule r
  all_goals
    rw [h1] at hlong
    rw [h2] at hlr
  all_goals
    repeat' (first
      | refine then_go ?_
      | refine swp_seq ?_
      | ((refine swp_region (id := 0) ?_) <;> (refine sops_box (.free rfl rfl) rfl rfl rfl rfl rfl rfl ?_) <;> (refine sops_box (.free rfl rfl) rfl rfl rfl rfl rfl rfl ?_) <;> (refine sops_box (.free rfl rfl) rfl rfl rfl rfl rfl rfl ?_) <;> (refine sops_pure (.free rfl rfl) rfl rfl (po_assign rfl rfl) ?_) <;> (refine sops_nil ?_))
      | ((refine swp_region (id := 1) ?_) <;> (refine sops_pure (.free rfl rfl) rfl rfl (po_move rfl rfl) ?_) <;> (first | refine sops_pure (.free rfl rfl) rfl rfl (po_load_bx_agg rfl rfl (tyT rfl) rfl (.cons (by first | exact .t _ | exact .own rfl rfl | exact .nil _ | exact .emp _) (.cons (by first | exact .t _ | exact .own rfl rfl | exact .nil _ | exact .emp _) (.cons (by first | exact .t _ | exact .own rfl rfl | exact .nil _ | exact .emp _) .nil))) rfl) ?_ | refine sops_pure (.free rfl rfl) rfl rfl (po_load_agg rfl rfl (tyT rfl) rfl rfl) ?_) <;> (first | refine sops_pure (.free rfl rfl) rfl rfl (po_load_bx_agg rfl rfl (tyT rfl) rfl (.cons (by first | exact .t _ | exact .own rfl rfl | exact .nil _ | exact .emp _) (.cons (by first | exact .t _ | exact .own rfl rfl | exact .nil _ | exact .emp _) (.cons (by first | exact .t _ | exact .own rfl rfl | exact .nil _ | exact .emp _) (.cons (by first | exact .t _ | exact .own rfl rfl | exact .nil _ | exact .emp _) (.cons (by first | exact .t _ | exact .own rfl rfl | exact .nil _ | exact .emp _) (.cons (by first | exact .t _ | exact .own rfl rfl | exact .nil _ | exact .emp _) (.cons (by first | exact .t _ | exact .own rfl rfl | exact .nil _ | exact .emp _) .nil))))))) rfl) ?_ | refine sops_pure (.free rfl rfl) rfl rfl (po_load_agg rfl rfl (tyT rfl) rfl rfl) ?_) <;> (first | refine sops_pure (.free rfl rfl) rfl rfl (po_call (hlong) rfl (.cons rfl (by first | exact .t _ | exact .own rfl rfl | exact .nil _ | exact .emp _) (.cons rfl (by first | exact .t _ | exact .own rfl rfl | exact .nil _ | exact .emp _) (.cons rfl (by first | exact .t _ | exact .own rfl rfl | exact .nil _ | exact .emp _) .nil)))) ?_ | refine sops_pure (.free rfl rfl) rfl rfl (po_call (hlr) rfl (.cons rfl (by first | exact .t _ | exact .own rfl rfl | exact .nil _ | exact .emp _) (.cons rfl (by first | exact .t _ | exact .own rfl rfl | exact .nil _ | exact .emp _) (.cons rfl (by first | exact .t _ | exact .own rfl rfl | exact .nil _ | exact .emp _) .nil)))) ?_ | refine sops_pure (.free rfl rfl) rfl rfl (po_call (haw) rfl (.cons rfl (by first | exact .t _ | exact .own rfl rfl | exact .nil _ | exact .emp _) (.cons rfl (by first | exact .t _ | exact .own rfl rfl | exact .nil _ | exact .emp _) (.cons rfl (by first | exact .t _ | exact .own rfl rfl | exact .nil _ | exact .emp _) .nil)))) ?_) <;> (refine sops_pure (.free rfl rfl) rfl rfl (po_move rfl rfl) ?_) <;> (first | refine sops_pure (.yes rfl rfl rfl (by first | assumption | with_reducible rfl | decide | (simp only [decide_eq_true_eq, decide_eq_false_iff_not]; omega))) rfl rfl (po_load_bx_agg rfl rfl (tyT rfl) rfl (.cons (by first | exact .t _ | exact .own rfl rfl | exact .nil _ | exact .emp _) (.cons (by first | exact .t _ | exact .own rfl rfl | exact .nil _ | exact .emp _) (.cons (by first | exact .t _ | exact .own rfl rfl | exact .nil _ | exact .emp _) .nil))) rfl) ?_ | refine sops_pure (.yes rfl rfl rfl (by first | assumption | with_reducible rfl | decide | (simp only [decide_eq_true_eq, decide_eq_false_iff_not]; omega))) rfl rfl (po_load_agg rfl rfl (tyT rfl) rfl rfl) ?_ | refine sops_skip (.no0 rfl rfl rfl (by first | assumption | with_reducible rfl | decide | (simp only [decide_eq_true_eq, decide_eq_false_iff_not]; omega))) rfl rfl ?_ | ((refine sops_split rfl rfl rfl (fun hc => ?_) (fun hc => ?_)) <;> (first | refine sops_pure (.yes rfl rfl rfl (by first | assumption | with_reducible rfl | decide | (simp only [decide_eq_true_eq, decide_eq_false_iff_not]; omega))) rfl rfl (po_load_bx_agg rfl rfl (tyT rfl) rfl (.cons (by first | exact .t _ | exact .own rfl rfl | exact .nil _ | exact .emp _) (.cons (by first | exact .t _ | exact .own rfl rfl | exact .nil _ | exact .emp _) (.cons (by first | exact .t _ | exact .own rfl rfl | exact .nil _ | exact .emp _) .nil))) rfl) ?_ | refine sops_pure (.yes rfl rfl rfl (by first | assumption | with_reducible rfl | decide | (simp only [decide_eq_true_eq, decide_eq_false_iff_not]; omega))) rfl rfl (po_load_agg rfl rfl (tyT rfl) rfl rfl) ?_ | refine sops_skip (.no0 rfl rfl rfl (by first | assumption | with_reducible rfl | decide | (simp only [decide_eq_true_eq, decide_eq_false_iff_not]; omega))) rfl rfl ?_))) <;> (first | refine sops_pure (.yes rfl rfl rfl (by first | assumption | with_reducible rfl | decide | (simp only [decide_eq_true_eq, decide_eq_false_iff_not]; omega))) rfl rfl (po_call (hlong) rfl (.cons rfl (by first | exact .t _ | exact .own rfl rfl | exact .nil _ | exact .emp _) .nil)) ?_ | refine sops_pure (.yes rfl rfl rfl (by first | assumption | with_reducible rfl | decide | (simp only [decide_eq_true_eq, decide_eq_false_iff_not]; omega))) rfl rfl (po_call (hlr) rfl (.cons rfl (by first | exact .t _ | exact .own rfl rfl | exact .nil _ | exact .emp _) .nil)) ?_ | refine sops_pure (.yes rfl rfl rfl (by first | assumption | with_reducible rfl | decide | (simp only [decide_eq_true_eq, decide_eq_false_iff_not]; omega))) rfl rfl (po_call (haw) rfl (.cons rfl (by first | exact .t _ | exact .own rfl rfl | exact .nil _ | exact .emp _) .nil)) ?_ | refine sops_skip (.no0 rfl rfl rfl (by first | assumption | with_reducible rfl | decide | (simp only [decide_eq_true_eq, decide_eq_false_iff_not]; omega))) rfl rfl ?_) <;> (first | refine sops_pure (.free rfl rfl) rfl rfl (po_pick_t rfl rfl (by first | assumption | with_reducible rfl | decide | (simp only [decide_eq_true_eq, decide_eq_false_iff_not]; omega)) rfl) ?_ | refine sops_pure (.free rfl rfl) rfl rfl (po_pick_f rfl rfl (by first | assumption | with_reducible rfl | decide | (simp only [decide_eq_true_eq, decide_eq_false_iff_not]; omega)) rfl) ?_) <;> (refine sops_pure (.free rfl rfl) rfl rfl (po_move rfl rfl) ?_) <;> (first | refine sops_pure (.yes rfl rfl rfl (by first | assumption | with_reducible rfl | decide | (simp only [decide_eq_true_eq, decide_eq_false_iff_not]; omega))) rfl rfl (po_move rfl rfl) ?_ | refine sops_skip (.no0 rfl rfl rfl (by first | assumption | with_reducible rfl | decide | (simp only [decide_eq_true_eq, decide_eq_false_iff_not]; omega))) rfl rfl ?_ | ((refine sops_split rfl rfl rfl (fun hc => ?_) (fun hc => ?_)) <;> (first | refine sops_pure (.yes rfl rfl rfl (by first | assumption | with_reducible rfl | decide | (simp only [decide_eq_true_eq, decide_eq_false_iff_not]; omega))) rfl rfl (po_move rfl rfl) ?_ | refine sops_skip (.no0 rfl rfl rfl (by first | assumption | with_reducible rfl | decide | (simp only [decide_eq_true_eq, decide_eq_false_iff_not]; omega))) rfl rfl ?_))) <;> (first | refine sops_pure (.yes rfl rfl rfl (by first | assumption | with_reducible rfl | decide | (simp only [decide_eq_true_eq, decide_eq_false_iff_not]; omega))) rfl rfl (po_len_str rfl rfl (tyR rfl)) ?_ | refine sops_skip (.no0 rfl rfl rfl (by first | assumption | with_reducible rfl | decide | (simp only [decide_eq_true_eq, decide_eq_false_iff_not]; omega))) rfl rfl ?_) <;> (first | refine sops_pure (.yes rfl rfl rfl (by first | assumption | with_reducible rfl | decide | (simp only [decide_eq_true_eq, decide_eq_false_iff_not]; omega))) rfl rfl (po_cmp rfl rfl rfl rfl) ?_ | refine sops_skip (.no0 rfl rfl rfl (by first | assumption | with_reducible rfl | decide | (simp only [decide_eq_true_eq, decide_eq_false_iff_not]; omega))) rfl rfl ?_) <;> (first | refine sops_pure (.free rfl rfl) rfl rfl (po_pick_t rfl rfl (by first | assumption | with_reducible rfl | decide | (simp only [decide_eq_true_eq, decide_eq_false_iff_not]; omega)) rfl) ?_ | refine sops_pure (.free rfl rfl) rfl rfl (po_pick_f rfl rfl (by first | assumption | with_reducible rfl | decide | (simp only [decide_eq_true_eq, decide_eq_false_iff_not]; omega)) rfl) ?_) <;> (refine sops_nil ?_))
      | ((refine swp_region (id := 2) ?_) <;> (first | refine sops_pure (.free rfl rfl) rfl rfl (po_call (hlong) rfl .nil) ?_ | refine sops_pure (.free rfl rfl) rfl rfl (po_call (hlr) rfl .nil) ?_ | refine sops_pure (.free rfl rfl) rfl rfl (po_call (haw) rfl .nil) ?_) <;> (refine sops_pure (.free rfl rfl) rfl rfl (po_assign rfl rfl) ?_) <;> (refine sops_nil ?_))
      | refine swp_ret ?_
      | refine swp_skip ?_
      | refine swp_block ?_
      | refine swp_exit ?_
      | refine block_go ?_
      | refine block_exit ?_
      | refine block_far rfl ?_
      | refine block_ret ?_
      | refine then_ret ?_
      | refine then_exit ?_
      | refine for_ret ?_
      | refine for_exit ?_
      | refine swp_cond_t rfl (by first | assumption | with_reducible rfl | decide | (simp only [decide_eq_true_eq, Bool.not_eq_true', decide_eq_false_iff_not]; omega)) ?_
      | refine swp_cond_f rfl (by first | assumption | with_reducible rfl | decide | (simp only [decide_eq_false_iff_not, Bool.not_eq_false', decide_eq_true_eq]; omega)) ?_
      | refine swp_cond rfl (fun hc => ?_) (fun hc => ?_)
      | refine retq (by first | exact .inr rfl | exact .inl rfl) rfl (.tmp rfl (by first | exact .t _ | exact .own rfl rfl | exact .nil _ | exact .emp _) .nil) ?_)
  any_goals rfl
  rw [h1, h2] at h
  exfalso; simp_all
set_option maxRecDepth 100000 in
set_option maxHeartbeats 4000000 in
theorem law_ (l : List Pl.Policy) (hl : ∀ p ∈ l, okPolicy p) (r : Pl.Rule) (hr : okRule r) (a : Pl.Asker) (ha : OkAsk a) (port : Int) (q : Pl.Req) (hq : OkReq0 q) (tg qu : ByteArray) (bd : Value) (ns : ByteArray) (sv : Int) (h0 : long13 l a q = false) (h1 : longRule r = false) (h2 : ¬ (600 : Int) < (ns.size : Int)) : PCalls Try.prog 12 (params l r a port q tg qu bd ns sv) (.v (.bool true)) := by
  have hlong := p_long l hl a ha q hq tg qu bd
  have hlr := p_longRule r hr
  have haw := p_awake13
  rw [h0] at hlong
  rw [h1] at hlr
  have hfr := few_rule h1
  obtain ⟨hfl, n30, n100, hfp⟩ := few_long h0
  have n1 := hfr.f
  have n2 := hfr.t
  have n3 := hfr.w
  obtain ⟨k0, k1, k2⟩ := hr
  have hm1 : (r.from_.map sourceT).length = r.from_.length := List.length_map _
  have hm2 : (r.to_.map targetT).length = r.to_.length := List.length_map _
  have hm3 : (r.when_.map whenT).length = r.when_.length := List.length_map _
  have hm4 : (l.map polT).length = l.length := List.length_map _
  have hq2 : OkReq q := ⟨hq.method, hq.path, hq.host, hq.heads, by omega⟩
  have hM1 := p_matches r ⟨k0, k1, k2⟩ a ha port q hq (by omega) tg qu bd
  have hM2 := matches__ r ⟨k0, k1, k2⟩ hfr a ha port q hq2 tg qu bd
  generalize matchP a port q r = M at hM1 hM2
  have hMM : (!(M == M)) = false := by simp
  refine pcalls_of Try.func12 rfl rfl Try.ntmps12 rfl ?_
  repeat' (first
    | refine then_go ?_
    | refine swp_seq ?_
    | ((refine swp_region (id := 0) ?_) <;> (refine sops_box (.free rfl rfl) rfl rfl rfl rfl rfl rfl ?_) <;> (refine sops_box (.free rfl rfl) rfl rfl rfl rfl rfl rfl ?_) <;> (refine sops_box (.free rfl rfl) rfl rfl rfl rfl rfl rfl ?_) <;> (refine sops_pure (.free rfl rfl) rfl rfl (po_assign rfl rfl) ?_) <;> (refine sops_nil ?_))
    | ((refine swp_region (id := 1) ?_) <;> (refine sops_pure (.free rfl rfl) rfl rfl (po_move rfl rfl) ?_) <;> (first | refine sops_pure (.free rfl rfl) rfl rfl (po_load_bx_agg rfl rfl (tyT rfl) rfl (.cons (by first | exact .t _ | exact .own rfl rfl | exact .nil _ | exact .emp _) (.cons (by first | exact .t _ | exact .own rfl rfl | exact .nil _ | exact .emp _) (.cons (by first | exact .t _ | exact .own rfl rfl | exact .nil _ | exact .emp _) .nil))) rfl) ?_ | refine sops_pure (.free rfl rfl) rfl rfl (po_load_agg rfl rfl (tyT rfl) rfl rfl) ?_) <;> (first | refine sops_pure (.free rfl rfl) rfl rfl (po_load_bx_agg rfl rfl (tyT rfl) rfl (.cons (by first | exact .t _ | exact .own rfl rfl | exact .nil _ | exact .emp _) (.cons (by first | exact .t _ | exact .own rfl rfl | exact .nil _ | exact .emp _) (.cons (by first | exact .t _ | exact .own rfl rfl | exact .nil _ | exact .emp _) (.cons (by first | exact .t _ | exact .own rfl rfl | exact .nil _ | exact .emp _) (.cons (by first | exact .t _ | exact .own rfl rfl | exact .nil _ | exact .emp _) (.cons (by first | exact .t _ | exact .own rfl rfl | exact .nil _ | exact .emp _) (.cons (by first | exact .t _ | exact .own rfl rfl | exact .nil _ | exact .emp _) .nil))))))) rfl) ?_ | refine sops_pure (.free rfl rfl) rfl rfl (po_load_agg rfl rfl (tyT rfl) rfl rfl) ?_) <;> (first | refine sops_pure (.free rfl rfl) rfl rfl (po_call (hlong) rfl (.cons rfl (by first | exact .t _ | exact .own rfl rfl | exact .nil _ | exact .emp _) (.cons rfl (by first | exact .t _ | exact .own rfl rfl | exact .nil _ | exact .emp _) (.cons rfl (by first | exact .t _ | exact .own rfl rfl | exact .nil _ | exact .emp _) .nil)))) ?_ | refine sops_pure (.free rfl rfl) rfl rfl (po_call (hlr) rfl (.cons rfl (by first | exact .t _ | exact .own rfl rfl | exact .nil _ | exact .emp _) (.cons rfl (by first | exact .t _ | exact .own rfl rfl | exact .nil _ | exact .emp _) (.cons rfl (by first | exact .t _ | exact .own rfl rfl | exact .nil _ | exact .emp _) .nil)))) ?_ | refine sops_pure (.free rfl rfl) rfl rfl (po_call (hM1) rfl (.cons rfl (by first | exact .t _ | exact .own rfl rfl | exact .nil _ | exact .emp _) (.cons rfl (by first | exact .t _ | exact .own rfl rfl | exact .nil _ | exact .emp _) (.cons rfl (by first | exact .t _ | exact .own rfl rfl | exact .nil _ | exact .emp _) .nil)))) ?_ | refine sops_pure (.free rfl rfl) rfl rfl (po_call (hM2) rfl (.cons rfl (by first | exact .t _ | exact .own rfl rfl | exact .nil _ | exact .emp _) (.cons rfl (by first | exact .t _ | exact .own rfl rfl | exact .nil _ | exact .emp _) (.cons rfl (by first | exact .t _ | exact .own rfl rfl | exact .nil _ | exact .emp _) .nil)))) ?_) <;> (refine sops_pure (.free rfl rfl) rfl rfl (po_move rfl rfl) ?_) <;> (first | refine sops_pure (.yes rfl rfl rfl (by first | assumption | with_reducible rfl | decide | (simp only [decide_eq_true_eq, decide_eq_false_iff_not]; omega))) rfl rfl (po_load_bx_agg rfl rfl (tyT rfl) rfl (.cons (by first | exact .t _ | exact .own rfl rfl | exact .nil _ | exact .emp _) (.cons (by first | exact .t _ | exact .own rfl rfl | exact .nil _ | exact .emp _) (.cons (by first | exact .t _ | exact .own rfl rfl | exact .nil _ | exact .emp _) .nil))) rfl) ?_ | refine sops_pure (.yes rfl rfl rfl (by first | assumption | with_reducible rfl | decide | (simp only [decide_eq_true_eq, decide_eq_false_iff_not]; omega))) rfl rfl (po_load_agg rfl rfl (tyT rfl) rfl rfl) ?_ | refine sops_skip (.no0 rfl rfl rfl (by first | assumption | with_reducible rfl | decide | (simp only [decide_eq_true_eq, decide_eq_false_iff_not]; omega))) rfl rfl ?_ | ((refine sops_split rfl rfl rfl (fun hc => ?_) (fun hc => ?_)) <;> (first | refine sops_pure (.yes rfl rfl rfl (by first | assumption | with_reducible rfl | decide | (simp only [decide_eq_true_eq, decide_eq_false_iff_not]; omega))) rfl rfl (po_load_bx_agg rfl rfl (tyT rfl) rfl (.cons (by first | exact .t _ | exact .own rfl rfl | exact .nil _ | exact .emp _) (.cons (by first | exact .t _ | exact .own rfl rfl | exact .nil _ | exact .emp _) (.cons (by first | exact .t _ | exact .own rfl rfl | exact .nil _ | exact .emp _) .nil))) rfl) ?_ | refine sops_pure (.yes rfl rfl rfl (by first | assumption | with_reducible rfl | decide | (simp only [decide_eq_true_eq, decide_eq_false_iff_not]; omega))) rfl rfl (po_load_agg rfl rfl (tyT rfl) rfl rfl) ?_ | refine sops_skip (.no0 rfl rfl rfl (by first | assumption | with_reducible rfl | decide | (simp only [decide_eq_true_eq, decide_eq_false_iff_not]; omega))) rfl rfl ?_))) <;> (first | refine sops_pure (.yes rfl rfl rfl (by first | assumption | with_reducible rfl | decide | (simp only [decide_eq_true_eq, decide_eq_false_iff_not]; omega))) rfl rfl (po_call (hlong) rfl (.cons rfl (by first | exact .t _ | exact .own rfl rfl | exact .nil _ | exact .emp _) .nil)) ?_ | refine sops_pure (.yes rfl rfl rfl (by first | assumption | with_reducible rfl | decide | (simp only [decide_eq_true_eq, decide_eq_false_iff_not]; omega))) rfl rfl (po_call (hlr) rfl (.cons rfl (by first | exact .t _ | exact .own rfl rfl | exact .nil _ | exact .emp _) .nil)) ?_ | refine sops_pure (.yes rfl rfl rfl (by first | assumption | with_reducible rfl | decide | (simp only [decide_eq_true_eq, decide_eq_false_iff_not]; omega))) rfl rfl (po_call (hM1) rfl (.cons rfl (by first | exact .t _ | exact .own rfl rfl | exact .nil _ | exact .emp _) .nil)) ?_ | refine sops_pure (.yes rfl rfl rfl (by first | assumption | with_reducible rfl | decide | (simp only [decide_eq_true_eq, decide_eq_false_iff_not]; omega))) rfl rfl (po_call (hM2) rfl (.cons rfl (by first | exact .t _ | exact .own rfl rfl | exact .nil _ | exact .emp _) .nil)) ?_ | refine sops_skip (.no0 rfl rfl rfl (by first | assumption | with_reducible rfl | decide | (simp only [decide_eq_true_eq, decide_eq_false_iff_not]; omega))) rfl rfl ?_) <;> (first | refine sops_pure (.free rfl rfl) rfl rfl (po_pick_t rfl rfl (by first | assumption | with_reducible rfl | decide | (simp only [decide_eq_true_eq, decide_eq_false_iff_not]; omega)) rfl) ?_ | refine sops_pure (.free rfl rfl) rfl rfl (po_pick_f rfl rfl (by first | assumption | with_reducible rfl | decide | (simp only [decide_eq_true_eq, decide_eq_false_iff_not]; omega)) rfl) ?_) <;> (refine sops_pure (.free rfl rfl) rfl rfl (po_move rfl rfl) ?_) <;> (first | refine sops_pure (.yes rfl rfl rfl (by first | assumption | with_reducible rfl | decide | (simp only [decide_eq_true_eq, decide_eq_false_iff_not]; omega))) rfl rfl (po_move rfl rfl) ?_ | refine sops_skip (.no0 rfl rfl rfl (by first | assumption | with_reducible rfl | decide | (simp only [decide_eq_true_eq, decide_eq_false_iff_not]; omega))) rfl rfl ?_ | ((refine sops_split rfl rfl rfl (fun hc => ?_) (fun hc => ?_)) <;> (first | refine sops_pure (.yes rfl rfl rfl (by first | assumption | with_reducible rfl | decide | (simp only [decide_eq_true_eq, decide_eq_false_iff_not]; omega))) rfl rfl (po_move rfl rfl) ?_ | refine sops_skip (.no0 rfl rfl rfl (by first | assumption | with_reducible rfl | decide | (simp only [decide_eq_true_eq, decide_eq_false_iff_not]; omega))) rfl rfl ?_))) <;> (first | refine sops_pure (.yes rfl rfl rfl (by first | assumption | with_reducible rfl | decide | (simp only [decide_eq_true_eq, decide_eq_false_iff_not]; omega))) rfl rfl (po_len_str rfl rfl (tyR rfl)) ?_ | refine sops_skip (.no0 rfl rfl rfl (by first | assumption | with_reducible rfl | decide | (simp only [decide_eq_true_eq, decide_eq_false_iff_not]; omega))) rfl rfl ?_) <;> (first | refine sops_pure (.yes rfl rfl rfl (by first | assumption | with_reducible rfl | decide | (simp only [decide_eq_true_eq, decide_eq_false_iff_not]; omega))) rfl rfl (po_bneq false rfl rfl rfl (by kernel_rfl) hMM) ?_ | refine sops_pure (.yes rfl rfl rfl (by first | assumption | with_reducible rfl | decide | (simp only [decide_eq_true_eq, decide_eq_false_iff_not]; omega))) rfl rfl (po_cmp rfl rfl rfl rfl) ?_ | refine sops_skip (.no0 rfl rfl rfl (by first | assumption | with_reducible rfl | decide | (simp only [decide_eq_true_eq, decide_eq_false_iff_not]; omega))) rfl rfl ?_) <;> (first | refine sops_pure (.free rfl rfl) rfl rfl (po_pick_t rfl rfl (by first | assumption | with_reducible rfl | decide | (simp only [decide_eq_true_eq, decide_eq_false_iff_not]; omega)) rfl) ?_ | refine sops_pure (.free rfl rfl) rfl rfl (po_pick_f rfl rfl (by first | assumption | with_reducible rfl | decide | (simp only [decide_eq_true_eq, decide_eq_false_iff_not]; omega)) rfl) ?_) <;> (refine sops_nil ?_))
    | ((refine swp_draw_all (id := 3) mixed (by kernel_rfl) (by kernel_rfl) ?_) <;> (first | refine sdraw_pure (.free rfl rfl) rfl (po_load_bx_agg rfl rfl (tyT rfl) rfl (.cons (by first | exact .t _ | exact .own rfl rfl | exact .nil _ | exact .emp _) (.cons (by first | exact .t _ | exact .own rfl rfl | exact .nil _ | exact .emp _) (.cons (by first | exact .t _ | exact .own rfl rfl | exact .nil _ | exact .emp _) .nil))) rfl) ?_ | refine sdraw_pure (.free rfl rfl) rfl (po_load_agg rfl rfl (tyT rfl) rfl rfl) ?_) <;> (first | refine sdraw_pure (.free rfl rfl) rfl (po_load_bx_agg rfl rfl (tyT rfl) rfl (.cons (by first | exact .t _ | exact .own rfl rfl | exact .nil _ | exact .emp _) (.cons (by first | exact .t _ | exact .own rfl rfl | exact .nil _ | exact .emp _) (.cons (by first | exact .t _ | exact .own rfl rfl | exact .nil _ | exact .emp _) .nil))) rfl) ?_ | refine sdraw_pure (.free rfl rfl) rfl (po_load_agg rfl rfl (tyT rfl) rfl rfl) ?_) <;> (refine sdraw_pure (.free rfl rfl) rfl (po_move rfl rfl) ?_) <;> (first | refine sdraw_pure (.free rfl rfl) rfl (po_load_bx_agg rfl rfl (tyT rfl) rfl (.cons (by first | exact .t _ | exact .own rfl rfl | exact .nil _ | exact .emp _) (.cons (by first | exact .t _ | exact .own rfl rfl | exact .nil _ | exact .emp _) (.cons (by first | exact .t _ | exact .own rfl rfl | exact .nil _ | exact .emp _) (.cons (by first | exact .t _ | exact .own rfl rfl | exact .nil _ | exact .emp _) (.cons (by first | exact .t _ | exact .own rfl rfl | exact .nil _ | exact .emp _) (.cons (by first | exact .t _ | exact .own rfl rfl | exact .nil _ | exact .emp _) (.cons (by first | exact .t _ | exact .own rfl rfl | exact .nil _ | exact .emp _) .nil))))))) rfl) ?_ | refine sdraw_pure (.free rfl rfl) rfl (po_load_agg rfl rfl (tyT rfl) rfl rfl) ?_) <;> (first | refine sdraw_pure (.free rfl rfl) rfl (po_call (hlong) rfl (.cons rfl (by first | exact .t _ | exact .own rfl rfl | exact .nil _ | exact .emp _) (.cons rfl (by first | exact .t _ | exact .own rfl rfl | exact .nil _ | exact .emp _) (.cons rfl (by first | exact .t _ | exact .own rfl rfl | exact .nil _ | exact .emp _) (.cons rfl (by first | exact .t _ | exact .own rfl rfl | exact .nil _ | exact .emp _) .nil))))) ?_ | refine sdraw_pure (.free rfl rfl) rfl (po_call (hlr) rfl (.cons rfl (by first | exact .t _ | exact .own rfl rfl | exact .nil _ | exact .emp _) (.cons rfl (by first | exact .t _ | exact .own rfl rfl | exact .nil _ | exact .emp _) (.cons rfl (by first | exact .t _ | exact .own rfl rfl | exact .nil _ | exact .emp _) (.cons rfl (by first | exact .t _ | exact .own rfl rfl | exact .nil _ | exact .emp _) .nil))))) ?_ | refine sdraw_pure (.free rfl rfl) rfl (po_call (hM1) rfl (.cons rfl (by first | exact .t _ | exact .own rfl rfl | exact .nil _ | exact .emp _) (.cons rfl (by first | exact .t _ | exact .own rfl rfl | exact .nil _ | exact .emp _) (.cons rfl (by first | exact .t _ | exact .own rfl rfl | exact .nil _ | exact .emp _) (.cons rfl (by first | exact .t _ | exact .own rfl rfl | exact .nil _ | exact .emp _) .nil))))) ?_ | refine sdraw_pure (.free rfl rfl) rfl (po_call (hM2) rfl (.cons rfl (by first | exact .t _ | exact .own rfl rfl | exact .nil _ | exact .emp _) (.cons rfl (by first | exact .t _ | exact .own rfl rfl | exact .nil _ | exact .emp _) (.cons rfl (by first | exact .t _ | exact .own rfl rfl | exact .nil _ | exact .emp _) (.cons rfl (by first | exact .t _ | exact .own rfl rfl | exact .nil _ | exact .emp _) .nil))))) ?_) <;> (first | refine sdraw_pure (.free rfl rfl) rfl (po_load_bx_agg rfl rfl (tyT rfl) rfl (.cons (by first | exact .t _ | exact .own rfl rfl | exact .nil _ | exact .emp _) (.cons (by first | exact .t _ | exact .own rfl rfl | exact .nil _ | exact .emp _) (.cons (by first | exact .t _ | exact .own rfl rfl | exact .nil _ | exact .emp _) .nil))) rfl) ?_ | refine sdraw_pure (.free rfl rfl) rfl (po_load_agg rfl rfl (tyT rfl) rfl rfl) ?_) <;> (first | refine sdraw_pure (.free rfl rfl) rfl (po_load_bx_agg rfl rfl (tyT rfl) rfl (.cons (by first | exact .t _ | exact .own rfl rfl | exact .nil _ | exact .emp _) (.cons (by first | exact .t _ | exact .own rfl rfl | exact .nil _ | exact .emp _) (.cons (by first | exact .t _ | exact .own rfl rfl | exact .nil _ | exact .emp _) .nil))) rfl) ?_ | refine sdraw_pure (.free rfl rfl) rfl (po_load_agg rfl rfl (tyT rfl) rfl rfl) ?_) <;> (refine sdraw_pure (.free rfl rfl) rfl (po_move rfl rfl) ?_) <;> (first | refine sdraw_pure (.free rfl rfl) rfl (po_load_bx_agg rfl rfl (tyT rfl) rfl (.cons (by first | exact .t _ | exact .own rfl rfl | exact .nil _ | exact .emp _) (.cons (by first | exact .t _ | exact .own rfl rfl | exact .nil _ | exact .emp _) (.cons (by first | exact .t _ | exact .own rfl rfl | exact .nil _ | exact .emp _) (.cons (by first | exact .t _ | exact .own rfl rfl | exact .nil _ | exact .emp _) (.cons (by first | exact .t _ | exact .own rfl rfl | exact .nil _ | exact .emp _) (.cons (by first | exact .t _ | exact .own rfl rfl | exact .nil _ | exact .emp _) (.cons (by first | exact .t _ | exact .own rfl rfl | exact .nil _ | exact .emp _) .nil))))))) rfl) ?_ | refine sdraw_pure (.free rfl rfl) rfl (po_load_agg rfl rfl (tyT rfl) rfl rfl) ?_) <;> (first | refine sdraw_pure (.free rfl rfl) rfl (po_call (hlong) rfl (.cons rfl (by first | exact .t _ | exact .own rfl rfl | exact .nil _ | exact .emp _) (.cons rfl (by first | exact .t _ | exact .own rfl rfl | exact .nil _ | exact .emp _) (.cons rfl (by first | exact .t _ | exact .own rfl rfl | exact .nil _ | exact .emp _) (.cons rfl (by first | exact .t _ | exact .own rfl rfl | exact .nil _ | exact .emp _) .nil))))) ?_ | refine sdraw_pure (.free rfl rfl) rfl (po_call (hlr) rfl (.cons rfl (by first | exact .t _ | exact .own rfl rfl | exact .nil _ | exact .emp _) (.cons rfl (by first | exact .t _ | exact .own rfl rfl | exact .nil _ | exact .emp _) (.cons rfl (by first | exact .t _ | exact .own rfl rfl | exact .nil _ | exact .emp _) (.cons rfl (by first | exact .t _ | exact .own rfl rfl | exact .nil _ | exact .emp _) .nil))))) ?_ | refine sdraw_pure (.free rfl rfl) rfl (po_call (hM1) rfl (.cons rfl (by first | exact .t _ | exact .own rfl rfl | exact .nil _ | exact .emp _) (.cons rfl (by first | exact .t _ | exact .own rfl rfl | exact .nil _ | exact .emp _) (.cons rfl (by first | exact .t _ | exact .own rfl rfl | exact .nil _ | exact .emp _) (.cons rfl (by first | exact .t _ | exact .own rfl rfl | exact .nil _ | exact .emp _) .nil))))) ?_ | refine sdraw_pure (.free rfl rfl) rfl (po_call (hM2) rfl (.cons rfl (by first | exact .t _ | exact .own rfl rfl | exact .nil _ | exact .emp _) (.cons rfl (by first | exact .t _ | exact .own rfl rfl | exact .nil _ | exact .emp _) (.cons rfl (by first | exact .t _ | exact .own rfl rfl | exact .nil _ | exact .emp _) (.cons rfl (by first | exact .t _ | exact .own rfl rfl | exact .nil _ | exact .emp _) .nil))))) ?_) <;> (first | refine sdraw_pure (.free rfl rfl) rfl (po_bneq false rfl rfl rfl (by kernel_rfl) hMM) ?_ | refine sdraw_pure (.free rfl rfl) rfl (po_boolq rfl rfl rfl (by kernel_rfl) (by first | exact .inl rfl | exact .inr rfl)) ?_) <;> (refine sdraw_nil ?_) <;> (refine sops_nil ?_))
    | ((refine swp_region (id := 5) ?_) <;> (refine sops_pure (.free rfl rfl) rfl rfl (po_assign rfl rfl) ?_) <;> (refine sops_nil ?_))
    | refine swp_ret ?_
    | refine swp_skip ?_
    | refine swp_block ?_
    | refine swp_exit ?_
    | refine block_go ?_
    | refine block_exit ?_
    | refine block_far rfl ?_
    | refine block_ret ?_
    | refine then_ret ?_
    | refine then_exit ?_
    | refine for_ret ?_
    | refine for_exit ?_
    | refine swp_cond_t rfl (by first | assumption | with_reducible rfl | decide | (simp only [decide_eq_true_eq, Bool.not_eq_true', decide_eq_false_iff_not]; omega)) ?_
    | refine swp_cond_f rfl (by first | assumption | with_reducible rfl | decide | (simp only [decide_eq_false_iff_not, Bool.not_eq_false', decide_eq_true_eq]; omega)) ?_
    | refine swp_cond rfl (fun hc => ?_) (fun hc => ?_)
    | refine retq (by first | exact .inr rfl | exact .inl rfl) rfl (.tmp rfl (by first | exact .t _ | exact .own rfl rfl | exact .nil _ | exact .emp _) .nil) ?_)
  refine swp_for (N1 l r a port q tg qu bd ns sv 15) (fun _ => True) r.from_.length (weak_sub (.cons rfl rfl rfl (.cons rfl rfl rfl (.cons rfl rfl rfl (.cons rfl rfl rfl (.cons rfl rfl rfl (.cons rfl rfl rfl (.cons rfl rfl rfl (.cons rfl rfl rfl .nil)))))))) (.cons rfl rfl rfl (.cons rfl rfl rfl (.cons rfl rfl rfl .nil))) .nil) trivial ?_
  intro k hk _
  unfold N1
  by_cases hlt : k < r.from_.length
  · have hf := hfr.fs _ (List.getElem_mem hlt)
    have c1 := p_source r.from_[k] (k0 _ (List.getElem_mem hlt)) a ha
    have c2 := source_ r.from_[k] (k0 _ (List.getElem_mem hlt)) hf a ha
    generalize srcP a r.from_[k] = X at c1 c2
    have hX : (!(X == X)) = false := by simp
    repeat' (first
      | refine then_go ?_
      | refine swp_seq ?_
      | refine for_next hlt (weak_sub (.cons rfl rfl rfl (.cons rfl rfl rfl (.cons rfl rfl rfl (.cons rfl rfl rfl (.cons rfl rfl rfl (.cons rfl rfl rfl (.cons rfl rfl rfl (.cons rfl rfl rfl .nil)))))))) (.cons rfl rfl rfl (.cons rfl rfl rfl (.cons rfl rfl rfl .nil))) .nil) trivial
      | ((refine swp_region (id := 6) ?_) <;> (refine sops_pure (.free rfl rfl) rfl rfl (po_move rfl rfl) ?_) <;> (first | refine sops_pure (.free rfl rfl) rfl rfl (po_field_bx rfl rfl (tyF rfl)) ?_ | refine sops_pure (.free rfl rfl) rfl rfl (po_field rfl rfl (tyF rfl)) ?_) <;> (first | refine sops_pure (.free rfl rfl) rfl rfl (po_load_bx rfl rfl (tyT rfl) rfl rfl) ?_ | refine sops_pure (.free rfl rfl) rfl rfl (po_load rfl rfl (tyT rfl) rfl) ?_) <;> (refine sops_pure (.free rfl rfl) rfl rfl (po_len rfl rfl (by first | exact .t _ | exact .own rfl rfl | exact .nil _ | exact .emp _) (tyS rfl)) ?_) <;> (first | refine sops_pure (.free rfl rfl) rfl rfl (po_bneq false rfl rfl rfl (by kernel_rfl) hX) ?_ | refine sops_pure (.free rfl rfl) rfl rfl (po_cmp rfl rfl rfl rfl) ?_) <;> (refine sops_nil ?_))
      | ((refine swp_draw_all (id := 8) mixed (by kernel_rfl) (by kernel_rfl) ?_) <;> (first | refine sdraw_pure (.free rfl rfl) rfl (po_field_bx rfl rfl (tyF rfl)) ?_ | refine sdraw_pure (.free rfl rfl) rfl (po_field rfl rfl (tyF rfl)) ?_) <;> (first | refine sdraw_pure (.free rfl rfl) rfl (po_load_bx rfl rfl (tyT rfl) rfl rfl) ?_ | refine sdraw_pure (.free rfl rfl) rfl (po_load rfl rfl (tyT rfl) rfl) ?_) <;> (refine sdraw_pure (.free rfl rfl) rfl (po_move rfl rfl) ?_) <;> (refine sdraw_pure (.free rfl rfl) rfl (po_index rfl rfl (by first | exact .t _ | exact .own rfl rfl | exact .nil _ | exact .emp _) rfl (tyS rfl) (by first | rfl | omega) (by first | rfl | assumption | exact map_at (by first | assumption | omega))) ?_) <;> (first | refine sdraw_pure (.free rfl rfl) rfl (po_load_bx_agg rfl rfl (tyT rfl) rfl (.cons (by first | exact .t _ | exact .own rfl rfl | exact .nil _ | exact .emp _) (.cons (by first | exact .t _ | exact .own rfl rfl | exact .nil _ | exact .emp _) (.cons (by first | exact .t _ | exact .own rfl rfl | exact .nil _ | exact .emp _) .nil))) rfl) ?_ | refine sdraw_pure (.free rfl rfl) rfl (po_load_agg rfl rfl (tyT rfl) rfl rfl) ?_) <;> (first | refine sdraw_pure (.free rfl rfl) rfl (po_load_bx_agg rfl rfl (tyT rfl) rfl (.cons (by first | exact .t _ | exact .own rfl rfl | exact .nil _ | exact .emp _) (.cons (by first | exact .t _ | exact .own rfl rfl | exact .nil _ | exact .emp _) (.cons (by first | exact .t _ | exact .own rfl rfl | exact .nil _ | exact .emp _) .nil))) rfl) ?_ | refine sdraw_pure (.free rfl rfl) rfl (po_load_agg rfl rfl (tyT rfl) rfl rfl) ?_) <;> (first | refine sdraw_pure (.free rfl rfl) rfl (po_call (c1) rfl (.cons rfl (by first | exact .t _ | exact .own rfl rfl | exact .nil _ | exact .emp _) (.cons rfl (by first | exact .t _ | exact .own rfl rfl | exact .nil _ | exact .emp _) .nil))) ?_ | refine sdraw_pure (.free rfl rfl) rfl (po_call (c2) rfl (.cons rfl (by first | exact .t _ | exact .own rfl rfl | exact .nil _ | exact .emp _) (.cons rfl (by first | exact .t _ | exact .own rfl rfl | exact .nil _ | exact .emp _) .nil))) ?_) <;> (first | refine sdraw_pure (.free rfl rfl) rfl (po_field_bx rfl rfl (tyF rfl)) ?_ | refine sdraw_pure (.free rfl rfl) rfl (po_field rfl rfl (tyF rfl)) ?_) <;> (first | refine sdraw_pure (.free rfl rfl) rfl (po_load_bx rfl rfl (tyT rfl) rfl rfl) ?_ | refine sdraw_pure (.free rfl rfl) rfl (po_load rfl rfl (tyT rfl) rfl) ?_) <;> (refine sdraw_pure (.free rfl rfl) rfl (po_move rfl rfl) ?_) <;> (refine sdraw_pure (.free rfl rfl) rfl (po_index rfl rfl (by first | exact .t _ | exact .own rfl rfl | exact .nil _ | exact .emp _) rfl (tyS rfl) (by first | rfl | omega) (by first | rfl | assumption | exact map_at (by first | assumption | omega))) ?_) <;> (first | refine sdraw_pure (.free rfl rfl) rfl (po_load_bx_agg rfl rfl (tyT rfl) rfl (.cons (by first | exact .t _ | exact .own rfl rfl | exact .nil _ | exact .emp _) (.cons (by first | exact .t _ | exact .own rfl rfl | exact .nil _ | exact .emp _) (.cons (by first | exact .t _ | exact .own rfl rfl | exact .nil _ | exact .emp _) .nil))) rfl) ?_ | refine sdraw_pure (.free rfl rfl) rfl (po_load_agg rfl rfl (tyT rfl) rfl rfl) ?_) <;> (first | refine sdraw_pure (.free rfl rfl) rfl (po_load_bx_agg rfl rfl (tyT rfl) rfl (.cons (by first | exact .t _ | exact .own rfl rfl | exact .nil _ | exact .emp _) (.cons (by first | exact .t _ | exact .own rfl rfl | exact .nil _ | exact .emp _) (.cons (by first | exact .t _ | exact .own rfl rfl | exact .nil _ | exact .emp _) .nil))) rfl) ?_ | refine sdraw_pure (.free rfl rfl) rfl (po_load_agg rfl rfl (tyT rfl) rfl rfl) ?_) <;> (first | refine sdraw_pure (.free rfl rfl) rfl (po_call (c1) rfl (.cons rfl (by first | exact .t _ | exact .own rfl rfl | exact .nil _ | exact .emp _) (.cons rfl (by first | exact .t _ | exact .own rfl rfl | exact .nil _ | exact .emp _) .nil))) ?_ | refine sdraw_pure (.free rfl rfl) rfl (po_call (c2) rfl (.cons rfl (by first | exact .t _ | exact .own rfl rfl | exact .nil _ | exact .emp _) (.cons rfl (by first | exact .t _ | exact .own rfl rfl | exact .nil _ | exact .emp _) .nil))) ?_) <;> (first | refine sdraw_pure (.free rfl rfl) rfl (po_bneq false rfl rfl rfl (by kernel_rfl) hX) ?_ | refine sdraw_pure (.free rfl rfl) rfl (po_boolq rfl rfl rfl (by kernel_rfl) (by first | exact .inl rfl | exact .inr rfl)) ?_) <;> (refine sdraw_nil ?_) <;> (refine sops_nil ?_))
      | ((refine swp_region (id := 7) ?_) <;> (refine sops_pure (.free rfl rfl) rfl rfl (po_move rfl rfl) ?_) <;> (first | refine sops_pure (.free rfl rfl) rfl rfl (po_inc rfl rfl rfl (by omega)) ?_ | refine sops_pure (.free rfl rfl) rfl rfl (po_arith rfl rfl rfl (ar_add (by first | rfl | (refine wrap_i64 ?_; omega)) rfl)) ?_) <;> (refine sops_pure (.free rfl rfl) rfl rfl (po_assign rfl rfl) ?_) <;> (refine sops_nil ?_))
      | refine swp_ret ?_
      | refine swp_skip ?_
      | refine swp_block ?_
      | refine swp_exit ?_
      | refine block_go ?_
      | refine block_exit ?_
      | refine block_far rfl ?_
      | refine block_ret ?_
      | refine then_ret ?_
      | refine then_exit ?_
      | refine for_ret ?_
      | refine for_exit ?_
      | refine swp_cond_t rfl (by first | assumption | with_reducible rfl | decide | (simp only [decide_eq_true_eq, Bool.not_eq_true', decide_eq_false_iff_not]; omega)) ?_
      | refine swp_cond_f rfl (by first | assumption | with_reducible rfl | decide | (simp only [decide_eq_false_iff_not, Bool.not_eq_false', decide_eq_true_eq]; omega)) ?_
      | refine swp_cond rfl (fun hc => ?_) (fun hc => ?_)
      | refine retq (by first | exact .inr rfl | exact .inl rfl) rfl (.tmp rfl (by first | exact .t _ | exact .own rfl rfl | exact .nil _ | exact .emp _) .nil) ?_)
  obtain rfl : k = r.from_.length := by omega
  repeat' (first
    | refine then_go ?_
    | refine swp_seq ?_
    | ((refine swp_region (id := 6) ?_) <;> (refine sops_pure (.free rfl rfl) rfl rfl (po_move rfl rfl) ?_) <;> (first | refine sops_pure (.free rfl rfl) rfl rfl (po_field_bx rfl rfl (tyF rfl)) ?_ | refine sops_pure (.free rfl rfl) rfl rfl (po_field rfl rfl (tyF rfl)) ?_) <;> (first | refine sops_pure (.free rfl rfl) rfl rfl (po_load_bx rfl rfl (tyT rfl) rfl rfl) ?_ | refine sops_pure (.free rfl rfl) rfl rfl (po_load rfl rfl (tyT rfl) rfl) ?_) <;> (refine sops_pure (.free rfl rfl) rfl rfl (po_len rfl rfl (by first | exact .t _ | exact .own rfl rfl | exact .nil _ | exact .emp _) (tyS rfl)) ?_) <;> (refine sops_pure (.free rfl rfl) rfl rfl (po_cmp rfl rfl rfl rfl) ?_) <;> (refine sops_nil ?_))
    | ((refine swp_region (id := 10) ?_) <;> (refine sops_pure (.free rfl rfl) rfl rfl (po_assign rfl rfl) ?_) <;> (refine sops_nil ?_))
    | refine swp_ret ?_
    | refine swp_skip ?_
    | refine swp_block ?_
    | refine swp_exit ?_
    | refine block_go ?_
    | refine block_exit ?_
    | refine block_far rfl ?_
    | refine block_ret ?_
    | refine then_ret ?_
    | refine then_exit ?_
    | refine for_ret ?_
    | refine for_exit ?_
    | refine swp_cond_t rfl (by first | assumption | with_reducible rfl | decide | (simp only [decide_eq_true_eq, Bool.not_eq_true', decide_eq_false_iff_not]; omega)) ?_
    | refine swp_cond_f rfl (by first | assumption | with_reducible rfl | decide | (simp only [decide_eq_false_iff_not, Bool.not_eq_false', decide_eq_true_eq]; omega)) ?_
    | refine swp_cond rfl (fun hc => ?_) (fun hc => ?_)
    | refine retq (by first | exact .inr rfl | exact .inl rfl) rfl (.tmp rfl (by first | exact .t _ | exact .own rfl rfl | exact .nil _ | exact .emp _) .nil) ?_)
  refine swp_for (N1 l r a port q tg qu bd ns sv 16) (fun _ => True) r.to_.length (weak_sub (.cons rfl rfl rfl (.cons rfl rfl rfl (.cons rfl rfl rfl (.cons rfl rfl rfl (.cons rfl rfl rfl (.cons rfl rfl rfl (.cons rfl rfl rfl (.cons rfl rfl rfl .nil)))))))) (.cons rfl rfl rfl (.cons rfl rfl rfl (.cons rfl rfl rfl .nil))) .nil) trivial ?_
  intro k hk _
  unfold N1
  by_cases hlt : k < r.to_.length
  · have hf := hfr.ts _ (List.getElem_mem hlt)
    have c1 := p_target r.to_[k] (k1 _ (List.getElem_mem hlt)) port q hq tg qu bd
    have c2 := target_ r.to_[k] (k1 _ (List.getElem_mem hlt)) hf port q hq2 tg qu bd
    generalize tgtP port q r.to_[k] = X at c1 c2
    have hX : (!(X == X)) = false := by simp
    repeat' (first
      | refine then_go ?_
      | refine swp_seq ?_
      | refine for_next hlt (weak_sub (.cons rfl rfl rfl (.cons rfl rfl rfl (.cons rfl rfl rfl (.cons rfl rfl rfl (.cons rfl rfl rfl (.cons rfl rfl rfl (.cons rfl rfl rfl (.cons rfl rfl rfl .nil)))))))) (.cons rfl rfl rfl (.cons rfl rfl rfl (.cons rfl rfl rfl .nil))) .nil) trivial
      | ((refine swp_region (id := 11) ?_) <;> (refine sops_pure (.free rfl rfl) rfl rfl (po_move rfl rfl) ?_) <;> (first | refine sops_pure (.free rfl rfl) rfl rfl (po_field_bx rfl rfl (tyF rfl)) ?_ | refine sops_pure (.free rfl rfl) rfl rfl (po_field rfl rfl (tyF rfl)) ?_) <;> (first | refine sops_pure (.free rfl rfl) rfl rfl (po_load_bx rfl rfl (tyT rfl) rfl rfl) ?_ | refine sops_pure (.free rfl rfl) rfl rfl (po_load rfl rfl (tyT rfl) rfl) ?_) <;> (refine sops_pure (.free rfl rfl) rfl rfl (po_len rfl rfl (by first | exact .t _ | exact .own rfl rfl | exact .nil _ | exact .emp _) (tyS rfl)) ?_) <;> (first | refine sops_pure (.free rfl rfl) rfl rfl (po_bneq false rfl rfl rfl (by kernel_rfl) hX) ?_ | refine sops_pure (.free rfl rfl) rfl rfl (po_cmp rfl rfl rfl rfl) ?_) <;> (refine sops_nil ?_))
      | ((refine swp_draw_all (id := 13) mixed (by kernel_rfl) (by kernel_rfl) ?_) <;> (first | refine sdraw_pure (.free rfl rfl) rfl (po_field_bx rfl rfl (tyF rfl)) ?_ | refine sdraw_pure (.free rfl rfl) rfl (po_field rfl rfl (tyF rfl)) ?_) <;> (first | refine sdraw_pure (.free rfl rfl) rfl (po_load_bx rfl rfl (tyT rfl) rfl rfl) ?_ | refine sdraw_pure (.free rfl rfl) rfl (po_load rfl rfl (tyT rfl) rfl) ?_) <;> (refine sdraw_pure (.free rfl rfl) rfl (po_move rfl rfl) ?_) <;> (refine sdraw_pure (.free rfl rfl) rfl (po_index rfl rfl (by first | exact .t _ | exact .own rfl rfl | exact .nil _ | exact .emp _) rfl (tyS rfl) (by first | rfl | omega) (by first | rfl | assumption | exact map_at (by first | assumption | omega))) ?_) <;> (first | refine sdraw_pure (.free rfl rfl) rfl (po_load_bx_agg rfl rfl (tyT rfl) rfl (.cons (by first | exact .t _ | exact .own rfl rfl | exact .nil _ | exact .emp _) (.cons (by first | exact .t _ | exact .own rfl rfl | exact .nil _ | exact .emp _) (.cons (by first | exact .t _ | exact .own rfl rfl | exact .nil _ | exact .emp _) (.cons (by first | exact .t _ | exact .own rfl rfl | exact .nil _ | exact .emp _) .nil)))) rfl) ?_ | refine sdraw_pure (.free rfl rfl) rfl (po_load_agg rfl rfl (tyT rfl) rfl rfl) ?_) <;> (refine sdraw_pure (.free rfl rfl) rfl (po_move rfl rfl) ?_) <;> (first | refine sdraw_pure (.free rfl rfl) rfl (po_load_bx_agg rfl rfl (tyT rfl) rfl (.cons (by first | exact .t _ | exact .own rfl rfl | exact .nil _ | exact .emp _) (.cons (by first | exact .t _ | exact .own rfl rfl | exact .nil _ | exact .emp _) (.cons (by first | exact .t _ | exact .own rfl rfl | exact .nil _ | exact .emp _) (.cons (by first | exact .t _ | exact .own rfl rfl | exact .nil _ | exact .emp _) (.cons (by first | exact .t _ | exact .own rfl rfl | exact .nil _ | exact .emp _) (.cons (by first | exact .t _ | exact .own rfl rfl | exact .nil _ | exact .emp _) (.cons (by first | exact .t _ | exact .own rfl rfl | exact .nil _ | exact .emp _) .nil))))))) rfl) ?_ | refine sdraw_pure (.free rfl rfl) rfl (po_load_agg rfl rfl (tyT rfl) rfl rfl) ?_) <;> (first | refine sdraw_pure (.free rfl rfl) rfl (po_call (c1) rfl (.cons rfl (by first | exact .t _ | exact .own rfl rfl | exact .nil _ | exact .emp _) (.cons rfl (by first | exact .t _ | exact .own rfl rfl | exact .nil _ | exact .emp _) (.cons rfl (by first | exact .t _ | exact .own rfl rfl | exact .nil _ | exact .emp _) .nil)))) ?_ | refine sdraw_pure (.free rfl rfl) rfl (po_call (c2) rfl (.cons rfl (by first | exact .t _ | exact .own rfl rfl | exact .nil _ | exact .emp _) (.cons rfl (by first | exact .t _ | exact .own rfl rfl | exact .nil _ | exact .emp _) (.cons rfl (by first | exact .t _ | exact .own rfl rfl | exact .nil _ | exact .emp _) .nil)))) ?_) <;> (first | refine sdraw_pure (.free rfl rfl) rfl (po_field_bx rfl rfl (tyF rfl)) ?_ | refine sdraw_pure (.free rfl rfl) rfl (po_field rfl rfl (tyF rfl)) ?_) <;> (first | refine sdraw_pure (.free rfl rfl) rfl (po_load_bx rfl rfl (tyT rfl) rfl rfl) ?_ | refine sdraw_pure (.free rfl rfl) rfl (po_load rfl rfl (tyT rfl) rfl) ?_) <;> (refine sdraw_pure (.free rfl rfl) rfl (po_move rfl rfl) ?_) <;> (refine sdraw_pure (.free rfl rfl) rfl (po_index rfl rfl (by first | exact .t _ | exact .own rfl rfl | exact .nil _ | exact .emp _) rfl (tyS rfl) (by first | rfl | omega) (by first | rfl | assumption | exact map_at (by first | assumption | omega))) ?_) <;> (first | refine sdraw_pure (.free rfl rfl) rfl (po_load_bx_agg rfl rfl (tyT rfl) rfl (.cons (by first | exact .t _ | exact .own rfl rfl | exact .nil _ | exact .emp _) (.cons (by first | exact .t _ | exact .own rfl rfl | exact .nil _ | exact .emp _) (.cons (by first | exact .t _ | exact .own rfl rfl | exact .nil _ | exact .emp _) (.cons (by first | exact .t _ | exact .own rfl rfl | exact .nil _ | exact .emp _) .nil)))) rfl) ?_ | refine sdraw_pure (.free rfl rfl) rfl (po_load_agg rfl rfl (tyT rfl) rfl rfl) ?_) <;> (refine sdraw_pure (.free rfl rfl) rfl (po_move rfl rfl) ?_) <;> (first | refine sdraw_pure (.free rfl rfl) rfl (po_load_bx_agg rfl rfl (tyT rfl) rfl (.cons (by first | exact .t _ | exact .own rfl rfl | exact .nil _ | exact .emp _) (.cons (by first | exact .t _ | exact .own rfl rfl | exact .nil _ | exact .emp _) (.cons (by first | exact .t _ | exact .own rfl rfl | exact .nil _ | exact .emp _) (.cons (by first | exact .t _ | exact .own rfl rfl | exact .nil _ | exact .emp _) (.cons (by first | exact .t _ | exact .own rfl rfl | exact .nil _ | exact .emp _) (.cons (by first | exact .t _ | exact .own rfl rfl | exact .nil _ | exact .emp _) (.cons (by first | exact .t _ | exact .own rfl rfl | exact .nil _ | exact .emp _) .nil))))))) rfl) ?_ | refine sdraw_pure (.free rfl rfl) rfl (po_load_agg rfl rfl (tyT rfl) rfl rfl) ?_) <;> (first | refine sdraw_pure (.free rfl rfl) rfl (po_call (c1) rfl (.cons rfl (by first | exact .t _ | exact .own rfl rfl | exact .nil _ | exact .emp _) (.cons rfl (by first | exact .t _ | exact .own rfl rfl | exact .nil _ | exact .emp _) (.cons rfl (by first | exact .t _ | exact .own rfl rfl | exact .nil _ | exact .emp _) .nil)))) ?_ | refine sdraw_pure (.free rfl rfl) rfl (po_call (c2) rfl (.cons rfl (by first | exact .t _ | exact .own rfl rfl | exact .nil _ | exact .emp _) (.cons rfl (by first | exact .t _ | exact .own rfl rfl | exact .nil _ | exact .emp _) (.cons rfl (by first | exact .t _ | exact .own rfl rfl | exact .nil _ | exact .emp _) .nil)))) ?_) <;> (first | refine sdraw_pure (.free rfl rfl) rfl (po_bneq false rfl rfl rfl (by kernel_rfl) hX) ?_ | refine sdraw_pure (.free rfl rfl) rfl (po_boolq rfl rfl rfl (by kernel_rfl) (by first | exact .inl rfl | exact .inr rfl)) ?_) <;> (refine sdraw_nil ?_) <;> (refine sops_nil ?_))
      | ((refine swp_region (id := 12) ?_) <;> (refine sops_pure (.free rfl rfl) rfl rfl (po_move rfl rfl) ?_) <;> (first | refine sops_pure (.free rfl rfl) rfl rfl (po_inc rfl rfl rfl (by omega)) ?_ | refine sops_pure (.free rfl rfl) rfl rfl (po_arith rfl rfl rfl (ar_add (by first | rfl | (refine wrap_i64 ?_; omega)) rfl)) ?_) <;> (refine sops_pure (.free rfl rfl) rfl rfl (po_assign rfl rfl) ?_) <;> (refine sops_nil ?_))
      | refine swp_ret ?_
      | refine swp_skip ?_
      | refine swp_block ?_
      | refine swp_exit ?_
      | refine block_go ?_
      | refine block_exit ?_
      | refine block_far rfl ?_
      | refine block_ret ?_
      | refine then_ret ?_
      | refine then_exit ?_
      | refine for_ret ?_
      | refine for_exit ?_
      | refine swp_cond_t rfl (by first | assumption | with_reducible rfl | decide | (simp only [decide_eq_true_eq, Bool.not_eq_true', decide_eq_false_iff_not]; omega)) ?_
      | refine swp_cond_f rfl (by first | assumption | with_reducible rfl | decide | (simp only [decide_eq_false_iff_not, Bool.not_eq_false', decide_eq_true_eq]; omega)) ?_
      | refine swp_cond rfl (fun hc => ?_) (fun hc => ?_)
      | refine retq (by first | exact .inr rfl | exact .inl rfl) rfl (.tmp rfl (by first | exact .t _ | exact .own rfl rfl | exact .nil _ | exact .emp _) .nil) ?_)
  obtain rfl : k = r.to_.length := by omega
  repeat' (first
    | refine then_go ?_
    | refine swp_seq ?_
    | ((refine swp_region (id := 11) ?_) <;> (refine sops_pure (.free rfl rfl) rfl rfl (po_move rfl rfl) ?_) <;> (first | refine sops_pure (.free rfl rfl) rfl rfl (po_field_bx rfl rfl (tyF rfl)) ?_ | refine sops_pure (.free rfl rfl) rfl rfl (po_field rfl rfl (tyF rfl)) ?_) <;> (first | refine sops_pure (.free rfl rfl) rfl rfl (po_load_bx rfl rfl (tyT rfl) rfl rfl) ?_ | refine sops_pure (.free rfl rfl) rfl rfl (po_load rfl rfl (tyT rfl) rfl) ?_) <;> (refine sops_pure (.free rfl rfl) rfl rfl (po_len rfl rfl (by first | exact .t _ | exact .own rfl rfl | exact .nil _ | exact .emp _) (tyS rfl)) ?_) <;> (refine sops_pure (.free rfl rfl) rfl rfl (po_cmp rfl rfl rfl rfl) ?_) <;> (refine sops_nil ?_))
    | ((refine swp_region (id := 15) ?_) <;> (refine sops_pure (.free rfl rfl) rfl rfl (po_assign rfl rfl) ?_) <;> (refine sops_nil ?_))
    | refine swp_ret ?_
    | refine swp_skip ?_
    | refine swp_block ?_
    | refine swp_exit ?_
    | refine block_go ?_
    | refine block_exit ?_
    | refine block_far rfl ?_
    | refine block_ret ?_
    | refine then_ret ?_
    | refine then_exit ?_
    | refine for_ret ?_
    | refine for_exit ?_
    | refine swp_cond_t rfl (by first | assumption | with_reducible rfl | decide | (simp only [decide_eq_true_eq, Bool.not_eq_true', decide_eq_false_iff_not]; omega)) ?_
    | refine swp_cond_f rfl (by first | assumption | with_reducible rfl | decide | (simp only [decide_eq_false_iff_not, Bool.not_eq_false', decide_eq_true_eq]; omega)) ?_
    | refine swp_cond rfl (fun hc => ?_) (fun hc => ?_)
    | refine retq (by first | exact .inr rfl | exact .inl rfl) rfl (.tmp rfl (by first | exact .t _ | exact .own rfl rfl | exact .nil _ | exact .emp _) .nil) ?_)
  refine swp_for (N1 l r a port q tg qu bd ns sv 17) (fun _ => True) r.when_.length (weak_sub (.cons rfl rfl rfl (.cons rfl rfl rfl (.cons rfl rfl rfl (.cons rfl rfl rfl (.cons rfl rfl rfl (.cons rfl rfl rfl (.cons rfl rfl rfl (.cons rfl rfl rfl .nil)))))))) (.cons rfl rfl rfl (.cons rfl rfl rfl (.cons rfl rfl rfl .nil))) .nil) trivial ?_
  intro k hk _
  unfold N1
  by_cases hlt : k < r.when_.length
  · have hf := hfr.ws _ (List.getElem_mem hlt)
    have c1 := p_when r.when_[k] (k2 _ (List.getElem_mem hlt)) q hq (by omega) tg qu bd
    have c2 := when__ r.when_[k] (k2 _ (List.getElem_mem hlt)) hf q hq2 tg qu bd
    generalize whenP q.heads r.when_[k] = X at c1 c2
    have hX : (!(X == X)) = false := by simp
    repeat' (first
      | refine then_go ?_
      | refine swp_seq ?_
      | refine for_next hlt (weak_sub (.cons rfl rfl rfl (.cons rfl rfl rfl (.cons rfl rfl rfl (.cons rfl rfl rfl (.cons rfl rfl rfl (.cons rfl rfl rfl (.cons rfl rfl rfl (.cons rfl rfl rfl .nil)))))))) (.cons rfl rfl rfl (.cons rfl rfl rfl (.cons rfl rfl rfl .nil))) .nil) trivial
      | ((refine swp_region (id := 16) ?_) <;> (refine sops_pure (.free rfl rfl) rfl rfl (po_move rfl rfl) ?_) <;> (first | refine sops_pure (.free rfl rfl) rfl rfl (po_field_bx rfl rfl (tyF rfl)) ?_ | refine sops_pure (.free rfl rfl) rfl rfl (po_field rfl rfl (tyF rfl)) ?_) <;> (first | refine sops_pure (.free rfl rfl) rfl rfl (po_load_bx rfl rfl (tyT rfl) rfl rfl) ?_ | refine sops_pure (.free rfl rfl) rfl rfl (po_load rfl rfl (tyT rfl) rfl) ?_) <;> (refine sops_pure (.free rfl rfl) rfl rfl (po_len rfl rfl (by first | exact .t _ | exact .own rfl rfl | exact .nil _ | exact .emp _) (tyS rfl)) ?_) <;> (first | refine sops_pure (.free rfl rfl) rfl rfl (po_bneq false rfl rfl rfl (by kernel_rfl) hX) ?_ | refine sops_pure (.free rfl rfl) rfl rfl (po_cmp rfl rfl rfl rfl) ?_) <;> (refine sops_nil ?_))
      | ((refine swp_draw_all (id := 18) mixed (by kernel_rfl) (by kernel_rfl) ?_) <;> (first | refine sdraw_pure (.free rfl rfl) rfl (po_field_bx rfl rfl (tyF rfl)) ?_ | refine sdraw_pure (.free rfl rfl) rfl (po_field rfl rfl (tyF rfl)) ?_) <;> (first | refine sdraw_pure (.free rfl rfl) rfl (po_load_bx rfl rfl (tyT rfl) rfl rfl) ?_ | refine sdraw_pure (.free rfl rfl) rfl (po_load rfl rfl (tyT rfl) rfl) ?_) <;> (refine sdraw_pure (.free rfl rfl) rfl (po_move rfl rfl) ?_) <;> (refine sdraw_pure (.free rfl rfl) rfl (po_index rfl rfl (by first | exact .t _ | exact .own rfl rfl | exact .nil _ | exact .emp _) rfl (tyS rfl) (by first | rfl | omega) (by first | rfl | assumption | exact map_at (by first | assumption | omega))) ?_) <;> (first | refine sdraw_pure (.free rfl rfl) rfl (po_load_bx_agg rfl rfl (tyT rfl) rfl (.cons (by first | exact .t _ | exact .own rfl rfl | exact .nil _ | exact .emp _) (.cons (by first | exact .t _ | exact .own rfl rfl | exact .nil _ | exact .emp _) .nil)) rfl) ?_ | refine sdraw_pure (.free rfl rfl) rfl (po_load_agg rfl rfl (tyT rfl) rfl rfl) ?_) <;> (first | refine sdraw_pure (.free rfl rfl) rfl (po_load_bx_agg rfl rfl (tyT rfl) rfl (.cons (by first | exact .t _ | exact .own rfl rfl | exact .nil _ | exact .emp _) (.cons (by first | exact .t _ | exact .own rfl rfl | exact .nil _ | exact .emp _) (.cons (by first | exact .t _ | exact .own rfl rfl | exact .nil _ | exact .emp _) (.cons (by first | exact .t _ | exact .own rfl rfl | exact .nil _ | exact .emp _) (.cons (by first | exact .t _ | exact .own rfl rfl | exact .nil _ | exact .emp _) (.cons (by first | exact .t _ | exact .own rfl rfl | exact .nil _ | exact .emp _) (.cons (by first | exact .t _ | exact .own rfl rfl | exact .nil _ | exact .emp _) .nil))))))) rfl) ?_ | refine sdraw_pure (.free rfl rfl) rfl (po_load_agg rfl rfl (tyT rfl) rfl rfl) ?_) <;> (first | refine sdraw_pure (.free rfl rfl) rfl (po_call (c1) rfl (.cons rfl (by first | exact .t _ | exact .own rfl rfl | exact .nil _ | exact .emp _) (.cons rfl (by first | exact .t _ | exact .own rfl rfl | exact .nil _ | exact .emp _) .nil))) ?_ | refine sdraw_pure (.free rfl rfl) rfl (po_call (c2) rfl (.cons rfl (by first | exact .t _ | exact .own rfl rfl | exact .nil _ | exact .emp _) (.cons rfl (by first | exact .t _ | exact .own rfl rfl | exact .nil _ | exact .emp _) .nil))) ?_) <;> (first | refine sdraw_pure (.free rfl rfl) rfl (po_field_bx rfl rfl (tyF rfl)) ?_ | refine sdraw_pure (.free rfl rfl) rfl (po_field rfl rfl (tyF rfl)) ?_) <;> (first | refine sdraw_pure (.free rfl rfl) rfl (po_load_bx rfl rfl (tyT rfl) rfl rfl) ?_ | refine sdraw_pure (.free rfl rfl) rfl (po_load rfl rfl (tyT rfl) rfl) ?_) <;> (refine sdraw_pure (.free rfl rfl) rfl (po_move rfl rfl) ?_) <;> (refine sdraw_pure (.free rfl rfl) rfl (po_index rfl rfl (by first | exact .t _ | exact .own rfl rfl | exact .nil _ | exact .emp _) rfl (tyS rfl) (by first | rfl | omega) (by first | rfl | assumption | exact map_at (by first | assumption | omega))) ?_) <;> (first | refine sdraw_pure (.free rfl rfl) rfl (po_load_bx_agg rfl rfl (tyT rfl) rfl (.cons (by first | exact .t _ | exact .own rfl rfl | exact .nil _ | exact .emp _) (.cons (by first | exact .t _ | exact .own rfl rfl | exact .nil _ | exact .emp _) .nil)) rfl) ?_ | refine sdraw_pure (.free rfl rfl) rfl (po_load_agg rfl rfl (tyT rfl) rfl rfl) ?_) <;> (first | refine sdraw_pure (.free rfl rfl) rfl (po_load_bx_agg rfl rfl (tyT rfl) rfl (.cons (by first | exact .t _ | exact .own rfl rfl | exact .nil _ | exact .emp _) (.cons (by first | exact .t _ | exact .own rfl rfl | exact .nil _ | exact .emp _) (.cons (by first | exact .t _ | exact .own rfl rfl | exact .nil _ | exact .emp _) (.cons (by first | exact .t _ | exact .own rfl rfl | exact .nil _ | exact .emp _) (.cons (by first | exact .t _ | exact .own rfl rfl | exact .nil _ | exact .emp _) (.cons (by first | exact .t _ | exact .own rfl rfl | exact .nil _ | exact .emp _) (.cons (by first | exact .t _ | exact .own rfl rfl | exact .nil _ | exact .emp _) .nil))))))) rfl) ?_ | refine sdraw_pure (.free rfl rfl) rfl (po_load_agg rfl rfl (tyT rfl) rfl rfl) ?_) <;> (first | refine sdraw_pure (.free rfl rfl) rfl (po_call (c1) rfl (.cons rfl (by first | exact .t _ | exact .own rfl rfl | exact .nil _ | exact .emp _) (.cons rfl (by first | exact .t _ | exact .own rfl rfl | exact .nil _ | exact .emp _) .nil))) ?_ | refine sdraw_pure (.free rfl rfl) rfl (po_call (c2) rfl (.cons rfl (by first | exact .t _ | exact .own rfl rfl | exact .nil _ | exact .emp _) (.cons rfl (by first | exact .t _ | exact .own rfl rfl | exact .nil _ | exact .emp _) .nil))) ?_) <;> (first | refine sdraw_pure (.free rfl rfl) rfl (po_bneq false rfl rfl rfl (by kernel_rfl) hX) ?_ | refine sdraw_pure (.free rfl rfl) rfl (po_boolq rfl rfl rfl (by kernel_rfl) (by first | exact .inl rfl | exact .inr rfl)) ?_) <;> (refine sdraw_nil ?_) <;> (refine sops_nil ?_))
      | ((refine swp_region (id := 17) ?_) <;> (refine sops_pure (.free rfl rfl) rfl rfl (po_move rfl rfl) ?_) <;> (first | refine sops_pure (.free rfl rfl) rfl rfl (po_inc rfl rfl rfl (by omega)) ?_ | refine sops_pure (.free rfl rfl) rfl rfl (po_arith rfl rfl rfl (ar_add (by first | rfl | (refine wrap_i64 ?_; omega)) rfl)) ?_) <;> (refine sops_pure (.free rfl rfl) rfl rfl (po_assign rfl rfl) ?_) <;> (refine sops_nil ?_))
      | refine swp_ret ?_
      | refine swp_skip ?_
      | refine swp_block ?_
      | refine swp_exit ?_
      | refine block_go ?_
      | refine block_exit ?_
      | refine block_far rfl ?_
      | refine block_ret ?_
      | refine then_ret ?_
      | refine then_exit ?_
      | refine for_ret ?_
      | refine for_exit ?_
      | refine swp_cond_t rfl (by first | assumption | with_reducible rfl | decide | (simp only [decide_eq_true_eq, Bool.not_eq_true', decide_eq_false_iff_not]; omega)) ?_
      | refine swp_cond_f rfl (by first | assumption | with_reducible rfl | decide | (simp only [decide_eq_false_iff_not, Bool.not_eq_false', decide_eq_true_eq]; omega)) ?_
      | refine swp_cond rfl (fun hc => ?_) (fun hc => ?_)
      | refine retq (by first | exact .inr rfl | exact .inl rfl) rfl (.tmp rfl (by first | exact .t _ | exact .own rfl rfl | exact .nil _ | exact .emp _) .nil) ?_)
  obtain rfl : k = r.when_.length := by omega
  have hany : l.any longPol = false := by
    unfold long13 at h0
    simp only [Bool.or_eq_false_iff] at h0
    exact h0.2
  have hof := p_of l hl hany (by omega) ns sv
  repeat' (first
    | refine then_go ?_
    | refine swp_seq ?_
    | ((refine swp_region (id := 16) ?_) <;> (refine sops_pure (.free rfl rfl) rfl rfl (po_move rfl rfl) ?_) <;> (first | refine sops_pure (.free rfl rfl) rfl rfl (po_field_bx rfl rfl (tyF rfl)) ?_ | refine sops_pure (.free rfl rfl) rfl rfl (po_field rfl rfl (tyF rfl)) ?_) <;> (first | refine sops_pure (.free rfl rfl) rfl rfl (po_load_bx rfl rfl (tyT rfl) rfl rfl) ?_ | refine sops_pure (.free rfl rfl) rfl rfl (po_load rfl rfl (tyT rfl) rfl) ?_) <;> (refine sops_pure (.free rfl rfl) rfl rfl (po_len rfl rfl (by first | exact .t _ | exact .own rfl rfl | exact .nil _ | exact .emp _) (tyS rfl)) ?_) <;> (refine sops_pure (.free rfl rfl) rfl rfl (po_cmp rfl rfl rfl rfl) ?_) <;> (refine sops_nil ?_))
    | ((refine swp_region (id := 20) ?_) <;> (refine sops_pure (.free rfl rfl) rfl rfl (po_move rfl rfl) ?_) <;> (refine sops_pure (.free rfl rfl) rfl rfl (po_move rfl rfl) ?_) <;> (refine sops_pure (.free rfl rfl) rfl rfl (po_move rfl rfl) ?_) <;> (refine sops_pure (.free rfl rfl) rfl rfl (po_call (hof) rfl (.cons rfl (by first | exact .t _ | exact .own rfl rfl | exact .nil _ | exact .emp _) (.cons rfl (by first | exact .t _ | exact .own rfl rfl | exact .nil _ | exact .emp _) (.cons rfl (by first | exact .t _ | exact .own rfl rfl | exact .nil _ | exact .emp _) .nil)))) ?_) <;> (refine sops_pure (.free rfl rfl) rfl rfl (po_assign rfl rfl) ?_) <;> (refine sops_nil ?_))
    | ((refine swp_region (id := 21) ?_) <;> (refine sops_pure (.free rfl rfl) rfl rfl (po_assign rfl rfl) ?_) <;> (refine sops_nil ?_))
    | ((refine swp_region (id := 22) ?_) <;> (refine sops_pure (.free rfl rfl) rfl rfl (po_assign rfl rfl) ?_) <;> (refine sops_nil ?_))
    | refine swp_ret ?_
    | refine swp_skip ?_
    | refine swp_block ?_
    | refine swp_exit ?_
    | refine block_go ?_
    | refine block_exit ?_
    | refine block_far rfl ?_
    | refine block_ret ?_
    | refine then_ret ?_
    | refine then_exit ?_
    | refine for_ret ?_
    | refine for_exit ?_
    | refine swp_cond_t rfl (by first | assumption | with_reducible rfl | decide | (simp only [decide_eq_true_eq, Bool.not_eq_true', decide_eq_false_iff_not]; omega)) ?_
    | refine swp_cond_f rfl (by first | assumption | with_reducible rfl | decide | (simp only [decide_eq_false_iff_not, Bool.not_eq_false', decide_eq_true_eq]; omega)) ?_
    | refine swp_cond rfl (fun hc => ?_) (fun hc => ?_)
    | refine retq (by first | exact .inr rfl | exact .inl rfl) rfl (.tmp rfl (by first | exact .t _ | exact .own rfl rfl | exact .nil _ | exact .emp _) .nil) ?_)
  refine swp_for (N4 l ns sv) (fun _ => True) l.length (weak_sub (.cons rfl rfl rfl (.cons rfl rfl rfl (.cons rfl rfl rfl (.cons rfl rfl rfl (.cons rfl rfl rfl (.cons rfl rfl rfl .nil)))))) .nil .nil) trivial ?_
  intro k hk _
  unfold N4
  have hml : ((l.filter (holdsP ns sv)).map polT).length = (l.filter (holdsP ns sv)).length := List.length_map _
  by_cases hlt : k < l.length
  · have c1 := p_holds l[k] (hl _ (List.getElem_mem hlt)) ns sv
    have c2 := holds_ l[k] ns sv
    have hs := same_ l[k] (hfp _ (List.getElem_mem hlt))
    have hfl2 := List.length_filter_le (holdsP ns sv) (l.take k)
    rw [List.length_take] at hfl2
    cases hX : holdsP ns sv l[k] with
    | true =>
      rw [hX] at c1 c2
      have hat := filter_at hlt hX
      have hyes := filter_yes hlt hX
      have hb : ((l.take k).filter (holdsP ns sv)).length < (l.filter (holdsP ns sv)).length := (List.getElem?_eq_some_iff.1 hat).1
      have hidx : ((l.filter (holdsP ns sv)).map polT)[((l.take k).filter (holdsP ns sv)).length]? = some (polT l[k]) := by rw [List.getElem?_map, hat]; rfl
      have hnx : ((l.take (k + 1)).filter (holdsP ns sv)).length = ((l.take k).filter (holdsP ns sv)).length + 1 := by rw [hyes, List.length_append]; rfl
      generalize ((l.take k).filter (holdsP ns sv)).length = n at *
      repeat' (first
        | refine then_go ?_
        | refine swp_seq ?_
        | refine for_next hlt (weak_sub (.cons rfl (by first | rfl | (rw [hnx])) rfl (.cons rfl (by first | rfl | (rw [hnx])) rfl (.cons rfl (by first | rfl | (rw [hnx])) rfl (.cons rfl (by first | rfl | (rw [hnx])) rfl (.cons rfl (by first | rfl | (rw [hnx])) rfl (.cons rfl (by first | rfl | (rw [hnx])) rfl .nil)))))) .nil .nil) trivial
        | ((refine swp_region (id := 23) ?_) <;> (refine sops_pure (.free rfl rfl) rfl rfl (po_move rfl rfl) ?_) <;> (refine sops_pure (.free rfl rfl) rfl rfl (po_move rfl rfl) ?_) <;> (refine sops_pure (.free rfl rfl) rfl rfl (po_len rfl rfl (by first | exact .t _ | exact .own rfl rfl | exact .nil _ | exact .emp _) (tyS rfl)) ?_) <;> (first | refine sops_pure (.free rfl rfl) rfl rfl (po_bneq (i := true) (j := true) false rfl rfl rfl (by kernel_rfl) rfl) ?_ | refine sops_pure (.free rfl rfl) rfl rfl (po_cmp rfl rfl rfl rfl) ?_) <;> (refine sops_nil ?_))
        | ((refine swp_region (id := 25) ?_) <;> (refine sops_pure (.free rfl rfl) rfl rfl (po_move rfl rfl) ?_) <;> (refine sops_pure (.free rfl rfl) rfl rfl (po_move rfl rfl) ?_) <;> (refine sops_pure (.free rfl rfl) rfl rfl (po_index rfl rfl (by first | exact .t _ | exact .own rfl rfl | exact .nil _ | exact .emp _) rfl (tyS rfl) (by first | rfl | omega) (by first | rfl | assumption | exact map_at (by first | assumption | omega))) ?_) <;> (first | refine sops_pure (.free rfl rfl) rfl rfl (po_load_bx_agg rfl rfl (tyT rfl) rfl (.cons (by first | exact .t _ | exact .own rfl rfl | exact .nil _ | exact .emp _) (.cons (by first | exact .t _ | exact .own rfl rfl | exact .nil _ | exact .emp _) (.cons (by first | exact .t _ | exact .own rfl rfl | exact .nil _ | exact .emp _) (.cons (by first | exact .t _ | exact .own rfl rfl | exact .nil _ | exact .emp _) (.cons (by first | exact .t _ | exact .own rfl rfl | exact .nil _ | exact .emp _) .nil))))) rfl) ?_ | refine sops_pure (.free rfl rfl) rfl rfl (po_load_agg rfl rfl (tyT rfl) rfl rfl) ?_) <;> (refine sops_pure (.free rfl rfl) rfl rfl (po_move rfl rfl) ?_) <;> (refine sops_pure (.free rfl rfl) rfl rfl (po_move rfl rfl) ?_) <;> (first | refine sops_pure (.free rfl rfl) rfl rfl (po_call (c1) rfl (.cons rfl (by first | exact .t _ | exact .own rfl rfl | exact .nil _ | exact .emp _) (.cons rfl (by first | exact .t _ | exact .own rfl rfl | exact .nil _ | exact .emp _) (.cons rfl (by first | exact .t _ | exact .own rfl rfl | exact .nil _ | exact .emp _) .nil)))) ?_ | refine sops_pure (.free rfl rfl) rfl rfl (po_call (c2) rfl (.cons rfl (by first | exact .t _ | exact .own rfl rfl | exact .nil _ | exact .emp _) (.cons rfl (by first | exact .t _ | exact .own rfl rfl | exact .nil _ | exact .emp _) (.cons rfl (by first | exact .t _ | exact .own rfl rfl | exact .nil _ | exact .emp _) .nil)))) ?_ | refine sops_pure (.free rfl rfl) rfl rfl (po_call (hs) rfl (.cons rfl (by first | exact .t _ | exact .own rfl rfl | exact .nil _ | exact .emp _) (.cons rfl (by first | exact .t _ | exact .own rfl rfl | exact .nil _ | exact .emp _) (.cons rfl (by first | exact .t _ | exact .own rfl rfl | exact .nil _ | exact .emp _) .nil)))) ?_) <;> (refine sops_pure (.free rfl rfl) rfl rfl (po_assign rfl rfl) ?_) <;> (refine sops_nil ?_))
        | ((refine swp_region (id := 26) ?_) <;> (refine sops_pure (.free rfl rfl) rfl rfl (po_move rfl rfl) ?_) <;> (refine sops_pure (.free rfl rfl) rfl rfl (po_move rfl rfl) ?_) <;> (refine sops_pure (.free rfl rfl) rfl rfl (po_index rfl rfl (by first | exact .t _ | exact .own rfl rfl | exact .nil _ | exact .emp _) rfl (tyS rfl) (by first | rfl | omega) (by first | rfl | assumption | exact map_at (by first | assumption | omega))) ?_) <;> (first | refine sops_pure (.free rfl rfl) rfl rfl (po_load_bx_agg rfl rfl (tyT rfl) rfl (.cons (by first | exact .t _ | exact .own rfl rfl | exact .nil _ | exact .emp _) (.cons (by first | exact .t _ | exact .own rfl rfl | exact .nil _ | exact .emp _) (.cons (by first | exact .t _ | exact .own rfl rfl | exact .nil _ | exact .emp _) (.cons (by first | exact .t _ | exact .own rfl rfl | exact .nil _ | exact .emp _) (.cons (by first | exact .t _ | exact .own rfl rfl | exact .nil _ | exact .emp _) .nil))))) rfl) ?_ | refine sops_pure (.free rfl rfl) rfl rfl (po_load_agg rfl rfl (tyT rfl) rfl rfl) ?_) <;> (refine sops_pure (.free rfl rfl) rfl rfl (po_move rfl rfl) ?_) <;> (refine sops_pure (.free rfl rfl) rfl rfl (po_move rfl rfl) ?_) <;> (first | refine sops_pure (.free rfl rfl) rfl rfl (po_call (c1) rfl (.cons rfl (by first | exact .t _ | exact .own rfl rfl | exact .nil _ | exact .emp _) (.cons rfl (by first | exact .t _ | exact .own rfl rfl | exact .nil _ | exact .emp _) (.cons rfl (by first | exact .t _ | exact .own rfl rfl | exact .nil _ | exact .emp _) .nil)))) ?_ | refine sops_pure (.free rfl rfl) rfl rfl (po_call (c2) rfl (.cons rfl (by first | exact .t _ | exact .own rfl rfl | exact .nil _ | exact .emp _) (.cons rfl (by first | exact .t _ | exact .own rfl rfl | exact .nil _ | exact .emp _) (.cons rfl (by first | exact .t _ | exact .own rfl rfl | exact .nil _ | exact .emp _) .nil)))) ?_ | refine sops_pure (.free rfl rfl) rfl rfl (po_call (hs) rfl (.cons rfl (by first | exact .t _ | exact .own rfl rfl | exact .nil _ | exact .emp _) (.cons rfl (by first | exact .t _ | exact .own rfl rfl | exact .nil _ | exact .emp _) (.cons rfl (by first | exact .t _ | exact .own rfl rfl | exact .nil _ | exact .emp _) .nil)))) ?_) <;> (refine sops_pure (.free rfl rfl) rfl rfl (po_move rfl rfl) ?_) <;> (first | refine sops_pure (.free rfl rfl) rfl rfl (po_bneq (i := true) (j := true) false rfl rfl rfl (by kernel_rfl) rfl) ?_ | refine sops_pure (.free rfl rfl) rfl rfl (po_boolq rfl rfl rfl (by kernel_rfl) (by first | exact .inl rfl | exact .inr rfl)) ?_) <;> (refine sops_nil ?_))
        | ((refine swp_region (id := 28) ?_) <;> (refine sops_pure (.free rfl rfl) rfl rfl (po_move rfl rfl) ?_) <;> (refine sops_nil ?_))
        | ((refine swp_draw_all (id := 29) mixed (by kernel_rfl) (by kernel_rfl) ?_) <;> (refine sdraw_pure (.free rfl rfl) rfl (po_move rfl rfl) ?_) <;> (refine sdraw_pure (.free rfl rfl) rfl (po_move rfl rfl) ?_) <;> (refine sdraw_pure (.free rfl rfl) rfl (po_len rfl rfl (by first | exact .t _ | exact .own rfl rfl | exact .nil _ | exact .emp _) (tyS rfl)) ?_) <;> (first | refine sdraw_pure (.free rfl rfl) rfl (po_bneq (i := true) (j := true) false rfl rfl rfl (by kernel_rfl) rfl) ?_ | refine sdraw_pure (.free rfl rfl) rfl (po_cmp rfl rfl rfl rfl) ?_) <;> (refine sdraw_pure (.free rfl rfl) rfl (po_move rfl rfl) ?_) <;> (first | refine sdraw_pure (.yes rfl rfl rfl (by first | assumption | with_reducible rfl | decide | (simp only [decide_eq_true_eq, decide_eq_false_iff_not]; omega))) rfl (po_move rfl rfl) ?_ | refine sdraw_skip (.no0 rfl rfl rfl (by first | assumption | with_reducible rfl | decide | (simp only [decide_eq_true_eq, decide_eq_false_iff_not]; omega))) rfl ?_ | ((refine sdraw_split rfl rfl rfl (fun hc => ?_) (fun hc => ?_)) <;> (first | refine sdraw_pure (.yes rfl rfl rfl (by first | assumption | with_reducible rfl | decide | (simp only [decide_eq_true_eq, decide_eq_false_iff_not]; omega))) rfl (po_move rfl rfl) ?_ | refine sdraw_skip (.no0 rfl rfl rfl (by first | assumption | with_reducible rfl | decide | (simp only [decide_eq_true_eq, decide_eq_false_iff_not]; omega))) rfl ?_))) <;> (first | refine sdraw_pure (.yes rfl rfl rfl (by first | assumption | with_reducible rfl | decide | (simp only [decide_eq_true_eq, decide_eq_false_iff_not]; omega))) rfl (po_move rfl rfl) ?_ | refine sdraw_skip (.no0 rfl rfl rfl (by first | assumption | with_reducible rfl | decide | (simp only [decide_eq_true_eq, decide_eq_false_iff_not]; omega))) rfl ?_) <;> (first | refine sdraw_pure (.yes rfl rfl rfl (by first | assumption | with_reducible rfl | decide | (simp only [decide_eq_true_eq, decide_eq_false_iff_not]; omega))) rfl (po_index rfl rfl (by first | exact .t _ | exact .own rfl rfl | exact .nil _ | exact .emp _) rfl (tyS rfl) (by first | rfl | omega) (by first | rfl | assumption | exact map_at (by first | assumption | omega))) ?_ | refine sdraw_skip (.no0 rfl rfl rfl (by first | assumption | with_reducible rfl | decide | (simp only [decide_eq_true_eq, decide_eq_false_iff_not]; omega))) rfl ?_) <;> (first | refine sdraw_pure (.yes rfl rfl rfl (by first | assumption | with_reducible rfl | decide | (simp only [decide_eq_true_eq, decide_eq_false_iff_not]; omega))) rfl (po_load_bx_agg rfl rfl (tyT rfl) rfl (.cons (by first | exact .t _ | exact .own rfl rfl | exact .nil _ | exact .emp _) (.cons (by first | exact .t _ | exact .own rfl rfl | exact .nil _ | exact .emp _) (.cons (by first | exact .t _ | exact .own rfl rfl | exact .nil _ | exact .emp _) (.cons (by first | exact .t _ | exact .own rfl rfl | exact .nil _ | exact .emp _) (.cons (by first | exact .t _ | exact .own rfl rfl | exact .nil _ | exact .emp _) .nil))))) rfl) ?_ | refine sdraw_pure (.yes rfl rfl rfl (by first | assumption | with_reducible rfl | decide | (simp only [decide_eq_true_eq, decide_eq_false_iff_not]; omega))) rfl (po_load_agg rfl rfl (tyT rfl) rfl rfl) ?_ | refine sdraw_skip (.no0 rfl rfl rfl (by first | assumption | with_reducible rfl | decide | (simp only [decide_eq_true_eq, decide_eq_false_iff_not]; omega))) rfl ?_) <;> (first | refine sdraw_pure (.yes rfl rfl rfl (by first | assumption | with_reducible rfl | decide | (simp only [decide_eq_true_eq, decide_eq_false_iff_not]; omega))) rfl (po_move rfl rfl) ?_ | refine sdraw_skip (.no0 rfl rfl rfl (by first | assumption | with_reducible rfl | decide | (simp only [decide_eq_true_eq, decide_eq_false_iff_not]; omega))) rfl ?_) <;> (first | refine sdraw_pure (.yes rfl rfl rfl (by first | assumption | with_reducible rfl | decide | (simp only [decide_eq_true_eq, decide_eq_false_iff_not]; omega))) rfl (po_move rfl rfl) ?_ | refine sdraw_skip (.no0 rfl rfl rfl (by first | assumption | with_reducible rfl | decide | (simp only [decide_eq_true_eq, decide_eq_false_iff_not]; omega))) rfl ?_) <;> (first | refine sdraw_pure (.yes rfl rfl rfl (by first | assumption | with_reducible rfl | decide | (simp only [decide_eq_true_eq, decide_eq_false_iff_not]; omega))) rfl (po_index rfl rfl (by first | exact .t _ | exact .own rfl rfl | exact .nil _ | exact .emp _) rfl (tyS rfl) (by first | rfl | omega) (by first | rfl | assumption | exact map_at (by first | assumption | omega))) ?_ | refine sdraw_skip (.no0 rfl rfl rfl (by first | assumption | with_reducible rfl | decide | (simp only [decide_eq_true_eq, decide_eq_false_iff_not]; omega))) rfl ?_) <;> (first | refine sdraw_pure (.yes rfl rfl rfl (by first | assumption | with_reducible rfl | decide | (simp only [decide_eq_true_eq, decide_eq_false_iff_not]; omega))) rfl (po_load_bx_agg rfl rfl (tyT rfl) rfl (.cons (by first | exact .t _ | exact .own rfl rfl | exact .nil _ | exact .emp _) (.cons (by first | exact .t _ | exact .own rfl rfl | exact .nil _ | exact .emp _) (.cons (by first | exact .t _ | exact .own rfl rfl | exact .nil _ | exact .emp _) (.cons (by first | exact .t _ | exact .own rfl rfl | exact .nil _ | exact .emp _) (.cons (by first | exact .t _ | exact .own rfl rfl | exact .nil _ | exact .emp _) .nil))))) rfl) ?_ | refine sdraw_pure (.yes rfl rfl rfl (by first | assumption | with_reducible rfl | decide | (simp only [decide_eq_true_eq, decide_eq_false_iff_not]; omega))) rfl (po_load_agg rfl rfl (tyT rfl) rfl rfl) ?_ | refine sdraw_skip (.no0 rfl rfl rfl (by first | assumption | with_reducible rfl | decide | (simp only [decide_eq_true_eq, decide_eq_false_iff_not]; omega))) rfl ?_) <;> (first | refine sdraw_pure (.yes rfl rfl rfl (by first | assumption | with_reducible rfl | decide | (simp only [decide_eq_true_eq, decide_eq_false_iff_not]; omega))) rfl (po_call (c1) rfl (.cons rfl (by first | exact .t _ | exact .own rfl rfl | exact .nil _ | exact .emp _) (.cons rfl (by first | exact .t _ | exact .own rfl rfl | exact .nil _ | exact .emp _) .nil))) ?_ | refine sdraw_pure (.yes rfl rfl rfl (by first | assumption | with_reducible rfl | decide | (simp only [decide_eq_true_eq, decide_eq_false_iff_not]; omega))) rfl (po_call (c2) rfl (.cons rfl (by first | exact .t _ | exact .own rfl rfl | exact .nil _ | exact .emp _) (.cons rfl (by first | exact .t _ | exact .own rfl rfl | exact .nil _ | exact .emp _) .nil))) ?_ | refine sdraw_pure (.yes rfl rfl rfl (by first | assumption | with_reducible rfl | decide | (simp only [decide_eq_true_eq, decide_eq_false_iff_not]; omega))) rfl (po_call (hs) rfl (.cons rfl (by first | exact .t _ | exact .own rfl rfl | exact .nil _ | exact .emp _) (.cons rfl (by first | exact .t _ | exact .own rfl rfl | exact .nil _ | exact .emp _) .nil))) ?_ | refine sdraw_skip (.no0 rfl rfl rfl (by first | assumption | with_reducible rfl | decide | (simp only [decide_eq_true_eq, decide_eq_false_iff_not]; omega))) rfl ?_) <;> (first | refine sdraw_pure (.yes rfl rfl rfl (by first | assumption | with_reducible rfl | decide | (simp only [decide_eq_true_eq, decide_eq_false_iff_not]; omega))) rfl (po_not rfl rfl) ?_ | refine sdraw_skip (.no0 rfl rfl rfl (by first | assumption | with_reducible rfl | decide | (simp only [decide_eq_true_eq, decide_eq_false_iff_not]; omega))) rfl ?_) <;> (first | refine sdraw_pure (.free rfl rfl) rfl (po_pick_t rfl rfl (by first | assumption | with_reducible rfl | decide | (simp only [decide_eq_true_eq, decide_eq_false_iff_not]; omega)) rfl) ?_ | refine sdraw_pure (.free rfl rfl) rfl (po_pick_f rfl rfl (by first | assumption | with_reducible rfl | decide | (simp only [decide_eq_true_eq, decide_eq_false_iff_not]; omega)) rfl) ?_) <;> (refine sdraw_nil ?_) <;> (refine sops_nil ?_))
        | ((refine swp_region (id := 31) ?_) <;> (refine sops_pure (.free rfl rfl) rfl rfl (po_move rfl rfl) ?_) <;> (first | refine sops_pure (.free rfl rfl) rfl rfl (po_inc rfl rfl rfl (by omega)) ?_ | refine sops_pure (.free rfl rfl) rfl rfl (po_arith rfl rfl rfl (ar_add (by first | rfl | (refine wrap_i64 ?_; omega)) rfl)) ?_) <;> (refine sops_pure (.free rfl rfl) rfl rfl (po_assign rfl rfl) ?_) <;> (refine sops_nil ?_))
        | ((refine swp_region (id := 24) ?_) <;> (refine sops_pure (.free rfl rfl) rfl rfl (po_move rfl rfl) ?_) <;> (first | refine sops_pure (.free rfl rfl) rfl rfl (po_inc rfl rfl rfl (by omega)) ?_ | refine sops_pure (.free rfl rfl) rfl rfl (po_arith rfl rfl rfl (ar_add (by first | rfl | (refine wrap_i64 ?_; omega)) rfl)) ?_) <;> (refine sops_pure (.free rfl rfl) rfl rfl (po_assign rfl rfl) ?_) <;> (refine sops_nil ?_))
        | refine swp_ret ?_
        | refine swp_skip ?_
        | refine swp_block ?_
        | refine swp_exit ?_
        | refine block_go ?_
        | refine block_exit ?_
        | refine block_far rfl ?_
        | refine block_ret ?_
        | refine then_ret ?_
        | refine then_exit ?_
        | refine for_ret ?_
        | refine for_exit ?_
        | refine swp_cond_t rfl (by first | assumption | with_reducible rfl | decide | (simp only [decide_eq_true_eq, Bool.not_eq_true', decide_eq_false_iff_not]; omega)) ?_
        | refine swp_cond_f rfl (by first | assumption | with_reducible rfl | decide | (simp only [decide_eq_false_iff_not, Bool.not_eq_false', decide_eq_true_eq]; omega)) ?_
        | refine swp_cond rfl (fun hc => ?_) (fun hc => ?_)
        | refine retq (by first | exact .inr rfl | exact .inl rfl) rfl (.tmp rfl (by first | exact .t _ | exact .own rfl rfl | exact .nil _ | exact .emp _) .nil) ?_)
    | false =>
      rw [hX] at c1 c2
      have hno := filter_no hlt hX
      repeat' (first
        | refine then_go ?_
        | refine swp_seq ?_
        | refine for_next hlt (weak_sub (.cons rfl (by first | rfl | (rw [hno])) rfl (.cons rfl (by first | rfl | (rw [hno])) rfl (.cons rfl (by first | rfl | (rw [hno])) rfl (.cons rfl (by first | rfl | (rw [hno])) rfl (.cons rfl (by first | rfl | (rw [hno])) rfl (.cons rfl (by first | rfl | (rw [hno])) rfl .nil)))))) .nil .nil) trivial
        | ((refine swp_region (id := 23) ?_) <;> (refine sops_pure (.free rfl rfl) rfl rfl (po_move rfl rfl) ?_) <;> (refine sops_pure (.free rfl rfl) rfl rfl (po_move rfl rfl) ?_) <;> (refine sops_pure (.free rfl rfl) rfl rfl (po_len rfl rfl (by first | exact .t _ | exact .own rfl rfl | exact .nil _ | exact .emp _) (tyS rfl)) ?_) <;> (first | refine sops_pure (.free rfl rfl) rfl rfl (po_bneq (i := false) (j := false) false rfl rfl rfl (by kernel_rfl) rfl) ?_ | refine sops_pure (.free rfl rfl) rfl rfl (po_cmp rfl rfl rfl rfl) ?_) <;> (refine sops_nil ?_))
        | ((refine swp_region (id := 25) ?_) <;> (refine sops_pure (.free rfl rfl) rfl rfl (po_move rfl rfl) ?_) <;> (refine sops_pure (.free rfl rfl) rfl rfl (po_move rfl rfl) ?_) <;> (refine sops_pure (.free rfl rfl) rfl rfl (po_index rfl rfl (by first | exact .t _ | exact .own rfl rfl | exact .nil _ | exact .emp _) rfl (tyS rfl) (by first | rfl | omega) (by first | rfl | assumption | exact map_at (by first | assumption | omega))) ?_) <;> (first | refine sops_pure (.free rfl rfl) rfl rfl (po_load_bx_agg rfl rfl (tyT rfl) rfl (.cons (by first | exact .t _ | exact .own rfl rfl | exact .nil _ | exact .emp _) (.cons (by first | exact .t _ | exact .own rfl rfl | exact .nil _ | exact .emp _) (.cons (by first | exact .t _ | exact .own rfl rfl | exact .nil _ | exact .emp _) (.cons (by first | exact .t _ | exact .own rfl rfl | exact .nil _ | exact .emp _) (.cons (by first | exact .t _ | exact .own rfl rfl | exact .nil _ | exact .emp _) .nil))))) rfl) ?_ | refine sops_pure (.free rfl rfl) rfl rfl (po_load_agg rfl rfl (tyT rfl) rfl rfl) ?_) <;> (refine sops_pure (.free rfl rfl) rfl rfl (po_move rfl rfl) ?_) <;> (refine sops_pure (.free rfl rfl) rfl rfl (po_move rfl rfl) ?_) <;> (first | refine sops_pure (.free rfl rfl) rfl rfl (po_call (c1) rfl (.cons rfl (by first | exact .t _ | exact .own rfl rfl | exact .nil _ | exact .emp _) (.cons rfl (by first | exact .t _ | exact .own rfl rfl | exact .nil _ | exact .emp _) (.cons rfl (by first | exact .t _ | exact .own rfl rfl | exact .nil _ | exact .emp _) .nil)))) ?_ | refine sops_pure (.free rfl rfl) rfl rfl (po_call (c2) rfl (.cons rfl (by first | exact .t _ | exact .own rfl rfl | exact .nil _ | exact .emp _) (.cons rfl (by first | exact .t _ | exact .own rfl rfl | exact .nil _ | exact .emp _) (.cons rfl (by first | exact .t _ | exact .own rfl rfl | exact .nil _ | exact .emp _) .nil)))) ?_) <;> (refine sops_pure (.free rfl rfl) rfl rfl (po_assign rfl rfl) ?_) <;> (refine sops_nil ?_))
        | ((refine swp_region (id := 26) ?_) <;> (refine sops_pure (.free rfl rfl) rfl rfl (po_move rfl rfl) ?_) <;> (refine sops_pure (.free rfl rfl) rfl rfl (po_move rfl rfl) ?_) <;> (refine sops_pure (.free rfl rfl) rfl rfl (po_index rfl rfl (by first | exact .t _ | exact .own rfl rfl | exact .nil _ | exact .emp _) rfl (tyS rfl) (by first | rfl | omega) (by first | rfl | assumption | exact map_at (by first | assumption | omega))) ?_) <;> (first | refine sops_pure (.free rfl rfl) rfl rfl (po_load_bx_agg rfl rfl (tyT rfl) rfl (.cons (by first | exact .t _ | exact .own rfl rfl | exact .nil _ | exact .emp _) (.cons (by first | exact .t _ | exact .own rfl rfl | exact .nil _ | exact .emp _) (.cons (by first | exact .t _ | exact .own rfl rfl | exact .nil _ | exact .emp _) (.cons (by first | exact .t _ | exact .own rfl rfl | exact .nil _ | exact .emp _) (.cons (by first | exact .t _ | exact .own rfl rfl | exact .nil _ | exact .emp _) .nil))))) rfl) ?_ | refine sops_pure (.free rfl rfl) rfl rfl (po_load_agg rfl rfl (tyT rfl) rfl rfl) ?_) <;> (refine sops_pure (.free rfl rfl) rfl rfl (po_move rfl rfl) ?_) <;> (refine sops_pure (.free rfl rfl) rfl rfl (po_move rfl rfl) ?_) <;> (first | refine sops_pure (.free rfl rfl) rfl rfl (po_call (c1) rfl (.cons rfl (by first | exact .t _ | exact .own rfl rfl | exact .nil _ | exact .emp _) (.cons rfl (by first | exact .t _ | exact .own rfl rfl | exact .nil _ | exact .emp _) (.cons rfl (by first | exact .t _ | exact .own rfl rfl | exact .nil _ | exact .emp _) .nil)))) ?_ | refine sops_pure (.free rfl rfl) rfl rfl (po_call (c2) rfl (.cons rfl (by first | exact .t _ | exact .own rfl rfl | exact .nil _ | exact .emp _) (.cons rfl (by first | exact .t _ | exact .own rfl rfl | exact .nil _ | exact .emp _) (.cons rfl (by first | exact .t _ | exact .own rfl rfl | exact .nil _ | exact .emp _) .nil)))) ?_) <;> (refine sops_pure (.free rfl rfl) rfl rfl (po_move rfl rfl) ?_) <;> (first | refine sops_pure (.free rfl rfl) rfl rfl (po_bneq (i := false) (j := false) false rfl rfl rfl (by kernel_rfl) rfl) ?_ | refine sops_pure (.free rfl rfl) rfl rfl (po_boolq rfl rfl rfl (by kernel_rfl) (by first | exact .inl rfl | exact .inr rfl)) ?_) <;> (refine sops_nil ?_))
        | ((refine swp_region (id := 28) ?_) <;> (refine sops_pure (.free rfl rfl) rfl rfl (po_move rfl rfl) ?_) <;> (refine sops_nil ?_))
        | ((refine swp_region (id := 24) ?_) <;> (refine sops_pure (.free rfl rfl) rfl rfl (po_move rfl rfl) ?_) <;> (first | refine sops_pure (.free rfl rfl) rfl rfl (po_inc rfl rfl rfl (by omega)) ?_ | refine sops_pure (.free rfl rfl) rfl rfl (po_arith rfl rfl rfl (ar_add (by first | rfl | (refine wrap_i64 ?_; omega)) rfl)) ?_) <;> (refine sops_pure (.free rfl rfl) rfl rfl (po_assign rfl rfl) ?_) <;> (refine sops_nil ?_))
        | refine swp_ret ?_
        | refine swp_skip ?_
        | refine swp_block ?_
        | refine swp_exit ?_
        | refine block_go ?_
        | refine block_exit ?_
        | refine block_far rfl ?_
        | refine block_ret ?_
        | refine then_ret ?_
        | refine then_exit ?_
        | refine for_ret ?_
        | refine for_exit ?_
        | refine swp_cond_t rfl (by first | assumption | with_reducible rfl | decide | (simp only [decide_eq_true_eq, Bool.not_eq_true', decide_eq_false_iff_not]; omega)) ?_
        | refine swp_cond_f rfl (by first | assumption | with_reducible rfl | decide | (simp only [decide_eq_false_iff_not, Bool.not_eq_false', decide_eq_true_eq]; omega)) ?_
        | refine swp_cond rfl (fun hc => ?_) (fun hc => ?_)
        | refine retq (by first | exact .inr rfl | exact .inl rfl) rfl (.tmp rfl (by first | exact .t _ | exact .own rfl rfl | exact .nil _ | exact .emp _) .nil) ?_)
  · obtain rfl : k = l.length := by omega
    rw [List.take_length]
    have he : decide (((l.filter (holdsP ns sv)).length : Int) = (((l.filter (holdsP ns sv)).map polT).length : Int)) = true := by rw [hml]; simp
    repeat' (first
      | refine then_go ?_
      | refine swp_seq ?_
      | ((refine swp_region (id := 23) ?_) <;> (refine sops_pure (.free rfl rfl) rfl rfl (po_move rfl rfl) ?_) <;> (refine sops_pure (.free rfl rfl) rfl rfl (po_move rfl rfl) ?_) <;> (refine sops_pure (.free rfl rfl) rfl rfl (po_len rfl rfl (by first | exact .t _ | exact .own rfl rfl | exact .nil _ | exact .emp _) (tyS rfl)) ?_) <;> (refine sops_pure (.free rfl rfl) rfl rfl (po_cmp rfl rfl rfl rfl) ?_) <;> (refine sops_nil ?_))
      | ((refine swp_region (id := 32) ?_) <;> (refine sops_pure (.free rfl rfl) rfl rfl (po_move rfl rfl) ?_) <;> (refine sops_pure (.free rfl rfl) rfl rfl (po_move rfl rfl) ?_) <;> (refine sops_pure (.free rfl rfl) rfl rfl (po_len rfl rfl (by first | exact .t _ | exact .own rfl rfl | exact .nil _ | exact .emp _) (tyS rfl)) ?_) <;> (refine sops_pure (.free rfl rfl) rfl rfl (po_cmp rfl rfl rfl rfl) ?_) <;> (refine sops_pure (.free rfl rfl) rfl rfl (po_move rfl rfl) ?_) <;> (first | refine sops_pure (.yes rfl rfl rfl (by first | assumption | with_reducible rfl | decide | (simp only [decide_eq_true_eq, decide_eq_false_iff_not]; omega))) rfl rfl (po_call (haw) rfl .nil) ?_ | refine sops_skip (.no1 rfl rfl rfl (by first | assumption | with_reducible rfl | decide | (simp only [decide_eq_true_eq, decide_eq_false_iff_not]; omega))) rfl rfl ?_ | ((refine sops_split rfl rfl rfl (fun hc => ?_) (fun hc => ?_)) <;> (first | refine sops_pure (.yes rfl rfl rfl (by first | assumption | with_reducible rfl | decide | (simp only [decide_eq_true_eq, decide_eq_false_iff_not]; omega))) rfl rfl (po_call (haw) rfl .nil) ?_ | refine sops_skip (.no1 rfl rfl rfl (by first | assumption | with_reducible rfl | decide | (simp only [decide_eq_true_eq, decide_eq_false_iff_not]; omega))) rfl rfl ?_))) <;> (first | refine sops_pure (.free rfl rfl) rfl rfl (po_pick_t rfl rfl (by first | assumption | with_reducible rfl | decide | (simp only [decide_eq_true_eq, decide_eq_false_iff_not]; omega)) rfl) ?_ | refine sops_pure (.free rfl rfl) rfl rfl (po_pick_f rfl rfl (by first | assumption | with_reducible rfl | decide | (simp only [decide_eq_true_eq, decide_eq_false_iff_not]; omega)) rfl) ?_) <;> (refine sops_pure (.free rfl rfl) rfl rfl (po_assign rfl rfl) ?_) <;> (refine sops_nil ?_))
      | refine swp_ret ?_
      | refine swp_skip ?_
      | refine swp_block ?_
      | refine swp_exit ?_
      | refine block_go ?_
      | refine block_exit ?_
      | refine block_far rfl ?_
      | refine block_ret ?_
      | refine then_ret ?_
      | refine then_exit ?_
      | refine for_ret ?_
      | refine for_exit ?_
      | refine swp_cond_t rfl (by first | assumption | with_reducible rfl | decide | (simp only [decide_eq_true_eq, Bool.not_eq_true', decide_eq_false_iff_not]; omega)) ?_
      | refine swp_cond_f rfl (by first | assumption | with_reducible rfl | decide | (simp only [decide_eq_false_iff_not, Bool.not_eq_false', decide_eq_true_eq]; omega)) ?_
      | refine swp_cond rfl (fun hc => ?_) (fun hc => ?_)
      | refine retq (by first | exact .inr rfl | exact .inl rfl) rfl (.tmp rfl (by first | exact .t _ | exact .own rfl rfl | exact .nil _ | exact .emp _) .nil) ?_)
    rfl
theorem args7 {vs : List Value} (h : vs.length = 7) : ∃ a b c d e f g, vs = [a, b, c, d, e, f, g] := by
  match vs, h with
  | [a, b, c, d, e, f, g], _ => exact ⟨a, b, c, d, e, f, g, rfl⟩
theorem walk (l : List Pl.Policy) (A0 : Option Addr) (cap0 : Nat) (r : Pl.Rule) (rv : List Value) (a : Pl.Asker) (port : Int) (q : Pl.Req) (A : Option Addr) (cap : Nat) (tg qu : ByteArray) (bd : Value) (hbd : bd.oneCell' = true) (ns : ByteArray) (sv : Int) (w : World) (hA : SliceAt PolicyR 5 w.heap.size w A0 l) (hl1 : l.length ≤ cap0) (hl2 : cap0 ≤ maxLen) (hrr : RuleR w.heap.size w r rv) (hadr : (Lit.int .u32 a.addr).wf = true) (hf : Fits0 w.heap.size w a q A) (hc1 : q.heads.length ≤ cap) (hc2 : cap ≤ maxLen) :
    Calls Try.prog 12 #[.slice A0 l.length cap0, .agg rv.toArray, .agg #[.string a.ns, .string a.sa, .int .u32 a.addr], .int .i64 port, .agg #[.string q.method, .string tg, .string q.path, .string qu, .string q.host, .slice A q.heads.length cap, bd], .string ns, .int .u64 sv] w fun e w' => e = .returned (.bool true) ∧ Lo w w' := by
  have hpol : SliceC PolicyR 5 w.heap.size w l [.slice A0 l.length cap0] := ⟨A0, cap0, rfl, hA, hl1, hl2⟩
  have hhd : SliceC HeadR 2 w.heap.size w q.heads [.slice A q.heads.length cap] := ⟨A, cap, rfl, hf.heads, hc1, hc2⟩
  have hask : OkAsk a := ⟨hf.ns, hf.sa, hadr⟩
  have hreq : OkReq0 q := ⟨hf.method, hf.path, hf.host, sl_ok head_ok hhd⟩
  have h : PCalls Try.prog 12 (params l r a port q tg qu bd ns sv) (.v (.bool true)) := by
    cases hc : (long13 l a q || longRule r || decide ((600 : Int) < (ns.size : Int))) with
    | true => exact long_ l (sl_ok policy_ok hpol) r (rule_ok _ _ _ _ hrr) a hask port q hreq tg qu bd ns sv hc
    | false =>
      simp only [Bool.or_eq_false_iff, decide_eq_false_iff_not] at hc
      exact law_ l (sl_ok policy_ok hpol) r (rule_ok _ _ _ _ hrr) a hask port q hreq tg qu bd ns sv hc.1.1 hc.1.2 hc.2
  exact h.law w _ rfl fun i t v h1 h2 => by
    match i, h1, h2 with
    | 0, h1, h2 => simp at h1 h2; subst h1 h2; exact (sl_bwd (enc := polT) (fun _ => rfl) policy_bwd hpol).1
    | 1, h1, h2 => simp at h1 h2; subst h1 h2; exact agg_bwd (rule_bwd r rv hrr)
    | 2, h1, h2 => simp at h1 h2; subst h1 h2; exact agg_bwd (vs := [_, _, _]) (cellsAre_cons (.v _) rfl (cellsAre_cons (.v _) rfl (cellsAre_cons (.v _) rfl (cellsAre_nil _))))
    | 3, h1, h2 => simp at h1 h2; subst h1 h2; exact .v _
    | 4, h1, h2 => simp at h1 h2; subst h1 h2; exact agg_bwd (vs := [_, _, _, _, _, _, _]) (cellsAre_cons (.v _) rfl (cellsAre_cons (.v _) rfl (cellsAre_cons (.v _) rfl (cellsAre_cons (.v _) rfl (cellsAre_cons (.v _) rfl (cellsAre_cons (sl_bwd (enc := headT) (fun _ => rfl) head_bwd hhd).1 rfl (cellsAre_cons (.v _) hbd (cellsAre_nil _))))))))
    | 5, h1, h2 => simp at h1 h2; subst h1 h2; exact .v _
    | 6, h1, h2 => simp at h1 h2; subst h1 h2; exact .v _
end Go.Proofs.Ytlcecabfmemfeaa.AuthMatches
