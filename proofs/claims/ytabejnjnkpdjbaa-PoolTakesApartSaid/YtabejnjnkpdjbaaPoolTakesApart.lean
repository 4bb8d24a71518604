/- The law PoolTakesApart. -/
import Derived.Test.YtabejnjnkpdjbaaU37
import Derived.Test.YtabejnjnkpdjbaaU38
import Derived.Test.YtabejnjnkpdjbaaU15
namespace Go.Proofs.Ytabejnjnkpdjbaa.PoolTakesApart
set_option linter.unusedVariables false
set_option linter.unusedSimpArgs false
open Go.RowKit Mem Sim
theorem takeC (l : List PIn) (now peer a b c owner n : Int) (hn : l.length ≤ 500) (h : ∀ t ∈ l, OkI t) : PCalls Try.prog 11 [.agg (inlT l), u64T now, i64T peer, idT a b c, u64T owner, u64T n] (.tup [.agg (inlT (takeP l now peer a b c owner n).1), i64T (takeP l now peer a b c owner n).2.1, .agg (takR (takeP l now peer a b c owner n).2.2)]) :=
  LCalls.pc (args := [.agg (inlT l), u64T now, i64T peer, idT a b c, u64T owner, u64T n]) (take_ l now peer a b c owner n hn (fun t ht => (h t ht).few) fun t ht => by have := (h t ht).taken; unfold sortB; omega) (ar_tu (rs := [.agg (inlT (takeP l now peer a b c owner n).1), i64T (takeP l now peer a b c owner n).2.1, .agg (takR (takeP l now peer a b c owner n).2.2)]))
theorem doneC (l : List PIn) (a b c : Int) (d : PTk) (hn : l.length ≤ 500) (h : ∀ t ∈ l, OkI t) (hd : FewK d) : PCalls Try.prog 13 [.agg (inlT l), idT a b c, .agg (takR d)] (.agg (inlT (doneP l a b c d))) :=
  LCalls.pc (args := [.agg (inlT l), idT a b c, .agg (takR d)]) (done_ l a b c d hn (fun t ht => (h t ht).few) hd) ar_t
theorem leaveC (l : List PIn) (peer a b c owner : Int) (hn : l.length ≤ 500) (h : ∀ t ∈ l, OkI t) : PCalls Try.prog 15 [.agg (inlT l), i64T peer, idT a b c, u64T owner] (.agg (inlT (leaveP l peer a b c owner))) :=
  LCalls.pc (args := [.agg (inlT l), i64T peer, idT a b c, u64T owner]) (leave_ l peer a b c owner hn (fun t ht => (h t ht).few)) ar_t
def SAp (n m : Int) (l : List PIn) (x y : PIn) : St := ⟨[(3, .t (u64T n)), (4, .t (u64T m)), (5, .bp 5 0), (11, .bp 11 0), (12, .bp 12 0)], [(5, (inlT l).map .t), (11, (inT' x).map .t), (12, (inT' y).map .t)], []⟩
set_option maxRecDepth 100000 in
set_option maxHeartbeats 4000000 in
theorem law_ (l : List PIn) (i_ j_ n m : Int) (hn : l.length ≤ 9223372036854775807) (hs : ∀ t ∈ l, SmI t) : PCalls Try.prog 4 [.agg (inlT l), i64T i_, i64T j_, u64T n, u64T m] (.v (.bool true)) := by
  have c0 := wide_ l hn hs
  have ca := awake_
  have hml : (l.map inT').length = l.length := List.length_map _
  refine pcalls_of Try.func4 rfl rfl Try.ntmps4 rfl ?_
  cases hl : wideB l with
  | true =>
    rw [hl] at c0
    unfold inlT at c0 ⊢
    repeat' (first | refine rg 0 (aq10 ?_) | (refine rg 1 (aq64 ?_); refine oC (c0) rfl (ac .nil) ?_; refine oMv ?_; (first | refine oFb ?_ | refine oFd ?_ | refine oK ?_); (first | refine oLb ?_ | refine oLd ?_ | refine oK ?_); (first | refine sp (pln rfl (tyS rfl)) ?_ | refine oK ?_); (first | refine oCm ?_ | refine oK ?_); refine oPt ?_; refine oN ?_) | (refine rg 2 ?_; refine oC (ca) rfl .nil ?_; refine aq0 ?_) | refine gc ?_ | refine ct ?_ | refine cf ?_ | refine sc ?_ ?_ <;> intro hc | refine rq rfl (rt .nil) ?_)
    all_goals rfl
  | false =>
  rw [hl] at c0
  obtain ⟨h1, hok⟩ := few_wide hl
  by_cases h2 : l.length < 2
  · have h2I : ((l.map inT').length : Int) < 2 := by omega
    unfold inlT at c0 ⊢
    repeat' (first | refine rg 0 (aq10 ?_) | (refine rg 1 (aq64 ?_); refine oC (c0) rfl (ac .nil) ?_; refine oMv ?_; refine oFb ?_; refine oLb ?_; refine sp (pln rfl (tyS rfl)) ?_; refine oCm ?_; (first | refine oPt ?_ | refine oPf ?_); refine oN ?_) | (refine rg 2 ?_; refine oC (ca) rfl .nil ?_; refine aq0 ?_) | refine gc ?_ | refine ct ?_ | refine cf ?_ | refine sc ?_ ?_ <;> intro hc | refine rq rfl (rt .nil) ?_)
    all_goals rfl
  have h2I : ¬ ((l.map inT').length : Int) < 2 := by omega
  obtain ⟨k1, _, hk1⟩ := ands i_
  obtain ⟨k2, _, hk2⟩ := ands j_
  have g1 : k1 % (l.map inT').length < l.length := by rw [hml]; exact Nat.mod_lt _ (by omega)
  have g2 : k2 % (l.map inT').length < l.length := by rw [hml]; exact Nat.mod_lt _ (by omega)
  have hrx : (l.map inT')[k1 % (l.map inT').length]? = some (inT' l[k1 % (l.map inT').length]) := map_at_some g1
  have hry : (l.map inT')[k2 % (l.map inT').length]? = some (inT' l[k2 % (l.map inT').length]) := map_at_some g2
  generalize l[k1 % (l.map inT').length] = x at *
  generalize l[k2 % (l.map inT').length] = y at *
  have t1 := takeC l 9 y.peer y.node y.inc y.num y.owner m h1 hok
  have t2 := takeC l 9 x.peer x.node x.inc x.num x.owner n h1 hok
  obtain ⟨o2, ok2⟩ := takeP_ok 9 x.peer x.node x.inc x.num x.owner n hok
  have t3 := doneC (takeP l 9 x.peer x.node x.inc x.num x.owner n).1 x.node x.inc x.num ⟨n, 0, 200, []⟩ (by omega) ok2 ⟨Nat.zero_le _⟩
  obtain ⟨o3, ok3⟩ := doneP_ok (l := (takeP l 9 x.peer x.node x.inc x.num x.owner n).1) x.node x.inc x.num (d := ⟨n, 0, 200, []⟩) ⟨Nat.zero_le _⟩ ok2
  have t4 := takeC (doneP (takeP l 9 x.peer x.node x.inc x.num x.owner n).1 x.node x.inc x.num ⟨n, 0, 200, []⟩) 9 y.peer y.node y.inc y.num y.owner m (by omega) ok3
  have t5 := leaveC (doneP (takeP l 9 x.peer x.node x.inc x.num x.owner n).1 x.node x.inc x.num ⟨n, 0, 200, []⟩) x.peer x.node x.inc x.num x.owner (by omega) ok3
  obtain ⟨o5, ok5⟩ := leaveP_ok x.peer x.node x.inc x.num x.owner ok3
  have t6 := takeC (leaveP (doneP (takeP l 9 x.peer x.node x.inc x.num x.owner n).1 x.node x.inc x.num ⟨n, 0, 200, []⟩) x.peer x.node x.inc x.num x.owner) 9 y.peer y.node y.inc y.num y.owner m (by omega) ok5
  have a1 := takeP_ans l 9 y.peer y.node y.inc y.num y.owner m
  have a4 := takeP_ans (doneP (takeP l 9 x.peer x.node x.inc x.num x.owner n).1 x.node x.inc x.num ⟨n, 0, 200, []⟩) 9 y.peer y.node y.inc y.num y.owner m
  have a6 := takeP_ans (leaveP (doneP (takeP l 9 x.peer x.node x.inc x.num x.owner n).1 x.node x.inc x.num ⟨n, 0, 200, []⟩) x.peer x.node x.inc x.num x.owner) 9 y.peer y.node y.inc y.num y.owner m
  unfold inlT at c0 ⊢
  repeat' (first | (refine rg 0 ?_; (first | refine sp (po_andk hk1 rfl rfl rfl) ?_ | refine sp (po_andk hk2 rfl rfl rfl) ?_ | refine sp (po_remk (a := k1) (b := (l.map inT').length) (by omega) rfl rfl rfl) ?_ | refine sp (po_remk (a := k2) (b := (l.map inT').length) (by omega) rfl rfl rfl) ?_ | refine sbx ?_); (first | refine sp (po_andk hk1 rfl rfl rfl) ?_ | refine sp (po_andk hk2 rfl rfl rfl) ?_ | refine sp (po_remk (a := k1) (b := (l.map inT').length) (by omega) rfl rfl rfl) ?_ | refine sp (po_remk (a := k2) (b := (l.map inT').length) (by omega) rfl rfl rfl) ?_ | refine oAs ?_); refine oN ?_) | (refine rg 1 ?_; (first | refine sp (po_andk hk1 rfl rfl rfl) ?_ | refine sp (po_andk hk2 rfl rfl rfl) ?_ | refine sp (po_remk (a := k1) (b := (l.map inT').length) (by omega) rfl rfl rfl) ?_ | refine sp (po_remk (a := k2) (b := (l.map inT').length) (by omega) rfl rfl rfl) ?_ | refine sp (po_load_bx_agg rfl rfl (tyT rfl) rfl (vc .nil) rfl) ?_); (first | refine sp (po_andk hk1 rfl rfl rfl) ?_ | refine sp (po_andk hk2 rfl rfl rfl) ?_ | refine sp (po_remk (a := k1) (b := (l.map inT').length) (by omega) rfl rfl rfl) ?_ | refine sp (po_remk (a := k2) (b := (l.map inT').length) (by omega) rfl rfl rfl) ?_ | refine oC (c0) rfl (ac .nil) ?_); (first | refine sp (po_andk hk1 rfl rfl rfl) ?_ | refine sp (po_andk hk2 rfl rfl rfl) ?_ | refine sp (po_remk (a := k1) (b := (l.map inT').length) (by omega) rfl rfl rfl) ?_ | refine sp (po_remk (a := k2) (b := (l.map inT').length) (by omega) rfl rfl rfl) ?_ | refine oMv ?_); (first | refine sp (po_andk hk1 rfl rfl rfl) ?_ | refine sp (po_andk hk2 rfl rfl rfl) ?_ | refine sp (po_remk (a := k1) (b := (l.map inT').length) (by omega) rfl rfl rfl) ?_ | refine sp (po_remk (a := k2) (b := (l.map inT').length) (by omega) rfl rfl rfl) ?_ | refine oFb ?_) <;> (first | refine sp (po_andk hk1 rfl rfl rfl) ?_ | refine sp (po_andk hk2 rfl rfl rfl) ?_ | refine sp (po_remk (a := k1) (b := (l.map inT').length) (by omega) rfl rfl rfl) ?_ | refine sp (po_remk (a := k2) (b := (l.map inT').length) (by omega) rfl rfl rfl) ?_ | refine oLb ?_) <;> (first | refine sp (po_andk hk1 rfl rfl rfl) ?_ | refine sp (po_andk hk2 rfl rfl rfl) ?_ | refine sp (po_remk (a := k1) (b := (l.map inT').length) (by omega) rfl rfl rfl) ?_ | refine sp (po_remk (a := k2) (b := (l.map inT').length) (by omega) rfl rfl rfl) ?_ | refine sp (pln rfl (tyS rfl)) ?_) <;> (first | refine sp (po_andk hk1 rfl rfl rfl) ?_ | refine sp (po_andk hk2 rfl rfl rfl) ?_ | refine sp (po_remk (a := k1) (b := (l.map inT').length) (by omega) rfl rfl rfl) ?_ | refine sp (po_remk (a := k2) (b := (l.map inT').length) (by omega) rfl rfl rfl) ?_ | refine oCm ?_) <;> (first | refine sp (po_andk hk1 rfl rfl rfl) ?_ | refine sp (po_andk hk2 rfl rfl rfl) ?_ | refine sp (po_remk (a := k1) (b := (l.map inT').length) (by omega) rfl rfl rfl) ?_ | refine sp (po_remk (a := k2) (b := (l.map inT').length) (by omega) rfl rfl rfl) ?_ | refine oPt ?_ | refine oPf ?_) <;> refine oN ?_) | ((refine swp_any (id := 3) [[], [], [], [], [], [], [], [], [], [], [11], [11]] [[11], [11], [11], [11], [11], [11], [11], [11], [11], [11], [], []] mixed (by kernel_rfl) ?_) <;> (first | refine yp (fun _ _ => po_andk hk1 rfl rfl rfl) ?_ | refine yp (fun _ _ => po_andk hk2 rfl rfl rfl) ?_ | refine yp (fun _ _ => po_remk (a := k1) (b := (l.map inT').length) (by omega) rfl rfl rfl) ?_ | refine yp (fun _ _ => po_remk (a := k2) (b := (l.map inT').length) (by omega) rfl rfl rfl) ?_ | refine yp (fun _ _ => po_field_bx rfl rfl (tyF rfl)) ?_) <;> (first | refine yp (fun _ _ => po_andk hk1 rfl rfl rfl) ?_ | refine yp (fun _ _ => po_andk hk2 rfl rfl rfl) ?_ | refine yp (fun _ _ => po_remk (a := k1) (b := (l.map inT').length) (by omega) rfl rfl rfl) ?_ | refine yp (fun _ _ => po_remk (a := k2) (b := (l.map inT').length) (by omega) rfl rfl rfl) ?_ | refine yp (fun _ _ => po_load_bx rfl rfl (tyT rfl) rfl rfl) ?_) <;> (first | refine yp (fun _ _ => po_andk hk1 rfl rfl rfl) ?_ | refine yp (fun _ _ => po_andk hk2 rfl rfl rfl) ?_ | refine yp (fun _ _ => po_remk (a := k1) (b := (l.map inT').length) (by omega) rfl rfl rfl) ?_ | refine yp (fun _ _ => po_remk (a := k2) (b := (l.map inT').length) (by omega) rfl rfl rfl) ?_ | refine yp (fun _ _ => po_move rfl rfl) ?_) <;> refine yp (fun _ _ => po_andk hk1 rfl rfl rfl) ?_ <;> (first | refine yp (fun _ _ => po_andk hk1 rfl rfl rfl) ?_ | refine yp (fun _ _ => po_andk hk2 rfl rfl rfl) ?_ | refine yp (fun _ _ => po_remk (a := k1) (b := (l.map inT').length) (by omega) rfl rfl rfl) ?_ | refine yp (fun _ _ => po_remk (a := k2) (b := (l.map inT').length) (by omega) rfl rfl rfl) ?_ | refine yp (fun _ _ => po_field_bx rfl rfl (tyF rfl)) ?_) <;> (first | refine yp (fun _ _ => po_andk hk1 rfl rfl rfl) ?_ | refine yp (fun _ _ => po_andk hk2 rfl rfl rfl) ?_ | refine yp (fun _ _ => po_remk (a := k1) (b := (l.map inT').length) (by omega) rfl rfl rfl) ?_ | refine yp (fun _ _ => po_remk (a := k2) (b := (l.map inT').length) (by omega) rfl rfl rfl) ?_ | refine yp (fun _ _ => po_load_bx rfl rfl (tyT rfl) rfl rfl) ?_) <;> (first | refine yp (fun _ _ => po_andk hk1 rfl rfl rfl) ?_ | refine yp (fun _ _ => po_andk hk2 rfl rfl rfl) ?_ | refine yp (fun _ _ => po_remk (a := k1) (b := (l.map inT').length) (by omega) rfl rfl rfl) ?_ | refine yp (fun _ _ => po_remk (a := k2) (b := (l.map inT').length) (by omega) rfl rfl rfl) ?_ | refine yp (fun _ _ => pln rfl (tyS rfl)) ?_) <;> (first | refine yp (fun _ _ => po_andk hk1 rfl rfl rfl) ?_ | refine yp (fun _ _ => po_andk hk2 rfl rfl rfl) ?_ | refine yp (fun _ _ => po_remk (a := k1) (b := (l.map inT').length) (by omega) rfl rfl rfl) ?_) <;> (first | refine yp (fun _ _ => po_andk hk1 rfl rfl rfl) ?_ | refine yp (fun _ _ => po_andk hk2 rfl rfl rfl) ?_ | refine yp (fun _ _ => po_remk (a := k1) (b := (l.map inT').length) (by omega) rfl rfl rfl) ?_ | refine yp (fun _ _ => po_remk (a := k2) (b := (l.map inT').length) (by omega) rfl rfl rfl) ?_ | refine yp (fun _ _ => pix rfl (tyS rfl)) ?_) <;> (first | refine yp (fun _ _ => po_andk hk1 rfl rfl rfl) ?_ | refine yp (fun _ _ => po_andk hk2 rfl rfl rfl) ?_ | refine yp (fun _ _ => po_remk (a := k1) (b := (l.map inT').length) (by omega) rfl rfl rfl) ?_ | refine yp (fun _ _ => po_remk (a := k2) (b := (l.map inT').length) (by omega) rfl rfl rfl) ?_ | refine yp (fun _ _ => po_load_bx_agg rfl rfl (tyT rfl) rfl (vc (vc (vc (vc (vc (vc (vc (vc (vc (vc (vc (vc (vc (vc .nil)))))))))))))) rfl) ?_ | refine yp (fun _ _ => po_load_agg rfl rfl (tyT rfl) rfl rfl) ?_) <;> refine sany_eff [(11, _)] [] (.free rfl rfl) rfl rfl (fun _ _ hb _ => e_allocS str42 rfl (hb 11 rfl rfl)) ?_ <;> refine sany_eff [(11, _)] [] (.free rfl rfl) rfl rfl (fun _ _ _ _ => e_store rfl rfl rfl rfl rfl rfl (tyT rfl) rfl rfl) ?_ <;> refine sany_nil ?_) | ((refine swp_any (id := 4) [[], [], [], [], [], [], [], [], [], [], [12], [12]] [[12], [12], [12], [12], [12], [12], [12], [12], [12], [12], [], []] mixed (by kernel_rfl) ?_) <;> (first | refine yp (fun _ _ => po_andk hk1 rfl rfl rfl) ?_ | refine yp (fun _ _ => po_andk hk2 rfl rfl rfl) ?_ | refine yp (fun _ _ => po_remk (a := k1) (b := (l.map inT').length) (by omega) rfl rfl rfl) ?_ | refine yp (fun _ _ => po_remk (a := k2) (b := (l.map inT').length) (by omega) rfl rfl rfl) ?_ | refine yp (fun _ _ => po_field_bx rfl rfl (tyF rfl)) ?_) <;> (first | refine yp (fun _ _ => po_andk hk1 rfl rfl rfl) ?_ | refine yp (fun _ _ => po_andk hk2 rfl rfl rfl) ?_ | refine yp (fun _ _ => po_remk (a := k1) (b := (l.map inT').length) (by omega) rfl rfl rfl) ?_ | refine yp (fun _ _ => po_remk (a := k2) (b := (l.map inT').length) (by omega) rfl rfl rfl) ?_ | refine yp (fun _ _ => po_load_bx rfl rfl (tyT rfl) rfl rfl) ?_) <;> (first | refine yp (fun _ _ => po_andk hk1 rfl rfl rfl) ?_ | refine yp (fun _ _ => po_andk hk2 rfl rfl rfl) ?_ | refine yp (fun _ _ => po_remk (a := k1) (b := (l.map inT').length) (by omega) rfl rfl rfl) ?_ | refine yp (fun _ _ => po_remk (a := k2) (b := (l.map inT').length) (by omega) rfl rfl rfl) ?_ | refine yp (fun _ _ => po_move rfl rfl) ?_) <;> (first | refine yp (fun _ _ => po_andk hk1 rfl rfl rfl) ?_ | refine yp (fun _ _ => po_andk hk2 rfl rfl rfl) ?_) <;> (first | refine yp (fun _ _ => po_andk hk1 rfl rfl rfl) ?_ | refine yp (fun _ _ => po_andk hk2 rfl rfl rfl) ?_ | refine yp (fun _ _ => po_remk (a := k1) (b := (l.map inT').length) (by omega) rfl rfl rfl) ?_ | refine yp (fun _ _ => po_remk (a := k2) (b := (l.map inT').length) (by omega) rfl rfl rfl) ?_ | refine yp (fun _ _ => po_field_bx rfl rfl (tyF rfl)) ?_) <;> (first | refine yp (fun _ _ => po_andk hk1 rfl rfl rfl) ?_ | refine yp (fun _ _ => po_andk hk2 rfl rfl rfl) ?_ | refine yp (fun _ _ => po_remk (a := k1) (b := (l.map inT').length) (by omega) rfl rfl rfl) ?_ | refine yp (fun _ _ => po_remk (a := k2) (b := (l.map inT').length) (by omega) rfl rfl rfl) ?_ | refine yp (fun _ _ => po_load_bx rfl rfl (tyT rfl) rfl rfl) ?_) <;> (first | refine yp (fun _ _ => po_andk hk1 rfl rfl rfl) ?_ | refine yp (fun _ _ => po_andk hk2 rfl rfl rfl) ?_ | refine yp (fun _ _ => po_remk (a := k1) (b := (l.map inT').length) (by omega) rfl rfl rfl) ?_ | refine yp (fun _ _ => po_remk (a := k2) (b := (l.map inT').length) (by omega) rfl rfl rfl) ?_ | refine yp (fun _ _ => pln rfl (tyS rfl)) ?_) <;> (first | refine yp (fun _ _ => po_andk hk1 rfl rfl rfl) ?_ | refine yp (fun _ _ => po_andk hk2 rfl rfl rfl) ?_ | refine yp (fun _ _ => po_remk (a := k1) (b := (l.map inT').length) (by omega) rfl rfl rfl) ?_ | refine yp (fun _ _ => po_remk (a := k2) (b := (l.map inT').length) (by omega) rfl rfl rfl) ?_) <;> (first | refine yp (fun _ _ => po_andk hk1 rfl rfl rfl) ?_ | refine yp (fun _ _ => po_andk hk2 rfl rfl rfl) ?_ | refine yp (fun _ _ => po_remk (a := k1) (b := (l.map inT').length) (by omega) rfl rfl rfl) ?_ | refine yp (fun _ _ => po_remk (a := k2) (b := (l.map inT').length) (by omega) rfl rfl rfl) ?_ | refine yp (fun _ _ => pix rfl (tyS rfl)) ?_) <;> (first | refine yp (fun _ _ => po_andk hk1 rfl rfl rfl) ?_ | refine yp (fun _ _ => po_andk hk2 rfl rfl rfl) ?_ | refine yp (fun _ _ => po_remk (a := k1) (b := (l.map inT').length) (by omega) rfl rfl rfl) ?_ | refine yp (fun _ _ => po_remk (a := k2) (b := (l.map inT').length) (by omega) rfl rfl rfl) ?_ | refine yp (fun _ _ => po_load_bx_agg rfl rfl (tyT rfl) rfl (vc (vc (vc (vc (vc (vc (vc (vc (vc (vc (vc (vc (vc (vc .nil)))))))))))))) rfl) ?_ | refine yp (fun _ _ => po_load_agg rfl rfl (tyT rfl) rfl rfl) ?_) <;> refine sany_eff [(12, _)] [] (.free rfl rfl) rfl rfl (fun _ _ hb _ => e_allocS str42 rfl (hb 12 rfl rfl)) ?_ <;> refine sany_eff [(12, _)] [] (.free rfl rfl) rfl rfl (fun _ _ _ _ => e_store rfl rfl rfl rfl rfl rfl (tyT rfl) rfl rfl) ?_ <;> refine sany_nil ?_) | refine gc ?_ | refine ct ?_ | refine cf ?_ | refine sc ?_ ?_ <;> intro hc | refine rq rfl (rt .nil) ?_)
  refine swp_weak (st' := SAp n m l x y) (weak_sub (.cons rfl rfl rfl (.cons rfl rfl rfl (.cons rfl rfl rfl (.cons rfl rfl rfl (.cons rfl rfl rfl .nil))))) (.cons rfl rfl rfl (.cons rfl rfl rfl (.cons rfl rfl rfl .nil))) .nil) ?_
  unfold SAp
  cases he : (x.node == y.node && (x.inc == y.inc && x.num == y.num)) with
  | true =>
    repeat' (first | (refine rg 5 (aq73 ?_); refine sp (po_eqid rfl rfl rfl) ?_; refine oN ?_) | (refine rg 6 ?_; refine oC (ca) rfl .nil ?_; refine aq0 ?_) | refine gc ?_ | refine ct ?_ | refine cf ?_ | refine sc ?_ ?_ <;> intro hc | refine rq rfl (rt .nil) ?_)
    all_goals rfl
  | false =>
  have hid : ¬ (x.node = y.node ∧ x.inc = y.inc ∧ x.num = y.num) := by
    rintro ⟨e1, e2, e3⟩
    rw [e1, e2, e3] at he
    simp at he
  rw [leaveP_rest _ _ _ _ _ _ hid, doneP_rest _ _ _ _ _ hid, takeP_rest _ _ _ _ _ _ _ _ hid, ← a1] at a6
  rw [doneP_rest _ _ _ _ _ hid, takeP_rest _ _ _ _ _ _ _ _ hid, ← a1] at a4
  obtain ⟨a41, a42⟩ := Prod.mk.inj a4
  obtain ⟨a61, a62⟩ := Prod.mk.inj a6
  rw [a41, a42] at t4
  rw [a61, a62] at t6
  clear a1 a4 a6 a41 a42 a61 a62 ok2 ok3 ok5 o2 o3 o5 hok hrx hry g1 g2
  generalize (takeP l 9 y.peer y.node y.inc y.num y.owner m).2.1 = what at *
  generalize (takeP l 9 y.peer y.node y.inc y.num y.owner m).2.2 = q at *
  generalize (takeP l 9 y.peer y.node y.inc y.num y.owner m).1 = L1 at *
  generalize (takeP l 9 x.peer x.node x.inc x.num x.owner n).2.1 = what2 at *
  generalize (takeP l 9 x.peer x.node x.inc x.num x.owner n).2.2 = q2 at *
  generalize (takeP l 9 x.peer x.node x.inc x.num x.owner n).1 = L2 at *
  generalize doneP L2 x.node x.inc x.num ⟨n, 0, 200, []⟩ = L3 at *
  generalize leaveP L3 x.peer x.node x.inc x.num x.owner = L5 at *
  generalize (takeP L3 9 y.peer y.node y.inc y.num y.owner m).1 = L4 at *
  generalize (takeP L5 9 y.peer y.node y.inc y.num y.owner m).1 = L6 at *
  unfold inlT at t1 t2 t3 t4 t5 t6
  unfold takR at t1 t2 t3 t4 t6
  repeat' (first | (refine rg 5 (aq73 ?_); refine sp (po_eqid rfl rfl rfl) ?_; refine oN ?_) | (refine rg 7 (aq97 ?_); (refine oC (t1) rfl (ac (ac (ac (ac (ac (ac .nil)))))) ?_); refine aq92 ?_; refine sal str29 ?_; refine sal str46 ?_; refine aq65 ?_) | (refine rg 8 (aq97 ?_); (first | refine oC (t1) rfl (ac (ac (ac (ac (ac (ac .nil)))))) ?_ | refine oC (t2) rfl (ac (ac (ac (ac (ac (ac .nil)))))) ?_); refine aq92 ?_; refine sal str29 ?_; refine sal str46 ?_; refine aq65 ?_) | refine gc ?_ | refine ct ?_ | refine cf ?_ | refine sc ?_ ?_ <;> intro hc | refine rq rfl (rt .nil) ?_)
  refine rg 9 ?_
  refine sp (po_load_bx_agg rfl rfl (tyT rfl) rfl (vc .nil) rfl) ?_
  refine oFb ?_
  refine sp (po_load_bx_agg rfl rfl (tyT rfl) rfl (vc (vc (vc .nil))) rfl) ?_
  refine oMv ?_
  refine sp (po_buildS str46 rfl (pc (pc .nil)) rfl) ?_
  refine oC t3 rfl (.cons rfl (.t _) (.cons rfl (.t _) (.cons rfl (.le fun m v h => tr_nilLast (l := [u64T n, i64T 0, i64T 200]) (k := 1) h) .nil))) ?_
  refine oS ?_
  refine oN ?_
  refine gc ?_
  have e1 : decide (what = what) = true := by simp
  have e2 : decide (q.n = q.n) = true := by simp
  have e3 : decide (q.code = q.code) = true := by simp
  repeat' (first | (refine rg 10 (aq97 ?_); (refine oC (t4) rfl (ac (ac (ac (ac (ac (ac .nil)))))) ?_); refine aq92 ?_; refine sal str29 ?_; refine sal str46 ?_; refine aq65 ?_) | (refine rg 11 ?_; refine sp (po_load_bx_agg rfl rfl (tyT rfl) rfl (vc .nil) rfl) ?_; refine oFb ?_; refine oLb ?_; refine oFb ?_; refine sp (po_load_bx_agg rfl rfl (tyT rfl) rfl (vc (vc (vc .nil))) rfl) ?_; refine oFb ?_; refine oLb ?_; refine oC (t5) rfl (ac (ac (ac (ac .nil)))) ?_; refine sal str29 ?_; refine aq12 ?_) | (refine rg 12 (aq97 ?_); (first | refine oC (t4) rfl (ac (ac (ac (ac (ac (ac .nil)))))) ?_ | refine oC (t6) rfl (ac (ac (ac (ac (ac (ac .nil)))))) ?_); refine aq92 ?_; refine sal str29 ?_; refine sal str46 ?_; refine aq65 ?_) | (refine rg 13 ?_; refine oMv ?_; refine oMv ?_; refine oCm ?_; refine oMv ?_; refine oMv ?_; refine oMv ?_; refine oCm ?_; refine oPt ?_; refine oMv ?_; refine oFb ?_; refine oLb ?_; refine oFb ?_; refine oLb ?_; refine oCm ?_; refine oPt ?_; refine oMv ?_; refine oFb ?_; refine oLb ?_; refine oFb ?_; refine oLb ?_; refine oCm ?_; refine oPt ?_; refine oMv ?_; refine oFb ?_; refine oLb ?_; refine oFb ?_; refine oLb ?_; refine oCm ?_; refine oPt ?_; refine oMv ?_; refine oFb ?_; refine oLb ?_; refine oFb ?_; refine oLb ?_; refine oCm ?_; refine oPt ?_; refine oMv ?_ <;> refine oC (ca) rfl .nil ?_ <;> refine aq23 ?_) | refine gc ?_ | refine ct ?_ | refine cf ?_ | refine sc ?_ ?_ <;> intro hc | refine rq rfl (rt .nil) ?_)
  all_goals rfl
end Go.Proofs.Ytabejnjnkpdjbaa.PoolTakesApart
