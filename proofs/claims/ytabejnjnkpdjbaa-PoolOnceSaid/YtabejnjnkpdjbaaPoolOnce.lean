/- The law PoolOnce. -/
import Derived.Test.YtabejnjnkpdjbaaT39
import Derived.Test.YtabejnjnkpdjbaaT15
namespace Go.Proofs.Ytabejnjnkpdjbaa.PoolOnce
set_option linter.unusedVariables false
set_option linter.unusedSimpArgs false
open Go.RowKit Mem Sim R21
set_option maxRecDepth 100000 in
set_option maxHeartbeats 8000000 in
theorem law_ (node : Int) (l : List PAct) (hl : l.length ≤ 9223372036854775807) : PCalls Try.prog 5 [i64T node, .sl 9 (l.map actL)] (.v (.bool true)) := by
  have ca := awake_
  have hml : (l.map actL).length = l.length := List.length_map _
  have k0 := new_ node 1
  have c0 := LCalls.pc (args := [i64T node, u64T 1]) k0 (ar_tu (rs := [.agg (poolT (newP node 1).1), i64T (newP node 1).2]))
  clear k0
  refine pcalls_of Try.func5 rfl rfl Try.ntmps5 rfl ?_
  by_cases hn : node < 2 ∨ 9 < node
  · have e : newP node 1 = (⟨0, 0, 0, []⟩, 1) := by
      unfold newP; rw [if_pos]; rcases hn with h | h
      · exact .inl h
      · exact .inr (.inl h)
    rw [e] at c0
    dsimp only at c0
    repeat' (first | refine rg 0 (aq0 ?_) | (refine rg 1 ?_; refine oMv ?_; refine oC (c0) rfl (ac (ac .nil)) ?_; refine oMv ?_; refine oEx ?_; refine oEx ?_; refine sal str58 ?_; refine aq60 ?_) | (refine rg 2 ?_; refine oMv ?_; refine oCm ?_; refine oMv ?_; (first | refine oMv ?_ | refine oK ?_) <;> (first | refine sp (pln rfl (tyS rfl)) ?_ | refine oK ?_) <;> (first | refine oCm ?_ | refine oK ?_) <;> refine oPt ?_ <;> refine oN ?_) | (refine rg 3 ?_; refine oC (ca) rfl .nil ?_; refine aq0 ?_) | refine gc ?_ | refine ct ?_ | refine cf ?_ | refine sc ?_ ?_ <;> intro hc | refine rq rfl (rt .nil) ?_)
    all_goals rfl
  have e : newP node 1 = (⟨node, 1, 1, []⟩, 0) := by unfold newP; rw [if_neg (by omega)]
  rw [e] at c0
  dsimp only at c0
  by_cases hlong : 300 < l.length
  · have hI : (300 : Int) < ((l.map actL).length : Int) := by omega
    repeat' (first | refine rg 0 (aq0 ?_) | (refine rg 1 ?_; refine oMv ?_; refine oC (c0) rfl (ac (ac .nil)) ?_; refine oMv ?_; refine oEx ?_; refine oEx ?_; refine sal str58 ?_; refine aq60 ?_) | refine rg 2 (aq96 ?_) | (refine rg 3 ?_; refine oC (ca) rfl .nil ?_; refine aq0 ?_) | refine gc ?_ | refine ct ?_ | refine cf ?_ | refine sc ?_ ?_ <;> intro hc | refine rq rfl (rt .nil) ?_)
    all_goals rfl
  have hI : ¬ (300 : Int) < ((l.map actL).length : Int) := by omega
  repeat' (first | refine rg 0 (aq0 ?_) | (refine rg 1 ?_; refine oMv ?_; refine oC (c0) rfl (ac (ac .nil)) ?_; refine oMv ?_; refine oEx ?_; refine oEx ?_; refine sal str58 ?_; refine aq60 ?_) | refine rg 2 (aq96 ?_) | refine rg 4 (aq0 ?_) | refine rg 5 (aq0 ?_) | refine rg 6 (aq18 ?_) | refine rg 7 (aq0 ?_) | refine rg 8 (aq0 ?_) | refine gc ?_ | refine ct ?_ | refine cf ?_ | refine sc ?_ ?_ <;> intro hc | refine rq rfl (rt .nil) ?_)
  refine swp_weak (weak_own0 26 3 (s := 7) (i := 100) rfl rfl) ?_
  refine swp_weak (weak_own0 3 1 (s := 8) (i := 101) rfl rfl) ?_
  refine swp_weak (weak_own0 24 1 (s := 9) (i := 102) rfl rfl) ?_
  refine swp_weak (weak_own0 24 1 (s := 10) (i := 103) rfl rfl) ?_
  refine swp_fam (SOn l) (OnOk l) (fun x => l.length - x.i) ⟨0, ⟨node, 1, 1, []⟩, [], [], [], [], 0⟩ (weak_sub (.cons rfl rfl rfl (.cons rfl rfl rfl (.cons rfl rfl rfl (.cons rfl rfl rfl (.cons rfl rfl rfl (.cons rfl rfl rfl (.cons rfl rfl rfl (.cons rfl rfl rfl .nil)))))))) (.cons rfl rfl rfl .nil) (.cons rfl rfl (.cons rfl rfl (.cons rfl rfl (.cons rfl rfl .nil))))) ⟨on0 node, Nat.zero_le _, rfl, Nat.le_refl _, Nat.le_refl _⟩ ?_
  rintro ⟨i, p, ids, peers, taken, told, now⟩ ⟨hinv, hi, hlen, hfew, htk⟩
  dsimp only at hinv hi hlen hfew htk
  by_cases hlt : i < l.length
  · have hltI : (i : Int) < ((l.map actL).length : Int) := by omega
    have hlt2 : i < (l.map actL).length := by omega
    have hrow0 : (l.map actL)[i]? = some (actL l[i]) := map_at_some hlt
    generalize l[i] = a at *
    have hrow : (l.map actL)[i]? = some [i64T a.do_, i64T a.i, i64T a.k, i64T a.peer, i64T a.by_, u64T a.src, u64T a.duid, u32T a.daddr, i64T a.dport] := hrow0
    clear hrow0
    unfold SOn onT onO
    try dsimp only
    repeat' (first | refine swp_joinE_r (id := 15) (SOa l (⟨i, p, ids, peers, taken, told, now⟩ : OnX) a) (AtOk ids.length) ?_ ?_ | refine then_go ?_ | refine swp_seq ?_ | refine rg 9 (aq54 ?_) | (refine rg 11 (aq73 ?_); refine sal str64 ?_; refine aq11 ?_) | refine rg 12 (aq0 ?_) | refine rg 13 (aq0 ?_) | refine rg 14 (aq0 ?_) | refine swp_ret ?_ | refine swp_skip ?_ | refine swp_block ?_ | refine swp_exit ?_ | refine block_go ?_ | refine block_exit ?_ | refine block_far rfl ?_ | refine block_ret ?_ | refine then_ret ?_ | refine then_exit ?_ | refine for_ret ?_ | refine for_exit ?_ | refine ct ?_ | refine cf ?_ | refine sc ?_ ?_ <;> intro hc | refine rq rfl (rt .nil) ?_)
    · refine Hold.mk ?_
      have him : (ids.map tidL).length = ids.length := List.length_map _
      by_cases hz : ids.length = 0
      · have hz1 : ¬ (0 : Int) < ((ids.length : Nat) : Int) := by omega
        repeat' (first | refine gc ?_ | refine joinE_go (-1) (Weak.trans (weak_le (s := 14) rfl (Le.nil 18)) (Weak.trans (weak_le (s := 15) rfl (Le.nil 2)) (weak_sub (.cons rfl rfl rfl (.cons rfl rfl rfl (.cons rfl rfl rfl (.cons rfl rfl rfl (.cons rfl rfl rfl (.cons rfl rfl rfl (.cons rfl rfl rfl (.cons rfl rfl rfl (.cons rfl rfl rfl (.cons rfl rfl rfl (.cons rfl rfl rfl (.cons rfl rfl rfl .nil)))))))))))) (.cons rfl rfl rfl (.cons rfl rfl rfl .nil)) (.cons rfl rfl (.cons rfl rfl (.cons rfl rfl (.cons rfl rfl .nil))))))) (.inl rfl) | (refine rg 15 ?_; refine oMv ?_; refine sp (pln rfl (tyS rfl)) ?_; refine oCm ?_; refine oN ?_) | refine ct ?_ | refine cf ?_)
      · have hz1 : (0 : Int) < ((ids.length : Nat) : Int) := by omega
        obtain ⟨k, hk1, hk2⟩ := ands a.i
        repeat' (first | (refine rg 15 ?_; (first | refine sp (po_andk hk2 rfl rfl rfl) ?_ | refine sp (po_remk (a := k) (b := (ids.map tidL).length) (by omega) rfl rfl rfl) ?_ | refine oMv ?_); (first | refine sp (po_andk hk2 rfl rfl rfl) ?_ | refine sp (po_remk (a := k) (b := (ids.map tidL).length) (by omega) rfl rfl rfl) ?_ | refine sp (pln rfl (tyS rfl)) ?_); (first | refine sp (po_andk hk2 rfl rfl rfl) ?_ | refine sp (po_remk (a := k) (b := (ids.map tidL).length) (by omega) rfl rfl rfl) ?_ | refine oCm ?_); refine oN ?_) | (refine rg 16 ?_; (first | refine sp (po_andk hk2 rfl rfl rfl) ?_ | refine sp (po_remk (a := k) (b := (ids.map tidL).length) (by omega) rfl rfl rfl) ?_ | refine oFb ?_); (first | refine sp (po_andk hk2 rfl rfl rfl) ?_ | refine sp (po_remk (a := k) (b := (ids.map tidL).length) (by omega) rfl rfl rfl) ?_ | refine oLb ?_); refine sp (po_andk hk2 rfl rfl rfl) ?_; (first | refine sp (po_andk hk2 rfl rfl rfl) ?_ | refine sp (po_remk (a := k) (b := (ids.map tidL).length) (by omega) rfl rfl rfl) ?_ | refine oMv ?_); (first | refine sp (po_andk hk2 rfl rfl rfl) ?_ | refine sp (po_remk (a := k) (b := (ids.map tidL).length) (by omega) rfl rfl rfl) ?_ | refine sp (pln rfl (tyS rfl)) ?_); (first | refine sp (po_andk hk2 rfl rfl rfl) ?_ | refine sp (po_remk (a := k) (b := (ids.map tidL).length) (by omega) rfl rfl rfl) ?_); (first | refine sp (po_andk hk2 rfl rfl rfl) ?_ | refine sp (po_remk (a := k) (b := (ids.map tidL).length) (by omega) rfl rfl rfl) ?_ | refine oAs ?_); refine oN ?_) | refine gc ?_ | refine ct ?_ | refine cf ?_ | refine sc ?_ ?_ <;> intro hc | refine rq rfl (rt .nil) ?_)
        refine joinE_go ((k % (ids.map tidL).length : Nat) : Int) ?_ (.inr ⟨k % (ids.map tidL).length, by rw [him]; exact Nat.mod_lt _ (by omega), rfl⟩)
        refine Weak.trans (weak_le (s := 14) rfl (Le.nil 18)) ?_
        refine Weak.trans (weak_le (s := 15) rfl (Le.nil 2)) ?_
        unfold SOa onT onO
        exact (weak_sub (.cons rfl rfl rfl (.cons rfl rfl rfl (.cons rfl rfl rfl (.cons rfl rfl rfl (.cons rfl rfl rfl (.cons rfl rfl rfl (.cons rfl rfl rfl (.cons rfl rfl rfl (.cons rfl rfl rfl (.cons rfl rfl rfl (.cons rfl rfl rfl (.cons rfl rfl rfl .nil)))))))))))) (.cons rfl rfl rfl (.cons rfl rfl rfl .nil)) (.cons rfl rfl (.cons rfl rfl (.cons rfl rfl (.cons rfl rfl .nil)))))
    · intro at_ hat
      refine Then.mk ?_
      refine swp_seq ?_
      refine swp_joinE (fun y : OnX × List PDo × List PFail => SOj l y.1 y.2.1 y.2.2) (JOk (⟨i, p, ids, peers, taken, told, now⟩ : OnX)) ⟨?_⟩ ?_
      · refine swp_block ?_
        exact acts_ rfl l (⟨i, p, ids, peers, taken, told, now⟩ : OnX) a at_ (by show i < 300; omega) hinv hlen hfew htk hat fun y st hw hj => ⟨joinE_go y hw hj⟩
      · rintro ⟨y, D, F⟩ ⟨h1, h2, h3, h4, h5, h6⟩
        dsimp only at h1 h2 h3 h4 h5 h6
        have h7 : (y.told ++ F.map PFail.id).length ≤ 301 := by have := h1.len; omega
        rw [List.length_append, List.length_map] at h7
        refine Then.mk ?_
        refine swp_seq ?_
        refine fails_ rfl l y D F (by omega) (by omega) ?_
        refine Then.mk ?_
        refine swp_seq ?_
        refine dos_ rfl l _ D (by omega) h3 (by show y.ids.length ≤ 100000; omega) ?_
        rintro ⟨k, ids2, peers2⟩ ⟨g1, g2, g3⟩
        dsimp only at g1 g2 g3
        refine Then.mk ?_
        refine still_ rfl l _ (by show OnI y.p y.taken _ (y.i + 1); rw [h2]; exact h1) (by show y.taken.length ≤ 1000; omega) ?_
        obtain ⟨yi, yp, yids, ypeers, ytaken, ytold, ynow⟩ := y
        dsimp only at h1 h2 h3 h4 h5 h6 h7
        subst h2
        unfold SOn onT onO OnX.w
        dsimp only
        repeat' (first | refine rg 10 (aq17 ?_) | refine gc ?_ | refine ct ?_ | refine cf ?_ | refine sc ?_ ?_ <;> intro hc | refine rq rfl (rt .nil) ?_)
        refine fam_next (OnX.mk (yi + 1) yp ids2 peers2 ytaken (ytold ++ F.map PFail.id) ynow) ?_ ?_ (OnOk.mk h1 ?_ g2 ?_ h5)
        · show l.length - (yi + 1) < l.length - yi; omega
        · exact (weak_sub (.cons rfl rfl rfl (.cons rfl rfl rfl (.cons rfl rfl rfl (.cons rfl rfl rfl (.cons rfl rfl rfl (.cons rfl rfl rfl (.cons rfl rfl rfl (.cons rfl rfl rfl .nil)))))))) (.cons rfl rfl rfl .nil) (.cons rfl rfl (.cons rfl rfl (.cons rfl rfl (.cons rfl rfl .nil)))))
        · show yi + 1 ≤ l.length; omega
        · show ids2.length ≤ 200 * (yi + 1)
          have g3 : ids2.length ≤ yids.length + k := g3
          omega
  · obtain rfl : i = l.length := by omega
    have hltI : ¬ ((l.length : Nat) : Int) < ((l.map actL).length : Int) := by omega
    unfold SOn onT onO
    try dsimp only
    repeat' (first | refine fam_exit ?_ | refine rg 9 (aq54 ?_) | (refine rg 62 ?_; refine oC (ca) rfl .nil ?_; refine aq0 ?_) | refine gc ?_ | refine ct ?_ | refine cf ?_ | refine sc ?_ ?_ <;> intro hc | refine rq rfl (rt .nil) ?_)
    all_goals rfl
end Go.Proofs.Ytabejnjnkpdjbaa.PoolOnce
