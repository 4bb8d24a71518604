/- Merged by bundles.py: SimFc, SimNlc, Open0, SimNl1. -/
import Derived.Test.YtabejnjnkpdjbaaT28
import Derived.Test.YtabejnjnkpdjbaaT15
import Derived.Test.YtabejnjnkpdjbaaT0
import Derived.Deep.Slices
import Derived.Test.YtabejnjnkpdjbaaT20
/- A forced tail, told by steps: each operation ahead of it is wanted by one behind. -/
namespace Go.Proofs.Ytabejnjnkpdjbaa.Sim
set_option linter.unusedVariables false
set_option linter.unusedSimpArgs false
open Go.RowKit Mem
theorem clos_mono {ops : Array Oper} {j : Nat} : ∀ (n k : Nat), j ∈ clos ops n k → j ∈ clos ops (n + 1) k
  | 0, k, h => by simp [clos] at h
  | n + 1, k, h => by
    rw [clos, List.mem_flatMap] at h ⊢
    obtain ⟨m, hm, h⟩ := h
    refine ⟨m, hm, ?_⟩
    rcases List.mem_cons.1 h with rfl | h
    · exact List.mem_cons_self
    · exact List.mem_cons_of_mem _ (clos_mono n m h)
theorem clos_le {ops : Array Oper} {j k n m : Nat} (hn : n ≤ m) (h : j ∈ clos ops n k) : j ∈ clos ops m k := by
  induction hn with
  | refl => exact h
  | step _ ih => exact clos_mono _ _ ih
theorem clos_snoc {ops : Array Oper} {j p : Nat} (hj : j ∈ deps ops p) : ∀ (n k : Nat), p ∈ clos ops n k → j ∈ clos ops (n + 1) k
  | 0, k, h => by simp [clos] at h
  | n + 1, k, h => by
    rw [clos, List.mem_flatMap] at h
    obtain ⟨m, hm, h⟩ := h
    rw [clos, List.mem_flatMap]
    refine ⟨m, hm, List.mem_cons_of_mem _ ?_⟩
    rcases List.mem_cons.1 h with rfl | h
    · rw [clos, List.mem_flatMap]
      exact ⟨j, hj, List.mem_cons_self⟩
    · exact clos_snoc hj n m h
def forcedE (ops : Array Oper) (N : Nat) : Bool := (List.range ops.size).all fun k => ((deps ops k).all fun j => decide (j < k)) && (decide (k < N) || (List.range k).all fun j => (List.range (k + 1)).any fun p => decide (j < p) && (deps ops p).contains j)
theorem forced_of {ops : Array Oper} {N : Nat} (h : forcedE ops N = true) : forcedB ops N = true := by
  unfold forcedE at h
  unfold forcedB
  rw [List.all_eq_true] at h ⊢
  intro k hk
  have h1 := h k hk
  rw [Bool.and_eq_true, Bool.or_eq_true] at h1 ⊢
  refine ⟨h1.1, ?_⟩
  rcases h1.2 with h2 | h2
  · exact .inl h2
  refine .inr ?_
  rw [List.all_eq_true] at h2 ⊢
  have key : ∀ d j, j < k → k - j ≤ d → j ∈ clos ops d k := by
    intro d
    induction d with
    | zero => intro j h3 h4; omega
    | succ d ih =>
      intro j h3 h4
      have h5 := h2 j (List.mem_range.2 h3)
      rw [List.any_eq_true] at h5
      obtain ⟨p, hp, h6⟩ := h5
      rw [Bool.and_eq_true] at h6
      have h7 : j < p := of_decide_eq_true h6.1
      have h8 : j ∈ deps ops p := List.contains_iff_mem.1 h6.2
      have h9 : p < k + 1 := List.mem_range.1 hp
      by_cases he : p = k
      · subst he
        rw [clos, List.mem_flatMap]
        exact ⟨j, h8, List.mem_cons_self⟩
      · exact clos_snoc h8 d k (ih p (by omega) (by omega))
  intro j hj
  have hk2 := List.mem_range.1 hk
  have hj2 := List.mem_range.1 hj
  exact List.contains_iff_mem.2 (clos_le (by omega) (key (k - j) j hj2 (Nat.le_refl _)))
def regionE (ops : Array Oper) (N M : Nat) : Bool :=
  decide (N ≤ ops.size) && forcedE ops N && (List.range ops.size).all fun i =>
    (match dstOf ops i with | some d => decide (writer ops d = some i) && decide (d < M) | none => true)
theorem region_of {ops : Array Oper} {N M : Nat} (h : regionE ops N M = true) : regionB3 ops N M = true := by
  unfold regionE at h
  unfold regionB3
  rw [Bool.and_eq_true, Bool.and_eq_true] at h ⊢
  exact ⟨⟨h.1.1, forced_of h.1.2⟩, h.2⟩
end Go.Proofs.Ytabejnjnkpdjbaa.Sim

/- asked: what a pool asks. -/
namespace Go.Proofs.Ytabejnjnkpdjbaa.Sim
set_option linter.unusedVariables false
set_option linter.unusedSimpArgs false
open Go.RowKit Mem
def nT (n : Int) : List T := [u64T n]
def SAs (p : PPool) (i : Nat) : St := ⟨[(1, .bp 1 0), (4, .own 100 (stillP (p.tuns.take i)).length), (5, .t (.v (.bool true))), (6, .t (i64T (i : Int)))], [(1, (poolT p).map .t)], [(100, ⟨24, 1, (stillP (p.tuns.take i)).map nT⟩)]⟩
def SAs2 (p : PPool) (i : Nat) (t : PTun) (k : Nat) : St := ⟨[(1, .bp 1 0), (4, .own 100 (stillP (p.tuns.take i) ++ (idsT t).take k).length), (5, .t (.v (.bool true))), (6, .t (i64T (i : Int))), (7, .bp 7 0), (8, .t (i64T (k : Int)))], [(1, (poolT p).map .t), (7, (tunT t).map .t)], [(100, ⟨24, 1, (stillP (p.tuns.take i) ++ (idsT t).take k).map nT⟩)]⟩
set_option maxRecDepth 100000 in
set_option maxHeartbeats 4000000 in
theorem asked_ (p : PPool) (h : PoOk p) : PCalls Try.prog 25 [.agg (poolT p)] (.tup [.sl 1 ((stillP p.tuns).map nT), .v (.bool true)]) := by
  have hml : (p.tuns.map tunT).length = p.tuns.length := List.length_map _
  have hlen := h.len
  have h16 : ((p.tuns.map tunT).length : Int) ≤ 16 := by omega
  have h16d : decide (((p.tuns.map tunT).length : Int) ≤ 16) = true := decide_eq_true h16
  refine pcalls_of Try.func25 rfl rfl Try.ntmps25 rfl ?_
  unfold poolT
  repeat' (first | (refine rg 0 ?_; refine sbx ?_; refine oAs ?_; refine oAs ?_; refine oN ?_) | refine rg 1 (aq0 ?_) | (refine rg 2 ?_; refine oFb ?_; refine oLb ?_; refine sp (pln rfl (tyS rfl)) ?_; refine oCm ?_; refine oAs ?_; refine oN ?_) | refine rg 3 (aq0 ?_) | refine gc ?_ | refine ct ?_ | refine cf ?_ | refine sc ?_ ?_ <;> intro hc | refine rq rfl (rt (rt .nil)) ?_)
  rw [h16d]
  refine swp_weak (weak_own0 24 1 (s := 4) (i := 100) rfl rfl) ?_
  refine swp_for (SAs p) (fun _ => True) p.tuns.length ?_ trivial ?_
  · exact (weak_sub (.cons rfl rfl rfl (.cons rfl rfl rfl (.cons rfl rfl rfl (.cons rfl rfl rfl .nil)))) (.cons rfl rfl rfl .nil) (.cons rfl rfl .nil))
  intro i hi _
  unfold SAs poolT
  by_cases hlt : i < p.tuns.length
  · have hltI : (i : Int) < ((p.tuns.map tunT).length : Int) := by omega
    have hlt2 : i < (p.tuns.map tunT).length := by omega
    have hrow : (p.tuns.map tunT)[i]? = some (tunT p.tuns[i]) := map_at_some hlt
    have hst : stillP (p.tuns.take (i + 1)) = stillP (p.tuns.take i) ++ idsT p.tuns[i] := by
      unfold stillP; rw [List.take_succ_eq_append_getElem hlt, List.flatMap_append]; simp
    have hmem := List.getElem_mem hlt
    have ha := h.asks _ hmem
    have e1 : decide ((p.tuns[i]).node = p.node) = true := decide_eq_true (h.node _ hmem)
    have e2 : decide ((p.tuns[i]).inc = p.inc) = true := decide_eq_true (h.inc _ hmem)
    have e3 : decide ((p.tuns[i]).num < p.next) = true := decide_eq_true (h.next _ hmem)
    have hprev : ∀ hj : 0 < i, (p.tuns.map tunT)[i - 1]? = some (tunT (p.tuns[i - 1]'(by omega))) ∧ decide ((p.tuns[i - 1]'(by omega)).num < (p.tuns[i]).num) = true := fun hj => by
      refine ⟨map_at_some (by omega), decide_eq_true ?_⟩
      exact (List.pairwise_iff_getElem.1 h.asc) (i - 1) i (by omega) hlt (by omega)
    have hsl : (stillP (p.tuns.take i)).length ≤ 128 := by
      have := still_len (l := p.tuns.take i) fun t ht => h.asks t (List.mem_of_mem_take ht)
      have h2 : (p.tuns.take i).length ≤ 16 := by rw [List.length_take]; omega
      omega
    generalize hts : p.tuns[i] = t at *
    have hla : (t.asks.map askR).length = t.asks.length := List.length_map _
    have e4 : decide (((t.asks.map askR).length : Int) ≤ 8) = true := decide_eq_true (by omega)
    have hidl : (idsT t).length = t.asks.length := List.length_map _
    unfold tunT tunC at hrow
    rcases Nat.eq_zero_or_pos i with h0 | hj
    · have hi0 : decide ((i : Int) = 0) = true := decide_eq_true (by omega)
      repeat' (first | refine rg 4 (aq50 ?_) | (refine rg 6 (aq51 ?_); refine sal str118 ?_; refine aq11 ?_) | (refine swp_draw (id := 7) 49 mixed (region_of (by kernel_rfl)) (by kernel_rfl) ?_; refine dMv ?_; refine dMv ?_; refine dFb ?_ <;> refine dLb ?_ <;> refine dp (pln rfl (tyS rfl)) ?_ <;> refine dCm ?_ <;> refine dPt ?_ <;> refine dMv ?_ <;> refine dFb ?_ <;> refine dFb ?_ <;> refine dLb ?_ <;> refine dFb ?_ <;> refine dLb ?_ <;> refine dCm ?_ <;> refine dPt ?_ <;> refine dMv ?_ <;> refine dFb ?_ <;> refine dFb ?_ <;> refine dLb ?_ <;> refine dFb ?_ <;> refine dLb ?_ <;> refine dCm ?_ <;> refine dPt ?_ <;> refine dMv ?_ <;> refine dFb ?_ <;> refine dFb ?_ <;> refine dLb ?_ <;> refine dFb ?_ <;> refine dLb ?_ <;> refine dCm ?_ <;> refine dPt ?_ <;> refine dMv ?_ <;> refine dMv ?_ <;> refine dCm ?_ <;> refine dMv ?_ <;> (first | refine dFb ?_ | refine dFd ?_ | refine dK ?_) <;> (first | refine dLb ?_ | refine dLd ?_ | refine dK ?_) <;> (first | refine dMv ?_ | refine dK ?_) <;> (first | refine dp (po_dec rfl rfl rfl (by omega)) ?_ | refine dp (po_arith rfl rfl rfl (ar_sub (by first | rfl | (refine wrap_i64 ?_; omega)) rfl)) ?_ | refine dK ?_) <;> (first | refine dp (pix rfl (tyS rfl)) ?_ | refine dK ?_) <;> (first | refine dFb ?_ | refine dFd ?_ | refine dK ?_) <;> (first | refine dFb ?_ | refine dFd ?_ | refine dK ?_) <;> (first | refine dLb ?_ | refine dLd ?_ | refine dK ?_) <;> (first | refine dFb ?_ | refine dFd ?_ | refine dK ?_) <;> (first | refine dFb ?_ | refine dFd ?_ | refine dK ?_) <;> (first | refine dLb ?_ | refine dLd ?_ | refine dK ?_) <;> (first | refine dCm ?_ | refine dK ?_) <;> refine dPt ?_ <;> refine dPt ?_ <;> refine dN ?_ <;> refine oAs ?_ <;> refine oN ?_) | refine rg 8 (aq0 ?_) | refine gc ?_ | refine ct ?_ | refine cf ?_ | refine sc ?_ ?_ <;> intro hc | refine rq rfl (rt (rt .nil)) ?_)
      refine swp_for (SAs2 p i t) (fun _ => True) t.asks.length ?_ trivial ?_
      · exact (weak_sub (.cons rfl (by first | rfl | (first | (rw [List.take_zero, List.append_nil]))) rfl (.cons rfl (by first | rfl | (first | (rw [List.take_zero, List.append_nil]))) rfl (.cons rfl (by first | rfl | (first | (rw [List.take_zero, List.append_nil]))) rfl (.cons rfl (by first | rfl | (first | (rw [List.take_zero, List.append_nil]))) rfl (.cons rfl (by first | rfl | (first | (rw [List.take_zero, List.append_nil]))) rfl (.cons rfl (by first | rfl | (first | (rw [List.take_zero, List.append_nil]))) rfl .nil)))))) (.cons rfl (by first | rfl | (first | (rw [List.take_zero, List.append_nil]))) rfl (.cons rfl (by first | rfl | (first | (rw [List.take_zero, List.append_nil]))) rfl .nil)) (.cons rfl (by first | rfl | (first | (rw [List.take_zero, List.append_nil]))) .nil))
      intro k hk _
      unfold SAs2 tunT tunC poolT
      by_cases hk2 : k < t.asks.length
      · have hkI : (k : Int) < ((t.asks.map askR).length : Int) := by omega
        have hk3 : k < (t.asks.map askR).length := by omega
        have hq : (t.asks.map askR)[k]? = some (askR t.asks[k]) := map_at_some hk2
        have htk : (idsT t).take (k + 1) = (idsT t).take k ++ [(t.asks[k]).id] := by
          rw [List.take_succ_eq_append_getElem (by omega)]; unfold idsT; rw [List.getElem_map]
        have hll : (stillP (p.tuns.take i) ++ (idsT t).take k).length ≤ 136 := by rw [List.length_append, List.length_take]; omega
        have hst2 : (stillP (p.tuns.take i) ++ (idsT t).take (k + 1)) = (stillP (p.tuns.take i) ++ (idsT t).take k) ++ [(t.asks[k]).id] := by rw [htk, List.append_assoc]
        have hll2 : ((stillP (p.tuns.take i) ++ (idsT t).take k).map nT).length = (stillP (p.tuns.take i) ++ (idsT t).take k).length := List.length_map _
        have hst3 : (stillP (p.tuns.take i) ++ (idsT t).take k).map nT ++ [[u64T (t.asks[k]).id]] = (stillP (p.tuns.take i) ++ (idsT t).take (k + 1)).map nT := by rw [hst2]; exact (List.map_append (l₂ := [(t.asks[k]).id])).symm
        have hfo : Own.mk 24 1 ((stillP (p.tuns.take i) ++ (idsT t).take k).map nT ++ [[u64T (t.asks[k]).id]]) = Own.mk 24 1 ((stillP (p.tuns.take i) ++ (idsT t).take (k + 1)).map nT) := by rw [hst3]
        have hfl : Sim.A.own 100 ((stillP (p.tuns.take i) ++ (idsT t).take k).map nT ++ [[u64T (t.asks[k]).id]]).length = Sim.A.own 100 (stillP (p.tuns.take i) ++ (idsT t).take (k + 1)).length := by rw [hst3, List.length_map]
        unfold askR at hq
        generalize t.asks[k] = q at *
        repeat' (first | refine for_next hk2 (weak_sub (.cons rfl (by rfl) rfl (.cons rfl (by first | rfl | (first | (exact hfo) | (exact hfl))) rfl (.cons rfl (by rfl) rfl (.cons rfl (by rfl) rfl (.cons rfl (by rfl) rfl (.cons rfl (by rfl) rfl .nil)))))) (.cons rfl (by rfl) rfl (.cons rfl (by rfl) rfl .nil)) (.cons rfl (by first | rfl | ((exact hfo))) .nil)) trivial | refine rg 9 (aq50 ?_) | refine rg 11 (aq52 ?_) | refine rg 10 (aq17 ?_) | refine gc ?_ | refine ct ?_)
      · obtain rfl : k = t.asks.length := by omega
        have hkI : ¬ ((t.asks.length : Nat) : Int) < ((t.asks.map askR).length : Int) := by omega
        have hfull : stillP (p.tuns.take i) ++ (idsT t).take t.asks.length = stillP (p.tuns.take (i + 1)) := by rw [hst, ← hidl, List.take_length]
        rw [hfull]
        repeat' (first | refine for_next hlt (weak_sub (.cons rfl rfl rfl (.cons rfl rfl rfl (.cons rfl rfl rfl (.cons rfl rfl rfl .nil)))) (.cons rfl rfl rfl .nil) (.cons rfl rfl .nil)) trivial | refine rg 9 (aq50 ?_) | refine rg 5 (aq17 ?_) | refine gc ?_ | refine ct ?_ | refine cf ?_)
    · have hi0 : decide ((i : Int) = 0) = false := decide_eq_false (by omega)
      obtain ⟨hp1, hp2⟩ := hprev hj
      generalize p.tuns[i - 1]'(by omega) = t0 at *
      unfold tunT tunC at hp1
      have hsub : ((i : Int) - 1) = ((i - 1 : Nat) : Int) := by omega
      have hlt3 : i - 1 < (p.tuns.map tunT).length := by omega
      repeat' (first | refine rg 4 (aq50 ?_) | (refine rg 6 (aq51 ?_); refine sal str118 ?_; refine aq11 ?_) | (refine swp_draw (id := 7) 49 mixed (region_of (by kernel_rfl)) (by kernel_rfl) ?_; refine dMv ?_; refine dMv ?_; refine dFb ?_ <;> refine dLb ?_ <;> refine dp (pln rfl (tyS rfl)) ?_ <;> refine dCm ?_ <;> refine dPt ?_ <;> refine dMv ?_ <;> refine dFb ?_ <;> refine dFb ?_ <;> refine dLb ?_ <;> refine dFb ?_ <;> refine dLb ?_ <;> refine dCm ?_ <;> refine dPt ?_ <;> refine dMv ?_ <;> refine dFb ?_ <;> refine dFb ?_ <;> refine dLb ?_ <;> refine dFb ?_ <;> refine dLb ?_ <;> refine dCm ?_ <;> refine dPt ?_ <;> refine dMv ?_ <;> refine dFb ?_ <;> refine dFb ?_ <;> refine dLb ?_ <;> refine dFb ?_ <;> refine dLb ?_ <;> refine dCm ?_ <;> refine dPt ?_ <;> refine dMv ?_ <;> refine dMv ?_ <;> refine dCm ?_ <;> refine dMv ?_ <;> refine dFb ?_ <;> refine dLb ?_ <;> refine dMv ?_ <;> refine dp (po_dec rfl rfl rfl (by omega)) ?_ <;> refine dp (pix rfl (tyS rfl)) ?_ <;> (first | refine dFb ?_ | refine dFd ?_) <;> (first | refine dFb ?_ | refine dFd ?_) <;> (first | refine dLb ?_ | refine dLd ?_) <;> refine dFb ?_ <;> refine dFb ?_ <;> refine dLb ?_ <;> refine dCm ?_ <;> (first | refine dPt ?_ | refine dPf ?_) <;> refine dPt ?_ <;> refine dN ?_ <;> refine oAs ?_ <;> refine oN ?_) | refine gc ?_ | refine ct ?_ | refine cf ?_ | refine sc ?_ ?_ <;> intro hc | refine rq rfl (rt (rt .nil)) ?_)
      rw [hp2]
      repeat' (first | refine rg 8 (aq0 ?_) | refine gc ?_ | refine ct ?_ | refine cf ?_ | refine sc ?_ ?_ <;> intro hc | refine rq rfl (rt (rt .nil)) ?_)
      refine swp_for (SAs2 p i t) (fun _ => True) t.asks.length ?_ trivial ?_
      · exact (weak_sub (.cons rfl (by first | rfl | (first | (rw [List.take_zero, List.append_nil]))) rfl (.cons rfl (by first | rfl | (first | (rw [List.take_zero, List.append_nil]))) rfl (.cons rfl (by first | rfl | (first | (rw [List.take_zero, List.append_nil]))) rfl (.cons rfl (by first | rfl | (first | (rw [List.take_zero, List.append_nil]))) rfl (.cons rfl (by first | rfl | (first | (rw [List.take_zero, List.append_nil]))) rfl (.cons rfl (by first | rfl | (first | (rw [List.take_zero, List.append_nil]))) rfl .nil)))))) (.cons rfl (by first | rfl | (first | (rw [List.take_zero, List.append_nil]))) rfl (.cons rfl (by first | rfl | (first | (rw [List.take_zero, List.append_nil]))) rfl .nil)) (.cons rfl (by first | rfl | (first | (rw [List.take_zero, List.append_nil]))) .nil))
      intro k hk _
      unfold SAs2 tunT tunC poolT
      by_cases hk2 : k < t.asks.length
      · have hkI : (k : Int) < ((t.asks.map askR).length : Int) := by omega
        have hk3 : k < (t.asks.map askR).length := by omega
        have hq : (t.asks.map askR)[k]? = some (askR t.asks[k]) := map_at_some hk2
        have htk : (idsT t).take (k + 1) = (idsT t).take k ++ [(t.asks[k]).id] := by
          rw [List.take_succ_eq_append_getElem (by omega)]; unfold idsT; rw [List.getElem_map]
        have hll : (stillP (p.tuns.take i) ++ (idsT t).take k).length ≤ 136 := by rw [List.length_append, List.length_take]; omega
        have hst2 : (stillP (p.tuns.take i) ++ (idsT t).take (k + 1)) = (stillP (p.tuns.take i) ++ (idsT t).take k) ++ [(t.asks[k]).id] := by rw [htk, List.append_assoc]
        have hll2 : ((stillP (p.tuns.take i) ++ (idsT t).take k).map nT).length = (stillP (p.tuns.take i) ++ (idsT t).take k).length := List.length_map _
        have hst3 : (stillP (p.tuns.take i) ++ (idsT t).take k).map nT ++ [[u64T (t.asks[k]).id]] = (stillP (p.tuns.take i) ++ (idsT t).take (k + 1)).map nT := by rw [hst2]; exact (List.map_append (l₂ := [(t.asks[k]).id])).symm
        have hfo : Own.mk 24 1 ((stillP (p.tuns.take i) ++ (idsT t).take k).map nT ++ [[u64T (t.asks[k]).id]]) = Own.mk 24 1 ((stillP (p.tuns.take i) ++ (idsT t).take (k + 1)).map nT) := by rw [hst3]
        have hfl : Sim.A.own 100 ((stillP (p.tuns.take i) ++ (idsT t).take k).map nT ++ [[u64T (t.asks[k]).id]]).length = Sim.A.own 100 (stillP (p.tuns.take i) ++ (idsT t).take (k + 1)).length := by rw [hst3, List.length_map]
        unfold askR at hq
        generalize t.asks[k] = q at *
        repeat' (first | refine for_next hk2 (weak_sub (.cons rfl (by rfl) rfl (.cons rfl (by first | rfl | (first | (exact hfo) | (exact hfl))) rfl (.cons rfl (by rfl) rfl (.cons rfl (by rfl) rfl (.cons rfl (by rfl) rfl (.cons rfl (by rfl) rfl .nil)))))) (.cons rfl (by rfl) rfl (.cons rfl (by rfl) rfl .nil)) (.cons rfl (by first | rfl | ((exact hfo))) .nil)) trivial | refine rg 9 (aq50 ?_) | refine rg 11 (aq52 ?_) | refine rg 10 (aq17 ?_) | refine gc ?_ | refine ct ?_)
      · obtain rfl : k = t.asks.length := by omega
        have hkI : ¬ ((t.asks.length : Nat) : Int) < ((t.asks.map askR).length : Int) := by omega
        have hfull : stillP (p.tuns.take i) ++ (idsT t).take t.asks.length = stillP (p.tuns.take (i + 1)) := by rw [hst, ← hidl, List.take_length]
        rw [hfull]
        repeat' (first | refine for_next hlt (weak_sub (.cons rfl rfl rfl (.cons rfl rfl rfl (.cons rfl rfl rfl (.cons rfl rfl rfl .nil)))) (.cons rfl rfl rfl .nil) (.cons rfl rfl .nil)) trivial | refine rg 9 (aq50 ?_) | refine rg 5 (aq17 ?_) | refine gc ?_ | refine ct ?_ | refine cf ?_)
  · obtain rfl : i = p.tuns.length := by omega
    have hltI : ¬ ((p.tuns.length : Nat) : Int) < ((p.tuns.map tunT).length : Int) := by omega
    have hrl : (stillP (p.tuns.take p.tuns.length)).length = ((stillP (p.tuns.take p.tuns.length)).map nT).length := (List.length_map _).symm
    rw [List.take_length] at *
    repeat' (first | refine rg 4 (aq50 ?_) | (refine rg 12 ?_; refine oMv ?_; refine oMv ?_; refine oAs ?_; refine oAs ?_; refine oN ?_) | refine gc ?_ | refine ct ?_ | refine cf ?_ | refine sc ?_ ?_ <;> intro hc | refine rq rfl (rt (rt .nil)) ?_)
    all_goals rfl
end Go.Proofs.Ytabejnjnkpdjbaa.Sim

/- Arguments opened: what a reading says of the cells, type by type. -/
namespace Go.Proofs.Ytabejnjnkpdjbaa.Mem
set_option linter.unusedVariables false
set_option linter.unusedSimpArgs false
open Go.RowKit
def SliceC {α : Type} (R : Rel α) (sz : Nat) : Rel (List α) := fun B w xs cs => ∃ A cap, cs = [.slice A xs.length cap] ∧ SliceAt R sz B w A xs ∧ xs.length ≤ cap ∧ cap ≤ maxLen
theorem SliceC.kept {α : Type} {R : Rel α} {sz : Nat} (hR : Kept R) : Kept (SliceC R sz) := by
  rintro B B' w w' x cs ⟨A, cap, rfl, h, h1, h2⟩ hk hB
  exact ⟨A, cap, rfl, h.keep hR hk hB, h1, h2⟩
def IntC (k : IntKind) : Rel Int := fun _ _ x cs => cs = [.int k x] ∧ (Lit.int k x).wf = true
theorem IntC.kept (k : IntKind) : Kept (IntC k) := fun _ _ _ _ _ _ h _ _ => h
def StrC : Rel ByteArray := fun _ _ s cs => cs = [.string s] ∧ s.size ≤ maxLen
theorem StrC.kept : Kept StrC := fun _ _ _ _ _ _ h _ _ => h
end Go.Proofs.Ytabejnjnkpdjbaa.Mem
namespace Go.Proofs.Ytabejnjnkpdjbaa.Opn
set_option linter.unusedVariables false
set_option linter.unusedSimpArgs false
set_option maxRecDepth 100000
open Go.RowKit Go.WideShapes Go.ChangeShapes Go.Joins Mem

def Opens {α : Type} (t : TypeId) (R : Rel α) : Prop :=
  ∀ (H : Type) (enc : TypeId × Value → H) (w : World) (base : Nat) (spare : Nat → Bool) (held : Bool) (fuel : Nat) (cs : List Value) (x : DataW H × List MemPlace), DataW.trod enc Try.prog w base spare held fuel t cs = some x → ∃ y, R w.heap.size w y cs

theorem opens_int {t : TypeId} {k : IntKind} (ht : Try.prog.underlying t = some (.int k)) : Opens t (IntC k) := by
  intro H enc w base spare held fuel cs x h
  obtain ⟨n, rfl, _, hw⟩ := DataW.trod_int ht h
  exact ⟨n, rfl, hw⟩
theorem open_int_arg {t : TypeId} {k : IntKind} (ht : Try.prog.underlying t = some (.int k)) {H : Type} {enc : TypeId × Value → H} {w : World} {r : Reach} {b0 base : Nat} {spare : Nat → Bool} {held : Bool} {v : Value} {d : DataW H} {p : List MemPlace}
    (hv : Value.okWide Try.prog w r b0 t v) (h : DataW.Trod enc Try.prog w base spare held t v d p) : ∃ n, v = .int k n ∧ (Lit.int k n).wf = true := by
  obtain ⟨n, rfl⟩ := okWide_int ht hv
  obtain ⟨fuel, hf⟩ := h
  obtain ⟨m, hm, _, hw⟩ := DataW.trod_int ht hf
  simp [Value.cells] at hm
  subst hm
  exact ⟨_, rfl, hw⟩
end Go.Proofs.Ytabejnjnkpdjbaa.Opn

/- Inlets as plain data; rows of their own: ownTaken, own of these, ownInbound, own of these, ownInlet. -/
namespace Go.Proofs.Ytabejnjnkpdjbaa.Sim
set_option linter.unusedVariables false
set_option linter.unusedSimpArgs false
open Go.RowKit Mem
structure PTk where
  n : Int
  done : Int
  code : Int
  bytes : List UInt8
structure PIn where
  node : Int
  inc : Int
  num : Int
  peer : Int
  owner : Int
  ns : ByteArray
  sa : ByteArray
  uid : Int
  addr : Int
  duid : Int
  daddr : Int
  dport : Int
  used : Int
  taken : List PTk
structure AIn where
  t : PIn
  u : Value
def takR (q : PTk) : List T := [u64T q.n, i64T q.done, i64T q.code, bysT q.bytes]
def inC (t : PIn) (x : T) : List T := [i64T t.node, u64T t.inc, u64T t.num, i64T t.peer, u64T t.owner, .v (.string t.ns), .v (.string t.sa), u64T t.uid, u32T t.addr, u64T t.duid, u32T t.daddr, i64T t.dport, u64T t.used, x]
def inS (t : PIn) : List T := [i64T t.node, u64T t.inc, u64T t.num, i64T t.peer, u64T t.owner, .v (.string t.ns), .v (.string t.sa), u64T t.uid, u32T t.addr, u64T t.duid, u32T t.daddr, i64T t.dport, u64T t.used]
def inT' (t : PIn) : List T := inC t (.sl 4 (t.taken.map takR))
def inR (a : AIn) : List T := inC a.t (.v a.u)
def takO (t : PIn) : Own := ⟨46, 4, t.taken.map takR⟩
def famI (l : List AIn) : List (Value × Own) := l.map fun a => (a.u, takO a.t)
def inO (l : List AIn) : Own := ⟨42, 14, l.map inR⟩
structure FewK (q : PTk) : Prop where
  bytes : q.bytes.length ≤ 1000000
structure FewIn (t : PIn) : Prop where
  taken : t.taken.length ≤ 1000
  each : ∀ q ∈ t.taken, FewK q
theorem famI_split {A B : List AIn} {a : AIn} : famI (A ++ a :: B) = famI A ++ (a.u, takO a.t) :: famI B := by unfold famI; rw [List.map_append]; rfl
theorem inO_at {A B : List AIn} {a : AIn} : ((A ++ a :: B).map inR)[A.length]? = some (inR a) := mid_at
theorem inO_set {A B : List AIn} {a : AIn} (b : AIn) : ((A ++ a :: B).map inR).set A.length (inR b) = (A ++ b :: B).map inR := by
  rw [List.map_append, List.map_cons, List.set_append_right _ _ (by rw [List.length_map]; exact Nat.le_refl _), List.length_map, Nat.sub_self, List.set_cons_zero, List.map_append]; rfl
theorem upl_in (l : List AIn) : UpL (famI l) (l.map inR).flatten (l.map fun a => inT' a.t).flatten := by
  have key : ∀ l' : List AIn, (∀ a ∈ l', a ∈ l) → UpL (famI l) (l'.map inR).flatten (l'.map fun a => inT' a.t).flatten := by
    intro l'
    induction l' with
    | nil => intro _; exact .nil
    | cons a l' ih =>
      intro h
      rw [List.map_cons, List.map_cons, List.flatten_cons, List.flatten_cons]
      refine .app ?_ (ih fun b hb => h b (List.mem_cons_of_mem _ hb))
      refine .keep _ (.keep _ (.keep _ (.keep _ (.keep _ (.keep _ (.keep _ (.keep _ (.keep _ (.keep _ (.keep _ (.keep _ (.keep _ ?_))))))))))))
      exact .up (a.u, takO a.t) (List.mem_map.2 ⟨a, h a List.mem_cons_self, rfl⟩) .nil
  exact key l fun _ h => h
def inlT (l : List PIn) : List T := [.sl 14 (l.map inT')]
set_option maxRecDepth 100000 in
theorem cloneK (rows : List (List T)) (hbd : rows.length * 48 ≤ 140737488355328) (hmx : rows.length ≤ maxLen) : LCalls Try.prog 127 [.t (.sl 4 rows)] [] [] (.own 1000 rows.length) [] [(1000, ⟨46, 4, rows⟩)] := by
  have hbd' : 0 + rows.length * 48 ≤ 140737488355328 := by omega
  refine lcalls_of Try.func127 rfl rfl Try.ntmps127 rfl ?_
  repeat' (first | refine rg 0 (aq0 ?_) | (refine rg 1 ?_; refine oMv ?_; refine sops_isnil (.free rfl rfl) rfl rfl rfl rfl (.t _) (tyS rfl) (fun b hnil => ?_); refine oN ?_) | refine gc ?_ | refine ct ?_ | refine cf ?_ | refine sc ?_ ?_ <;> intro hc | refine rq rfl (rt .nil) ?_)
  · obtain rfl := hnil hc
    repeat' (first | refine then_go ?_ | refine swp_seq ?_ | refine swp_ret_weak (weak_own0 (i := 1000) 46 4 (s := 2) rfl rfl) ?_ | refine rg 2 (aq0 ?_) | refine swp_ret ?_ | refine swp_skip ?_ | refine swp_block ?_ | refine swp_exit ?_ | refine block_go ?_ | refine block_exit ?_ | refine block_far rfl ?_ | refine block_ret ?_ | refine then_ret ?_ | refine then_exit ?_ | refine for_ret ?_ | refine for_exit ?_ | refine ct ?_ | refine cf ?_ | refine sc ?_ ?_ <;> intro hc | exact retl1 (by exact .inr rfl) rfl (.tmp rfl rfl .nil) rfl .nil (.cons rfl (by rfl) .nil))
  · repeat' (first | refine rg 3 (aq1 ?_) | refine gc ?_ | refine ct ?_ | refine cf ?_ | refine sc ?_ ?_ <;> intro hc | refine retl (by exact .inr rfl) rfl (.tmp rfl rfl .nil) ?_ rfl .nil (.cons rfl (by rfl) .nil))
    rfl
set_option maxRecDepth 100000 in
theorem cloneIn (rows : List (List T)) (hbd : rows.length * 144 ≤ 140737488355328) (hmx : rows.length ≤ maxLen) : LCalls Try.prog 121 [.t (.sl 14 rows)] [] [] (.own 1000 rows.length) [] [(1000, ⟨42, 14, rows⟩)] := by
  have hbd' : 0 + rows.length * 144 ≤ 140737488355328 := by omega
  refine lcalls_of Try.func121 rfl rfl Try.ntmps121 rfl ?_
  repeat' (first | refine rg 0 (aq0 ?_) | (refine rg 1 ?_; refine oMv ?_; refine sops_isnil (.free rfl rfl) rfl rfl rfl rfl (.t _) (tyS rfl) (fun b hnil => ?_); refine oN ?_) | refine gc ?_ | refine ct ?_ | refine cf ?_ | refine sc ?_ ?_ <;> intro hc | refine rq rfl (rt .nil) ?_)
  · obtain rfl := hnil hc
    repeat' (first | refine then_go ?_ | refine swp_seq ?_ | refine swp_ret_weak (weak_own0 (i := 1000) 42 14 (s := 2) rfl rfl) ?_ | refine rg 2 (aq0 ?_) | refine swp_ret ?_ | refine swp_skip ?_ | refine swp_block ?_ | refine swp_exit ?_ | refine block_go ?_ | refine block_exit ?_ | refine block_far rfl ?_ | refine block_ret ?_ | refine then_ret ?_ | refine then_exit ?_ | refine for_ret ?_ | refine for_exit ?_ | refine ct ?_ | refine cf ?_ | refine sc ?_ ?_ <;> intro hc | exact retl1 (by exact .inr rfl) rfl (.tmp rfl rfl .nil) rfl .nil (.cons rfl (by rfl) .nil))
  · repeat' (first | refine rg 3 (aq1 ?_) | refine gc ?_ | refine ct ?_ | refine cf ?_ | refine sc ?_ ?_ <;> intro hc | refine retl (by exact .inr rfl) rfl (.tmp rfl rfl .nil) ?_ rfl .nil (.cons rfl (by rfl) .nil))
    rfl
set_option maxRecDepth 100000 in
theorem ownTaken_ (q : PTk) (h : FewK q) : PCalls Try.prog 54 [.agg (takR q)] (.agg (takR q)) := by
  have c1 := clone_ q.bytes (by have := h.bytes; omega)
  refine pcalls_of Try.func54 rfl rfl Try.ntmps54 rfl ?_
  unfold takR
  repeat' (first | (refine rg 0 ?_; refine sbx ?_; refine sal str46 ?_; refine oN ?_) | (refine rg 1 ?_; refine oFb ?_; refine oLb ?_; refine oC (c1) rfl (ac .nil) ?_; refine oFb ?_; refine oS ?_; refine oN ?_) | refine rg 2 (aq53 ?_) | refine gc ?_ | refine ct ?_ | refine cf ?_ | refine sc ?_ ?_ <;> intro hc | refine rq rfl (.cell rfl rfl (tyT rfl) (vc (vc (vc (vc .nil)))) rfl .nil) ?_)
  all_goals rfl
def SOk (l : List PTk) (k : Nat) : St := ⟨[(0, .own 1000 (l.map takR).length), (1, .t (.clo 54 [])), (9, .own 1000 (l.map takR).length), (10, .t (.v (.int .i64 ((l.map takR).length : Int)))), (11, .t (.v (.int .i64 (k : Int))))], [], [(1000, ⟨46, 4, l.map takR⟩)]⟩
set_option maxRecDepth 100000 in
set_option maxHeartbeats 1000000 in
theorem ownKs (l : List PTk) (hn : l.length ≤ 1000) (hq : ∀ q ∈ l, FewK q) : LCalls Try.prog 122 [.t (.sl 4 (l.map takR)), .t (.clo 54 [])] [] [] (.own 1000 (l.map takR).length) [] [(1000, ⟨46, 4, l.map takR⟩)] := by
  have hm : (l.map takR).length = l.length := List.length_map _
  have c1 := cloneK (l.map takR) (by rw [hm]; omega) (by rw [hm]; unfold maxLen; omega)
  refine lcalls_of Try.func122 rfl rfl Try.ntmps122 rfl ?_
  repeat' (first | refine rg 0 (aq0 ?_) | (refine rg 1 ?_; refine oMv ?_; refine sops_lcall (c1) (fun i => i) (fun i => i) (fun _ => false) (.free rfl rfl) rfl rfl rfl (by ((repeat' (first | exact .nil | refine .cons rfl rfl rfl ?_)) <;> fail)) .nil .nil rfl rfl (fun _ h => Bool.noConfusion h) ?_; refine aq0 ?_) | refine rg 2 (aq2 ?_) | refine gc ?_ | refine ct ?_ | refine cf ?_ | refine sc ?_ ?_ <;> intro hc | refine rq rfl (rt .nil) ?_)
  refine swp_for (SOk l) (fun _ => True) l.length ?_ trivial ?_
  · exact (weak_sub (.cons rfl rfl rfl (.cons rfl rfl rfl (.cons rfl rfl rfl (.cons rfl rfl rfl (.cons rfl rfl rfl .nil))))) .nil (.cons rfl rfl .nil))
  intro k hk _
  unfold SOk
  by_cases hlt : k < l.length
  · have hlt' : (k : Int) < l.length := by omega
    have hat : (l.map takR)[k]? = some (takR l[k]) := map_at_some hlt
    have c2 := ownTaken_ l[k] (hq _ (List.getElem_mem hlt))
    have hset := set_same hat
    generalize l[k] = q at *
    repeat' (first | refine for_next hlt (weak_sub (.cons rfl (by rfl) rfl (.cons rfl (by rfl) rfl (.cons rfl (by rfl) rfl (.cons rfl (by rfl) rfl (.cons rfl (by rfl) rfl .nil))))) .nil (.cons rfl (by first | rfl | (first | (rw [hset]; try rfl) | (exact congrArg _ hset))) .nil)) trivial | refine rg 3 (aq3 ?_) | (refine rg 4 (aq4 ?_); refine sp (po_load_own_agg (ts := takR q) rfl rfl rfl rfl (tyT rfl) hat rfl rfl) ?_; refine sal str46 ?_; refine aq5 ?_) | (refine rg 5 ?_; refine oMv ?_; refine oMv ?_; refine oMv ?_; (first | refine sp (po_load_own_agg (ts := takR q) rfl rfl rfl rfl (tyT rfl) hat rfl rfl) ?_ | refine sp (po_load_bx_agg rfl rfl (tyT rfl) rfl (vc (vc (vc (vc .nil)))) rfl) ?_); refine sp (po_call_clo rfl rfl (ac .nil) (c2)) ?_; refine sp (ixo rfl) ?_; (first | refine oS ?_ | refine sso ?_); refine oN ?_) | refine rg 6 (aq6 ?_) | refine gc ?_ | refine ct ?_)
  · obtain rfl : k = l.length := by omega
    repeat' (first | refine rg 3 (aq3 ?_) | refine rg 7 (aq7 ?_) | refine gc ?_ | refine ct ?_ | refine cf ?_ | refine sc ?_ ?_ <;> intro hc | exact retl1 (by exact .inr rfl) rfl (.tmp rfl rfl .nil) rfl .nil (.cons rfl (by rfl) .nil))
set_option maxRecDepth 100000 in
theorem ownIn_ (t : PIn) (h : FewIn t) : LCalls Try.prog 105 [.t (.agg (inT' t))] [] [] (.ag ((inS t).map .t ++ [.own 1000 (t.taken.map takR).length])) [] [(1000, takO t)] := by
  have c1 := ownKs t.taken h.taken h.each
  refine lcalls_of Try.func105 rfl rfl Try.ntmps105 rfl ?_
  unfold inT' inC
  repeat' (first | (refine rg 0 ?_; refine sbx ?_; refine sal str42 ?_; refine oN ?_) | (refine rg 1 ?_; refine oFb ?_; refine oLb ?_; refine sops_lcall (c1) (fun i => i) (fun i => i) (fun _ => false) (.free rfl rfl) rfl rfl rfl (by ((repeat' (first | exact .nil | refine .cons rfl rfl rfl ?_ | refine .vw rfl (by first | exact .t _ | exact .own rfl (by rfl) | exact .nil _ | exact .emp _ | exact .fn _) ?_)) <;> fail)) .nil .nil rfl rfl (fun _ h => Bool.noConfusion h) ?_; refine oFb ?_; refine oS ?_; refine oN ?_) | refine rg 2 (aq8 ?_) | refine gc ?_ | refine ct ?_ | refine cf ?_ | refine sc ?_ ?_ <;> intro hc | refine retl (by exact .inr rfl) rfl (.cell rfl rfl (tyT rfl) rfl rfl .nil) ?_ rfl .nil (.cons rfl (by rfl) .nil))
  all_goals rfl
def AOfI (l : List PIn) : Type := { A : List AIn // A.map AIn.t = l }
instance (l : List PIn) : Inhabited (AOfI l) := ⟨⟨l.map fun t => ⟨t, undef⟩, by rw [List.map_map]; exact List.map_id' l⟩⟩
def rowI (l : List PIn) (A : List AIn) : List (List T) := A.map inR ++ (l.drop A.length).map inT'
theorem rowI_len {l : List PIn} {A : List AIn} (h : A.length ≤ l.length) : (rowI l A).length = l.length := by
  unfold rowI; rw [List.length_append, List.length_map, List.length_map, List.length_drop]; omega
theorem rowI_at {l : List PIn} {A : List AIn} (h : A.length < l.length) : (rowI l A)[A.length]? = some (inT' l[A.length]) := by
  unfold rowI
  rw [List.getElem?_append_right (by rw [List.length_map]; exact Nat.le_refl _), List.length_map, Nat.sub_self, List.getElem?_map, List.getElem?_drop, Nat.add_zero, List.getElem?_eq_getElem h]; rfl
theorem rowI_set {l : List PIn} {A : List AIn} (h : A.length < l.length) (u : Value) : (rowI l A).set A.length (inR ⟨l[A.length], u⟩) = rowI l (A ++ [⟨l[A.length], u⟩]) := by
  unfold rowI
  rw [List.set_append_right _ _ (by rw [List.length_map]; exact Nat.le_refl _), List.length_map, Nat.sub_self, List.drop_eq_getElem_cons h, List.map_cons, List.set_cons_zero, List.map_append, List.length_append, List.append_assoc]; rfl
def SOi (l : List PIn) (A : List AIn) : St := ⟨[(0, .own 1001 l.length), (1, .t (.clo 105 [])), (9, .own 1001 l.length), (10, .t (.v (.int .i64 (l.length : Int)))), (11, .t (.v (.int .i64 (A.length : Int))))], [(1100, [.rs (FamR (famI A))])], [(1001, ⟨42, 14, rowI l A⟩)]⟩
set_option maxRecDepth 100000 in
set_option maxHeartbeats 2000000 in
theorem ownIns (l : List PIn) (hn : l.length ≤ 1000) (hq : ∀ t ∈ l, FewIn t) : ECalls Try.prog 104 [.t (.sl 14 (l.map inT')), .t (.clo 105 [])] [] [] (fun _ : AOfI l => .own 1001 l.length) (fun A => [(1100, [.rs (FamR (famI A.1))])]) (fun A => [(1001, inO A.1)]) := by
  have hm : (l.map inT').length = l.length := List.length_map _
  have c1 := cloneIn (l.map inT') (by rw [hm]; omega) (by rw [hm]; unfold maxLen; omega)
  rw [hm] at c1
  refine ecalls_of Try.func104 rfl rfl Try.ntmps104 rfl ?_
  repeat' (first | refine rg 0 (aq0 ?_) | (refine rg 1 ?_; refine oMv ?_; refine sops_lcall (c1) (fun i => i) (fun _ => 1001) (fun _ => false) (.free rfl rfl) rfl rfl rfl (by ((repeat' (first | exact .nil | refine .cons rfl rfl rfl ?_)) <;> fail)) .nil .nil rfl rfl (fun _ h => Bool.noConfusion h) ?_; refine aq0 ?_) | refine rg 2 (aq2 ?_) | refine gc ?_ | refine ct ?_ | refine cf ?_ | refine sc ?_ ?_ <;> intro hc | refine rq rfl (rt .nil) ?_)
  refine swp_weak (weak_fam0 1100 rfl) ?_
  refine swp_fam (SOi l) (fun A => A.map AIn.t = l.take A.length ∧ A.length ≤ l.length) (fun A => l.length - A.length) [] ?_ ⟨rfl, Nat.zero_le _⟩ ?_
  · exact (weak_sub (.cons rfl rfl rfl (.cons rfl rfl rfl (.cons rfl rfl rfl (.cons rfl rfl rfl (.cons rfl rfl rfl .nil))))) (.cons rfl rfl rfl .nil) (.cons rfl rfl .nil))
  rintro A ⟨hA, hk⟩
  have hrl := rowI_len hk
  unfold SOi
  by_cases hlt : A.length < l.length
  · have hlt' : (A.length : Int) < l.length := by omega
    have hat := rowI_at hlt
    have c2 := ownIn_ l[A.length] (hq _ (List.getElem_mem hlt))
    have hset := rowI_set hlt
    have hA2 : ∀ u, (A ++ [(⟨l[A.length], u⟩ : AIn)]).map AIn.t = l.take (A ++ [(⟨l[A.length], u⟩ : AIn)]).length := fun u => by
      rw [List.map_append, hA, List.length_append]
      exact (List.take_append_getElem hlt)
    generalize l[A.length] = t at *
    repeat' (first | refine rg 3 (aq3 ?_) | refine gc ?_ | refine ct ?_ | refine cf ?_ | refine sc ?_ ?_ <;> intro hc | refine rq rfl (rt .nil) ?_)
    refine rg 4 ?_
    refine oMv ?_
    refine sp (ixo rfl) ?_
    refine sp (po_load_own_agg (ts := inT' t) rfl rfl rfl hrl.symm (tyT rfl) hat rfl rfl) ?_
    refine sal str42 ?_
    refine oAs ?_
    refine oS ?_
    refine oN ?_
    refine gc ?_
    refine rg 5 ?_
    refine oMv ?_
    refine oMv ?_
    refine oMv ?_
    refine sp (po_load_bx_agg rfl rfl (tyT rfl) rfl (vc (vc (vc (vc (vc (vc (vc (vc (vc (vc (vc (vc (vc (vc .nil)))))))))))))) rfl) ?_
    refine sops_lcall_tclo (args := [_]) (caps := []) c2 (fun i => i) (fun _ => 1002) (fun _ => false) (.free rfl rfl) rfl rfl rfl rfl (.cons rfl rfl rfl .nil) .nil .nil rfl rfl (fun _ h => Bool.noConfusion h) ?_
    refine sops_weakE (weak_closeG 20 1100 1002 (famI A) [] ((inS t).map .t) [] rfl (by rw [List.append_nil]; rfl) rfl rfl) fun u => ?_
    have hf : famI A ++ (u, takO t) :: [] = famI (A ++ [⟨t, u⟩]) := by unfold famI; rw [List.map_append]; rfl
    rw [hf]
    refine sp (po_index_own (sz := 14) (k := A.length) rfl rfl rfl (by omega) rfl (tyS rfl) rfl hlt) ?_
    refine sops_store_own (t := .agg (inR ⟨t, u⟩)) (ts := inR ⟨t, u⟩) (by rfl) (.free rfl rfl) rfl rfl rfl rfl (by omega) rfl (by repeat first | exact .agn | refine .agc ?_ ?_ | exact .t _) rfl rfl (tyT rfl) rfl hat rfl ?_
    refine oN ?_
    have e1 := congrArg (fun r => (⟨42, 14, r⟩ : Own)) (hset u)
    have hla : (A ++ [(⟨t, u⟩ : AIn)]).length = A.length + 1 := List.length_append
    repeat' (first | refine rg 6 (aq6 ?_) | refine gc ?_ | refine ct ?_ | refine cf ?_ | refine sc ?_ ?_ <;> intro hc | refine rq rfl (rt .nil) ?_)
    refine fam_next (A ++ [⟨t, u⟩]) (by rw [hla]; omega) ?_ ⟨hA2 u, by rw [hla]; exact hlt⟩
    refine weak_sub ?_ ?_ ?_
    · exact .cons rfl (by rfl) rfl (.cons rfl (by rfl) rfl (.cons rfl (by rfl) rfl (.cons rfl (by rfl) rfl (.cons rfl (by rw [hla]) rfl .nil))))
    · exact .cons rfl (by rfl) rfl .nil
    · exact .cons rfl (by exact e1) .nil
  · have hkl : A.length = l.length := by omega
    rw [hkl, List.take_length] at hA
    have hro : rowI l A = A.map inR := by unfold rowI; rw [hkl, List.drop_length]; exact List.append_nil _
    rw [hro, hkl]
    repeat' (first | refine gc ?_ | refine fam_exit ?_ | refine fam_ret ?_ | refine rete ⟨A, hA⟩ ?_ | refine rg 3 (aq3 ?_) | refine rg 7 (aq7 ?_) | refine ct ?_ | refine cf ?_ | refine sc ?_ ?_ <;> intro hc | refine retl (by exact .inr rfl) rfl (.tmp rfl rfl .nil) ?_ rfl (.cons rfl (by rfl) rfl .nil) (.cons rfl (by rfl) .nil))
    rfl
set_option maxRecDepth 100000 in
set_option maxHeartbeats 1000000 in
theorem ownInlet_ (l : List PIn) (hn : l.length ≤ 1000) (hq : ∀ t ∈ l, FewIn t) : ECalls Try.prog 49 [.t (.agg (inlT l))] [] [] (fun _ : AOfI l => .ag [.own 1001 l.length]) (fun A => [(1100, [.rs (FamR (famI A.1))])]) (fun A => [(1001, inO A.1)]) := by
  have c1 := ownIns l hn hq
  refine ecalls_of Try.func49 rfl rfl Try.ntmps49 rfl ?_
  unfold inlT
  repeat' (first | (refine rg 0 ?_; refine sbx ?_; refine sal str29 ?_; refine oN ?_) | refine gc ?_ | refine ct ?_ | refine cf ?_ | refine sc ?_ ?_ <;> intro hc | refine rq rfl (.cell rfl rfl (tyT rfl) (vc .nil) rfl .nil) ?_)
  refine rg 1 ?_
  refine oFb ?_
  refine oLb ?_
  refine sops_ecall c1 (fun i => i) (fun i => i) (.free rfl rfl) rfl rfl rfl (.cons rfl rfl rfl (.vw rfl (.fn _) .nil)) .nil .nil rfl (fun _ => rfl) fun A => ?_
  obtain ⟨A, hl⟩ := A
  dsimp only
  refine oFb ?_
  refine oS ?_
  refine oN ?_
  refine gc ?_
  repeat' (first | refine gc ?_ | refine rete ⟨A, hl⟩ ?_ | (refine rg 2 ?_; (first | refine sp (po_load_bx_agg rfl rfl (tyT rfl) rfl (vc .nil) rfl) ?_ | refine sp (po_load_agg rfl rfl (tyT rfl) rfl rfl) ?_ | refine sp (lda rfl) ?_ | refine sp (po_load_bx_ag rfl rfl (tyT rfl) rfl rfl rfl rfl) ?_); refine oS ?_; refine oN ?_) | refine ct ?_ | refine cf ?_ | refine sc ?_ ?_ <;> intro hc | refine retl (by exact .inr rfl) rfl (.cell rfl rfl (tyT rfl) rfl rfl .nil) ?_ rfl (.cons rfl (by rfl) rfl .nil) (.cons rfl (by rfl) .nil))
  rfl
end Go.Proofs.Ytabejnjnkpdjbaa.Sim
