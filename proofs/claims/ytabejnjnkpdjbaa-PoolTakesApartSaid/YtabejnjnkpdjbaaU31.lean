/- Merged by bundles.py: SimPm. -/
import Derived.Test.YtabejnjnkpdjbaaU30
import Derived.Test.YtabejnjnkpdjbaaU15
/- Ask, whole. -/
namespace Go.Proofs.Ytabejnjnkpdjbaa.Sim
set_option linter.unusedVariables false
set_option linter.unusedSimpArgs false
open Go.RowKit Mem
set_option maxRecDepth 100000 in
set_option maxHeartbeats 4000000 in
theorem ask_ (p : PPool) (now peer src a b c : Int) (q : PQ) (hn : p.tuns.length ≤ 500) (hq : ∀ t ∈ p.tuns, FewTun t) (hfq : FewQ q) : LCalls Try.prog 17 [.t (.agg (poolT p)), .t (u64T now), .t (i64T peer), .t (u64T src), .t (dstT a b c), .t (.agg (askR q))] [] [] (rAsk (askP p now peer src a b c q)) [] [] := by
  have c1 := with_ p now (by omega) hq
  have c0 := idxOutC q p.tuns (by omega) (fun t ht => (hq t ht).asks)
  have cq := ownQuery_ q hfq
  refine lcalls_of Try.func17 rfl rfl Try.ntmps17 rfl ?_
  unfold poolT dstT
  repeat' (first | (refine rg 0 ?_; refine sbx ?_; refine sbx ?_; refine sbx ?_; refine sbx ?_; refine sbx ?_; refine sal str58 ?_; refine aq19 ?_) | refine gc ?_ | refine ct ?_ | refine cf ?_ | refine sc ?_ ?_ <;> intro hc | refine rq rfl (.cell rfl rfl (tyT rfl) (vc (vc (vc (vc .nil)))) rfl (rt (rt .nil))) ?_)
  refine rg 1 ?_
  refine sp (po_load_bx_agg rfl rfl (tyT rfl) rfl (vc (vc (vc (vc .nil)))) rfl) ?_
  refine oMv ?_
  refine sops_ecall c1 (fun i => bif Nat.beq i 12 then 500 else i) (fun i => i) (.free rfl rfl) rfl rfl rfl (.cons rfl rfl rfl (.cons rfl rfl rfl .nil)) .nil .nil rfl (fun _ => rfl) fun A => ?_
  obtain ⟨l, hl⟩ := A
  have hll : l.length ≤ 500 := by have := congrArg List.length hl; rw [List.length_map] at this; omega
  dsimp only
  refine oAs ?_
  refine oN ?_
  have c2 := idxAsk peer src a b c l (by omega)
  rw [show (l.map tunR).length = l.length from List.length_map _] at c2
  unfold wB wO wC begW
  dsimp only
  repeat' (first | (refine rg 2 (aq28 ?_); refine sops_lcall (c0) (fun i => bif Nat.beq i 2000 then 11 else i) (fun i => i) (fun _ => false) (.free rfl rfl) rfl rfl rfl (by ((repeat' (first | exact .nil | refine .cons rfl rfl rfl ?_)) <;> fail)) (.cons rfl rfl .nil) .nil rfl rfl (fun _ h => Bool.noConfusion h) ?_; refine aq0 ?_) | (refine rg 3 ?_; refine oMv ?_; refine sp (po_nilcheck rfl rfl) ?_; refine oFb ?_; refine oFb ?_; refine oLb ?_; (first | refine sp (po_func rfl (ac (ac (ac .nil)))) ?_ | refine sp (po_func_cl rfl (.cons rfl rfl (.cons rfl rfl (.cons rfl rfl .nil)))) ?_); refine sops_lcall (c2) (fun i => bif Nat.beq i 2000 then 8 else bif Nat.beq i 2001 then 9 else bif Nat.beq i 2002 then 10 else i) (fun i => bif Nat.beq i 2000 then 1001 else i) (fun i => Nat.beq i 2000) (.free rfl rfl) rfl rfl rfl (by ((repeat' (first | exact .nil | refine .cons rfl rfl rfl ?_)) <;> fail)) (.cons rfl rfl (.cons rfl rfl (.cons rfl rfl .nil))) (.cons rfl rfl .nil) rfl rfl (kp_id 2000 rfl rfl rfl (by rfl)) ?_; refine aq0 ?_) | (refine rg 4 ?_; refine sp (po_load_bx_agg rfl rfl (tyT rfl) rfl (vc (vc (vc (vc (vc (vc (vc (vc (vc .nil))))))))) rfl) ?_; refine oC (cq) rfl (ac .nil) ?_; refine aq12 ?_) | (refine rg 5 ?_; refine oMv ?_; refine oFb ?_; refine oS ?_; refine oFb ?_; refine oS ?_; refine oFb ?_; refine oS ?_; refine oN ?_) | refine gc ?_ | refine ct ?_ | refine cf ?_ | refine sc ?_ ?_ <;> intro hc | refine rq rfl (.cell rfl rfl (tyT rfl) (vc (vc (vc (vc .nil)))) rfl (rt (rt .nil))) ?_)
  refine swp_weak (st' := SAk p now peer src a b c q l (idxP (fun x : ATun => pAsk peer src a b c x.t) l) (decide ((0 : Int) ≤ idxP (fun t : PTun => inT q t) p.tuns))) (weak_sub (.cons rfl rfl rfl (.cons rfl rfl rfl (.cons rfl rfl rfl (.cons rfl rfl rfl (.cons rfl rfl rfl (.cons rfl rfl rfl (.cons rfl rfl rfl (.cons rfl rfl rfl (.cons rfl rfl rfl (.cons rfl rfl rfl (.cons rfl rfl rfl (.cons rfl rfl rfl .nil)))))))))))) (.cons rfl rfl rfl (.cons rfl rfl rfl (.cons rfl rfl rfl (.cons rfl rfl rfl (.cons rfl rfl rfl (.cons rfl rfl rfl (.cons rfl rfl rfl (.cons rfl rfl rfl .nil)))))))) (.cons rfl rfl (.cons rfl rfl (.cons rfl rfl .nil)))) ?_
  unfold SAk wN
  dsimp only
  by_cases h1 : peer = p.node
  · have hr : askP p now peer src a b c q = (noPool, [], 1) := by unfold askP; rw [if_pos (.inl h1)]
    have hb1 : decide (peer = p.node) = true := decide_eq_true h1
    rw [hr]
    repeat' (first | (refine rg 6 ?_; refine oLb ?_; refine oFb ?_; refine oLb ?_; refine oCm ?_; refine oMv ?_; (first | refine oLb ?_ | refine oLd ?_ | refine sp (ldo rfl) ?_ | refine oK ?_) <;> (first | refine oCm ?_ | refine oK ?_) <;> refine oPt ?_ <;> refine oMv ?_ <;> (first | refine oLb ?_ | refine oLd ?_ | refine sp (ldo rfl) ?_ | refine oK ?_) <;> (first | refine oCm ?_ | refine oK ?_) <;> refine oPt ?_ <;> refine oMv ?_ <;> (first | refine oFb ?_ | refine oFd ?_ | refine sp (fdo rfl) ?_ | refine oK ?_) <;> (first | refine oLb ?_ | refine oLd ?_ | refine sp (ldo rfl) ?_ | refine oK ?_) <;> (first | refine oCm ?_ | refine oK ?_) <;> refine oPt ?_ <;> refine oMv ?_ <;> (first | refine oMv ?_ | refine oK ?_) <;> refine oPt ?_ <;> refine oAs ?_ <;> refine oN ?_) | (refine rg 7 ?_; refine sp (po_buildS str58 rfl .nil rfl) ?_; refine aq56 ?_) | refine gc ?_ | refine ct ?_ | refine cf ?_ | refine sc ?_ ?_ <;> intro hc | refine rq rfl (.cell rfl rfl (tyT rfl) (vc (vc (vc (vc .nil)))) rfl (rt (rt .nil))) ?_)
    exact retl (.inr rfl) rfl (.cellT rfl rfl (tyT rfl) (vc (vc (vc (vc .nil)))) rfl (.tmpT rfl (.nil _) (.tmp rfl rfl .nil))) rfl rfl .nil .nil
  by_cases h2 : peer < 1
  · have hr : askP p now peer src a b c q = (noPool, [], 1) := by unfold askP; rw [if_pos (.inr (.inl h2))]
    have hb1 : decide (peer = p.node) = false := decide_eq_false h1
    have hb2 : decide (peer < 1) = true := decide_eq_true h2
    rw [hr]
    repeat' (first | (refine rg 6 ?_; refine oLb ?_; refine oFb ?_; refine oLb ?_; refine oCm ?_; refine oMv ?_; refine oLb ?_ <;> refine oCm ?_ <;> (first | refine oPt ?_ | refine oPf ?_) <;> refine oMv ?_ <;> (first | refine oLb ?_ | refine oLd ?_ | refine sp (ldo rfl) ?_ | refine oK ?_) <;> (first | refine oCm ?_ | refine oK ?_) <;> refine oPt ?_ <;> refine oMv ?_ <;> (first | refine oFb ?_ | refine oFd ?_ | refine sp (fdo rfl) ?_ | refine oK ?_) <;> (first | refine oLb ?_ | refine oLd ?_ | refine sp (ldo rfl) ?_ | refine oK ?_) <;> (first | refine oCm ?_ | refine oK ?_) <;> refine oPt ?_ <;> refine oMv ?_ <;> (first | refine oMv ?_ | refine oK ?_) <;> refine oPt ?_ <;> refine oAs ?_ <;> refine oN ?_) | (refine rg 7 ?_; refine sp (po_buildS str58 rfl .nil rfl) ?_; refine aq56 ?_) | refine gc ?_ | refine ct ?_ | refine cf ?_ | refine sc ?_ ?_ <;> intro hc | refine rq rfl (.cell rfl rfl (tyT rfl) (vc (vc (vc (vc .nil)))) rfl (rt (rt .nil))) ?_)
    exact retl (.inr rfl) rfl (.cellT rfl rfl (tyT rfl) (vc (vc (vc (vc .nil)))) rfl (.tmpT rfl (.nil _) (.tmp rfl rfl .nil))) rfl rfl .nil .nil
  by_cases h3 : 9 < peer
  · have hr : askP p now peer src a b c q = (noPool, [], 1) := by unfold askP; rw [if_pos (.inr (.inr (.inl h3)))]
    have hb1 : decide (peer = p.node) = false := decide_eq_false h1
    have hb2 : decide (peer < 1) = false := decide_eq_false h2
    have hb3 : decide (9 < peer) = true := decide_eq_true h3
    rw [hr]
    repeat' (first | (refine rg 6 ?_; refine oLb ?_; refine oFb ?_; refine oLb ?_; refine oCm ?_; refine oMv ?_; refine oLb ?_ <;> refine oCm ?_ <;> (first | refine oPt ?_ | refine oPf ?_) <;> refine oMv ?_ <;> refine oLb ?_ <;> refine oCm ?_ <;> (first | refine oPt ?_ | refine oPf ?_) <;> refine oMv ?_ <;> (first | refine oFb ?_ | refine oFd ?_ | refine sp (fdo rfl) ?_ | refine oK ?_) <;> (first | refine oLb ?_ | refine oLd ?_ | refine sp (ldo rfl) ?_ | refine oK ?_) <;> (first | refine oCm ?_ | refine oK ?_) <;> refine oPt ?_ <;> refine oMv ?_ <;> (first | refine oMv ?_ | refine oK ?_) <;> refine oPt ?_ <;> refine oAs ?_ <;> refine oN ?_) | (refine rg 7 ?_; refine sp (po_buildS str58 rfl .nil rfl) ?_; refine aq56 ?_) | refine gc ?_ | refine ct ?_ | refine cf ?_ | refine sc ?_ ?_ <;> intro hc | refine rq rfl (.cell rfl rfl (tyT rfl) (vc (vc (vc (vc .nil)))) rfl (rt (rt .nil))) ?_)
    exact retl (.inr rfl) rfl (.cellT rfl rfl (tyT rfl) (vc (vc (vc (vc .nil)))) rfl (.tmpT rfl (.nil _) (.tmp rfl rfl .nil))) rfl rfl .nil .nil
  by_cases h4 : q.id = 0
  · have hr : askP p now peer src a b c q = (noPool, [], 1) := by unfold askP; rw [if_pos (.inr (.inr (.inr (.inl h4))))]
    have hb1 : decide (peer = p.node) = false := decide_eq_false h1
    have hb2 : decide (peer < 1) = false := decide_eq_false h2
    have hb3 : decide (9 < peer) = false := decide_eq_false h3
    have hb4 : decide (q.id = 0) = true := decide_eq_true h4
    rw [hr]
    repeat' (first | (refine rg 6 ?_; refine oLb ?_; refine oFb ?_; refine oLb ?_; refine oCm ?_; refine oMv ?_; refine oLb ?_ <;> refine oCm ?_ <;> (first | refine oPt ?_ | refine oPf ?_) <;> refine oMv ?_ <;> refine oLb ?_ <;> refine oCm ?_ <;> (first | refine oPt ?_ | refine oPf ?_) <;> refine oMv ?_ <;> refine oFb ?_ <;> refine oLb ?_ <;> refine oCm ?_ <;> (first | refine oPt ?_ | refine oPf ?_) <;> refine oMv ?_ <;> (first | refine oMv ?_ | refine oK ?_) <;> refine oPt ?_ <;> refine oAs ?_ <;> refine oN ?_) | (refine rg 7 ?_; refine sp (po_buildS str58 rfl .nil rfl) ?_; refine aq56 ?_) | refine gc ?_ | refine ct ?_ | refine cf ?_ | refine sc ?_ ?_ <;> intro hc | refine rq rfl (.cell rfl rfl (tyT rfl) (vc (vc (vc (vc .nil)))) rfl (rt (rt .nil))) ?_)
    exact retl (.inr rfl) rfl (.cellT rfl rfl (tyT rfl) (vc (vc (vc (vc .nil)))) rfl (.tmpT rfl (.nil _) (.tmp rfl rfl .nil))) rfl rfl .nil .nil
  have hb1 : decide (peer = p.node) = false := decide_eq_false h1
  have hb2 : decide (peer < 1) = false := decide_eq_false h2
  have hb3 : decide (9 < peer) = false := decide_eq_false h3
  have hb4 : decide (q.id = 0) = false := decide_eq_false h4
  by_cases h5 : (0 : Int) ≤ idxP (fun t : PTun => inT q t) p.tuns
  · have hr : askP p now peer src a b c q = (noPool, [], 1) := by unfold askP; rw [if_pos (.inr (.inr (.inr (.inr h5))))]
    have hb5 : decide ((0 : Int) ≤ idxP (fun t : PTun => inT q t) p.tuns) = true := decide_eq_true h5
    rw [hr]
    repeat' (first | refine rg 6 (aq59 ?_) | (refine rg 7 ?_; refine sp (po_buildS str58 rfl .nil rfl) ?_; refine aq56 ?_) | refine gc ?_ | refine ct ?_ | refine cf ?_ | refine sc ?_ ?_ <;> intro hc | refine rq rfl (.cell rfl rfl (tyT rfl) (vc (vc (vc (vc .nil)))) rfl (rt (rt .nil))) ?_)
    exact retl (.inr rfl) rfl (.cellT rfl rfl (tyT rfl) (vc (vc (vc (vc .nil)))) rfl (.tmpT rfl (.nil _) (.tmp rfl rfl .nil))) rfl rfl .nil .nil
  have hb5 : decide ((0 : Int) ≤ idxP (fun t : PTun => inT q t) p.tuns) = false := decide_eq_false h5
  have hok : ¬ (peer = p.node ∨ peer < 1 ∨ 9 < peer ∨ q.id = 0 ∨ (0 : Int) ≤ idxP (fun t : PTun => inT q t) p.tuns) := by
    rintro (h | h | h | h | h)
    · exact h1 h
    · exact h2 h
    · exact h3 h
    · exact h4 h
    · exact h5 h
  by_cases h6 : 4096 < q.bytes.length
  · have hr : askP p now peer src a b c q = (noPool, [], 6) := by unfold askP; rw [if_neg hok, if_pos h6]
    have hb6 : (4096 : Int) < (((newQ now q).bytes.map byteT).length : Int) := by rw [List.length_map]; show (4096 : Int) < (q.bytes.length : Int); omega
    have hb6d := decide_eq_true hb6
    rw [hr]
    repeat' (first | refine rg 6 (aq59 ?_) | refine rg 8 (aq60 ?_) | (refine rg 9 ?_; refine sp (po_buildS str58 rfl .nil rfl) ?_; refine aq56 ?_) | refine gc ?_ | refine ct ?_ | refine cf ?_ | refine sc ?_ ?_ <;> intro hc | refine rq rfl (.cell rfl rfl (tyT rfl) (vc (vc (vc (vc .nil)))) rfl (rt (rt .nil))) ?_)
    exact retl (.inr rfl) rfl (.cellT rfl rfl (tyT rfl) (vc (vc (vc (vc .nil)))) rfl (.tmpT rfl (.nil _) (.tmp rfl rfl .nil))) rfl rfl .nil .nil
  have hb6 : ¬ (4096 : Int) < (((newQ now q).bytes.map byteT).length : Int) := by rw [List.length_map]; show ¬ (4096 : Int) < (q.bytes.length : Int); omega
  have hb6d := decide_eq_false hb6
  repeat' (first | refine rg 6 (aq59 ?_) | refine rg 8 (aq60 ?_) | refine gc ?_ | refine ct ?_ | refine cf ?_ | refine sc ?_ ?_ <;> intro hc | refine rq rfl (.cell rfl rfl (tyT rfl) (vc (vc (vc (vc .nil)))) rfl (rt (rt .nil))) ?_)
  refine swp_weak (st' := SAk p now peer src a b c q l (idxP (fun x : ATun => pAsk peer src a b c x.t) l) (decide ((0 : Int) ≤ idxP (fun t : PTun => inT q t) p.tuns))) (weak_sub (.cons rfl rfl rfl (.cons rfl rfl rfl (.cons rfl rfl rfl (.cons rfl rfl rfl (.cons rfl rfl rfl (.cons rfl rfl rfl (.cons rfl rfl rfl (.cons rfl rfl rfl (.cons rfl rfl rfl (.cons rfl rfl rfl (.cons rfl rfl rfl (.cons rfl rfl rfl .nil)))))))))))) (.cons rfl rfl rfl (.cons rfl rfl rfl (.cons rfl rfl rfl (.cons rfl rfl rfl (.cons rfl rfl rfl (.cons rfl rfl rfl (.cons rfl rfl rfl (.cons rfl rfl rfl .nil)))))))) (.cons rfl rfl (.cons rfl rfl (.cons rfl rfl .nil)))) ?_
  have h6' : ¬ 4096 < q.bytes.length := h6
  have hfew : ∀ x ∈ l, FewTun x.t := fun x hx => hq _ (by rw [← hl]; exact List.mem_map_of_mem hx)
  clear hb1 hb2 hb3 hb4 hb5 hb6 hb6d c0 c1 c2 cq
  rcases idxP_split (fun x : ATun => pAsk peer src a b c x.t) l with ⟨g1, g2⟩ | ⟨A, x, B, rfl, g1, g2, g3⟩
  · rw [g1]
    have hm : cutT (pAsk peer src a b c) p.tuns = none := cutT_miss fun t ht => by
      rw [← hl] at ht
      obtain ⟨x, hx, rfl⟩ := List.mem_map.1 ht
      exact g2 x hx
    have hr : askP p now peer src a b c q = match askMs ATun.t l with
      | none => (noPool, [], 3)
      | some (l', D) => addT p now peer src a b c q (l'.map ATun.t) D := by
      unfold askP; rw [if_neg hok, if_neg h6, hm]; dsimp only
      rw [← hl, askMs_map]
      cases askMs ATun.t l <;> rfl
    rw [hr]
    refine askMiss_ rfl p now peer src a b c q l _ hll (fun hn st h => ?_) (fun l' D hD h5 h7 => ?_)
    · rw [hn]
      refine gc ?_
      exact h
    · rw [hD]
      refine gc ?_
      refine askNew_ rfl p now peer src a b c q l' D h5 h7 fun L hL c1 d1 hc1 => ?_
      refine askEnd24_ hc1 p now L _ _ fun st h => ?_
      rw [hL] at h
      exact h
  · rw [g1]
    have hm : cutT (pAsk peer src a b c) p.tuns = some (A.map ATun.t, x.t, B.map ATun.t) := by
      rw [← hl, List.map_append, List.map_cons]
      exact cutT_hit (fun t ht => by obtain ⟨y, hy, rfl⟩ := List.mem_map.1 ht; exact g3 y hy) g2
    have hr : askP p now peer src a b c q = askOl p now q (A.map ATun.t) (B.map ATun.t) x.t := by unfold askP; rw [if_neg hok, if_neg h6, hm]
    rw [hr]
    refine askOld_ rfl p now peer src a b c q A B x _ hll hfq fun st h => ?_
    refine gc ?_
    exact h
end Go.Proofs.Ytabejnjnkpdjbaa.Sim
