/- Merged by bundles.py: SimPm, SimPl, SimCb, SimNl8. -/
import Derived.Test.YtabejnjnkpdjbaaS31
import Derived.Test.YtabejnjnkpdjbaaS25
import Derived.Test.YtabejnjnkpdjbaaS20
import Derived.Test.YtabejnjnkpdjbaaS13
import Derived.Test.YtabejnjnkpdjbaaS4
import Derived.Lib.SlBytesConst
import Derived.Test.YtabejnjnkpdjbaaS30
/- Ask, whole. -/
namespace Go.Proofs.Ytabejnjnkpdjbaa.Sim
set_option linter.unusedVariables false
set_option linter.unusedSimpArgs false
open Go.RowKit Mem
set_option maxRecDepth 100000 in
set_option maxHeartbeats 4000000 in
theorem ask_ (p : PPool) (now peer src a b c : Int) (q : PQ) (hn : p.tuns.length ≤ 500) (hq : ∀ t ∈ p.tuns, FewTun t) (hfq : FewQ q) : LCalls Try.prog 17 [.t (.agg (poolT p)), .t (u64T now), .t (i64T peer), .t (u64T src), .t (dstT a b c), .t (.agg (askR q))] [] [] (rAsk (askP p now peer src a b c q)) [] [] := by
  have c1 := with_ p now (by omega) hq
  have c0 := idxOutC q p.tuns (by omega) (fun t ht => (hq t ht).asks)
  have cq := ownQuery_ q hfq
  refine lcalls_of Try.func17 rfl rfl Try.ntmps17 rfl ?_
  unfold poolT dstT
  repeat' (first | (refine rg 0 ?_; refine sbx ?_; refine sbx ?_; refine sbx ?_; refine sbx ?_; refine sbx ?_; refine sal str58 ?_; refine oAs ?_; refine oAs ?_; refine oN ?_) | refine gc ?_ | refine ct ?_ | refine cf ?_ | refine swp_cond rfl (fun hc => ?_) (fun hc => ?_) | refine rq rfl (.cell rfl rfl (tyT rfl) (vc (vc (vc (vc .nil)))) rfl (rt (rt .nil))) ?_)
  refine rg 1 ?_
  refine sp (po_load_bx_agg rfl rfl (tyT rfl) rfl (vc (vc (vc (vc .nil)))) rfl) ?_
  refine oMv ?_
  refine sops_ecall c1 (fun i => bif Nat.beq i 12 then 500 else i) (fun i => i) (.free rfl rfl) rfl rfl rfl (.cons rfl rfl rfl (.cons rfl rfl rfl .nil)) .nil .nil rfl (fun _ => rfl) fun A => ?_
  obtain ⟨l, hl⟩ := A
  have hll : l.length ≤ 500 := by have := congrArg List.length hl; rw [List.length_map] at this; omega
  dsimp only
  refine oAs ?_
  refine oN ?_
  have c2 := idxAsk peer src a b c l (by omega)
  rw [show (l.map tunR).length = l.length from List.length_map _] at c2
  unfold wB wO wC begW
  dsimp only
  repeat' (first | (refine rg 2 ?_; refine oFb ?_; refine oLb ?_; (first | refine sp (po_func rfl (ac .nil)) ?_ | refine sp (po_func_cl rfl (.cons rfl rfl .nil)) ?_); refine sops_lcall (c0) (fun i => bif Nat.beq i 2000 then 11 else i) (fun i => i) (fun _ => false) (.free rfl rfl) rfl rfl rfl (by ((repeat' (first | exact .nil | refine .cons rfl rfl rfl ?_)) <;> fail)) (.cons rfl rfl .nil) .nil rfl rfl (fun _ h => Bool.noConfusion h) ?_; refine oAs ?_; refine oN ?_) | (refine rg 3 ?_; refine oMv ?_; refine sp (po_nilcheck rfl rfl) ?_; refine oFb ?_; refine oFb ?_; refine oLb ?_; (first | refine sp (po_func rfl (ac (ac (ac .nil)))) ?_ | refine sp (po_func_cl rfl (.cons rfl rfl (.cons rfl rfl (.cons rfl rfl .nil)))) ?_); refine sops_lcall (c2) (fun i => bif Nat.beq i 2000 then 8 else bif Nat.beq i 2001 then 9 else bif Nat.beq i 2002 then 10 else i) (fun i => bif Nat.beq i 2000 then 1001 else i) (fun i => Nat.beq i 2000) (.free rfl rfl) rfl rfl rfl (by ((repeat' (first | exact .nil | refine .cons rfl rfl rfl ?_)) <;> fail)) (.cons rfl rfl (.cons rfl rfl (.cons rfl rfl .nil))) (.cons rfl rfl .nil) rfl rfl (kp_id 2000 rfl rfl rfl (by rfl)) ?_; refine oAs ?_; refine oN ?_) | (refine rg 4 ?_; (refine sp (po_load_bx_agg rfl rfl (tyT rfl) rfl (vc (vc (vc (vc (vc (vc (vc (vc (vc .nil))))))))) rfl) ?_); refine oC (cq) rfl (ac .nil) ?_; refine oS ?_; refine oN ?_) | (refine rg 5 ?_; refine oMv ?_; refine oFb ?_; refine oS ?_; refine oFb ?_; refine oS ?_; refine oFb ?_; refine oS ?_; refine oN ?_) | refine gc ?_ | refine ct ?_ | refine cf ?_ | refine swp_cond rfl (fun hc => ?_) (fun hc => ?_) | refine rq rfl (.cell rfl rfl (tyT rfl) (vc (vc (vc (vc .nil)))) rfl (rt (rt .nil))) ?_)
  refine swp_weak (st' := SAk p now peer src a b c q l (idxP (fun x : ATun => pAsk peer src a b c x.t) l) (decide ((0 : Int) ≤ idxP (fun t : PTun => inT q t) p.tuns))) (weak_sub (.cons rfl rfl rfl (.cons rfl rfl rfl (.cons rfl rfl rfl (.cons rfl rfl rfl (.cons rfl rfl rfl (.cons rfl rfl rfl (.cons rfl rfl rfl (.cons rfl rfl rfl (.cons rfl rfl rfl (.cons rfl rfl rfl (.cons rfl rfl rfl (.cons rfl rfl rfl .nil)))))))))))) (.cons rfl rfl rfl (.cons rfl rfl rfl (.cons rfl rfl rfl (.cons rfl rfl rfl (.cons rfl rfl rfl (.cons rfl rfl rfl (.cons rfl rfl rfl (.cons rfl rfl rfl .nil)))))))) (.cons rfl rfl (.cons rfl rfl (.cons rfl rfl .nil)))) ?_
  unfold SAk wN
  dsimp only
  by_cases h1 : peer = p.node
  · have hr : askP p now peer src a b c q = (noPool, [], 1) := by unfold askP; rw [if_pos (.inl h1)]
    have hb1 : decide (peer = p.node) = true := decide_eq_true h1
    rw [hr]
    repeat' (first | (refine rg 6 ?_; refine oLb ?_; refine oFb ?_; refine oLb ?_; refine oCm ?_; refine oMv ?_; (first | refine oLb ?_ | refine oLd ?_ | refine sp (ldo rfl) ?_ | refine oK ?_) <;> (first | refine oCm ?_ | refine oK ?_) <;> refine oPt ?_ <;> refine oMv ?_ <;> (first | refine oLb ?_ | refine oLd ?_ | refine sp (ldo rfl) ?_ | refine oK ?_) <;> (first | refine oCm ?_ | refine oK ?_) <;> refine oPt ?_ <;> refine oMv ?_ <;> (first | refine oFb ?_ | refine oFd ?_ | refine sp (fdo rfl) ?_ | refine oK ?_) <;> (first | refine oLb ?_ | refine oLd ?_ | refine sp (ldo rfl) ?_ | refine oK ?_) <;> (first | refine oCm ?_ | refine oK ?_) <;> refine oPt ?_ <;> refine oMv ?_ <;> (first | refine oMv ?_ | refine oK ?_) <;> refine oPt ?_ <;> refine oAs ?_ <;> refine oN ?_) | (refine rg 7 ?_; refine sp (po_buildS str58 rfl .nil rfl) ?_; refine oS ?_; refine oAs ?_; refine oAs ?_; refine oN ?_) | refine gc ?_ | refine ct ?_ | refine cf ?_ | refine swp_cond rfl (fun hc => ?_) (fun hc => ?_) | refine rq rfl (.cell rfl rfl (tyT rfl) (vc (vc (vc (vc .nil)))) rfl (rt (rt .nil))) ?_)
    exact retl (.inr rfl) rfl (.cellT rfl rfl (tyT rfl) (vc (vc (vc (vc .nil)))) rfl (.tmpT rfl (.nil _) (.tmp rfl rfl .nil))) rfl rfl .nil .nil
  by_cases h2 : peer < 1
  · have hr : askP p now peer src a b c q = (noPool, [], 1) := by unfold askP; rw [if_pos (.inr (.inl h2))]
    have hb1 : decide (peer = p.node) = false := decide_eq_false h1
    have hb2 : decide (peer < 1) = true := decide_eq_true h2
    rw [hr]
    repeat' (first | (refine rg 6 ?_; refine oLb ?_; refine oFb ?_; refine oLb ?_; refine oCm ?_; refine oMv ?_; refine oLb ?_ <;> refine oCm ?_ <;> (first | refine oPt ?_ | refine oPf ?_) <;> refine oMv ?_ <;> (first | refine oLb ?_ | refine oLd ?_ | refine sp (ldo rfl) ?_ | refine oK ?_) <;> (first | refine oCm ?_ | refine oK ?_) <;> refine oPt ?_ <;> refine oMv ?_ <;> (first | refine oFb ?_ | refine oFd ?_ | refine sp (fdo rfl) ?_ | refine oK ?_) <;> (first | refine oLb ?_ | refine oLd ?_ | refine sp (ldo rfl) ?_ | refine oK ?_) <;> (first | refine oCm ?_ | refine oK ?_) <;> refine oPt ?_ <;> refine oMv ?_ <;> (first | refine oMv ?_ | refine oK ?_) <;> refine oPt ?_ <;> refine oAs ?_ <;> refine oN ?_) | (refine rg 7 ?_; refine sp (po_buildS str58 rfl .nil rfl) ?_; refine oS ?_; refine oAs ?_; refine oAs ?_; refine oN ?_) | refine gc ?_ | refine ct ?_ | refine cf ?_ | refine swp_cond rfl (fun hc => ?_) (fun hc => ?_) | refine rq rfl (.cell rfl rfl (tyT rfl) (vc (vc (vc (vc .nil)))) rfl (rt (rt .nil))) ?_)
    exact retl (.inr rfl) rfl (.cellT rfl rfl (tyT rfl) (vc (vc (vc (vc .nil)))) rfl (.tmpT rfl (.nil _) (.tmp rfl rfl .nil))) rfl rfl .nil .nil
  by_cases h3 : 9 < peer
  · have hr : askP p now peer src a b c q = (noPool, [], 1) := by unfold askP; rw [if_pos (.inr (.inr (.inl h3)))]
    have hb1 : decide (peer = p.node) = false := decide_eq_false h1
    have hb2 : decide (peer < 1) = false := decide_eq_false h2
    have hb3 : decide (9 < peer) = true := decide_eq_true h3
    rw [hr]
    repeat' (first | (refine rg 6 ?_; refine oLb ?_; refine oFb ?_; refine oLb ?_; refine oCm ?_; refine oMv ?_; refine oLb ?_ <;> refine oCm ?_ <;> (first | refine oPt ?_ | refine oPf ?_) <;> refine oMv ?_ <;> refine oLb ?_ <;> refine oCm ?_ <;> (first | refine oPt ?_ | refine oPf ?_) <;> refine oMv ?_ <;> (first | refine oFb ?_ | refine oFd ?_ | refine sp (fdo rfl) ?_ | refine oK ?_) <;> (first | refine oLb ?_ | refine oLd ?_ | refine sp (ldo rfl) ?_ | refine oK ?_) <;> (first | refine oCm ?_ | refine oK ?_) <;> refine oPt ?_ <;> refine oMv ?_ <;> (first | refine oMv ?_ | refine oK ?_) <;> refine oPt ?_ <;> refine oAs ?_ <;> refine oN ?_) | (refine rg 7 ?_; refine sp (po_buildS str58 rfl .nil rfl) ?_; refine oS ?_; refine oAs ?_; refine oAs ?_; refine oN ?_) | refine gc ?_ | refine ct ?_ | refine cf ?_ | refine swp_cond rfl (fun hc => ?_) (fun hc => ?_) | refine rq rfl (.cell rfl rfl (tyT rfl) (vc (vc (vc (vc .nil)))) rfl (rt (rt .nil))) ?_)
    exact retl (.inr rfl) rfl (.cellT rfl rfl (tyT rfl) (vc (vc (vc (vc .nil)))) rfl (.tmpT rfl (.nil _) (.tmp rfl rfl .nil))) rfl rfl .nil .nil
  by_cases h4 : q.id = 0
  · have hr : askP p now peer src a b c q = (noPool, [], 1) := by unfold askP; rw [if_pos (.inr (.inr (.inr (.inl h4))))]
    have hb1 : decide (peer = p.node) = false := decide_eq_false h1
    have hb2 : decide (peer < 1) = false := decide_eq_false h2
    have hb3 : decide (9 < peer) = false := decide_eq_false h3
    have hb4 : decide (q.id = 0) = true := decide_eq_true h4
    rw [hr]
    repeat' (first | (refine rg 6 ?_; refine oLb ?_; refine oFb ?_; refine oLb ?_; refine oCm ?_; refine oMv ?_; refine oLb ?_ <;> refine oCm ?_ <;> (first | refine oPt ?_ | refine oPf ?_) <;> refine oMv ?_ <;> refine oLb ?_ <;> refine oCm ?_ <;> (first | refine oPt ?_ | refine oPf ?_) <;> refine oMv ?_ <;> refine oFb ?_ <;> refine oLb ?_ <;> refine oCm ?_ <;> (first | refine oPt ?_ | refine oPf ?_) <;> refine oMv ?_ <;> (first | refine oMv ?_ | refine oK ?_) <;> refine oPt ?_ <;> refine oAs ?_ <;> refine oN ?_) | (refine rg 7 ?_; refine sp (po_buildS str58 rfl .nil rfl) ?_; refine oS ?_; refine oAs ?_; refine oAs ?_; refine oN ?_) | refine gc ?_ | refine ct ?_ | refine cf ?_ | refine swp_cond rfl (fun hc => ?_) (fun hc => ?_) | refine rq rfl (.cell rfl rfl (tyT rfl) (vc (vc (vc (vc .nil)))) rfl (rt (rt .nil))) ?_)
    exact retl (.inr rfl) rfl (.cellT rfl rfl (tyT rfl) (vc (vc (vc (vc .nil)))) rfl (.tmpT rfl (.nil _) (.tmp rfl rfl .nil))) rfl rfl .nil .nil
  have hb1 : decide (peer = p.node) = false := decide_eq_false h1
  have hb2 : decide (peer < 1) = false := decide_eq_false h2
  have hb3 : decide (9 < peer) = false := decide_eq_false h3
  have hb4 : decide (q.id = 0) = false := decide_eq_false h4
  by_cases h5 : (0 : Int) ≤ idxP (fun t : PTun => inT q t) p.tuns
  · have hr : askP p now peer src a b c q = (noPool, [], 1) := by unfold askP; rw [if_pos (.inr (.inr (.inr (.inr h5))))]
    have hb5 : decide ((0 : Int) ≤ idxP (fun t : PTun => inT q t) p.tuns) = true := decide_eq_true h5
    rw [hr]
    repeat' (first | (refine rg 6 ?_; refine oLb ?_; refine oFb ?_; refine oLb ?_; refine oCm ?_; refine oMv ?_; refine oLb ?_ <;> refine oCm ?_ <;> (first | refine oPt ?_ | refine oPf ?_) <;> refine oMv ?_ <;> refine oLb ?_ <;> refine oCm ?_ <;> (first | refine oPt ?_ | refine oPf ?_) <;> refine oMv ?_ <;> refine oFb ?_ <;> refine oLb ?_ <;> refine oCm ?_ <;> (first | refine oPt ?_ | refine oPf ?_) <;> refine oMv ?_ <;> refine oMv ?_ <;> (first | refine oPt ?_ | refine oPf ?_) <;> refine oAs ?_ <;> refine oN ?_) | (refine rg 7 ?_; refine sp (po_buildS str58 rfl .nil rfl) ?_; refine oS ?_; refine oAs ?_; refine oAs ?_; refine oN ?_) | refine gc ?_ | refine ct ?_ | refine cf ?_ | refine swp_cond rfl (fun hc => ?_) (fun hc => ?_) | refine rq rfl (.cell rfl rfl (tyT rfl) (vc (vc (vc (vc .nil)))) rfl (rt (rt .nil))) ?_)
    exact retl (.inr rfl) rfl (.cellT rfl rfl (tyT rfl) (vc (vc (vc (vc .nil)))) rfl (.tmpT rfl (.nil _) (.tmp rfl rfl .nil))) rfl rfl .nil .nil
  have hb5 : decide ((0 : Int) ≤ idxP (fun t : PTun => inT q t) p.tuns) = false := decide_eq_false h5
  have hok : ¬ (peer = p.node ∨ peer < 1 ∨ 9 < peer ∨ q.id = 0 ∨ (0 : Int) ≤ idxP (fun t : PTun => inT q t) p.tuns) := by
    rintro (h | h | h | h | h)
    · exact h1 h
    · exact h2 h
    · exact h3 h
    · exact h4 h
    · exact h5 h
  by_cases h6 : 4096 < q.bytes.length
  · have hr : askP p now peer src a b c q = (noPool, [], 6) := by unfold askP; rw [if_neg hok, if_pos h6]
    have hb6 : (4096 : Int) < (((newQ now q).bytes.map byteT).length : Int) := by rw [List.length_map]; show (4096 : Int) < (q.bytes.length : Int); omega
    have hb6d := decide_eq_true hb6
    rw [hr]
    repeat' (first | (refine rg 6 ?_; refine oLb ?_; refine oFb ?_; refine oLb ?_; refine oCm ?_; refine oMv ?_; refine oLb ?_ <;> refine oCm ?_ <;> (first | refine oPt ?_ | refine oPf ?_) <;> refine oMv ?_ <;> refine oLb ?_ <;> refine oCm ?_ <;> (first | refine oPt ?_ | refine oPf ?_) <;> refine oMv ?_ <;> refine oFb ?_ <;> refine oLb ?_ <;> refine oCm ?_ <;> (first | refine oPt ?_ | refine oPf ?_) <;> refine oMv ?_ <;> refine oMv ?_ <;> (first | refine oPt ?_ | refine oPf ?_) <;> refine oAs ?_ <;> refine oN ?_) | (refine rg 8 ?_; refine oFb ?_; refine oLb ?_; (first | refine sp (po_len_own rfl rfl (tyS rfl)) ?_ | refine sp (pln rfl (tyS rfl)) ?_); refine oCm ?_; refine oAs ?_; refine oN ?_) | (refine rg 9 ?_; refine sp (po_buildS str58 rfl .nil rfl) ?_; refine oS ?_; refine oAs ?_; refine oAs ?_; refine oN ?_) | refine gc ?_ | refine ct ?_ | refine cf ?_ | refine swp_cond rfl (fun hc => ?_) (fun hc => ?_) | refine rq rfl (.cell rfl rfl (tyT rfl) (vc (vc (vc (vc .nil)))) rfl (rt (rt .nil))) ?_)
    exact retl (.inr rfl) rfl (.cellT rfl rfl (tyT rfl) (vc (vc (vc (vc .nil)))) rfl (.tmpT rfl (.nil _) (.tmp rfl rfl .nil))) rfl rfl .nil .nil
  have hb6 : ¬ (4096 : Int) < (((newQ now q).bytes.map byteT).length : Int) := by rw [List.length_map]; show ¬ (4096 : Int) < (q.bytes.length : Int); omega
  have hb6d := decide_eq_false hb6
  repeat' (first | (refine rg 6 ?_; refine oLb ?_; refine oFb ?_; refine oLb ?_; refine oCm ?_; refine oMv ?_; refine oLb ?_ <;> refine oCm ?_ <;> (first | refine oPt ?_ | refine oPf ?_) <;> refine oMv ?_ <;> refine oLb ?_ <;> refine oCm ?_ <;> (first | refine oPt ?_ | refine oPf ?_) <;> refine oMv ?_ <;> refine oFb ?_ <;> refine oLb ?_ <;> refine oCm ?_ <;> (first | refine oPt ?_ | refine oPf ?_) <;> refine oMv ?_ <;> refine oMv ?_ <;> (first | refine oPt ?_ | refine oPf ?_) <;> refine oAs ?_ <;> refine oN ?_) | (refine rg 8 ?_; refine oFb ?_; refine oLb ?_; (first | refine sp (po_len_own rfl rfl (tyS rfl)) ?_ | refine sp (pln rfl (tyS rfl)) ?_); refine oCm ?_; refine oAs ?_; refine oN ?_) | refine gc ?_ | refine ct ?_ | refine cf ?_ | refine swp_cond rfl (fun hc => ?_) (fun hc => ?_) | refine rq rfl (.cell rfl rfl (tyT rfl) (vc (vc (vc (vc .nil)))) rfl (rt (rt .nil))) ?_)
  refine swp_weak (st' := SAk p now peer src a b c q l (idxP (fun x : ATun => pAsk peer src a b c x.t) l) (decide ((0 : Int) ≤ idxP (fun t : PTun => inT q t) p.tuns))) (weak_sub (.cons rfl rfl rfl (.cons rfl rfl rfl (.cons rfl rfl rfl (.cons rfl rfl rfl (.cons rfl rfl rfl (.cons rfl rfl rfl (.cons rfl rfl rfl (.cons rfl rfl rfl (.cons rfl rfl rfl (.cons rfl rfl rfl (.cons rfl rfl rfl (.cons rfl rfl rfl .nil)))))))))))) (.cons rfl rfl rfl (.cons rfl rfl rfl (.cons rfl rfl rfl (.cons rfl rfl rfl (.cons rfl rfl rfl (.cons rfl rfl rfl (.cons rfl rfl rfl (.cons rfl rfl rfl .nil)))))))) (.cons rfl rfl (.cons rfl rfl (.cons rfl rfl .nil)))) ?_
  have h6' : ¬ 4096 < q.bytes.length := h6
  have hfew : ∀ x ∈ l, FewTun x.t := fun x hx => hq _ (by rw [← hl]; exact List.mem_map_of_mem hx)
  clear hb1 hb2 hb3 hb4 hb5 hb6 hb6d c0 c1 c2 cq
  rcases idxP_split (fun x : ATun => pAsk peer src a b c x.t) l with ⟨g1, g2⟩ | ⟨A, x, B, rfl, g1, g2, g3⟩
  · rw [g1]
    have hm : cutT (pAsk peer src a b c) p.tuns = none := cutT_miss fun t ht => by
      rw [← hl] at ht
      obtain ⟨x, hx, rfl⟩ := List.mem_map.1 ht
      exact g2 x hx
    have hr : askP p now peer src a b c q = match askMs ATun.t l with
      | none => (noPool, [], 3)
      | some (l', D) => addT p now peer src a b c q (l'.map ATun.t) D := by
      unfold askP; rw [if_neg hok, if_neg h6, hm]; dsimp only
      rw [← hl, askMs_map]
      cases askMs ATun.t l <;> rfl
    rw [hr]
    refine askMiss_ rfl p now peer src a b c q l _ hll (fun hn st h => ?_) (fun l' D hD h5 h7 => ?_)
    · rw [hn]
      refine gc ?_
      exact h
    · rw [hD]
      refine gc ?_
      refine askNew_ rfl p now peer src a b c q l' D h5 h7 fun L hL c1 d1 hc1 => ?_
      refine askEnd24_ hc1 p now L _ _ fun st h => ?_
      rw [hL] at h
      exact h
  · rw [g1]
    have hm : cutT (pAsk peer src a b c) p.tuns = some (A.map ATun.t, x.t, B.map ATun.t) := by
      rw [← hl, List.map_append, List.map_cons]
      exact cutT_hit (fun t ht => by obtain ⟨y, hy, rfl⟩ := List.mem_map.1 ht; exact g3 y hy) g2
    have hr : askP p now peer src a b c q = askOl p now q (A.map ATun.t) (B.map ATun.t) x.t := by unfold askP; rw [if_neg hok, if_neg h6, hm]
    rw [hr]
    refine askOld_ rfl p now peer src a b c q A B x _ hll hfq fun st h => ?_
    refine gc ?_
    exact h
end Go.Proofs.Ytabejnjnkpdjbaa.Sim

/- Same, of pools; New. (Printed by mk_pol.py.) -/
namespace Go.Proofs.Ytabejnjnkpdjbaa.Sim
set_option linter.unusedVariables false
set_option linter.unusedSimpArgs false
open Go.RowKit Mem
def newP (node inc : Int) : PPool × Int := if node < 2 ∨ 9 < node ∨ inc < 1 ∨ 4611686018427387903 < inc then (⟨0, 0, 0, []⟩, 1) else (⟨node, inc, 1, []⟩, 0)
set_option maxRecDepth 100000 in
theorem new_ (node inc : Int) : LCalls Try.prog 16 [.t (i64T node), .t (u64T inc)] [] [] (.tu [.t (.agg (poolT (newP node inc).1)), .t (i64T (newP node inc).2)]) [] [] := by
  unfold newP
  refine lcalls_of Try.func16 rfl rfl Try.ntmps16 rfl ?_
  by_cases h1 : node < 2
  · rw [if_pos (.inl h1)]
    repeat' (first | (refine rg 0 ?_; refine sal str58 ?_; refine oAs ?_; refine oN ?_) | (refine rg 1 ?_; refine oMv ?_; refine oCm ?_; refine oMv ?_; (first | refine oMv ?_ | refine oK ?_) <;> (first | refine oCm ?_ | refine oK ?_) <;> refine oPt ?_ <;> refine oMv ?_ <;> (first | refine oMv ?_ | refine oK ?_) <;> (first | refine oCm ?_ | refine oK ?_) <;> refine oPt ?_ <;> refine oMv ?_ <;> (first | refine oMv ?_ | refine oK ?_) <;> (first | refine oCm ?_ | refine oK ?_) <;> refine oPt ?_ <;> refine oN ?_) | (refine rg 2 ?_; refine sp (po_buildS str58 rfl .nil rfl) ?_; refine oS ?_; refine oAs ?_; refine oN ?_) | refine gc ?_ | refine ct ?_ | refine cf ?_ | refine swp_cond rfl (fun hc => ?_) (fun hc => ?_) | refine rq rfl (.cell rfl rfl (tyT rfl) (vc (vc (vc (vc .nil)))) rfl (rt .nil)) ?_)
    exact retl (.inr rfl) rfl (.cellT rfl rfl (tyT rfl) (vc (vc (vc (vc .nil)))) rfl (.tmp rfl rfl .nil)) rfl rfl .nil .nil
  by_cases h2 : 9 < node
  · rw [if_pos (.inr (.inl h2))]
    repeat' (first | (refine rg 0 ?_; refine sal str58 ?_; refine oAs ?_; refine oN ?_) | (refine rg 1 ?_; refine oMv ?_; refine oCm ?_; refine oMv ?_; refine oMv ?_ <;> refine oCm ?_ <;> (first | refine oPt ?_ | refine oPf ?_) <;> refine oMv ?_ <;> (first | refine oMv ?_ | refine oK ?_) <;> (first | refine oCm ?_ | refine oK ?_) <;> refine oPt ?_ <;> refine oMv ?_ <;> (first | refine oMv ?_ | refine oK ?_) <;> (first | refine oCm ?_ | refine oK ?_) <;> refine oPt ?_ <;> refine oN ?_) | (refine rg 2 ?_; refine sp (po_buildS str58 rfl .nil rfl) ?_; refine oS ?_; refine oAs ?_; refine oN ?_) | refine gc ?_ | refine ct ?_ | refine cf ?_ | refine swp_cond rfl (fun hc => ?_) (fun hc => ?_) | refine rq rfl (.cell rfl rfl (tyT rfl) (vc (vc (vc (vc .nil)))) rfl (rt .nil)) ?_)
    exact retl (.inr rfl) rfl (.cellT rfl rfl (tyT rfl) (vc (vc (vc (vc .nil)))) rfl (.tmp rfl rfl .nil)) rfl rfl .nil .nil
  by_cases h3 : inc < 1
  · rw [if_pos (.inr (.inr (.inl h3)))]
    repeat' (first | (refine rg 0 ?_; refine sal str58 ?_; refine oAs ?_; refine oN ?_) | (refine rg 1 ?_; refine oMv ?_; refine oCm ?_; refine oMv ?_; refine oMv ?_ <;> refine oCm ?_ <;> (first | refine oPt ?_ | refine oPf ?_) <;> refine oMv ?_ <;> refine oMv ?_ <;> refine oCm ?_ <;> (first | refine oPt ?_ | refine oPf ?_) <;> refine oMv ?_ <;> (first | refine oMv ?_ | refine oK ?_) <;> (first | refine oCm ?_ | refine oK ?_) <;> refine oPt ?_ <;> refine oN ?_) | (refine rg 2 ?_; refine sp (po_buildS str58 rfl .nil rfl) ?_; refine oS ?_; refine oAs ?_; refine oN ?_) | refine gc ?_ | refine ct ?_ | refine cf ?_ | refine swp_cond rfl (fun hc => ?_) (fun hc => ?_) | refine rq rfl (.cell rfl rfl (tyT rfl) (vc (vc (vc (vc .nil)))) rfl (rt .nil)) ?_)
    exact retl (.inr rfl) rfl (.cellT rfl rfl (tyT rfl) (vc (vc (vc (vc .nil)))) rfl (.tmp rfl rfl .nil)) rfl rfl .nil .nil
  by_cases h4 : 4611686018427387903 < inc
  · rw [if_pos (.inr (.inr (.inr h4)))]
    repeat' (first | (refine rg 0 ?_; refine sal str58 ?_; refine oAs ?_; refine oN ?_) | (refine rg 1 ?_; refine oMv ?_; refine oCm ?_; refine oMv ?_; refine oMv ?_ <;> refine oCm ?_ <;> (first | refine oPt ?_ | refine oPf ?_) <;> refine oMv ?_ <;> refine oMv ?_ <;> refine oCm ?_ <;> (first | refine oPt ?_ | refine oPf ?_) <;> refine oMv ?_ <;> refine oMv ?_ <;> refine oCm ?_ <;> (first | refine oPt ?_ | refine oPf ?_) <;> refine oN ?_) | (refine rg 2 ?_; refine sp (po_buildS str58 rfl .nil rfl) ?_; refine oS ?_; refine oAs ?_; refine oN ?_) | refine gc ?_ | refine ct ?_ | refine cf ?_ | refine swp_cond rfl (fun hc => ?_) (fun hc => ?_) | refine rq rfl (.cell rfl rfl (tyT rfl) (vc (vc (vc (vc .nil)))) rfl (rt .nil)) ?_)
    exact retl (.inr rfl) rfl (.cellT rfl rfl (tyT rfl) (vc (vc (vc (vc .nil)))) rfl (.tmp rfl rfl .nil)) rfl rfl .nil .nil
  · rw [if_neg (by omega)]
    repeat' (first | (refine rg 0 ?_; refine sal str58 ?_; refine oAs ?_; refine oN ?_) | (refine rg 1 ?_; refine oMv ?_; refine oCm ?_; refine oMv ?_; refine oMv ?_ <;> refine oCm ?_ <;> (first | refine oPt ?_ | refine oPf ?_) <;> refine oMv ?_ <;> refine oMv ?_ <;> refine oCm ?_ <;> (first | refine oPt ?_ | refine oPf ?_) <;> refine oMv ?_ <;> refine oMv ?_ <;> refine oCm ?_ <;> (first | refine oPt ?_ | refine oPf ?_) <;> refine oN ?_) | (refine rg 3 ?_; refine oMv ?_; refine oMv ?_; refine sp (po_buildS str58 rfl (pc (pc (pc .nil))) rfl) ?_; refine oS ?_; refine oAs ?_; refine oN ?_) | refine gc ?_ | refine ct ?_ | refine cf ?_ | refine swp_cond rfl (fun hc => ?_) (fun hc => ?_) | refine rq rfl (.cell rfl rfl (tyT rfl) (vc (vc (vc (vc .nil)))) rfl (rt .nil)) ?_)
    exact retl (.inr rfl) rfl (.cellT rfl rfl (tyT rfl) (vc (vc (vc (vc .nil)))) rfl (.tmp rfl rfl .nil)) rfl rfl .nil .nil
end Go.Proofs.Ytabejnjnkpdjbaa.Sim

/- A logic of states: a constant text's bytes. -/
namespace Go.Proofs.Ytabejnjnkpdjbaa.Sim
set_option linter.unusedVariables false
set_option linter.unusedSimpArgs false
open Go.RowKit Mem
section
variable {P : Program} {N : Nat} {Q : Exit → St → Prop} {ops : Array Oper} {rest : List Oper} {o : Oper} {tm : List (Nat × A)} {bx : List (Nat × List A)} {ow : List (Nat × Own)}
/-- behind a constant's row: its conversion comes next -/
structure SMk (P : Program) (N : Nat) (ops : Array Oper) (Q : Exit → St → Prop) (d e : Nat) (rows : List (List T)) (l : List Oper) (st : St) : Prop where
  go : ∀ C a w m g, RelG C N st a w m g → ∀ vs : List Value, vs.length = rows.length * 1 → (∀ r ∈ rows, r.length = 1) → CellsAre m rows.flatten vs → wpList P ops (Good C N Q) l (a.put (some d) (.slice (some ⟨w.heap.size, 0, none⟩) rows.length rows.length)) (w.alloc (.cells vs.toArray e))
theorem sops_cb1 {t e by_ len d : Nat} {xs : List (Nat × Operand)} {rows : List (List T)} (hg : GuardIs ops tm o true) (ho : o.op = .buildSlice t len xs.toArray) (hd : o.dst = some d) (hT : sliceE P t = some (e, 1, by_)) (hx : DParts ow (evA tm) 1 0 xs rows) (hlen : rows.length = len) (h0 : Nat.blt 0 len = true) (hsm : Nat.ble (len * 1) (2 ^ 24) = true)
    (k : SMk P N ops Q d e rows rest ⟨tm, bx, ow⟩) : SOps P N ops Q (o :: rest) ⟨tm, bx, ow⟩ := by
  refine .mk fun C a w ⟨m, g, hr⟩ => ?_
  obtain ⟨vs, h1, h2, h3, h4, h5⟩ := hx.ok hr.env (a := a) (fun x _ y hy => hr.ev hy)
  have hrun := built_run (P := P) hT w vs h3 (by omega) (Nat.lt_of_succ_le (Nat.le_of_ble_eq_true h0)) hsm
  refine wpList_step fun K hK => ?_
  rw [if_pos (hg.wanted (m := m) (g := g) fun j want e _ _ y hy => hr.tmps e y hy)]
  subst hlen
  refine wp_of_run (v := .slice (some ⟨w.heap.size, 0, none⟩) rows.length rows.length) (w' := w.alloc (.cells (vs.flatMap fun v => v.cells.toList).toArray e)) ?_ (hK _ _ ?_)
  · simp only [execOp, ho, List.map_toArray]
    rw [show (xs.map fun x => (x.1, a.eval x.2)) = (vs.zipIdx 0).map (fun x => (x.2, x.1)) from h1, Sem.run_bind, hrun]; rfl
  · rw [hd]
    exact k.go C a w m g hr _ (by rw [flatMap_cells_len h3, h2]) h4 h5
theorem sops_cb2 {t e d d2 : Nat} {rows : List (List T)} (hg : GuardIs ops ((d, .t (.sl 1 rows)) :: tm) o true) (ho : o.op = .convert t t (.tmp d)) (hd : o.dst = some d2) (hN : Nat.blt d N = true) (hN2 : Nat.blt d2 N = true) (hT : byE P t = some e) (hsm : Nat.ble rows.length (2 ^ 24) = true)
    (h : SOps P N ops Q rest ⟨(d2, .t (.sl 1 rows)) :: (d, .t (.sl 1 rows)) :: tm, bx, ow⟩) : SMk P N ops Q d e rows (o :: rest) ⟨tm, bx, ow⟩ := by
  refine .mk fun C a w m g hr vs hl h4 h5 => ?_
  obtain ⟨t1, t2⟩ := byE_spec hT
  have hle := Nat.le_of_ble_eq_true hsm
  have hrl : rows.length ≤ maxLen := by unfold maxLen; omega
  have hd1 : d < N := Nat.lt_of_succ_le (Nat.le_of_ble_eq_true hN)
  have hlo : Lo w (w.alloc (.cells vs.toArray e (vs.toArray.size, vs.toArray.size + 1))) := (Lo.refl w).alloc _
  have hs := upm_sub hr.env.sub hlo
  have he := ext_upm (w' := w.alloc (.cells vs.toArray e (vs.toArray.size, vs.toArray.size + 1))) hr.env.sub
  have hnew : (w.alloc (.cells vs.toArray e (vs.toArray.size, vs.toArray.size + 1))).heap[w.heap.size]? = some (.cells vs.toArray e (vs.toArray.size, vs.toArray.size + 1)) := heap_alloc_new w _
  have hTR : TR (upm m w (w.alloc (.cells vs.toArray e (vs.toArray.size, vs.toArray.size + 1)))) (.sl 1 rows) (.slice (some ⟨w.heap.size, 0, none⟩) rows.length rows.length) := by
    refine tr_owns (w := w.alloc (.cells vs.toArray e (vs.toArray.size, vs.toArray.size + 1))) (base := 0) (e := e) (vs := vs) ⟨hl, .inr ⟨w.heap.size, rows.length, vs.toArray, rfl, Nat.zero_le _, ⟨_, hnew, .inr (Nat.le_refl _)⟩, Nat.le_refl _, hrl, by simp [hl], ?_⟩⟩ h4 (h5.mono he.1) ?_
    · simp only; rw [← hl]; exact List.take_length
    · intro b hb k u hu
      injection hb with hb; subst hb
      unfold upm
      rw [if_neg (Nat.lt_irrefl _)]
      unfold World.cell?
      rw [hnew]
      simpa using hu
  have R1 := hr.put (x := .t (.sl 1 rows)) (v := .slice (some ⟨w.heap.size, 0, none⟩) rows.length rows.length) (hr.env.step hlo he hs) (fun x v h => h.mono he.1) hd1 hTR
  have R2 := R1.put (d := d2) (x := .t (.sl 1 rows)) (v := .slice (some ⟨w.heap.size, 0, none⟩) rows.length rows.length) R1.env (fun x v h => h) (Nat.lt_of_succ_le (Nat.le_of_ble_eq_true hN2)) hTR
  refine wpList_step fun K hK => ?_
  rw [if_pos (hg.wanted (m := upm m w (w.alloc (.cells vs.toArray e (vs.toArray.size, vs.toArray.size + 1)))) (g := g) fun j want e _ _ y hy => R1.tmps e y hy)]
  refine wp_of_run (v := .slice (some ⟨w.heap.size, 0, none⟩) rows.length rows.length) (w' := w.alloc (.cells vs.toArray e (vs.toArray.size, vs.toArray.size + 1))) ?_ (hK _ _ (h.go C _ _ ⟨_, _, by rw [hd]; exact R2⟩))
  have hev := eval_put_same (a := a) (.slice (some ⟨w.heap.size, 0, none⟩) rows.length rows.length) hr.size hd1
  have hc := Lib.run_convert_bytes_const (P := P) w t e vs.toArray rows.length rows.length t1 t2
  simp only [execOp, ho, hev, Sem.run_bind, hc]
  rfl
end
end Go.Proofs.Ytabejnjnkpdjbaa.Sim

/- Contracts without anything lent; query. -/
namespace Go.Proofs.Ytabejnjnkpdjbaa.Sim
set_option linter.unusedVariables false
set_option linter.unusedSimpArgs false
open Go.RowKit Mem
theorem LCalls.pc {P : Program} {f : FuncId} {args : List T} {r : T} {a : A} (h : LCalls P f (args.map .t) [] [] a [] []) (ha : ∀ m g v, AR m g a v → TR m r v) : PCalls P f args r where
  ent := h.ent
  run := fun m w vals hs hl hv hT => by
    refine (h.run m w ⟨fun _ => 0, fun _ => undef, fun _ => 0, fun _ => false, fun _ => false, fun _ => (0, 0), fun _ _ => false, fun _ _ => undef⟩ vals ?_ (by rw [hl, List.length_map]) (fun i x v h1 h2 => ?_)).mono ?_
    · exact {
        lo := .of_lo (Lo.refl _), gm := fun b o h => by cases h
        sub := hs, ext := ExtX.refl _ _ _, gt := hT, lb := fun i => rfl, lw := fun i => rfl
        ln := fun i o h => by cases h
        boxes := fun i cs h => by cases h
        inj := fun i j ci cj h => by cases h
        owns := fun i o h => by cases h
        apart := fun i j oi oj h => by cases h
        pin := fun i o h => by cases h
        pinb := fun i o h => by cases h
        rs := ⟨fun i R _ h => (by cases h), fun i j R R' _ _ h => (by cases h), fun i cs _ h => (by cases h)⟩ }
    · rw [List.getElem?_map] at h1
      cases ht : args[i]? with
      | none => rw [ht] at h1; cases h1
      | some t => rw [ht] at h1; injection h1 with h1; subst h1; exact hv i t v ht h2
    · rintro e w' ⟨v, m', g', rfl, henv, hv⟩
      exact ⟨v, m', rfl, henv.lo.lo (fun _ => rfl), henv.ext.ext (fun _ => rfl), henv.sub, ha m' g' v hv⟩
theorem ar_t {r : T} : ∀ m g v, AR m g (.t r) v → TR m r v := fun m g v h => h
theorem ar_tu {rs : List T} : ∀ m g v, AR m g (.tu (rs.map .t)) v → TR m (.tup rs) v := fun m g v h => by
  obtain ⟨vs, rfl, h1, h2⟩ := h
  refine .tup rs vs (by rw [h1, List.length_map]) fun j t u hj hu => ?_
  exact h2 j (.t t) u (by rw [List.getElem?_map, hj]; rfl) hu
theorem tr_nilLast {m : Mm} {l : List T} {k : Nat} {v : Value} (h : TR m (.agg (l ++ [.v (.slice none 0 0)])) v) : TR m (.agg (l ++ [.sl k []])) v := by
  generalize ht : T.agg (l ++ [.v (.slice none 0 0)]) = t at h
  cases h with
  | agg cs vs hl h1 h2 =>
    injection ht with ht; subst ht
    refine .agg _ vs (by simpa using hl) (by simpa using h1) fun j t u hj hu => ?_
    by_cases e : j < l.length
    · rw [List.getElem?_append_left e] at hj
      exact h2 j t u (by rw [List.getElem?_append_left e]; exact hj) hu
    · rw [List.getElem?_append_right (by omega)] at hj
      cases hjl : j - l.length with
      | zero =>
        rw [hjl] at hj; injection hj with hj; subst hj
        have := h2 j _ u (by rw [List.getElem?_append_right (by omega), hjl]; rfl) hu
        have hu' := tr_v this
        subst hu'
        exact tr_nil _ k (by unfold maxLen; omega)
      | succ q => rw [hjl] at hj; simp at hj
  | _ => cases ht
theorem byt44 : byE Try.prog 44 = some 5 := by kernel_rfl
def qry (n : Int) : PQ := ⟨n, 0, 0, 0, .empty, .empty, 0, 0, [120]⟩
set_option maxRecDepth 100000 in
theorem query_ (n : Int) : PCalls Try.prog 18 [u64T n] (.agg (askR (qry n))) := by
  refine pcalls_of Try.func18 rfl rfl Try.ntmps18 rfl ?_
  repeat' (first | (refine rg 0 ?_; refine sal str70 ?_; refine oN ?_) | (refine rg 1 ?_; refine oMv ?_; refine sops_cb1 (.free rfl rfl) rfl rfl (tyE rfl) (dc (.nil _)) rfl rfl rfl ?_; refine sops_cb2 (.free rfl rfl) rfl rfl rfl rfl byt44 rfl ?_; refine sp (po_buildS str70 rfl (pc (pc .nil)) rfl) ?_; refine oS ?_; refine oN ?_) | refine gc ?_ | refine ct ?_ | refine cf ?_ | refine swp_cond rfl (fun hc => ?_) (fun hc => ?_) | refine rq rfl (.cell rfl rfl (tyT rfl) (vc (vc (vc (vc (vc (vc (vc (vc (vc .nil))))))))) rfl .nil) ?_)
  all_goals rfl
end Go.Proofs.Ytabejnjnkpdjbaa.Sim
