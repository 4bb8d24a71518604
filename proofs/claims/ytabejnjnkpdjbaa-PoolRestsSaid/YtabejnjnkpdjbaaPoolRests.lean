/- The law PoolRests. -/
import Derived.Test.YtabejnjnkpdjbaaR35
namespace Go.Proofs.Ytabejnjnkpdjbaa.Sim
set_option linter.unusedVariables false
set_option linter.unusedSimpArgs false
open Go.RowKit Mem
theorem few_beatK {now : Int} {l : List PQ} (hl : l.length ≤ 1000) (h : ∀ q ∈ l, FewQ q) : (beatK now l).length ≤ 1000 ∧ ∀ q ∈ beatK now l, FewQ q := by
  unfold beatK
  refine ⟨by rw [List.length_map]; exact Nat.le_trans (List.length_filter_le _ _) hl, fun q hq => ?_⟩
  obtain ⟨r, hr, rfl⟩ := List.mem_map.1 hq
  have := h r ((List.mem_filter.1 hr).1)
  unfold beatQ
  split
  · exact ⟨this.bytes⟩
  · exact this
theorem few_tick {now : Int} {t t' : PTun} (h : FewTun t) (ht : (tickT now t).t = some t') : FewTun t' ∧ t'.asks.length ≤ t.asks.length := by
  unfold tickT at ht
  split at ht
  · split at ht
    · cases ht
    · split at ht
      · injection ht with ht; subst ht; exact ⟨⟨h.asks, h.each⟩, Nat.le_refl _⟩
      · injection ht with ht; subst ht; exact ⟨h, Nat.le_refl _⟩
  · split at ht
    · split at ht
      · cases ht
      · injection ht with ht; subst ht
        obtain ⟨h1, h2⟩ := few_beatK (now := now) h.asks h.each
        have he : (beatT now t t.asks []).asks = beatK now t.asks := by unfold beatT; exact List.append_nil _
        refine ⟨⟨by rw [he]; exact h1, by rw [he]; exact h2⟩, ?_⟩
        rw [he]; unfold beatK; rw [List.length_map]; exact List.length_filter_le _ _
    · injection ht with ht; subst ht; exact ⟨h, Nat.le_refl _⟩
theorem sum_bound {α : Type} (f : α → Nat) (b : Nat) : ∀ l : List α, (∀ x ∈ l, f x ≤ b) → (l.map f).sum ≤ l.length * b
  | [], _ => by simp
  | x :: l, h => by
    have h1 := h x List.mem_cons_self
    have h2 := sum_bound f b l fun y hy => h y (List.mem_cons_of_mem _ hy)
    rw [List.map_cons, List.sum_cons, List.length_cons, Nat.succ_mul]; omega
theorem le_sum {α : Type} (f : α → Nat) : ∀ (l : List α) (x : α), x ∈ l → f x ≤ (l.map f).sum
  | y :: l, x, h => by
    rw [List.map_cons, List.sum_cons]
    rcases List.mem_cons.1 h with rfl | h
    · omega
    · have := le_sum f l x h; omega
theorem len_wT (t : PTun) : t.asks.length ≤ wT t := by
  unfold wT
  generalize t.asks = l
  induction l with
  | nil => exact Nat.le_refl _
  | cons q l ih => rw [List.map_cons, List.sum_cons, List.length_cons]; have : 1 ≤ wQ q := by unfold wQ; omega
                   omega
/-- what is not long is few -/
theorem few_of {l : List PTun} (h : longB l = false) : l.length ≤ 500 ∧ (∀ t ∈ l, FewTun t ∧ t.asks.length ≤ 500) := by
  have h := of_decide_eq_false h
  unfold wP at h
  refine ⟨by omega, fun t ht => ?_⟩
  have h1 := le_sum wT l t ht
  have h2 := len_wT t
  refine ⟨⟨by omega, fun q hq => ⟨?_⟩⟩, by omega⟩
  have h3 := le_sum wQ t.asks q hq
  have h4 : (t.asks.map wQ).sum = wT t := rfl
  have h5 : q.bytes.length / 64 ≤ wQ q := by unfold wQ; omega
  omega
end Go.Proofs.Ytabejnjnkpdjbaa.Sim
namespace Go.Proofs.Ytabejnjnkpdjbaa.PoolRests
set_option linter.unusedVariables false
set_option linter.unusedSimpArgs false
open Go.RowKit Mem Sim
set_option maxRecDepth 100000 in
set_option maxHeartbeats 2000000 in
theorem law_ (p : PPool) (now : Int) (hn : p.tuns.length ≤ 9223372036854775807) (hs : ∀ t ∈ p.tuns, SmT t) : PCalls Try.prog 6 [.agg (poolT p), u64T now] (.v (.bool true)) := by
  have c0 := long_ p hn hs
  have ca := awake_
  refine pcalls_of Try.func6 rfl rfl Try.ntmps6 rfl ?_
  cases hl : longB p.tuns with
  | true =>
    rw [hl] at c0
    unfold poolT at c0 ⊢
    repeat' (first | (refine rg 0 ?_; refine sbx ?_; refine oAs ?_; refine oN ?_) | (refine rg 1 ?_; (refine sp (po_load_bx_agg rfl rfl (tyT rfl) rfl (vc (vc (vc (vc .nil)))) rfl) ?_); refine oC (c0) rfl (ac .nil) ?_; refine oN ?_) | (refine rg 2 ?_; refine oC (ca) rfl .nil ?_; refine oAs ?_; refine oN ?_) | refine gc ?_ | refine ct ?_ | refine cf ?_ | refine swp_cond rfl (fun hc => ?_) (fun hc => ?_) | refine rq rfl (rt .nil) ?_)
    all_goals rfl
  | false =>
    rw [hl] at c0
    obtain ⟨h1, h2⟩ := few_of hl
    have hsum : (p.tuns.map fun t => t.asks.length).sum ≤ 500000 := by
      have := sum_bound (fun t : PTun => t.asks.length) 500 p.tuns fun t ht => (h2 t ht).2
      have h3 : p.tuns.length * 500 ≤ 500 * 500 := Nat.mul_le_mul_right _ h1
      omega
    have hkl : (tickK now p.tuns).length ≤ 500 := Nat.le_trans (by unfold tickK; exact List.length_filterMap_le _ _) h1
    have hk2 : ∀ t ∈ tickK now p.tuns, FewTun t ∧ t.asks.length ≤ 500 := fun t ht => by
      unfold tickK at ht
      obtain ⟨s, h3, h4⟩ := List.mem_filterMap.1 ht
      obtain ⟨h5, h6⟩ := few_tick (h2 s h3).1 h4
      exact ⟨h5, Nat.le_trans h6 (h2 s h3).2⟩
    have hsum2 : ((tickK now p.tuns).map fun t => t.asks.length).sum ≤ 500000 := by
      have := sum_bound (fun t : PTun => t.asks.length) 500 _ fun t ht => (hk2 t ht).2
      have h3 : (tickK now p.tuns).length * 500 ≤ 500 * 500 := Nat.mul_le_mul_right _ hkl
      omega
    have c1 := LCalls.pc (args := [.agg (poolT p), u64T now]) (tick_ p now h1 (fun t ht => (h2 t ht).1) hsum) (ar_tu (rs := [.agg (poolT (tickP p now)), .sl 18 ((tickD now p.tuns).map doR), .sl 2 ((tickF now p.tuns).map failR)]))
    obtain ⟨e1, e2, e3⟩ := tick_rests p now
    have k2 := tick_ (tickP p now) now hkl (fun t ht => (hk2 t ht).1) hsum2
    rw [e1, e2, e3] at k2
    have c2 := LCalls.pc (args := [.agg (poolT (tickP p now)), u64T now]) k2 (ar_tu (rs := [.agg (poolT (tickP p now)), .sl 18 ([].map doR), .sl 2 ([].map failR)]))
    have c3 := sameP_ (tickP p now) (tickP p now) (by show (tickK now p.tuns).length ≤ 1000; omega) (by show (tickK now p.tuns).length ≤ 1000; omega) (fun t ht => (hk2 t ht).1) (fun t ht => (hk2 t ht).1)
    rw [sameP_refl] at c3
    clear k2 e1 e2 e3 hk2 hkl hsum2 hsum h1 h2
    generalize tickD now p.tuns = D at *
    generalize tickF now p.tuns = F at *
    generalize tickP p now = q at *
    unfold poolT at c0 c1 c2 c3 ⊢
    repeat' (first | (refine rg 0 ?_; refine sbx ?_; refine oAs ?_; refine oN ?_) | (refine rg 1 ?_; (refine sp (po_load_bx_agg rfl rfl (tyT rfl) rfl (vc (vc (vc (vc .nil)))) rfl) ?_); refine oC (c0) rfl (ac .nil) ?_; refine oN ?_) | (refine rg 3 ?_; (refine sp (po_load_bx_agg rfl rfl (tyT rfl) rfl (vc (vc (vc (vc .nil)))) rfl) ?_); refine oMv ?_; refine oC (c1) rfl (ac (ac .nil)) ?_; refine oMv ?_; refine oEx ?_; refine oEx ?_; refine oEx ?_; refine sal str58 ?_; refine oS ?_; refine oAs ?_; refine oAs ?_; refine oN ?_) | (refine rg 4 ?_; (refine sp (po_load_bx_agg rfl rfl (tyT rfl) rfl (vc (vc (vc (vc .nil)))) rfl) ?_); refine oMv ?_; (first | refine oC (c1) rfl (ac (ac .nil)) ?_ | refine oC (c2) rfl (ac (ac .nil)) ?_); refine oMv ?_; refine oEx ?_; refine oEx ?_; refine oEx ?_; refine sal str58 ?_; refine oS ?_; refine oAs ?_; refine oAs ?_; refine oN ?_) | (refine rg 5 ?_; refine oMv ?_; refine sp (pln rfl (tyS rfl)) ?_; refine oCm ?_; refine oMv ?_; refine oMv ?_ <;> refine sp (pln rfl (tyS rfl)) ?_ <;> refine oCm ?_ <;> refine oPt ?_ <;> refine oMv ?_ <;> (refine sp (po_load_bx_agg rfl rfl (tyT rfl) rfl (vc (vc (vc (vc .nil)))) rfl) ?_) <;> (refine sp (po_load_bx_agg rfl rfl (tyT rfl) rfl (vc (vc (vc (vc .nil)))) rfl) ?_) <;> refine oC (c3) rfl (ac (ac .nil)) ?_ <;> refine oPt ?_ <;> refine oMv ?_ <;> refine oC (ca) rfl .nil ?_ <;> refine oPt ?_ <;> refine oAs ?_ <;> refine oN ?_) | refine gc ?_ | refine ct ?_ | refine cf ?_ | refine swp_cond rfl (fun hc => ?_) (fun hc => ?_) | refine rq rfl (rt .nil) ?_)
    all_goals rfl
end Go.Proofs.Ytabejnjnkpdjbaa.PoolRests
