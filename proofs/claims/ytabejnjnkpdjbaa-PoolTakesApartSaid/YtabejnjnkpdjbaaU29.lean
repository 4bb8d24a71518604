/- Merged by bundles.py: SimPh, SimPi, SimPk. -/
import Derived.Test.YtabejnjnkpdjbaaU28
import Derived.Test.YtabejnjnkpdjbaaU15
/- Ask's closures. -/
namespace Go.Proofs.Ytabejnjnkpdjbaa.Sim
set_option linter.unusedVariables false
set_option linter.unusedSimpArgs false
open Go.RowKit Mem
def pAsk (peer src a b c : Int) (t : PTun) : Bool := (decide (t.peer = peer) && decide (t.src = src)) && (t.duid == a && (t.daddr == b && t.dport == c))
set_option maxRecDepth 100000 in
theorem ask2_ (peer src a b c : Int) (x : ATun) : LCalls Try.prog 68 [.t (.agg (tunR x)), .bp 2000 0, .bp 2001 0, .bp 2002 0] [(2000, [.t (i64T peer)]), (2001, [.t (u64T src)]), (2002, [.t (u64T a), .t (u32T b), .t (i64T c)])] [] (.t (.v (.bool (pAsk peer src a b c x.t)))) [(2000, [.t (i64T peer)]), (2001, [.t (u64T src)]), (2002, [.t (u64T a), .t (u32T b), .t (i64T c)])] [] := by
  refine lcalls_of Try.func68 rfl rfl Try.ntmps68 rfl ?_
  unfold pAsk
  by_cases h : x.t.peer = peer
  · have hd : decide (x.t.peer = peer) = true := decide_eq_true h
    by_cases h2 : x.t.src = src
    · have hd2 : decide (x.t.src = src) = true := decide_eq_true h2
      rw [hd, hd2, Bool.true_and, Bool.true_and]
      repeat' (first | refine rg 0 (aq10 ?_) | (refine rg 1 (aq22 ?_); (first | refine sp (po_eqdst rfl rfl rfl) ?_ | refine oCm ?_); refine aq30 ?_ <;> (first | refine sp (po_eqdst rfl rfl rfl) ?_ | refine oCm ?_) <;> refine oPt ?_ <;> refine oMv ?_ <;> refine oFb ?_ <;> refine sp (po_load_bx_agg rfl rfl (tyT rfl) rfl (vc (vc (vc .nil))) rfl) ?_ <;> refine sp (po_load_bx_agg rfl rfl (tyT rfl) rfl (vc (vc (vc .nil))) rfl) ?_ <;> refine sp (po_eqdst rfl rfl rfl) ?_ <;> refine aq23 ?_) | refine gc ?_ | refine ct ?_ | refine cf ?_ | refine sc ?_ ?_ <;> intro hc | refine retl (by exact .inr rfl) rfl (.tmp rfl rfl .nil) ?_ rfl (.cons rfl (by rfl) rfl (.cons rfl (by rfl) rfl (.cons rfl (by rfl) rfl .nil))) .nil)
      all_goals first | rfl | (rw [hd] at hc; cases hc) | (rw [hd2] at hc; cases hc) | (exact absurd hc (by simp [hd, hd2]))
    · have hd2 : decide (x.t.src = src) = false := decide_eq_false h2
      rw [hd, hd2, Bool.true_and, Bool.false_and]
      repeat' (first | refine rg 0 (aq10 ?_) | (refine rg 1 (aq22 ?_); (first | refine sp (po_eqdst rfl rfl rfl) ?_ | refine oCm ?_); refine aq30 ?_ <;> (first | refine sp (po_eqdst rfl rfl rfl) ?_ | refine oCm ?_) <;> refine oPt ?_ <;> refine oMv ?_ <;> (first | refine oFb ?_ | refine oFd ?_ | refine sp (fdo rfl) ?_ | refine oK ?_) <;> (first | refine sp (po_load_bx_agg rfl rfl (tyT rfl) rfl (vc (vc (vc .nil))) rfl) ?_ | refine sp (po_load_agg rfl rfl (tyT rfl) rfl rfl) ?_ | refine sp (lda rfl) ?_ | refine sp (po_load_bx_ag rfl rfl (tyT rfl) rfl rfl rfl rfl) ?_ | refine oK ?_) <;> (first | refine sp (po_load_bx_agg rfl rfl (tyT rfl) rfl (vc (vc (vc .nil))) rfl) ?_ | refine sp (po_load_agg rfl rfl (tyT rfl) rfl rfl) ?_ | refine sp (lda rfl) ?_ | refine sp (po_load_bx_ag rfl rfl (tyT rfl) rfl rfl rfl rfl) ?_ | refine oK ?_) <;> (first | refine sp (po_eqdst rfl rfl rfl) ?_ | refine sp (po_boolq rfl rfl rfl (by kernel_rfl) (by exact .inl rfl)) ?_ | refine oK ?_) <;> refine aq24 ?_) | refine gc ?_ | refine ct ?_ | refine cf ?_ | refine sc ?_ ?_ <;> intro hc | refine retl (by exact .inr rfl) rfl (.tmp rfl rfl .nil) ?_ rfl (.cons rfl (by rfl) rfl (.cons rfl (by rfl) rfl (.cons rfl (by rfl) rfl .nil))) .nil)
      all_goals first | rfl | (rw [hd] at hc; cases hc) | (rw [hd2] at hc; cases hc) | (exact absurd hc (by simp [hd, hd2]))
  · have hd : decide (x.t.peer = peer) = false := decide_eq_false h
    rw [hd, Bool.false_and, Bool.false_and]
    repeat' (first | refine rg 0 (aq10 ?_) | (refine rg 1 (aq22 ?_); (first | refine sp (po_eqdst rfl rfl rfl) ?_ | refine oCm ?_); refine aq29 ?_ <;> (first | refine sp (po_eqdst rfl rfl rfl) ?_ | refine oCm ?_ | refine oK ?_) <;> (first | refine oPt ?_ | refine oPf ?_) <;> refine oMv ?_ <;> (first | refine oFb ?_ | refine oFd ?_ | refine sp (fdo rfl) ?_ | refine oK ?_) <;> (first | refine sp (po_load_bx_agg rfl rfl (tyT rfl) rfl (vc (vc (vc .nil))) rfl) ?_ | refine sp (po_load_agg rfl rfl (tyT rfl) rfl rfl) ?_ | refine sp (lda rfl) ?_ | refine sp (po_load_bx_ag rfl rfl (tyT rfl) rfl rfl rfl rfl) ?_ | refine oK ?_) <;> (first | refine sp (po_load_bx_agg rfl rfl (tyT rfl) rfl (vc (vc (vc .nil))) rfl) ?_ | refine sp (po_load_agg rfl rfl (tyT rfl) rfl rfl) ?_ | refine sp (lda rfl) ?_ | refine sp (po_load_bx_ag rfl rfl (tyT rfl) rfl rfl rfl rfl) ?_ | refine oK ?_) <;> (first | refine sp (po_eqdst rfl rfl rfl) ?_ | refine sp (po_boolq rfl rfl rfl (by kernel_rfl) (by exact .inl rfl)) ?_ | refine oK ?_) <;> refine aq24 ?_) | refine gc ?_ | refine ct ?_ | refine cf ?_ | refine sc ?_ ?_ <;> intro hc | refine retl (by exact .inr rfl) rfl (.tmp rfl rfl .nil) ?_ rfl (.cons rfl (by rfl) rfl (.cons rfl (by rfl) rfl (.cons rfl (by rfl) rfl .nil))) .nil)
    all_goals first | rfl | (rw [hd] at hc; cases hc)
def SidxAsk (peer src a b c : Int) (xs : List ATun) (k : Nat) : St := ⟨[(0, .own 2000 (xs.map tunR).length), (1, .cl 68 [.bp 2000 0, .bp 2001 0, .bp 2002 0]), (7, .t (.v (.int .i64 ((xs.map tunR).length : Int)))), (8, .t (.v (.int .i64 (k : Int))))], [(2000, [.t (i64T peer)]), (2001, [.t (u64T src)]), (2002, [.t (u64T a), .t (u32T b), .t (i64T c)])], [(2000, ⟨118, 14, xs.map tunR⟩)]⟩
set_option maxRecDepth 100000 in
set_option maxHeartbeats 2000000 in
theorem idxAsk (peer src a b c : Int) (xs : List ATun) (hn : xs.length ≤ 1000) : LCalls Try.prog 67 [.own 2000 (xs.map tunR).length, .cl 68 [.bp 2000 0, .bp 2001 0, .bp 2002 0]] [(2000, [.t (i64T peer)]), (2001, [.t (u64T src)]), (2002, [.t (u64T a), .t (u32T b), .t (i64T c)])] [(2000, ⟨118, 14, xs.map tunR⟩)] (.t (.v (.int .i64 (idxP (fun x : ATun => pAsk peer src a b c x.t) xs)))) [(2000, [.t (i64T peer)]), (2001, [.t (u64T src)]), (2002, [.t (u64T a), .t (u32T b), .t (i64T c)])] [(2000, ⟨118, 14, xs.map tunR⟩)] := by
  have hm1 : (xs.map tunR).length = xs.length := List.length_map _
  refine lcalls_of Try.func67 rfl rfl Try.ntmps67 rfl ?_
  repeat' (first | refine rg 0 (aq0 ?_) | refine rg 1 (aq2 ?_) | refine gc ?_ | refine ct ?_ | refine cf ?_ | refine sc ?_ ?_ <;> intro hc | refine rq rfl (rt .nil) ?_)
  refine swp_for (SidxAsk peer src a b c xs) (fun k => ∀ j, j < k → ∀ x, xs[j]? = some x → (fun x : ATun => pAsk peer src a b c x.t) x = false) xs.length ?_ (fun j hj => by omega) ?_
  · exact (weak_sub (.cons rfl rfl rfl (.cons rfl rfl rfl (.cons rfl rfl rfl (.cons rfl rfl rfl .nil)))) (.cons rfl rfl rfl (.cons rfl rfl rfl (.cons rfl rfl rfl .nil))) (.cons rfl rfl .nil))
  intro k hk hI
  unfold SidxAsk
  by_cases hlt : k < xs.length
  · have c1 := ask2_ peer src a b c xs[k]
    have hrow : (xs.map tunR)[k]? = some (tunR xs[k]) := by rw [List.getElem?_map, List.getElem?_eq_getElem hlt]; rfl
    have hlt2 : k < (xs.map tunR).length := by omega
    have hstep : (fun x : ATun => pAsk peer src a b c x.t) xs[k] = false → ∀ j, j < k + 1 → ∀ x, xs[j]? = some x → (fun x : ATun => pAsk peer src a b c x.t) x = false := fun hp j hj x hx => by
      by_cases h : j = k
      · subst h; rw [List.getElem?_eq_getElem hlt] at hx; injection hx with hx; subst hx; exact hp
      · exact hI j (by omega) x hx
    cases hp : (fun x : ATun => pAsk peer src a b c x.t) xs[k] with
    | true =>
      have hr := idxP_hit (fun x : ATun => pAsk peer src a b c x.t) xs k hlt hI hp
      have hp2 := hp
      dsimp only at hp2
      rw [hp2] at c1
      rw [hr]
      generalize xs[k] = x at *
      repeat' (first | refine rg 2 (aq3 ?_) | refine rg 3 (aq8 ?_) | (refine rg 4 (aq25 ?_); refine sp (po_load_own_agg (ts := tunR x) rfl rfl rfl rfl (tyT rfl) hrow rfl rfl) ?_; (first | refine sops_lcall_tclo (args := [_]) (caps := [_, _, _]) (c1) (fun i => i) (fun i => i) (fun _ => false) (.free rfl rfl) rfl rfl rfl rfl (by ((repeat' (first | exact .nil | refine .cons rfl rfl rfl ?_ | refine .vw rfl (by exact .t _) ?_)) <;> fail)) (.cons rfl rfl (.cons rfl rfl (.cons rfl rfl .nil))) .nil rfl rfl (fun _ h => Bool.noConfusion h) ?_ | refine sops_lcall_clo (args := [_]) (caps0 := [_, _, _]) (c1) (fun i => i) (fun i => i) (fun _ => false) (.free rfl rfl) rfl rfl rfl rfl rfl rfl (by ((repeat' (first | exact .nil | refine .cons rfl rfl rfl ?_)) <;> fail)) (.cons rfl rfl (.cons rfl rfl (.cons rfl rfl .nil))) .nil rfl rfl (fun _ h => Bool.noConfusion h) ?_); refine oN ?_) | refine rg 5 (aq8 ?_) | refine gc ?_ | refine ct ?_ | refine cf ?_ | refine sc ?_ ?_ <;> intro hc | refine retl (by exact .inr rfl) rfl (.tmp rfl rfl .nil) ?_ rfl (.cons rfl (by rfl) rfl (.cons rfl (by rfl) rfl (.cons rfl (by rfl) rfl .nil))) (.cons rfl (by rfl) .nil))
      rfl
    | false =>
      have hp2 := hp
      dsimp only at hp2
      rw [hp2] at c1
      have hst := hstep hp
      generalize xs[k] = x at *
      repeat' (first | refine for_next hlt (weak_sub (.cons rfl rfl rfl (.cons rfl rfl rfl (.cons rfl rfl rfl (.cons rfl rfl rfl .nil)))) (.cons rfl rfl rfl (.cons rfl rfl rfl (.cons rfl rfl rfl .nil))) (.cons rfl rfl .nil)) hst | refine rg 2 (aq3 ?_) | refine rg 3 (aq8 ?_) | (refine rg 4 (aq25 ?_); refine sp (po_load_own_agg (ts := tunR x) rfl rfl rfl rfl (tyT rfl) hrow rfl rfl) ?_; (first | refine sops_lcall_tclo (args := [_]) (caps := [_, _, _]) (c1) (fun i => i) (fun i => i) (fun _ => false) (.free rfl rfl) rfl rfl rfl rfl (by ((repeat' (first | exact .nil | refine .cons rfl rfl rfl ?_ | refine .vw rfl (by exact .t _) ?_)) <;> fail)) (.cons rfl rfl (.cons rfl rfl (.cons rfl rfl .nil))) .nil rfl rfl (fun _ h => Bool.noConfusion h) ?_ | refine sops_lcall_clo (args := [_]) (caps0 := [_, _, _]) (c1) (fun i => i) (fun i => i) (fun _ => false) (.free rfl rfl) rfl rfl rfl rfl rfl rfl (by ((repeat' (first | exact .nil | refine .cons rfl rfl rfl ?_)) <;> fail)) (.cons rfl rfl (.cons rfl rfl (.cons rfl rfl .nil))) .nil rfl rfl (fun _ h => Bool.noConfusion h) ?_); refine oN ?_) | refine rg 6 (aq7 ?_) | refine gc ?_ | refine ct ?_ | refine cf ?_)
  · obtain rfl : k = xs.length := by omega
    have hr := idxP_miss (fun x : ATun => pAsk peer src a b c x.t) xs fun x hx => by obtain ⟨j, hj⟩ := List.getElem?_of_mem hx; exact hI j (List.getElem?_eq_some_iff.1 hj).1 x hj
    rw [hr]
    repeat' (first | refine rg 2 (aq3 ?_) | refine rg 7 (aq0 ?_) | refine gc ?_ | refine ct ?_ | refine cf ?_ | refine sc ?_ ?_ <;> intro hc | refine retl (by exact .inr rfl) rfl (.tmp rfl rfl .nil) ?_ rfl (.cons rfl (by rfl) rfl (.cons rfl (by rfl) rfl (.cons rfl (by rfl) rfl .nil))) (.cons rfl (by rfl) .nil))
    rfl
set_option maxRecDepth 100000 in
theorem ask11_ (q : PQ) (x : PQ) : LCalls Try.prog 66 [.t (.agg (askR x)), .bp 2000 0] [(2000, (askR q).map .t)] [] (.t (.v (.bool (decide (x.id = q.id))))) [(2000, (askR q).map .t)] [] := by
  refine lcalls_of Try.func66 rfl rfl Try.ntmps66 rfl ?_
  repeat' (first | refine rg 0 (aq10 ?_) | (refine rg 1 ?_; refine oFb ?_; refine oLb ?_; refine oFb ?_; refine oLb ?_; refine oCm ?_; refine oAs ?_; refine oN ?_) | refine gc ?_ | refine ct ?_ | refine cf ?_ | refine sc ?_ ?_ <;> intro hc | refine retl (by exact .inr rfl) rfl (.tmp rfl rfl .nil) ?_ rfl (.cons rfl (by rfl) rfl .nil) .nil)
  rfl
end Go.Proofs.Ytabejnjnkpdjbaa.Sim

/- Is a query asked already? -/
namespace Go.Proofs.Ytabejnjnkpdjbaa.Sim
set_option linter.unusedVariables false
set_option linter.unusedSimpArgs false
open Go.RowKit Mem
def SidxIn (q : PQ) (xs : List PQ) (k : Nat) : St := ⟨[(0, .t (.sl 9 (xs.map askR))), (1, .cl 66 [.bp 2000 0]), (7, .t (.v (.int .i64 ((xs.map askR).length : Int)))), (8, .t (.v (.int .i64 (k : Int))))], [(2000, (askR q).map .t)], []⟩
set_option maxRecDepth 100000 in
set_option maxHeartbeats 2000000 in
theorem idxIn (q : PQ) (xs : List PQ) (hn : xs.length ≤ 1000)  : LCalls Try.prog 75 [.t (.sl 9 (xs.map askR)), .cl 66 [.bp 2000 0]] [(2000, (askR q).map .t)] [] (.t (.v (.int .i64 (idxP (fun x : PQ => decide (x.id = q.id)) xs)))) [(2000, (askR q).map .t)] [] := by
  have hm1 : (xs.map askR).length = xs.length := List.length_map _
  refine lcalls_of Try.func75 rfl rfl Try.ntmps75 rfl ?_
  repeat' (first | refine rg 0 (aq0 ?_) | refine rg 1 (aq52 ?_) | refine gc ?_ | refine ct ?_ | refine cf ?_ | refine sc ?_ ?_ <;> intro hc | refine rq rfl (rt .nil) ?_)
  refine swp_for (SidxIn q xs) (fun k => ∀ j, j < k → ∀ x, xs[j]? = some x → (fun x : PQ => decide (x.id = q.id)) x = false) xs.length ?_ (fun j hj => by omega) ?_
  · exact (weak_sub (.cons rfl rfl rfl (.cons rfl rfl rfl (.cons rfl rfl rfl (.cons rfl rfl rfl .nil)))) (.cons rfl rfl rfl .nil) .nil)
  intro k hk hI
  unfold SidxIn
  by_cases hlt : k < xs.length
  · have c1 := ask11_ q xs[k]
    have hrow : (xs.map askR)[k]? = some (askR xs[k]) := by rw [List.getElem?_map, List.getElem?_eq_getElem hlt]; rfl
    have hlt2 : k < (xs.map askR).length := by omega
    have hstep : (fun x : PQ => decide (x.id = q.id)) xs[k] = false → ∀ j, j < k + 1 → ∀ x, xs[j]? = some x → (fun x : PQ => decide (x.id = q.id)) x = false := fun hp j hj x hx => by
      by_cases h : j = k
      · subst h; rw [List.getElem?_eq_getElem hlt] at hx; injection hx with hx; subst hx; exact hp
      · exact hI j (by omega) x hx
    cases hp : (fun x : PQ => decide (x.id = q.id)) xs[k] with
    | true =>
      have hr := idxP_hit (fun x : PQ => decide (x.id = q.id)) xs k hlt hI hp
      have hp2 := hp
      dsimp only at hp2
      rw [hp2] at c1
      rw [hr]
      generalize xs[k] = x at *
      repeat' (first | refine rg 2 (aq3 ?_) | refine rg 3 (aq8 ?_) | (refine rg 4 (aq53 ?_); (first | refine sops_lcall_tclo (args := [_]) (caps := [_]) (c1) (fun i => i) (fun i => i) (fun _ => false) (.free rfl rfl) rfl rfl rfl rfl (by ((repeat' (first | exact .nil | refine .cons rfl rfl rfl ?_ | refine .vw rfl (by exact .t _) ?_)) <;> fail)) (.cons rfl rfl .nil) .nil rfl rfl (fun _ h => Bool.noConfusion h) ?_ | refine sops_lcall_clo (args := [_]) (caps0 := [_]) (c1) (fun i => i) (fun i => i) (fun _ => false) (.free rfl rfl) rfl rfl rfl rfl rfl rfl (by ((repeat' (first | exact .nil | refine .cons rfl rfl rfl ?_)) <;> fail)) (.cons rfl rfl .nil) .nil rfl rfl (fun _ h => Bool.noConfusion h) ?_); refine oN ?_) | refine rg 5 (aq8 ?_) | refine gc ?_ | refine ct ?_ | refine cf ?_ | refine sc ?_ ?_ <;> intro hc | refine retl (by exact .inr rfl) rfl (.tmp rfl rfl .nil) ?_ rfl (.cons rfl (by rfl) rfl .nil) .nil)
      rfl
    | false =>
      have hp2 := hp
      dsimp only at hp2
      rw [hp2] at c1
      have hst := hstep hp
      generalize xs[k] = x at *
      repeat' (first | refine for_next hlt (weak_sub (.cons rfl rfl rfl (.cons rfl rfl rfl (.cons rfl rfl rfl (.cons rfl rfl rfl .nil)))) (.cons rfl rfl rfl .nil) .nil) hst | refine rg 2 (aq3 ?_) | refine rg 3 (aq8 ?_) | (refine rg 4 (aq53 ?_); (first | refine sops_lcall_tclo (args := [_]) (caps := [_]) (c1) (fun i => i) (fun i => i) (fun _ => false) (.free rfl rfl) rfl rfl rfl rfl (by ((repeat' (first | exact .nil | refine .cons rfl rfl rfl ?_ | refine .vw rfl (by exact .t _) ?_)) <;> fail)) (.cons rfl rfl .nil) .nil rfl rfl (fun _ h => Bool.noConfusion h) ?_ | refine sops_lcall_clo (args := [_]) (caps0 := [_]) (c1) (fun i => i) (fun i => i) (fun _ => false) (.free rfl rfl) rfl rfl rfl rfl rfl rfl (by ((repeat' (first | exact .nil | refine .cons rfl rfl rfl ?_)) <;> fail)) (.cons rfl rfl .nil) .nil rfl rfl (fun _ h => Bool.noConfusion h) ?_); refine oN ?_) | refine rg 6 (aq7 ?_) | refine gc ?_ | refine ct ?_ | refine cf ?_)
  · obtain rfl : k = xs.length := by omega
    have hr := idxP_miss (fun x : PQ => decide (x.id = q.id)) xs fun x hx => by obtain ⟨j, hj⟩ := List.getElem?_of_mem hx; exact hI j (List.getElem?_eq_some_iff.1 hj).1 x hj
    rw [hr]
    repeat' (first | refine rg 2 (aq3 ?_) | refine rg 7 (aq0 ?_) | refine gc ?_ | refine ct ?_ | refine cf ?_ | refine sc ?_ ?_ <;> intro hc | refine retl (by exact .inr rfl) rfl (.tmp rfl rfl .nil) ?_ rfl (.cons rfl (by rfl) rfl .nil) .nil)
    rfl
set_option maxRecDepth 100000 in
theorem idxInC (q : PQ) (xs : List PQ) (hn : xs.length ≤ 1000)  : LCalls Try.prog 65 [.t (.sl 9 (xs.map askR)), .cl 66 [.bp 2000 0]] [(2000, (askR q).map .t)] [] (.t (.v (.bool (decide ((0 : Int) ≤ idxP (fun x : PQ => decide (x.id = q.id)) xs))))) [(2000, (askR q).map .t)] [] := by
  have c1 := idxIn q xs hn 
  refine lcalls_of Try.func65 rfl rfl Try.ntmps65 rfl ?_
  repeat' (first | refine rg 0 (aq0 ?_) | (refine rg 1 (aq16 ?_); refine sops_lcall (c1) (fun i => i) (fun i => i) (fun _ => false) (.free rfl rfl) rfl rfl rfl (by ((repeat' (first | exact .nil | refine .cons rfl rfl rfl ?_)) <;> fail)) (.cons rfl rfl .nil) .nil rfl rfl (fun _ h => Bool.noConfusion h) ?_; refine aq17 ?_) | refine gc ?_ | refine ct ?_ | refine cf ?_ | refine sc ?_ ?_ <;> intro hc | refine retl (by exact .inr rfl) rfl (.tmp rfl rfl .nil) ?_ rfl (.cons rfl (by rfl) rfl .nil) .nil)
  rfl
def inT (q : PQ) (t : PTun) : Bool := decide ((0 : Int) ≤ idxP (fun x : PQ => decide (x.id = q.id)) t.asks)
set_option maxRecDepth 100000 in
theorem ask1_ (q : PQ) (t : PTun) (ht : t.asks.length ≤ 1000) : LCalls Try.prog 64 [.t (.agg (tunT t)), .bp 2000 0] [(2000, (askR q).map .t)] [] (.t (.v (.bool (inT q t)))) [(2000, (askR q).map .t)] [] := by
  have c1 := idxInC q t.asks ht
  refine lcalls_of Try.func64 rfl rfl Try.ntmps64 rfl ?_
  unfold tunT tunC
  repeat' (first | refine rg 0 (aq10 ?_) | (refine rg 1 (aq28 ?_); refine sops_lcall (c1) (fun i => i) (fun i => i) (fun _ => false) (.free rfl rfl) rfl rfl rfl (by ((repeat' (first | exact .nil | refine .cons rfl rfl rfl ?_)) <;> fail)) (.cons rfl rfl .nil) .nil rfl rfl (fun _ h => Bool.noConfusion h) ?_; refine aq0 ?_) | refine gc ?_ | refine ct ?_ | refine cf ?_ | refine sc ?_ ?_ <;> intro hc | refine retl (by exact .inr rfl) rfl (.tmp rfl rfl .nil) ?_ rfl (.cons rfl (by rfl) rfl .nil) .nil)
  rfl
def SidxOut (q : PQ) (xs : List PTun) (k : Nat) : St := ⟨[(0, .t (.sl 14 (xs.map tunT))), (1, .cl 64 [.bp 2000 0]), (7, .t (.v (.int .i64 ((xs.map tunT).length : Int)))), (8, .t (.v (.int .i64 (k : Int))))], [(2000, (askR q).map .t)], []⟩
set_option maxRecDepth 100000 in
set_option maxHeartbeats 2000000 in
theorem idxOut (q : PQ) (xs : List PTun) (hn : xs.length ≤ 1000) (hq : ∀ t ∈ xs, t.asks.length ≤ 1000) : LCalls Try.prog 67 [.t (.sl 14 (xs.map tunT)), .cl 64 [.bp 2000 0]] [(2000, (askR q).map .t)] [] (.t (.v (.int .i64 (idxP (fun t : PTun => inT q t) xs)))) [(2000, (askR q).map .t)] [] := by
  have hm1 : (xs.map tunT).length = xs.length := List.length_map _
  refine lcalls_of Try.func67 rfl rfl Try.ntmps67 rfl ?_
  repeat' (first | refine rg 0 (aq0 ?_) | refine rg 1 (aq52 ?_) | refine gc ?_ | refine ct ?_ | refine cf ?_ | refine sc ?_ ?_ <;> intro hc | refine rq rfl (rt .nil) ?_)
  refine swp_for (SidxOut q xs) (fun k => ∀ j, j < k → ∀ x, xs[j]? = some x → (fun t : PTun => inT q t) x = false) xs.length ?_ (fun j hj => by omega) ?_
  · exact (weak_sub (.cons rfl rfl rfl (.cons rfl rfl rfl (.cons rfl rfl rfl (.cons rfl rfl rfl .nil)))) (.cons rfl rfl rfl .nil) .nil)
  intro k hk hI
  unfold SidxOut
  by_cases hlt : k < xs.length
  · have c1 := ask1_ q xs[k] (hq _ (List.getElem_mem hlt))
    have hrow : (xs.map tunT)[k]? = some (tunT xs[k]) := by rw [List.getElem?_map, List.getElem?_eq_getElem hlt]; rfl
    have hlt2 : k < (xs.map tunT).length := by omega
    have hstep : (fun t : PTun => inT q t) xs[k] = false → ∀ j, j < k + 1 → ∀ x, xs[j]? = some x → (fun t : PTun => inT q t) x = false := fun hp j hj x hx => by
      by_cases h : j = k
      · subst h; rw [List.getElem?_eq_getElem hlt] at hx; injection hx with hx; subst hx; exact hp
      · exact hI j (by omega) x hx
    cases hp : (fun t : PTun => inT q t) xs[k] with
    | true =>
      have hr := idxP_hit (fun t : PTun => inT q t) xs k hlt hI hp
      have hp2 := hp
      dsimp only at hp2
      rw [hp2] at c1
      rw [hr]
      generalize xs[k] = x at *
      repeat' (first | refine rg 2 (aq3 ?_) | refine rg 3 (aq8 ?_) | (refine rg 4 (aq54 ?_); (first | refine sops_lcall_tclo (args := [_]) (caps := [_]) (c1) (fun i => i) (fun i => i) (fun _ => false) (.free rfl rfl) rfl rfl rfl rfl (by ((repeat' (first | exact .nil | refine .cons rfl rfl rfl ?_ | refine .vw rfl (by exact .t _) ?_)) <;> fail)) (.cons rfl rfl .nil) .nil rfl rfl (fun _ h => Bool.noConfusion h) ?_ | refine sops_lcall_clo (args := [_]) (caps0 := [_]) (c1) (fun i => i) (fun i => i) (fun _ => false) (.free rfl rfl) rfl rfl rfl rfl rfl rfl (by ((repeat' (first | exact .nil | refine .cons rfl rfl rfl ?_)) <;> fail)) (.cons rfl rfl .nil) .nil rfl rfl (fun _ h => Bool.noConfusion h) ?_); refine oN ?_) | refine rg 5 (aq8 ?_) | refine gc ?_ | refine ct ?_ | refine cf ?_ | refine sc ?_ ?_ <;> intro hc | refine retl (by exact .inr rfl) rfl (.tmp rfl rfl .nil) ?_ rfl (.cons rfl (by rfl) rfl .nil) .nil)
      rfl
    | false =>
      have hp2 := hp
      dsimp only at hp2
      rw [hp2] at c1
      have hst := hstep hp
      generalize xs[k] = x at *
      repeat' (first | refine for_next hlt (weak_sub (.cons rfl rfl rfl (.cons rfl rfl rfl (.cons rfl rfl rfl (.cons rfl rfl rfl .nil)))) (.cons rfl rfl rfl .nil) .nil) hst | refine rg 2 (aq3 ?_) | refine rg 3 (aq8 ?_) | (refine rg 4 (aq54 ?_); (first | refine sops_lcall_tclo (args := [_]) (caps := [_]) (c1) (fun i => i) (fun i => i) (fun _ => false) (.free rfl rfl) rfl rfl rfl rfl (by ((repeat' (first | exact .nil | refine .cons rfl rfl rfl ?_ | refine .vw rfl (by exact .t _) ?_)) <;> fail)) (.cons rfl rfl .nil) .nil rfl rfl (fun _ h => Bool.noConfusion h) ?_ | refine sops_lcall_clo (args := [_]) (caps0 := [_]) (c1) (fun i => i) (fun i => i) (fun _ => false) (.free rfl rfl) rfl rfl rfl rfl rfl rfl (by ((repeat' (first | exact .nil | refine .cons rfl rfl rfl ?_)) <;> fail)) (.cons rfl rfl .nil) .nil rfl rfl (fun _ h => Bool.noConfusion h) ?_); refine oN ?_) | refine rg 6 (aq7 ?_) | refine gc ?_ | refine ct ?_ | refine cf ?_)
  · obtain rfl : k = xs.length := by omega
    have hr := idxP_miss (fun t : PTun => inT q t) xs fun x hx => by obtain ⟨j, hj⟩ := List.getElem?_of_mem hx; exact hI j (List.getElem?_eq_some_iff.1 hj).1 x hj
    rw [hr]
    repeat' (first | refine rg 2 (aq3 ?_) | refine rg 7 (aq0 ?_) | refine gc ?_ | refine ct ?_ | refine cf ?_ | refine sc ?_ ?_ <;> intro hc | refine retl (by exact .inr rfl) rfl (.tmp rfl rfl .nil) ?_ rfl (.cons rfl (by rfl) rfl .nil) .nil)
    rfl
set_option maxRecDepth 100000 in
theorem idxOutC (q : PQ) (xs : List PTun) (hn : xs.length ≤ 1000) (hq : ∀ t ∈ xs, t.asks.length ≤ 1000) : LCalls Try.prog 63 [.t (.sl 14 (xs.map tunT)), .cl 64 [.bp 2000 0]] [(2000, (askR q).map .t)] [] (.t (.v (.bool (decide ((0 : Int) ≤ idxP (fun t : PTun => inT q t) xs))))) [(2000, (askR q).map .t)] [] := by
  have c1 := idxOut q xs hn hq
  refine lcalls_of Try.func63 rfl rfl Try.ntmps63 rfl ?_
  repeat' (first | refine rg 0 (aq0 ?_) | (refine rg 1 (aq16 ?_); refine sops_lcall (c1) (fun i => i) (fun i => i) (fun _ => false) (.free rfl rfl) rfl rfl rfl (by ((repeat' (first | exact .nil | refine .cons rfl rfl rfl ?_)) <;> fail)) (.cons rfl rfl .nil) .nil rfl rfl (fun _ h => Bool.noConfusion h) ?_; refine aq17 ?_) | refine gc ?_ | refine ct ?_ | refine cf ?_ | refine sc ?_ ?_ <;> intro hc | refine retl (by exact .inr rfl) rfl (.tmp rfl rfl .nil) ?_ rfl (.cons rfl (by rfl) rfl .nil) .nil)
  rfl
end Go.Proofs.Ytabejnjnkpdjbaa.Sim

/- Ask: a new tunnel. -/
namespace Go.Proofs.Ytabejnjnkpdjbaa.Sim
set_option linter.unusedVariables false
set_option linter.unusedSimpArgs false
open Go.RowKit Mem
def isR (id : Nat) : Code → Bool
  | .region i _ _ => Nat.beq i id
  | _ => false
def fS (id : Nat) : Code → Option Code
  | .seq x y => if isR id x then some (.seq x y) else match fS id x with
    | some c => some c
    | none => fS id y
  | .block _ c => fS id c
  | .loop c => fS id c
  | .scope c => fS id c
  | .cond _ x y => match fS id x with
    | some c => some c
    | none => fS id y
  | _ => none
def bodyOf (f : Func) : Code := f.body.getD .skip
theorem e_buildN {P : Program} {bx : List (Nat × List A)} {ow : List (Nat × Own)} {o : Oper} {ρ : Operand → Option A} {t e sz by_ len d : Nat} {xs : List (Nat × Operand)} {rows : List (List T)} (ho : o.op = .buildSlice t len xs.toArray) (hT : sliceE P t = some (e, sz, by_)) (hx : DParts ow ρ sz 0 xs rows) (hlen : rows.length = len) (h0 : Nat.blt 0 len = true) (hsm : Nat.ble (len * sz) (2 ^ 24) = true)
    (hi : get ow d = none) (hp : Nat.ble 2000 d = false := by rfl) : EStep P bx ow o ρ (.own d rows.length) bx ((d, ⟨e, sz, rows⟩) :: ow) := e_run fun C m g w a he h => by
  obtain ⟨vs, h1, h2, h3, h4, h5⟩ := hx.ok he (a := a) (fun x hx y hy => h x (by simp [ho, Op.operands] at hx ⊢; exact hx) y hy)
  have hrun := built_run (P := P) hT w vs h3 (by omega) (Nat.lt_of_succ_le (Nat.le_of_ble_eq_true h0)) hsm
  have hsz := (sliceE_spec hT).choose_spec.choose_spec.2.2.2.2.2.2
  have hlw : g.lw d = false := by rw [he.lw, hi]; rfl
  have hle := Nat.le_of_ble_eq_true hsm
  have hml : len ≤ maxLen := by
    have h6 : len * 1 ≤ len * sz := Nat.mul_le_mul_left _ hsz
    unfold maxLen; omega
  subst hlen
  obtain ⟨h8, h9⟩ := he.setO (hp := hp) (w' := w.alloc (.cells (vs.flatMap fun v => v.cells.toList).toArray e)) (i := d) (v := .slice (some ⟨w.heap.size, 0, none⟩) rows.length rows.length) (e := e) (sz := sz) (rows := rows) (vs := vs.flatMap fun v => v.cells.toList)
    ⟨by rw [flatMap_cells_len h3, h2], .inr ⟨w.heap.size, rows.length, _, rfl, Nat.zero_le _, ⟨_, heap_alloc_new w _, .inl rfl⟩, Nat.le_refl _, hml, by simp [flatMap_cells_len h3, h2], by rw [List.take_of_length_le]; simp [flatMap_cells_len h3, h2]⟩⟩ h4 h5 (.inr hi) (.inr ⟨fun b hb => by injection hb with hb; subst hb; exact Nat.le_refl _, (Lo.refl w).alloc _⟩)
  refine ⟨.slice (some ⟨w.heap.size, 0, none⟩) rows.length rows.length, _, _, _, ?_, h8, ⟨by simp [Gh.setO], by simp [Gh.setO], ⟨_, _, rfl⟩, fun _ => by simp [Gh.setO]⟩, fun x u h => h.setO h9 (.inl hlw)⟩
  simp only [execOp, ho, List.map_toArray]
  rw [show (xs.map fun x => (x.1, a.eval x.2)) = (vs.zipIdx 0).map (fun x => (x.2, x.1)) from h1, Sem.run_bind, hrun]; rfl
def noPool : PPool := ⟨0, 0, 0, []⟩
def newQ (now : Int) (q : PQ) : PQ := { q with n := 0, born := now, since := 0 }
def newT (p : PPool) (now peer src a b c : Int) (q : PQ) : PTun := ⟨p.node, p.inc, p.next, peer, src, a, b, c, 1, 0, now, 0, now, [newQ now q]⟩
def addT (p : PPool) (now peer src a b c : Int) (q : PQ) (l : List PTun) (D : List PDo) : PPool × List PDo × Int :=
  ({ p with next := IntKind.u64.wrap (p.next + 1), tuns := l ++ [sinT now (newT p now peer src a b c q)] }, D ++ [opnD (newT p now peer src a b c q)], 0)
def SAn (p : PPool) (now peer src a b c : Int) (q : PQ) (l : List ATun) (D : List PDo) : St := ⟨[(1, .t (u64T now)), (8, .bp 8 0), (9, .bp 9 0), (10, .bp 10 0), (11, .bp 11 0), (12, .bp 12 0), (13, .t (.v (.slice none 0 0))), (14, .t (i64T 0)), (15, .bp 500 0), (17, .t (i64T (-1)))],
  [(8, [.t (i64T peer)]), (9, [.t (u64T src)]), (10, [.t (u64T a), .t (u32T b), .t (i64T c)]), (11, (askR (newQ now q)).map .t), (12, zPool), (500, wN l.length 1001 1002 1003 ⟨p.node, p.inc, p.next, now, [], D, []⟩), (1100, [.rs (FamR (famT l))])], [(1001, tunO l), (1002, doO D), (1003, failO [])]⟩
def SAm (p : PPool) (now : Int) (l : List ATun) (D : List PDo) (t : PTun) (u : Value) (nx : Int) : St := ⟨[(12, .bp 12 0), (13, .t (.v (.slice none 0 0))), (14, .t (i64T 0)), (15, .bp 500 0), (19, .bp 19 0)],
  [(19, (tunR ⟨t, u⟩).map .t), (12, zPool), (500, wN l.length 1001 1002 1003 ⟨p.node, p.inc, nx, now, [], D, []⟩), (1100, [.rs (FamR (famT l ++ (u, ⟨70, 9, t.asks.map askR⟩) :: []))])], [(1001, tunO l), (1002, doO D), (1003, failO [])]⟩
def SAo (p : PPool) (now : Int) (L : List ATun) (D : List PDo) (nx : Int) : St := ⟨[(12, .bp 12 0), (13, .t (.v (.slice none 0 0))), (14, .t (i64T 0)), (15, .bp 500 0)],
  [(12, zPool), (500, wN L.length 1001 1002 1003 ⟨p.node, p.inc, nx, now, [], D, []⟩), (1100, [.rs (FamR (famT L))])], [(1001, tunO L), (1002, doO D), (1003, failO [])]⟩
set_option maxRecDepth 100000 in
set_option maxHeartbeats 4000000 in
theorem askNew_ {c0 d0 : Code} (hc0 : fS 20 (bodyOf Try.f17) = some (.seq c0 d0)) {Q : Exit → St → Prop} (p : PPool) (now peer src a b c : Int) (q : PQ) (l : List ATun) (D : List PDo) (hl : l.length ≤ 500) (hD : D.length ≤ 1000)
    (h : ∀ L : List ATun, L.map ATun.t = (addT p now peer src a b c q (l.map ATun.t) D).1.tuns → ∀ c1 d1, fS 24 (bodyOf Try.f17) = some (.seq c1 d1) → SWp Try.prog 200 c1 (Then Try.prog 200 d1 Q) (SAo p now L (D ++ [opnD (newT p now peer src a b c q)]) (IntKind.u64.wrap (p.next + 1)))) : SWp Try.prog 200 c0 (Then Try.prog 200 d0 Q) (SAn p now peer src a b c q l D) := by
  obtain ⟨rfl, rfl⟩ := Code.seq.inj (Option.some.inj hc0)
  clear hc0
  unfold SAn wN
  dsimp only
  refine swp_anyN (id := 20) 25 [[], [], [], [], [], [], [], [], [], [], [], [], [], [], [], [], [], [], [], [], [], [], [1005], [], [19], []] [[1005, 19], [1005, 19], [1005, 19], [1005, 19], [1005, 19], [1005, 19], [1005, 19], [1005, 19], [1005, 19], [1005, 19], [1005, 19], [1005, 19], [1005, 19], [1005, 19], [1005, 19], [1005, 19], [1005, 19], [1005, 19], [1005, 19], [1005, 19], [1005, 19], [19], [19], [19], [1005], []] mixed (by kernel_rfl) (by kernel_rfl) rfl ?_
  refine yp (fun _ _ => po_move rfl rfl) ?_
  refine yp (fun _ _ => po_nilcheck rfl rfl) ?_
  refine yp (fun _ _ => po_field_bx rfl rfl (tyF rfl)) ?_
  refine yp (fun _ _ => po_field_bx rfl rfl (tyF rfl)) ?_
  refine yp (fun _ _ => po_load_bx rfl rfl (tyT rfl) rfl rfl) ?_
  refine yp (fun _ _ => po_move rfl rfl) ?_
  refine yp (fun _ _ => po_nilcheck rfl rfl) ?_
  refine yp (fun _ _ => po_field_bx rfl rfl (tyF rfl)) ?_
  refine yp (fun _ _ => po_field_bx rfl rfl (tyF rfl)) ?_
  refine yp (fun _ _ => po_load_bx rfl rfl (tyT rfl) rfl rfl) ?_
  refine yp (fun _ _ => po_move rfl rfl) ?_
  refine yp (fun _ _ => po_nilcheck rfl rfl) ?_
  refine yp (fun _ _ => po_field_bx rfl rfl (tyF rfl)) ?_
  refine yp (fun _ _ => po_field_bx rfl rfl (tyF rfl)) ?_
  refine yp (fun _ _ => po_load_bx rfl rfl (tyT rfl) rfl rfl) ?_
  refine yp (fun _ _ => po_buildS str26 rfl (pc (pc (pc .nil))) rfl) ?_
  refine yp (fun _ _ => po_load_bx rfl rfl (tyT rfl) rfl rfl) ?_
  refine yp (fun _ _ => po_load_bx rfl rfl (tyT rfl) rfl rfl) ?_
  refine yp (fun _ _ => po_load_bx_agg rfl rfl (tyT rfl) rfl (vc (vc (vc .nil))) rfl) ?_
  refine yp (fun _ _ => po_move rfl rfl) ?_
  refine yp (fun _ _ => po_move rfl rfl) ?_
  refine yp (fun _ _ => po_load_bx_agg rfl rfl (tyT rfl) rfl (vc (vc (vc (vc (vc (vc (vc (vc (vc .nil))))))))) rfl) ?_
  refine sany_eff [] [(1005, _)] (.free rfl rfl) rfl rfl (fun _ _ _ ho => e_buildN rfl (tyE rfl) (dc (.nil _)) rfl rfl rfl (ho 1005 rfl rfl)) ?_
  refine yp (fun _ _ => po_build_agl str118 rfl (.cons rfl (.cons rfl (.cons rfl (.cons rfl (.cons rfl (.cons rfl (.cons rfl (.cons rfl .nil)))))))) rfl rfl) ?_
  refine sany_eff [(19, _)] [] (.free rfl rfl) rfl rfl (fun _ _ hb _ => e_allocS str118 rfl (hb 19 rfl rfl)) ?_
  refine sany_nil ?_
  refine sops_weakE (weak_closeG 168 1100 1005 (famT l) [] ((tunS (newT p now peer src a b c q)).map .t) [] rfl (by rw [List.append_nil]; rfl) rfl rfl) fun u => ?_
  refine oS ?_
  refine oN ?_
  refine then_go ?_
  refine swp_weak (st' := SAm p now l D (newT p now peer src a b c q) u p.next) (weak_sub (.cons rfl rfl rfl (.cons rfl rfl rfl (.cons rfl rfl rfl (.cons rfl rfl rfl (.cons rfl rfl rfl .nil))))) (.cons rfl rfl rfl (.cons rfl rfl rfl (.cons rfl rfl rfl (.cons rfl rfl rfl .nil)))) (.cons rfl rfl (.cons rfl rfl (.cons rfl rfl .nil)))) ?_
  generalize ht : newT p now peer src a b c q = t
  unfold SAm wN
  dsimp only
  repeat' (first | (refine rg 21 ?_; refine oMv ?_; refine sp (po_nilcheck rfl rfl) ?_; refine oFb ?_; refine oFb ?_; refine oLb ?_; refine sp (po_addu rfl rfl rfl) ?_; refine sp (po_nilcheck rfl rfl) ?_; refine oFb ?_; refine oFb ?_; refine oS ?_; refine oN ?_) | refine gc ?_ | refine ct ?_ | refine cf ?_ | refine sc ?_ ?_ <;> intro hc | refine rq rfl (.cell rfl rfl (tyT rfl) (vc (vc (vc (vc .nil)))) rfl (rt (rt .nil))) ?_)
  refine swp_weak (st' := SAm p now l D t u (IntKind.u64.wrap (p.next + 1))) (weak_sub (.cons rfl rfl rfl (.cons rfl rfl rfl (.cons rfl rfl rfl (.cons rfl rfl rfl (.cons rfl rfl rfl .nil))))) (.cons rfl rfl rfl (.cons rfl rfl rfl (.cons rfl rfl rfl (.cons rfl rfl rfl .nil)))) (.cons rfl rfl (.cons rfl rfl (.cons rfl rfl .nil)))) ?_
  generalize hnx : IntKind.u64.wrap (p.next + 1) = nx
  have c3 := openb_ ⟨p.node, p.inc, nx, now, l, D, []⟩ ⟨t, u⟩ (by show D.length ≤ 1000000; omega)
  unfold wXb wO wC at c3
  dsimp only at c3
  unfold SAm wN
  dsimp only
  repeat' (first | (refine rg 22 ?_; refine oMv ?_; refine sops_lcall (c3) (fun i => bif Nat.beq i 2000 then 500 else bif Nat.beq i 2010 then 19 else i) (fun i => bif Nat.beq i 2001 then 1001 else bif Nat.beq i 2002 then 1002 else bif Nat.beq i 2003 then 1003 else bif Nat.beq i 1002 then 1012 else i) (fun _ => false) (.free rfl rfl) rfl rfl rfl (by ((repeat' (first | exact .nil | refine .cons rfl rfl rfl ?_)) <;> fail)) (.cons rfl rfl (.cons rfl rfl .nil)) (.cons rfl rfl (.cons rfl rfl (.cons rfl rfl .nil))) rfl rfl (fun _ h => Bool.noConfusion h) ?_; refine oN ?_) | refine gc ?_ | refine ct ?_ | refine cf ?_ | refine sc ?_ ?_ <;> intro hc | refine rq rfl (.cell rfl rfl (tyT rfl) (vc (vc (vc (vc .nil)))) rfl (rt (rt .nil))) ?_)
  refine swp_weak (weak_ren 1012 1002 rfl rfl rfl rfl rfl rfl rfl) ?_
  refine swp_weak (st' := SAm p now l (D ++ [opnD t]) (sinT now t) u nx) (weak_sub (.cons rfl rfl rfl (.cons rfl rfl rfl (.cons rfl rfl rfl (.cons rfl rfl rfl (.cons rfl rfl rfl .nil))))) (.cons rfl rfl rfl (.cons rfl rfl rfl (.cons rfl rfl rfl (.cons rfl rfl rfl .nil)))) (.cons rfl rfl (.cons rfl rfl (.cons rfl rfl .nil)))) ?_
  unfold SAm wN
  dsimp only
  have hml : l.length = (l.map tunR).length := (List.length_map _).symm
  refine swp_any (id := 23) [[], [], [], [], [], [], [], [], [1001], [], [], [], [500]] [[1001], [], [], [], [], [], [], [], [], [], [], [], []] mixed (by kernel_rfl) ?_
  refine yp (fun _ _ => po_move rfl rfl) ?_
  refine yp (fun _ _ => po_move rfl rfl) ?_
  refine yp (fun _ _ => po_nilcheck rfl rfl) ?_
  refine yp (fun _ _ => po_field_bx rfl rfl (tyF rfl)) ?_
  refine yp (fun _ _ => po_field_bx rfl rfl (tyF rfl)) ?_
  refine yp (fun _ _ => po_load_bx rfl rfl (tyT rfl) rfl rfl) ?_
  refine yp (fun _ _ => po_load_bx_agg rfl rfl (tyT rfl) rfl (vc (vc (vc (vc (vc (vc (vc (vc (vc (vc (vc (vc (vc (vc .nil)))))))))))))) rfl) ?_
  refine yp (fun _ _ => po_buildSlice rfl (tyE rfl) (dc (.nil _)) rfl rfl rfl) ?_
  refine sany_eff [] [(1001, _)] (.free rfl rfl) rfl rfl (fun _ _ _ _ => e_append rfl rfl rfl hml rfl (.t _) (tyE rfl) (by simp only [List.length_map, List.length_cons, List.length_nil]; omega) (by unfold maxLen; simp only [List.length_map, List.length_cons, List.length_nil]; omega)) ?_
  refine yp (fun _ _ => po_nilcheck rfl rfl) ?_
  refine yp (fun _ _ => po_field_bx rfl rfl (tyF rfl)) ?_
  refine yp (fun _ _ => po_field_bx rfl rfl (tyF rfl)) ?_
  refine sany_eff [(500, _)] [] (.free rfl rfl) rfl rfl (fun _ _ _ _ => e_store rfl rfl rfl rfl rfl rfl (tyT rfl) rfl rfl) ?_
  refine sany_nil ?_
  refine then_go ?_
  have hL : l.map tunR ++ [tunR ⟨sinT now t, u⟩] = (l ++ [(⟨sinT now t, u⟩ : ATun)]).map tunR := by rw [List.map_append]; rfl
  have hL' := congrArg (fun r => (⟨118, 14, r⟩ : Own)) hL
  have hLl : (l.map tunR ++ [tunR ⟨sinT now t, u⟩]).length = (l ++ [(⟨sinT now t, u⟩ : ATun)]).length := by rw [hL, List.length_map]
  have hLc := congrArg (fun n => wN n 1001 1002 1003 ⟨p.node, p.inc, nx, now, [], D ++ [opnD t], []⟩) hLl
  have hLf : famT l ++ (u, (⟨70, 9, t.asks.map askR⟩ : Own)) :: [] = famT (l ++ [(⟨sinT now t, u⟩ : ATun)]) := by rw [famT_app]; rfl
  have hLg := congrArg (fun f => [Sim.A.rs (FamR f)]) hLf
  refine swp_weak (st' := SAo p now (l ++ [⟨sinT now t, u⟩]) (D ++ [opnD t]) nx) (weak_sub (.cons rfl (by first | rfl | (first | (exact hL') | (exact hLc) | (exact hLg))) rfl (.cons rfl (by first | rfl | (first | (exact hL') | (exact hLc) | (exact hLg))) rfl (.cons rfl (by first | rfl | (first | (exact hL') | (exact hLc) | (exact hLg))) rfl (.cons rfl (by first | rfl | (first | (exact hL') | (exact hLc) | (exact hLg))) rfl .nil)))) (.cons rfl (by first | rfl | (first | (exact hL') | (exact hLc) | (exact hLg))) rfl (.cons rfl (by first | rfl | (first | (exact hL') | (exact hLc) | (exact hLg))) rfl (.cons rfl (by first | rfl | (first | (exact hL') | (exact hLc) | (exact hLg))) rfl .nil))) (.cons rfl (by first | rfl | (first | (exact hL') | (exact hLc) | (exact hLg))) (.cons rfl (by first | rfl | (first | (exact hL') | (exact hLc) | (exact hLg))) (.cons rfl (by first | rfl | (first | (exact hL') | (exact hLc) | (exact hLg))) .nil)))) ?_
  refine swp_seq ?_
  subst ht hnx
  refine h (l ++ [⟨sinT now (newT p now peer src a b c q), u⟩]) ?_ _ _ rfl
  rw [List.map_append]; rfl
end Go.Proofs.Ytabejnjnkpdjbaa.Sim
