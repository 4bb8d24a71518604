/- Merged by bundles.py: SimPa, SimNl2, SimPb. -/
import Derived.Test.YtabejnjnkpdjbaaU22
import Derived.Test.YtabejnjnkpdjbaaU15
import Derived.Test.YtabejnjnkpdjbaaU21
/- Where a tunnel is: closures, IndexFunc, at. -/
namespace Go.Proofs.Ytabejnjnkpdjbaa.Sim
set_option linter.unusedVariables false
set_option linter.unusedSimpArgs false
open Go.RowKit Mem
def idxP {α : Type} (p : α → Bool) (l : List α) : Int := if l.any p then ((l.findIdx p : Nat) : Int) else -1
theorem idxP_hit {α : Type} (p : α → Bool) (l : List α) (k : Nat) (h : k < l.length) (h1 : ∀ j, j < k → ∀ x, l[j]? = some x → p x = false) (h2 : p l[k] = true) : idxP p l = (k : Int) := by
  unfold idxP
  rw [if_pos (List.any_eq_true.2 ⟨_, List.getElem_mem h, h2⟩)]
  congr 1
  refine (List.findIdx_eq h).2 ⟨h2, fun j hj => ?_⟩
  exact h1 j hj _ (List.getElem?_eq_getElem (by omega))
theorem idxP_miss {α : Type} (p : α → Bool) (l : List α) (h : ∀ x ∈ l, p x = false) : idxP p l = -1 := by
  unfold idxP
  rw [if_neg]
  rw [Bool.not_eq_true, List.any_eq_false]
  exact fun x hx => by simp [h x hx]
def pAt (peer a b c : Int) (t : PTun) : Bool := decide (t.peer = peer) && (t.node == a && (t.inc == b && t.num == c))
set_option maxRecDepth 100000 in
theorem at1_ (peer a b c : Int) (x : ATun) : LCalls Try.prog 115 [.t (.agg (tunR x)), .bp 2000 0, .bp 2001 0] [(2000, [.t (i64T peer)]), (2001, [.t (i64T a), .t (u64T b), .t (u64T c)])] [] (.t (.v (.bool (pAt peer a b c x.t)))) [(2000, [.t (i64T peer)]), (2001, [.t (i64T a), .t (u64T b), .t (u64T c)])] [] := by
  refine lcalls_of Try.func115 rfl rfl Try.ntmps115 rfl ?_
  unfold pAt
  by_cases h : x.t.peer = peer
  · have hd : decide (x.t.peer = peer) = true := decide_eq_true h
    rw [hd, Bool.true_and]
    repeat' (first | refine rg 0 (aq10 ?_) | (refine rg 1 (aq22 ?_); (first | refine sp (po_eqid rfl rfl rfl) ?_ | refine oCm ?_); refine oMv ?_; refine oFb ?_; refine sp (po_load_bx_agg rfl rfl (tyT rfl) rfl (vc (vc (vc .nil))) rfl) ?_; refine sp (po_load_bx_agg rfl rfl (tyT rfl) rfl (vc (vc (vc .nil))) rfl) ?_ <;> refine sp (po_eqid rfl rfl rfl) ?_ <;> refine aq23 ?_) | refine gc ?_ | refine ct ?_ | refine cf ?_ | refine sc ?_ ?_ <;> intro hc | refine retl (by exact .inr rfl) rfl (.tmp rfl rfl .nil) ?_ rfl (.cons rfl (by rfl) rfl (.cons rfl (by rfl) rfl .nil)) .nil)
    all_goals first | rfl | (rw [hd] at hc; cases hc)
  · have hd : decide (x.t.peer = peer) = false := decide_eq_false h
    rw [hd, Bool.false_and]
    repeat' (first | refine rg 0 (aq10 ?_) | (refine rg 1 (aq22 ?_); (first | refine sp (po_eqid rfl rfl rfl) ?_ | refine oCm ?_); refine oMv ?_; (first | refine oFb ?_ | refine oFd ?_ | refine sp (fdo rfl) ?_ | refine oK ?_); (first | refine sp (po_load_bx_agg rfl rfl (tyT rfl) rfl (vc (vc (vc .nil))) rfl) ?_ | refine sp (po_load_agg rfl rfl (tyT rfl) rfl rfl) ?_ | refine sp (lda rfl) ?_ | refine sp (po_load_bx_ag rfl rfl (tyT rfl) rfl rfl rfl rfl) ?_ | refine oK ?_); (first | refine sp (po_load_bx_agg rfl rfl (tyT rfl) rfl (vc (vc (vc .nil))) rfl) ?_ | refine sp (po_load_agg rfl rfl (tyT rfl) rfl rfl) ?_ | refine sp (lda rfl) ?_ | refine sp (po_load_bx_ag rfl rfl (tyT rfl) rfl rfl rfl rfl) ?_ | refine oK ?_) <;> (first | refine sp (po_eqid rfl rfl rfl) ?_ | refine sp (po_boolq rfl rfl rfl (by kernel_rfl) (by exact .inl rfl)) ?_ | refine oK ?_) <;> refine aq24 ?_) | refine gc ?_ | refine ct ?_ | refine cf ?_ | refine sc ?_ ?_ <;> intro hc | refine retl (by exact .inr rfl) rfl (.tmp rfl rfl .nil) ?_ rfl (.cons rfl (by rfl) rfl (.cons rfl (by rfl) rfl .nil)) .nil)
    all_goals first | rfl | (rw [hd] at hc; cases hc)
def SidxAt (peer a b c : Int) (xs : List ATun) (k : Nat) : St := ⟨[(0, .own 2000 (xs.map tunR).length), (1, .cl 115 [.bp 2000 0, .bp 2001 0]), (7, .t (.v (.int .i64 ((xs.map tunR).length : Int)))), (8, .t (.v (.int .i64 (k : Int))))], [(2000, [.t (i64T peer)]), (2001, [.t (i64T a), .t (u64T b), .t (u64T c)])], [(2000, ⟨118, 14, xs.map tunR⟩)]⟩
set_option maxRecDepth 100000 in
set_option maxHeartbeats 2000000 in
theorem idxAt (peer a b c : Int) (xs : List ATun) (hn : xs.length ≤ 1000) : LCalls Try.prog 67 [.own 2000 (xs.map tunR).length, .cl 115 [.bp 2000 0, .bp 2001 0]] [(2000, [.t (i64T peer)]), (2001, [.t (i64T a), .t (u64T b), .t (u64T c)])] [(2000, ⟨118, 14, xs.map tunR⟩)] (.t (.v (.int .i64 (idxP (fun x : ATun => pAt peer a b c x.t) xs)))) [(2000, [.t (i64T peer)]), (2001, [.t (i64T a), .t (u64T b), .t (u64T c)])] [(2000, ⟨118, 14, xs.map tunR⟩)] := by
  have hm1 : (xs.map tunR).length = xs.length := List.length_map _
  refine lcalls_of Try.func67 rfl rfl Try.ntmps67 rfl ?_
  repeat' (first | refine rg 0 (aq0 ?_) | refine rg 1 (aq2 ?_) | refine gc ?_ | refine ct ?_ | refine cf ?_ | refine sc ?_ ?_ <;> intro hc | refine rq rfl (rt .nil) ?_)
  refine swp_for (SidxAt peer a b c xs) (fun k => ∀ j, j < k → ∀ x, xs[j]? = some x → (fun x : ATun => pAt peer a b c x.t) x = false) xs.length ?_ (fun j hj => by omega) ?_
  · exact (weak_sub (.cons rfl rfl rfl (.cons rfl rfl rfl (.cons rfl rfl rfl (.cons rfl rfl rfl .nil)))) (.cons rfl rfl rfl (.cons rfl rfl rfl .nil)) (.cons rfl rfl .nil))
  intro k hk hI
  unfold SidxAt
  by_cases hlt : k < xs.length
  · have c1 := at1_ peer a b c xs[k]
    have hrow : (xs.map tunR)[k]? = some (tunR xs[k]) := by rw [List.getElem?_map, List.getElem?_eq_getElem hlt]; rfl
    have hlt2 : k < (xs.map tunR).length := by omega
    have hstep : (fun x : ATun => pAt peer a b c x.t) xs[k] = false → ∀ j, j < k + 1 → ∀ x, xs[j]? = some x → (fun x : ATun => pAt peer a b c x.t) x = false := fun hp j hj x hx => by
      by_cases h : j = k
      · subst h; rw [List.getElem?_eq_getElem hlt] at hx; injection hx with hx; subst hx; exact hp
      · exact hI j (by omega) x hx
    cases hp : (fun x : ATun => pAt peer a b c x.t) xs[k] with
    | true =>
      have hr := idxP_hit (fun x : ATun => pAt peer a b c x.t) xs k hlt hI hp
      have hp2 := hp
      dsimp only at hp2
      rw [hp2] at c1
      rw [hr]
      generalize xs[k] = x at *
      repeat' (first | refine rg 2 (aq3 ?_) | refine rg 3 (aq8 ?_) | (refine rg 4 (aq25 ?_); refine sp (po_load_own_agg (ts := tunR x) rfl rfl rfl rfl (tyT rfl) hrow rfl rfl) ?_; (first | refine sops_lcall_tclo (args := [_]) (caps := [_, _]) (c1) (fun i => i) (fun i => i) (fun _ => false) (.free rfl rfl) rfl rfl rfl rfl (by ((repeat' (first | exact .nil | refine .cons rfl rfl rfl ?_ | refine .vw rfl (by exact .t _) ?_)) <;> fail)) (.cons rfl rfl (.cons rfl rfl .nil)) .nil rfl rfl (fun _ h => Bool.noConfusion h) ?_ | refine sops_lcall_clo (args := [_]) (caps0 := [_, _]) (c1) (fun i => i) (fun i => i) (fun _ => false) (.free rfl rfl) rfl rfl rfl rfl rfl rfl (by ((repeat' (first | exact .nil | refine .cons rfl rfl rfl ?_)) <;> fail)) (.cons rfl rfl (.cons rfl rfl .nil)) .nil rfl rfl (fun _ h => Bool.noConfusion h) ?_); refine oN ?_) | refine rg 5 (aq8 ?_) | refine gc ?_ | refine ct ?_ | refine cf ?_ | refine sc ?_ ?_ <;> intro hc | refine retl (by exact .inr rfl) rfl (.tmp rfl rfl .nil) ?_ rfl (.cons rfl (by rfl) rfl (.cons rfl (by rfl) rfl .nil)) (.cons rfl (by rfl) .nil))
      rfl
    | false =>
      have hp2 := hp
      dsimp only at hp2
      rw [hp2] at c1
      have hst := hstep hp
      generalize xs[k] = x at *
      repeat' (first | refine for_next hlt (weak_sub (.cons rfl rfl rfl (.cons rfl rfl rfl (.cons rfl rfl rfl (.cons rfl rfl rfl .nil)))) (.cons rfl rfl rfl (.cons rfl rfl rfl .nil)) (.cons rfl rfl .nil)) hst | refine rg 2 (aq3 ?_) | refine rg 3 (aq8 ?_) | (refine rg 4 (aq25 ?_); refine sp (po_load_own_agg (ts := tunR x) rfl rfl rfl rfl (tyT rfl) hrow rfl rfl) ?_; (first | refine sops_lcall_tclo (args := [_]) (caps := [_, _]) (c1) (fun i => i) (fun i => i) (fun _ => false) (.free rfl rfl) rfl rfl rfl rfl (by ((repeat' (first | exact .nil | refine .cons rfl rfl rfl ?_ | refine .vw rfl (by exact .t _) ?_)) <;> fail)) (.cons rfl rfl (.cons rfl rfl .nil)) .nil rfl rfl (fun _ h => Bool.noConfusion h) ?_ | refine sops_lcall_clo (args := [_]) (caps0 := [_, _]) (c1) (fun i => i) (fun i => i) (fun _ => false) (.free rfl rfl) rfl rfl rfl rfl rfl rfl (by ((repeat' (first | exact .nil | refine .cons rfl rfl rfl ?_)) <;> fail)) (.cons rfl rfl (.cons rfl rfl .nil)) .nil rfl rfl (fun _ h => Bool.noConfusion h) ?_); refine oN ?_) | refine rg 6 (aq7 ?_) | refine gc ?_ | refine ct ?_ | refine cf ?_)
  · obtain rfl : k = xs.length := by omega
    have hr := idxP_miss (fun x : ATun => pAt peer a b c x.t) xs fun x hx => by obtain ⟨j, hj⟩ := List.getElem?_of_mem hx; exact hI j (List.getElem?_eq_some_iff.1 hj).1 x hj
    rw [hr]
    repeat' (first | refine rg 2 (aq3 ?_) | refine rg 7 (aq0 ?_) | refine gc ?_ | refine ct ?_ | refine cf ?_ | refine sc ?_ ?_ <;> intro hc | refine retl (by exact .inr rfl) rfl (.tmp rfl rfl .nil) ?_ rfl (.cons rfl (by rfl) rfl (.cons rfl (by rfl) rfl .nil)) (.cons rfl (by rfl) .nil))
    rfl
abbrev atW (W : PWk) (peer a b c : Int) : Int := idxP (fun x : ATun => pAt peer a b c x.t) W.tuns
set_option maxRecDepth 100000 in
theorem at_ (W : PWk) (peer a b c : Int) (hn : W.tuns.length ≤ 1000) : LCalls Try.prog 73 [.bp 2000 0, .t (i64T peer), .t (idT a b c)] (wX 2000 2001 2002 2003 W) (wO 2001 2002 2003 W) (.t (.v (.int .i64 (atW W peer a b c)))) (wX 2000 2001 2002 2003 W) (wO 2001 2002 2003 W) := by
  have c1 := idxAt peer a b c W.tuns hn
  rw [show (W.tuns.map tunR).length = W.tuns.length from List.length_map _] at c1
  refine lcalls_of Try.func73 rfl rfl Try.ntmps73 rfl ?_
  unfold wX wO wC idT
  repeat' (first | refine rg 0 (aq26 ?_) | (refine rg 1 ?_; refine oMv ?_; refine sp (po_nilcheck rfl rfl) ?_; refine oFb ?_; refine oFb ?_; refine oLb ?_; (first | refine sp (po_func rfl (ac (ac .nil))) ?_ | refine sp (po_func_cl rfl (.cons rfl rfl (.cons rfl rfl .nil))) ?_); refine sops_lcall (c1) (fun i => bif Nat.beq i 2000 then 4 else bif Nat.beq i 2001 then 5 else i) (fun i => bif Nat.beq i 2000 then 2001 else i) (fun i => Nat.beq i 2000) (.free rfl rfl) rfl rfl rfl (by ((repeat' (first | exact .nil | refine .cons rfl rfl rfl ?_)) <;> fail)) (.cons rfl rfl (.cons rfl rfl .nil)) (.cons rfl rfl .nil) rfl rfl (kp_id 2000 rfl rfl rfl (by rfl)) ?_; refine aq0 ?_) | refine gc ?_ | refine ct ?_ | refine cf ?_ | refine sc ?_ ?_ <;> intro hc | refine retl (by exact .inr rfl) rfl (.tmp rfl rfl .nil) ?_ rfl (.cons rfl (by rfl) rfl .nil) (.cons rfl (by rfl) (.cons rfl (by rfl) (.cons rfl (by rfl) .nil))))
  rfl
end Go.Proofs.Ytabejnjnkpdjbaa.Sim

/- Inlets: where a tunnel is, where a query is. (Printed by mk_nl2.py.) -/
namespace Go.Proofs.Ytabejnjnkpdjbaa.Sim
set_option linter.unusedVariables false
set_option linter.unusedSimpArgs false
open Go.RowKit Mem
def pIn (a b c : Int) (t : PIn) : Bool := t.node == a && (t.inc == b && t.num == c)
set_option maxRecDepth 100000 in
theorem in1_ (a b c : Int) (x : AIn) : LCalls Try.prog 107 [.t (.agg (inR x)), .bp 2000 0] [(2000, [.t (i64T a), .t (u64T b), .t (u64T c)])] [] (.t (.v (.bool (pIn a b c x.t)))) [(2000, [.t (i64T a), .t (u64T b), .t (u64T c)])] [] := by
  refine lcalls_of Try.func107 rfl rfl Try.ntmps107 rfl ?_
  unfold pIn
  repeat' (first | refine rg 0 (aq10 ?_) | (refine rg 1 (aq27 ?_); refine sp (po_eqid rfl rfl rfl) ?_; refine aq0 ?_) | refine gc ?_ | refine ct ?_ | refine cf ?_ | refine sc ?_ ?_ <;> intro hc | refine retl (by exact .inr rfl) rfl (.tmp rfl rfl .nil) ?_ rfl (.cons rfl (by rfl) rfl .nil) .nil)
  all_goals rfl
def SidxNb (a b c : Int) (xs : List AIn) (k : Nat) : St := ⟨[(0, .own 2000 (xs.map inR).length), (1, .cl 107 [.bp 2000 0]), (7, .t (.v (.int .i64 ((xs.map inR).length : Int)))), (8, .t (.v (.int .i64 (k : Int))))], [(2000, [.t (i64T a), .t (u64T b), .t (u64T c)])], [(2000, ⟨42, 14, xs.map inR⟩)]⟩
set_option maxRecDepth 100000 in
set_option maxHeartbeats 2000000 in
theorem idxNb (a b c : Int) (xs : List AIn) (hn : xs.length ≤ 1000) : LCalls Try.prog 106 [.own 2000 (xs.map inR).length, .cl 107 [.bp 2000 0]] [(2000, [.t (i64T a), .t (u64T b), .t (u64T c)])] [(2000, ⟨42, 14, xs.map inR⟩)] (.t (.v (.int .i64 (idxP (fun x : AIn => pIn a b c x.t) xs)))) [(2000, [.t (i64T a), .t (u64T b), .t (u64T c)])] [(2000, ⟨42, 14, xs.map inR⟩)] := by
  have hm1 : (xs.map inR).length = xs.length := List.length_map _
  refine lcalls_of Try.func106 rfl rfl Try.ntmps106 rfl ?_
  repeat' (first | refine rg 0 (aq0 ?_) | refine rg 1 (aq2 ?_) | refine gc ?_ | refine ct ?_ | refine cf ?_ | refine sc ?_ ?_ <;> intro hc | refine rq rfl (rt .nil) ?_)
  refine swp_for (SidxNb a b c xs) (fun k => ∀ j, j < k → ∀ x, xs[j]? = some x → (fun x : AIn => pIn a b c x.t) x = false) xs.length ?_ (fun j hj => by omega) ?_
  · exact (weak_sub (.cons rfl rfl rfl (.cons rfl rfl rfl (.cons rfl rfl rfl (.cons rfl rfl rfl .nil)))) (.cons rfl rfl rfl .nil) (.cons rfl rfl .nil))
  intro k hk hI
  unfold SidxNb
  by_cases hlt : k < xs.length
  · have c1 := in1_ a b c xs[k]
    have hrow : (xs.map inR)[k]? = some (inR xs[k]) := by rw [List.getElem?_map, List.getElem?_eq_getElem hlt]; rfl
    have hlt2 : k < (xs.map inR).length := by omega
    have hstep : (fun x : AIn => pIn a b c x.t) xs[k] = false → ∀ j, j < k + 1 → ∀ x, xs[j]? = some x → (fun x : AIn => pIn a b c x.t) x = false := fun hp j hj x hx => by
      by_cases h : j = k
      · subst h; rw [List.getElem?_eq_getElem hlt] at hx; injection hx with hx; subst hx; exact hp
      · exact hI j (by omega) x hx
    cases hp : (fun x : AIn => pIn a b c x.t) xs[k] with
    | true =>
      have hr := idxP_hit (fun x : AIn => pIn a b c x.t) xs k hlt hI hp
      have hp2 := hp
      dsimp only at hp2
      rw [hp2] at c1
      rw [hr]
      generalize xs[k] = x at *
      repeat' (first | refine rg 2 (aq3 ?_) | refine rg 3 (aq8 ?_) | (refine rg 4 (aq25 ?_); refine sp (po_load_own_agg (ts := inR x) rfl rfl rfl rfl (tyT rfl) hrow rfl rfl) ?_; (first | refine sops_lcall_tclo (args := [_]) (caps := [_]) (c1) (fun i => i) (fun i => i) (fun _ => false) (.free rfl rfl) rfl rfl rfl rfl (by ((repeat' (first | exact .nil | refine .cons rfl rfl rfl ?_ | refine .vw rfl (by exact .t _) ?_)) <;> fail)) (.cons rfl rfl .nil) .nil rfl rfl (fun _ h => Bool.noConfusion h) ?_ | refine sops_lcall_clo (args := [_]) (caps0 := [_]) (c1) (fun i => i) (fun i => i) (fun _ => false) (.free rfl rfl) rfl rfl rfl rfl rfl rfl (by ((repeat' (first | exact .nil | refine .cons rfl rfl rfl ?_)) <;> fail)) (.cons rfl rfl .nil) .nil rfl rfl (fun _ h => Bool.noConfusion h) ?_); refine oN ?_) | refine rg 5 (aq8 ?_) | refine gc ?_ | refine ct ?_ | refine cf ?_ | refine sc ?_ ?_ <;> intro hc | refine retl (by exact .inr rfl) rfl (.tmp rfl rfl .nil) ?_ rfl (.cons rfl (by rfl) rfl .nil) (.cons rfl (by rfl) .nil))
      rfl
    | false =>
      have hp2 := hp
      dsimp only at hp2
      rw [hp2] at c1
      have hst := hstep hp
      generalize xs[k] = x at *
      repeat' (first | refine for_next hlt (weak_sub (.cons rfl rfl rfl (.cons rfl rfl rfl (.cons rfl rfl rfl (.cons rfl rfl rfl .nil)))) (.cons rfl rfl rfl .nil) (.cons rfl rfl .nil)) hst | refine rg 2 (aq3 ?_) | refine rg 3 (aq8 ?_) | (refine rg 4 (aq25 ?_); refine sp (po_load_own_agg (ts := inR x) rfl rfl rfl rfl (tyT rfl) hrow rfl rfl) ?_; (first | refine sops_lcall_tclo (args := [_]) (caps := [_]) (c1) (fun i => i) (fun i => i) (fun _ => false) (.free rfl rfl) rfl rfl rfl rfl (by ((repeat' (first | exact .nil | refine .cons rfl rfl rfl ?_ | refine .vw rfl (by exact .t _) ?_)) <;> fail)) (.cons rfl rfl .nil) .nil rfl rfl (fun _ h => Bool.noConfusion h) ?_ | refine sops_lcall_clo (args := [_]) (caps0 := [_]) (c1) (fun i => i) (fun i => i) (fun _ => false) (.free rfl rfl) rfl rfl rfl rfl rfl rfl (by ((repeat' (first | exact .nil | refine .cons rfl rfl rfl ?_)) <;> fail)) (.cons rfl rfl .nil) .nil rfl rfl (fun _ h => Bool.noConfusion h) ?_); refine oN ?_) | refine rg 6 (aq7 ?_) | refine gc ?_ | refine ct ?_ | refine cf ?_)
  · obtain rfl : k = xs.length := by omega
    have hr := idxP_miss (fun x : AIn => pIn a b c x.t) xs fun x hx => by obtain ⟨j, hj⟩ := List.getElem?_of_mem hx; exact hI j (List.getElem?_eq_some_iff.1 hj).1 x hj
    rw [hr]
    repeat' (first | refine rg 2 (aq3 ?_) | refine rg 7 (aq0 ?_) | refine gc ?_ | refine ct ?_ | refine cf ?_ | refine sc ?_ ?_ <;> intro hc | refine retl (by exact .inr rfl) rfl (.tmp rfl rfl .nil) ?_ rfl (.cons rfl (by rfl) rfl .nil) (.cons rfl (by rfl) .nil))
    rfl
set_option maxRecDepth 100000 in
theorem inbound_ (l : List AIn) (a b c : Int) (hn : l.length ≤ 1000) : LCalls Try.prog 50 [.ag [.own 2001 l.length], .t (idT a b c)] [] [(2001, inO l)] (.t (.v (.int .i64 (idxP (fun x : AIn => pIn a b c x.t) l)))) [] [(2001, inO l)] := by
  have c1 := idxNb a b c l hn
  rw [show (l.map inR).length = l.length from List.length_map _] at c1
  refine lcalls_of Try.func50 rfl rfl Try.ntmps50 rfl ?_
  unfold idT
  repeat' (first | refine rg 0 (aq26 ?_) | (refine rg 1 (aq28 ?_); refine sops_lcall (c1) (fun i => bif Nat.beq i 2000 then 3 else i) (fun i => bif Nat.beq i 2000 then 2001 else i) (fun i => Nat.beq i 2000) (.free rfl rfl) rfl rfl rfl (by ((repeat' (first | exact .nil | refine .cons rfl rfl rfl ?_)) <;> fail)) (.cons rfl rfl .nil) (.cons rfl rfl .nil) rfl rfl (kp_id 2000 rfl rfl rfl (by rfl)) ?_; refine aq0 ?_) | refine gc ?_ | refine ct ?_ | refine cf ?_ | refine sc ?_ ?_ <;> intro hc | refine retl (by exact .inr rfl) rfl (.tmp rfl rfl .nil) ?_ rfl .nil (.cons rfl (by rfl) .nil))
  rfl
def pOf (peer a b c owner : Int) (t : PIn) : Bool := ((t.node == a && (t.inc == b && t.num == c)) && decide (t.peer = peer)) && decide (t.owner = owner)
set_option maxRecDepth 100000 in
theorem of1_ (peer a b c owner : Int) (x : AIn) : LCalls Try.prog 108 [.t (.agg (inR x)), .bp 2000 0, .bp 2001 0, .bp 2002 0] [(2000, [.t (i64T a), .t (u64T b), .t (u64T c)]), (2001, [.t (i64T peer)]), (2002, [.t (u64T owner)])] [] (.t (.v (.bool (pOf peer a b c owner x.t)))) [(2000, [.t (i64T a), .t (u64T b), .t (u64T c)]), (2001, [.t (i64T peer)]), (2002, [.t (u64T owner)])] [] := by
  refine lcalls_of Try.func108 rfl rfl Try.ntmps108 rfl ?_
  unfold pOf
  cases k0 : (x.t.node == a && (x.t.inc == b && x.t.num == c)) with
  | false =>
    repeat' (first | refine rg 0 (aq10 ?_) | (refine rg 1 (aq27 ?_); refine sp (po_eqid rfl rfl rfl) ?_; refine aq29 ?_ <;> (first | refine sp (po_eqid rfl rfl rfl) ?_ | refine oCm ?_ | refine oK ?_) <;> (first | refine oPt ?_ | refine oPf ?_) <;> refine oMv ?_ <;> (first | refine oFb ?_ | refine oFd ?_ | refine sp (fdo rfl) ?_ | refine oK ?_) <;> (first | refine oLb ?_ | refine oLd ?_ | refine sp (ldo rfl) ?_ | refine oK ?_) <;> (first | refine oLb ?_ | refine oLd ?_ | refine sp (ldo rfl) ?_ | refine oK ?_) <;> (first | refine sp (po_eqid rfl rfl rfl) ?_ | refine oCm ?_ | refine oK ?_) <;> refine aq24 ?_) | refine gc ?_ | refine ct ?_ | refine cf ?_ | refine sc ?_ ?_ <;> intro hc | refine retl (by exact .inr rfl) rfl (.tmp rfl rfl .nil) ?_ rfl (.cons rfl (by rfl) rfl (.cons rfl (by rfl) rfl (.cons rfl (by rfl) rfl .nil))) .nil)
    all_goals first | rfl | (rw [k0] at hc; cases hc) | (simp [k0])
  | true =>
    cases k1 : decide (x.t.peer = peer) with
    | false =>
      repeat' (first | refine rg 0 (aq10 ?_) | (refine rg 1 (aq27 ?_); refine sp (po_eqid rfl rfl rfl) ?_; refine aq30 ?_ <;> (first | refine sp (po_eqid rfl rfl rfl) ?_ | refine oCm ?_) <;> refine oPt ?_ <;> refine oMv ?_ <;> (first | refine oFb ?_ | refine oFd ?_ | refine sp (fdo rfl) ?_ | refine oK ?_) <;> (first | refine oLb ?_ | refine oLd ?_ | refine sp (ldo rfl) ?_ | refine oK ?_) <;> (first | refine oLb ?_ | refine oLd ?_ | refine sp (ldo rfl) ?_ | refine oK ?_) <;> (first | refine sp (po_eqid rfl rfl rfl) ?_ | refine oCm ?_ | refine oK ?_) <;> refine aq24 ?_) | refine gc ?_ | refine ct ?_ | refine cf ?_ | refine sc ?_ ?_ <;> intro hc | refine retl (by exact .inr rfl) rfl (.tmp rfl rfl .nil) ?_ rfl (.cons rfl (by rfl) rfl (.cons rfl (by rfl) rfl (.cons rfl (by rfl) rfl .nil))) .nil)
      all_goals first | rfl | (rw [k0] at hc; cases hc) | (simp [k0])
    | true =>
      repeat' (first | refine rg 0 (aq10 ?_) | (refine rg 1 (aq27 ?_); refine sp (po_eqid rfl rfl rfl) ?_; refine aq30 ?_ <;> (first | refine sp (po_eqid rfl rfl rfl) ?_ | refine oCm ?_) <;> refine oPt ?_ <;> refine oMv ?_ <;> refine oFb ?_ <;> refine oLb ?_ <;> refine oLb ?_ <;> (first | refine sp (po_eqid rfl rfl rfl) ?_ | refine oCm ?_) <;> refine aq23 ?_) | refine gc ?_ | refine ct ?_ | refine cf ?_ | refine sc ?_ ?_ <;> intro hc | refine retl (by exact .inr rfl) rfl (.tmp rfl rfl .nil) ?_ rfl (.cons rfl (by rfl) rfl (.cons rfl (by rfl) rfl (.cons rfl (by rfl) rfl .nil))) .nil)
      all_goals first | rfl | (rw [k0] at hc; cases hc) | (simp [k0])
def SidxOf (peer a b c owner : Int) (xs : List AIn) (k : Nat) : St := ⟨[(0, .own 2000 (xs.map inR).length), (1, .cl 108 [.bp 2000 0, .bp 2001 0, .bp 2002 0]), (7, .t (.v (.int .i64 ((xs.map inR).length : Int)))), (8, .t (.v (.int .i64 (k : Int))))], [(2000, [.t (i64T a), .t (u64T b), .t (u64T c)]), (2001, [.t (i64T peer)]), (2002, [.t (u64T owner)])], [(2000, ⟨42, 14, xs.map inR⟩)]⟩
set_option maxRecDepth 100000 in
set_option maxHeartbeats 2000000 in
theorem idxOf (peer a b c owner : Int) (xs : List AIn) (hn : xs.length ≤ 1000) : LCalls Try.prog 106 [.own 2000 (xs.map inR).length, .cl 108 [.bp 2000 0, .bp 2001 0, .bp 2002 0]] [(2000, [.t (i64T a), .t (u64T b), .t (u64T c)]), (2001, [.t (i64T peer)]), (2002, [.t (u64T owner)])] [(2000, ⟨42, 14, xs.map inR⟩)] (.t (.v (.int .i64 (idxP (fun x : AIn => pOf peer a b c owner x.t) xs)))) [(2000, [.t (i64T a), .t (u64T b), .t (u64T c)]), (2001, [.t (i64T peer)]), (2002, [.t (u64T owner)])] [(2000, ⟨42, 14, xs.map inR⟩)] := by
  have hm1 : (xs.map inR).length = xs.length := List.length_map _
  refine lcalls_of Try.func106 rfl rfl Try.ntmps106 rfl ?_
  repeat' (first | refine rg 0 (aq0 ?_) | refine rg 1 (aq2 ?_) | refine gc ?_ | refine ct ?_ | refine cf ?_ | refine sc ?_ ?_ <;> intro hc | refine rq rfl (rt .nil) ?_)
  refine swp_for (SidxOf peer a b c owner xs) (fun k => ∀ j, j < k → ∀ x, xs[j]? = some x → (fun x : AIn => pOf peer a b c owner x.t) x = false) xs.length ?_ (fun j hj => by omega) ?_
  · exact (weak_sub (.cons rfl rfl rfl (.cons rfl rfl rfl (.cons rfl rfl rfl (.cons rfl rfl rfl .nil)))) (.cons rfl rfl rfl (.cons rfl rfl rfl (.cons rfl rfl rfl .nil))) (.cons rfl rfl .nil))
  intro k hk hI
  unfold SidxOf
  by_cases hlt : k < xs.length
  · have c1 := of1_ peer a b c owner xs[k]
    have hrow : (xs.map inR)[k]? = some (inR xs[k]) := by rw [List.getElem?_map, List.getElem?_eq_getElem hlt]; rfl
    have hlt2 : k < (xs.map inR).length := by omega
    have hstep : (fun x : AIn => pOf peer a b c owner x.t) xs[k] = false → ∀ j, j < k + 1 → ∀ x, xs[j]? = some x → (fun x : AIn => pOf peer a b c owner x.t) x = false := fun hp j hj x hx => by
      by_cases h : j = k
      · subst h; rw [List.getElem?_eq_getElem hlt] at hx; injection hx with hx; subst hx; exact hp
      · exact hI j (by omega) x hx
    cases hp : (fun x : AIn => pOf peer a b c owner x.t) xs[k] with
    | true =>
      have hr := idxP_hit (fun x : AIn => pOf peer a b c owner x.t) xs k hlt hI hp
      have hp2 := hp
      dsimp only at hp2
      rw [hp2] at c1
      rw [hr]
      generalize xs[k] = x at *
      repeat' (first | refine rg 2 (aq3 ?_) | refine rg 3 (aq8 ?_) | (refine rg 4 (aq25 ?_); refine sp (po_load_own_agg (ts := inR x) rfl rfl rfl rfl (tyT rfl) hrow rfl rfl) ?_; (first | refine sops_lcall_tclo (args := [_]) (caps := [_, _, _]) (c1) (fun i => i) (fun i => i) (fun _ => false) (.free rfl rfl) rfl rfl rfl rfl (by ((repeat' (first | exact .nil | refine .cons rfl rfl rfl ?_ | refine .vw rfl (by exact .t _) ?_)) <;> fail)) (.cons rfl rfl (.cons rfl rfl (.cons rfl rfl .nil))) .nil rfl rfl (fun _ h => Bool.noConfusion h) ?_ | refine sops_lcall_clo (args := [_]) (caps0 := [_, _, _]) (c1) (fun i => i) (fun i => i) (fun _ => false) (.free rfl rfl) rfl rfl rfl rfl rfl rfl (by ((repeat' (first | exact .nil | refine .cons rfl rfl rfl ?_)) <;> fail)) (.cons rfl rfl (.cons rfl rfl (.cons rfl rfl .nil))) .nil rfl rfl (fun _ h => Bool.noConfusion h) ?_); refine oN ?_) | refine rg 5 (aq8 ?_) | refine gc ?_ | refine ct ?_ | refine cf ?_ | refine sc ?_ ?_ <;> intro hc | refine retl (by exact .inr rfl) rfl (.tmp rfl rfl .nil) ?_ rfl (.cons rfl (by rfl) rfl (.cons rfl (by rfl) rfl (.cons rfl (by rfl) rfl .nil))) (.cons rfl (by rfl) .nil))
      rfl
    | false =>
      have hp2 := hp
      dsimp only at hp2
      rw [hp2] at c1
      have hst := hstep hp
      generalize xs[k] = x at *
      repeat' (first | refine for_next hlt (weak_sub (.cons rfl rfl rfl (.cons rfl rfl rfl (.cons rfl rfl rfl (.cons rfl rfl rfl .nil)))) (.cons rfl rfl rfl (.cons rfl rfl rfl (.cons rfl rfl rfl .nil))) (.cons rfl rfl .nil)) hst | refine rg 2 (aq3 ?_) | refine rg 3 (aq8 ?_) | (refine rg 4 (aq25 ?_); refine sp (po_load_own_agg (ts := inR x) rfl rfl rfl rfl (tyT rfl) hrow rfl rfl) ?_; (first | refine sops_lcall_tclo (args := [_]) (caps := [_, _, _]) (c1) (fun i => i) (fun i => i) (fun _ => false) (.free rfl rfl) rfl rfl rfl rfl (by ((repeat' (first | exact .nil | refine .cons rfl rfl rfl ?_ | refine .vw rfl (by exact .t _) ?_)) <;> fail)) (.cons rfl rfl (.cons rfl rfl (.cons rfl rfl .nil))) .nil rfl rfl (fun _ h => Bool.noConfusion h) ?_ | refine sops_lcall_clo (args := [_]) (caps0 := [_, _, _]) (c1) (fun i => i) (fun i => i) (fun _ => false) (.free rfl rfl) rfl rfl rfl rfl rfl rfl (by ((repeat' (first | exact .nil | refine .cons rfl rfl rfl ?_)) <;> fail)) (.cons rfl rfl (.cons rfl rfl (.cons rfl rfl .nil))) .nil rfl rfl (fun _ h => Bool.noConfusion h) ?_); refine oN ?_) | refine rg 6 (aq7 ?_) | refine gc ?_ | refine ct ?_ | refine cf ?_)
  · obtain rfl : k = xs.length := by omega
    have hr := idxP_miss (fun x : AIn => pOf peer a b c owner x.t) xs fun x hx => by obtain ⟨j, hj⟩ := List.getElem?_of_mem hx; exact hI j (List.getElem?_eq_some_iff.1 hj).1 x hj
    rw [hr]
    repeat' (first | refine rg 2 (aq3 ?_) | refine rg 7 (aq0 ?_) | refine gc ?_ | refine ct ?_ | refine cf ?_ | refine sc ?_ ?_ <;> intro hc | refine retl (by exact .inr rfl) rfl (.tmp rfl rfl .nil) ?_ rfl (.cons rfl (by rfl) rfl (.cons rfl (by rfl) rfl (.cons rfl (by rfl) rfl .nil))) (.cons rfl (by rfl) .nil))
    rfl
set_option maxRecDepth 100000 in
theorem of_ (l : List AIn) (peer a b c owner : Int) (hn : l.length ≤ 1000) : LCalls Try.prog 51 [.ag [.own 2001 l.length], .t (i64T peer), .t (idT a b c), .t (u64T owner)] [] [(2001, inO l)] (.t (.v (.int .i64 (idxP (fun x : AIn => pOf peer a b c owner x.t) l)))) [] [(2001, inO l)] := by
  have c1 := idxOf peer a b c owner l hn
  rw [show (l.map inR).length = l.length from List.length_map _] at c1
  refine lcalls_of Try.func51 rfl rfl Try.ntmps51 rfl ?_
  unfold idT
  repeat' (first | (refine rg 0 ?_; refine sbx ?_; refine sbx ?_; refine sbx ?_; refine sbx ?_; refine oAs ?_; refine oN ?_) | (refine rg 1 ?_; refine oFb ?_; refine oLb ?_; (first | refine sp (po_func rfl (ac (ac (ac .nil)))) ?_ | refine sp (po_func_cl rfl (.cons rfl rfl (.cons rfl rfl (.cons rfl rfl .nil)))) ?_); refine sops_lcall (c1) (fun i => bif Nat.beq i 2000 then 6 else bif Nat.beq i 2001 then 5 else bif Nat.beq i 2002 then 7 else i) (fun i => bif Nat.beq i 2000 then 2001 else i) (fun i => Nat.beq i 2000) (.free rfl rfl) rfl rfl rfl (by ((repeat' (first | exact .nil | refine .cons rfl rfl rfl ?_)) <;> fail)) (.cons rfl rfl (.cons rfl rfl (.cons rfl rfl .nil))) (.cons rfl rfl .nil) rfl rfl (kp_id 2000 rfl rfl rfl (by rfl)) ?_; refine aq0 ?_) | refine gc ?_ | refine ct ?_ | refine cf ?_ | refine sc ?_ ?_ <;> intro hc | refine retl (by exact .inr rfl) rfl (.tmp rfl rfl .nil) ?_ rfl .nil (.cons rfl (by rfl) .nil))
  rfl
set_option maxRecDepth 100000 in
theorem tk1_ (n : Int) (q : PTk) : LCalls Try.prog 53 [.t (.agg (takR q)), .bp 2000 0] [(2000, [.t (u64T n)])] [] (.t (.v (.bool (decide (q.n = n))))) [(2000, [.t (u64T n)])] [] := by
  refine lcalls_of Try.func53 rfl rfl Try.ntmps53 rfl ?_
  repeat' (first | refine rg 0 (aq10 ?_) | (refine rg 1 ?_; refine oFb ?_; refine oLb ?_; refine oLb ?_; refine oCm ?_; refine oAs ?_; refine oN ?_) | refine gc ?_ | refine ct ?_ | refine cf ?_ | refine sc ?_ ?_ <;> intro hc | refine retl (by exact .inr rfl) rfl (.tmp rfl rfl .nil) ?_ rfl (.cons rfl (by rfl) rfl .nil) .nil)
  rfl
def SidxTk (n : Int) (xs : List PTk) (k : Nat) : St := ⟨[(0, .own 2000 (xs.map takR).length), (1, .cl 53 [.bp 2000 0]), (7, .t (.v (.int .i64 ((xs.map takR).length : Int)))), (8, .t (.v (.int .i64 (k : Int))))], [(2000, [.t (u64T n)])], [(2000, ⟨46, 4, xs.map takR⟩)]⟩
set_option maxRecDepth 100000 in
set_option maxHeartbeats 2000000 in
theorem idxTk (n : Int) (xs : List PTk) (hn : xs.length ≤ 1000) : LCalls Try.prog 52 [.own 2000 (xs.map takR).length, .cl 53 [.bp 2000 0]] [(2000, [.t (u64T n)])] [(2000, ⟨46, 4, xs.map takR⟩)] (.t (.v (.int .i64 (idxP (fun q : PTk => decide (q.n = n)) xs)))) [(2000, [.t (u64T n)])] [(2000, ⟨46, 4, xs.map takR⟩)] := by
  have hm1 : (xs.map takR).length = xs.length := List.length_map _
  refine lcalls_of Try.func52 rfl rfl Try.ntmps52 rfl ?_
  repeat' (first | refine rg 0 (aq0 ?_) | refine rg 1 (aq2 ?_) | refine gc ?_ | refine ct ?_ | refine cf ?_ | refine sc ?_ ?_ <;> intro hc | refine rq rfl (rt .nil) ?_)
  refine swp_for (SidxTk n xs) (fun k => ∀ j, j < k → ∀ x, xs[j]? = some x → (fun q : PTk => decide (q.n = n)) x = false) xs.length ?_ (fun j hj => by omega) ?_
  · exact (weak_sub (.cons rfl rfl rfl (.cons rfl rfl rfl (.cons rfl rfl rfl (.cons rfl rfl rfl .nil)))) (.cons rfl rfl rfl .nil) (.cons rfl rfl .nil))
  intro k hk hI
  unfold SidxTk
  by_cases hlt : k < xs.length
  · have c1 := tk1_ n xs[k]
    have hrow : (xs.map takR)[k]? = some (takR xs[k]) := by rw [List.getElem?_map, List.getElem?_eq_getElem hlt]; rfl
    have hlt2 : k < (xs.map takR).length := by omega
    have hstep : (fun q : PTk => decide (q.n = n)) xs[k] = false → ∀ j, j < k + 1 → ∀ x, xs[j]? = some x → (fun q : PTk => decide (q.n = n)) x = false := fun hp j hj x hx => by
      by_cases h : j = k
      · subst h; rw [List.getElem?_eq_getElem hlt] at hx; injection hx with hx; subst hx; exact hp
      · exact hI j (by omega) x hx
    cases hp : (fun q : PTk => decide (q.n = n)) xs[k] with
    | true =>
      have hr := idxP_hit (fun q : PTk => decide (q.n = n)) xs k hlt hI hp
      have hp2 := hp
      dsimp only at hp2
      rw [hp2] at c1
      rw [hr]
      generalize xs[k] = x at *
      repeat' (first | refine rg 2 (aq3 ?_) | refine rg 3 (aq8 ?_) | (refine rg 4 (aq25 ?_); refine sp (po_load_own_agg (ts := takR x) rfl rfl rfl rfl (tyT rfl) hrow rfl rfl) ?_; (first | refine sops_lcall_tclo (args := [_]) (caps := [_]) (c1) (fun i => i) (fun i => i) (fun _ => false) (.free rfl rfl) rfl rfl rfl rfl (by ((repeat' (first | exact .nil | refine .cons rfl rfl rfl ?_ | refine .vw rfl (by exact .t _) ?_)) <;> fail)) (.cons rfl rfl .nil) .nil rfl rfl (fun _ h => Bool.noConfusion h) ?_ | refine sops_lcall_clo (args := [_]) (caps0 := [_]) (c1) (fun i => i) (fun i => i) (fun _ => false) (.free rfl rfl) rfl rfl rfl rfl rfl rfl (by ((repeat' (first | exact .nil | refine .cons rfl rfl rfl ?_)) <;> fail)) (.cons rfl rfl .nil) .nil rfl rfl (fun _ h => Bool.noConfusion h) ?_); refine oN ?_) | refine rg 5 (aq8 ?_) | refine gc ?_ | refine ct ?_ | refine cf ?_ | refine sc ?_ ?_ <;> intro hc | refine retl (by exact .inr rfl) rfl (.tmp rfl rfl .nil) ?_ rfl (.cons rfl (by rfl) rfl .nil) (.cons rfl (by rfl) .nil))
      rfl
    | false =>
      have hp2 := hp
      dsimp only at hp2
      rw [hp2] at c1
      have hst := hstep hp
      generalize xs[k] = x at *
      repeat' (first | refine for_next hlt (weak_sub (.cons rfl rfl rfl (.cons rfl rfl rfl (.cons rfl rfl rfl (.cons rfl rfl rfl .nil)))) (.cons rfl rfl rfl .nil) (.cons rfl rfl .nil)) hst | refine rg 2 (aq3 ?_) | refine rg 3 (aq8 ?_) | (refine rg 4 (aq25 ?_); refine sp (po_load_own_agg (ts := takR x) rfl rfl rfl rfl (tyT rfl) hrow rfl rfl) ?_; (first | refine sops_lcall_tclo (args := [_]) (caps := [_]) (c1) (fun i => i) (fun i => i) (fun _ => false) (.free rfl rfl) rfl rfl rfl rfl (by ((repeat' (first | exact .nil | refine .cons rfl rfl rfl ?_ | refine .vw rfl (by exact .t _) ?_)) <;> fail)) (.cons rfl rfl .nil) .nil rfl rfl (fun _ h => Bool.noConfusion h) ?_ | refine sops_lcall_clo (args := [_]) (caps0 := [_]) (c1) (fun i => i) (fun i => i) (fun _ => false) (.free rfl rfl) rfl rfl rfl rfl rfl rfl (by ((repeat' (first | exact .nil | refine .cons rfl rfl rfl ?_)) <;> fail)) (.cons rfl rfl .nil) .nil rfl rfl (fun _ h => Bool.noConfusion h) ?_); refine oN ?_) | refine rg 6 (aq7 ?_) | refine gc ?_ | refine ct ?_ | refine cf ?_)
  · obtain rfl : k = xs.length := by omega
    have hr := idxP_miss (fun q : PTk => decide (q.n = n)) xs fun x hx => by obtain ⟨j, hj⟩ := List.getElem?_of_mem hx; exact hI j (List.getElem?_eq_some_iff.1 hj).1 x hj
    rw [hr]
    repeat' (first | refine rg 2 (aq3 ?_) | refine rg 7 (aq0 ?_) | refine gc ?_ | refine ct ?_ | refine cf ?_ | refine sc ?_ ?_ <;> intro hc | refine retl (by exact .inr rfl) rfl (.tmp rfl rfl .nil) ?_ rfl (.cons rfl (by rfl) rfl .nil) (.cons rfl (by rfl) .nil))
    rfl
set_option maxRecDepth 100000 in
theorem dn1_ (d : PTk) (q : PTk) : LCalls Try.prog 59 [.t (.agg (takR q)), .bp 2000 0] [(2000, (takR d).map .t)] [] (.t (.v (.bool (decide (q.n = d.n))))) [(2000, (takR d).map .t)] [] := by
  refine lcalls_of Try.func59 rfl rfl Try.ntmps59 rfl ?_
  repeat' (first | refine rg 0 (aq10 ?_) | (refine rg 1 ?_; refine oFb ?_; refine oLb ?_; refine oFb ?_; refine oLb ?_; refine oCm ?_; refine oAs ?_; refine oN ?_) | refine gc ?_ | refine ct ?_ | refine cf ?_ | refine sc ?_ ?_ <;> intro hc | refine retl (by exact .inr rfl) rfl (.tmp rfl rfl .nil) ?_ rfl (.cons rfl (by rfl) rfl .nil) .nil)
  rfl
def SidxDn (d : PTk) (xs : List PTk) (k : Nat) : St := ⟨[(0, .own 2000 (xs.map takR).length), (1, .cl 59 [.bp 2000 0]), (7, .t (.v (.int .i64 ((xs.map takR).length : Int)))), (8, .t (.v (.int .i64 (k : Int))))], [(2000, (takR d).map .t)], [(2000, ⟨46, 4, xs.map takR⟩)]⟩
set_option maxRecDepth 100000 in
set_option maxHeartbeats 2000000 in
theorem idxDn (d : PTk) (xs : List PTk) (hn : xs.length ≤ 1000) : LCalls Try.prog 52 [.own 2000 (xs.map takR).length, .cl 59 [.bp 2000 0]] [(2000, (takR d).map .t)] [(2000, ⟨46, 4, xs.map takR⟩)] (.t (.v (.int .i64 (idxP (fun q : PTk => decide (q.n = d.n)) xs)))) [(2000, (takR d).map .t)] [(2000, ⟨46, 4, xs.map takR⟩)] := by
  have hm1 : (xs.map takR).length = xs.length := List.length_map _
  refine lcalls_of Try.func52 rfl rfl Try.ntmps52 rfl ?_
  repeat' (first | refine rg 0 (aq0 ?_) | refine rg 1 (aq2 ?_) | refine gc ?_ | refine ct ?_ | refine cf ?_ | refine sc ?_ ?_ <;> intro hc | refine rq rfl (rt .nil) ?_)
  refine swp_for (SidxDn d xs) (fun k => ∀ j, j < k → ∀ x, xs[j]? = some x → (fun q : PTk => decide (q.n = d.n)) x = false) xs.length ?_ (fun j hj => by omega) ?_
  · exact (weak_sub (.cons rfl rfl rfl (.cons rfl rfl rfl (.cons rfl rfl rfl (.cons rfl rfl rfl .nil)))) (.cons rfl rfl rfl .nil) (.cons rfl rfl .nil))
  intro k hk hI
  unfold SidxDn
  by_cases hlt : k < xs.length
  · have c1 := dn1_ d xs[k]
    have hrow : (xs.map takR)[k]? = some (takR xs[k]) := by rw [List.getElem?_map, List.getElem?_eq_getElem hlt]; rfl
    have hlt2 : k < (xs.map takR).length := by omega
    have hstep : (fun q : PTk => decide (q.n = d.n)) xs[k] = false → ∀ j, j < k + 1 → ∀ x, xs[j]? = some x → (fun q : PTk => decide (q.n = d.n)) x = false := fun hp j hj x hx => by
      by_cases h : j = k
      · subst h; rw [List.getElem?_eq_getElem hlt] at hx; injection hx with hx; subst hx; exact hp
      · exact hI j (by omega) x hx
    cases hp : (fun q : PTk => decide (q.n = d.n)) xs[k] with
    | true =>
      have hr := idxP_hit (fun q : PTk => decide (q.n = d.n)) xs k hlt hI hp
      have hp2 := hp
      dsimp only at hp2
      rw [hp2] at c1
      rw [hr]
      generalize xs[k] = x at *
      repeat' (first | refine rg 2 (aq3 ?_) | refine rg 3 (aq8 ?_) | (refine rg 4 (aq25 ?_); refine sp (po_load_own_agg (ts := takR x) rfl rfl rfl rfl (tyT rfl) hrow rfl rfl) ?_; (first | refine sops_lcall_tclo (args := [_]) (caps := [_]) (c1) (fun i => i) (fun i => i) (fun _ => false) (.free rfl rfl) rfl rfl rfl rfl (by ((repeat' (first | exact .nil | refine .cons rfl rfl rfl ?_ | refine .vw rfl (by exact .t _) ?_)) <;> fail)) (.cons rfl rfl .nil) .nil rfl rfl (fun _ h => Bool.noConfusion h) ?_ | refine sops_lcall_clo (args := [_]) (caps0 := [_]) (c1) (fun i => i) (fun i => i) (fun _ => false) (.free rfl rfl) rfl rfl rfl rfl rfl rfl (by ((repeat' (first | exact .nil | refine .cons rfl rfl rfl ?_)) <;> fail)) (.cons rfl rfl .nil) .nil rfl rfl (fun _ h => Bool.noConfusion h) ?_); refine oN ?_) | refine rg 5 (aq8 ?_) | refine gc ?_ | refine ct ?_ | refine cf ?_ | refine sc ?_ ?_ <;> intro hc | refine retl (by exact .inr rfl) rfl (.tmp rfl rfl .nil) ?_ rfl (.cons rfl (by rfl) rfl .nil) (.cons rfl (by rfl) .nil))
      rfl
    | false =>
      have hp2 := hp
      dsimp only at hp2
      rw [hp2] at c1
      have hst := hstep hp
      generalize xs[k] = x at *
      repeat' (first | refine for_next hlt (weak_sub (.cons rfl rfl rfl (.cons rfl rfl rfl (.cons rfl rfl rfl (.cons rfl rfl rfl .nil)))) (.cons rfl rfl rfl .nil) (.cons rfl rfl .nil)) hst | refine rg 2 (aq3 ?_) | refine rg 3 (aq8 ?_) | (refine rg 4 (aq25 ?_); refine sp (po_load_own_agg (ts := takR x) rfl rfl rfl rfl (tyT rfl) hrow rfl rfl) ?_; (first | refine sops_lcall_tclo (args := [_]) (caps := [_]) (c1) (fun i => i) (fun i => i) (fun _ => false) (.free rfl rfl) rfl rfl rfl rfl (by ((repeat' (first | exact .nil | refine .cons rfl rfl rfl ?_ | refine .vw rfl (by exact .t _) ?_)) <;> fail)) (.cons rfl rfl .nil) .nil rfl rfl (fun _ h => Bool.noConfusion h) ?_ | refine sops_lcall_clo (args := [_]) (caps0 := [_]) (c1) (fun i => i) (fun i => i) (fun _ => false) (.free rfl rfl) rfl rfl rfl rfl rfl rfl (by ((repeat' (first | exact .nil | refine .cons rfl rfl rfl ?_)) <;> fail)) (.cons rfl rfl .nil) .nil rfl rfl (fun _ h => Bool.noConfusion h) ?_); refine oN ?_) | refine rg 6 (aq7 ?_) | refine gc ?_ | refine ct ?_ | refine cf ?_)
  · obtain rfl : k = xs.length := by omega
    have hr := idxP_miss (fun q : PTk => decide (q.n = d.n)) xs fun x hx => by obtain ⟨j, hj⟩ := List.getElem?_of_mem hx; exact hI j (List.getElem?_eq_some_iff.1 hj).1 x hj
    rw [hr]
    repeat' (first | refine rg 2 (aq3 ?_) | refine rg 7 (aq0 ?_) | refine gc ?_ | refine ct ?_ | refine cf ?_ | refine sc ?_ ?_ <;> intro hc | refine retl (by exact .inr rfl) rfl (.tmp rfl rfl .nil) ?_ rfl (.cons rfl (by rfl) rfl .nil) (.cons rfl (by rfl) .nil))
    rfl
end Go.Proofs.Ytabejnjnkpdjbaa.Sim

/- Shut, Refused. -/
namespace Go.Proofs.Ytabejnjnkpdjbaa.Sim
set_option linter.unusedVariables false
set_option linter.unusedSimpArgs false
open Go.RowKit Mem
def cutT (f : PTun → Bool) : List PTun → Option (List PTun × PTun × List PTun)
  | [] => none
  | t :: l => if f t then some ([], t, l) else (cutT f l).map fun x => (t :: x.1, x.2)
theorem cutT_hit {f : PTun → Bool} : ∀ {A B : List PTun} {a : PTun}, (∀ x ∈ A, f x = false) → f a = true → cutT f (A ++ a :: B) = some (A, a, B)
  | [], B, a, _, h => by show (if f a then _ else _) = _; rw [if_pos h]
  | t :: A, B, a, hA, h => by
    show (if f t then _ else (cutT f (A ++ a :: B)).map _) = _
    rw [if_neg (by rw [hA t List.mem_cons_self]; simp), cutT_hit (fun x hx => hA x (List.mem_cons_of_mem _ hx)) h]; rfl
theorem cutT_miss {f : PTun → Bool} : ∀ {l : List PTun}, (∀ x ∈ l, f x = false) → cutT f l = none
  | [], _ => rfl
  | t :: l, h => by
    show (if f t then _ else (cutT f l).map _) = _
    rw [if_neg (by rw [h t List.mem_cons_self]; simp), cutT_miss (fun x hx => h x (List.mem_cons_of_mem _ hx))]; rfl
theorem idxP_split {α : Type} (p : α → Bool) (l : List α) : (idxP p l = -1 ∧ ∀ x ∈ l, p x = false) ∨ ∃ A a B, l = A ++ a :: B ∧ idxP p l = ((A.length : Nat) : Int) ∧ p a = true ∧ ∀ x ∈ A, p x = false := by
  cases h : l.any p with
  | false => exact .inl ⟨by unfold idxP; rw [if_neg (by simp [h])], fun x hx => by simpa using (List.any_eq_false.1 h) x hx⟩
  | true =>
    have hlt : l.findIdx p < l.length := by rw [List.findIdx_lt_length]; exact List.any_eq_true.1 h
    refine .inr ⟨l.take (l.findIdx p), l[l.findIdx p], l.drop (l.findIdx p + 1), ?_, ?_, List.findIdx_getElem, fun x hx => ?_⟩
    · rw [← List.drop_eq_getElem_cons hlt, List.take_append_drop]
    · unfold idxP; rw [if_pos h, List.length_take, Nat.min_eq_left (by omega)]
    · obtain ⟨j, hj⟩ := List.getElem?_of_mem hx
      have hjl := (List.getElem?_eq_some_iff.1 hj).1
      rw [List.length_take] at hjl
      rw [List.getElem?_take_of_lt (by omega), List.getElem?_eq_getElem (by omega)] at hj
      injection hj with hj; subst hj
      have := List.not_of_lt_findIdx (p := p) (xs := l) (i := j) (by omega)
      simpa using this
def SWr (z : Nat) (tm : List (Nat × A)) (W : PWk) : St := ⟨tm, (z, zPool) :: wB 12 1100 1001 1002 1003 W, wO 1001 1002 1003 W⟩
end Go.Proofs.Ytabejnjnkpdjbaa.Sim
