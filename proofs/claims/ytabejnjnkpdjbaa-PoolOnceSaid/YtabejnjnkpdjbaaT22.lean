/- Merged by bundles.py: SimPa, SimPb. -/
import Derived.Test.YtabejnjnkpdjbaaT21
import Derived.Test.YtabejnjnkpdjbaaT15
/- Where a tunnel is: closures, IndexFunc, at. -/
namespace Go.Proofs.Ytabejnjnkpdjbaa.Sim
set_option linter.unusedVariables false
set_option linter.unusedSimpArgs false
open Go.RowKit Mem
def idxP {α : Type} (p : α → Bool) (l : List α) : Int := if l.any p then ((l.findIdx p : Nat) : Int) else -1
theorem idxP_hit {α : Type} (p : α → Bool) (l : List α) (k : Nat) (h : k < l.length) (h1 : ∀ j, j < k → ∀ x, l[j]? = some x → p x = false) (h2 : p l[k] = true) : idxP p l = (k : Int) := by
  unfold idxP
  rw [if_pos (List.any_eq_true.2 ⟨_, List.getElem_mem h, h2⟩)]
  congr 1
  refine (List.findIdx_eq h).2 ⟨h2, fun j hj => ?_⟩
  exact h1 j hj _ (List.getElem?_eq_getElem (by omega))
theorem idxP_miss {α : Type} (p : α → Bool) (l : List α) (h : ∀ x ∈ l, p x = false) : idxP p l = -1 := by
  unfold idxP
  rw [if_neg]
  rw [Bool.not_eq_true, List.any_eq_false]
  exact fun x hx => by simp [h x hx]
def pAt (peer a b c : Int) (t : PTun) : Bool := decide (t.peer = peer) && (t.node == a && (t.inc == b && t.num == c))
set_option maxRecDepth 100000 in
theorem at1_ (peer a b c : Int) (x : ATun) : LCalls Try.prog 115 [.t (.agg (tunR x)), .bp 2000 0, .bp 2001 0] [(2000, [.t (i64T peer)]), (2001, [.t (i64T a), .t (u64T b), .t (u64T c)])] [] (.t (.v (.bool (pAt peer a b c x.t)))) [(2000, [.t (i64T peer)]), (2001, [.t (i64T a), .t (u64T b), .t (u64T c)])] [] := by
  refine lcalls_of Try.func115 rfl rfl Try.ntmps115 rfl ?_
  unfold pAt
  by_cases h : x.t.peer = peer
  · have hd : decide (x.t.peer = peer) = true := decide_eq_true h
    rw [hd, Bool.true_and]
    repeat' (first | refine rg 0 (aq9 ?_) | (refine rg 1 (aq21 ?_); (first | refine sp (po_eqid rfl rfl rfl) ?_ | refine oCm ?_); refine oMv ?_; refine oFb ?_; refine sp (po_load_bx_agg rfl rfl (tyT rfl) rfl (vc (vc (vc .nil))) rfl) ?_; refine sp (po_load_bx_agg rfl rfl (tyT rfl) rfl (vc (vc (vc .nil))) rfl) ?_ <;> refine sp (po_eqid rfl rfl rfl) ?_ <;> refine aq22 ?_) | refine gc ?_ | refine ct ?_ | refine cf ?_ | refine sc ?_ ?_ <;> intro hc | refine retl (by exact .inr rfl) rfl (.tmp rfl rfl .nil) ?_ rfl (.cons rfl (by rfl) rfl (.cons rfl (by rfl) rfl .nil)) .nil)
    all_goals first | rfl | (rw [hd] at hc; cases hc)
  · have hd : decide (x.t.peer = peer) = false := decide_eq_false h
    rw [hd, Bool.false_and]
    repeat' (first | refine rg 0 (aq9 ?_) | (refine rg 1 (aq21 ?_); (first | refine sp (po_eqid rfl rfl rfl) ?_ | refine oCm ?_); refine oMv ?_; (first | refine oFb ?_ | refine oFd ?_ | refine sp (fdo rfl) ?_ | refine oK ?_); (first | refine sp (po_load_bx_agg rfl rfl (tyT rfl) rfl (vc (vc (vc .nil))) rfl) ?_ | refine sp (po_load_agg rfl rfl (tyT rfl) rfl rfl) ?_ | refine sp (lda rfl) ?_ | refine sp (po_load_bx_ag rfl rfl (tyT rfl) rfl rfl rfl rfl) ?_ | refine oK ?_); (first | refine sp (po_load_bx_agg rfl rfl (tyT rfl) rfl (vc (vc (vc .nil))) rfl) ?_ | refine sp (po_load_agg rfl rfl (tyT rfl) rfl rfl) ?_ | refine sp (lda rfl) ?_ | refine sp (po_load_bx_ag rfl rfl (tyT rfl) rfl rfl rfl rfl) ?_ | refine oK ?_) <;> (first | refine sp (po_eqid rfl rfl rfl) ?_ | refine sp (po_boolq rfl rfl rfl (by kernel_rfl) (by exact .inl rfl)) ?_ | refine oK ?_) <;> refine aq23 ?_) | refine gc ?_ | refine ct ?_ | refine cf ?_ | refine sc ?_ ?_ <;> intro hc | refine retl (by exact .inr rfl) rfl (.tmp rfl rfl .nil) ?_ rfl (.cons rfl (by rfl) rfl (.cons rfl (by rfl) rfl .nil)) .nil)
    all_goals first | rfl | (rw [hd] at hc; cases hc)
def SidxAt (peer a b c : Int) (xs : List ATun) (k : Nat) : St := ⟨[(0, .own 2000 (xs.map tunR).length), (1, .cl 115 [.bp 2000 0, .bp 2001 0]), (7, .t (.v (.int .i64 ((xs.map tunR).length : Int)))), (8, .t (.v (.int .i64 (k : Int))))], [(2000, [.t (i64T peer)]), (2001, [.t (i64T a), .t (u64T b), .t (u64T c)])], [(2000, ⟨118, 14, xs.map tunR⟩)]⟩
set_option maxRecDepth 100000 in
set_option maxHeartbeats 2000000 in
theorem idxAt (peer a b c : Int) (xs : List ATun) (hn : xs.length ≤ 1000) : LCalls Try.prog 67 [.own 2000 (xs.map tunR).length, .cl 115 [.bp 2000 0, .bp 2001 0]] [(2000, [.t (i64T peer)]), (2001, [.t (i64T a), .t (u64T b), .t (u64T c)])] [(2000, ⟨118, 14, xs.map tunR⟩)] (.t (.v (.int .i64 (idxP (fun x : ATun => pAt peer a b c x.t) xs)))) [(2000, [.t (i64T peer)]), (2001, [.t (i64T a), .t (u64T b), .t (u64T c)])] [(2000, ⟨118, 14, xs.map tunR⟩)] := by
  have hm1 : (xs.map tunR).length = xs.length := List.length_map _
  refine lcalls_of Try.func67 rfl rfl Try.ntmps67 rfl ?_
  repeat' (first | refine rg 0 (aq0 ?_) | refine rg 1 (aq2 ?_) | refine gc ?_ | refine ct ?_ | refine cf ?_ | refine sc ?_ ?_ <;> intro hc | refine rq rfl (rt .nil) ?_)
  refine swp_for (SidxAt peer a b c xs) (fun k => ∀ j, j < k → ∀ x, xs[j]? = some x → (fun x : ATun => pAt peer a b c x.t) x = false) xs.length ?_ (fun j hj => by omega) ?_
  · exact (weak_sub (.cons rfl rfl rfl (.cons rfl rfl rfl (.cons rfl rfl rfl (.cons rfl rfl rfl .nil)))) (.cons rfl rfl rfl (.cons rfl rfl rfl .nil)) (.cons rfl rfl .nil))
  intro k hk hI
  unfold SidxAt
  by_cases hlt : k < xs.length
  · have c1 := at1_ peer a b c xs[k]
    have hrow : (xs.map tunR)[k]? = some (tunR xs[k]) := by rw [List.getElem?_map, List.getElem?_eq_getElem hlt]; rfl
    have hlt2 : k < (xs.map tunR).length := by omega
    have hstep : (fun x : ATun => pAt peer a b c x.t) xs[k] = false → ∀ j, j < k + 1 → ∀ x, xs[j]? = some x → (fun x : ATun => pAt peer a b c x.t) x = false := fun hp j hj x hx => by
      by_cases h : j = k
      · subst h; rw [List.getElem?_eq_getElem hlt] at hx; injection hx with hx; subst hx; exact hp
      · exact hI j (by omega) x hx
    cases hp : (fun x : ATun => pAt peer a b c x.t) xs[k] with
    | true =>
      have hr := idxP_hit (fun x : ATun => pAt peer a b c x.t) xs k hlt hI hp
      have hp2 := hp
      dsimp only at hp2
      rw [hp2] at c1
      rw [hr]
      generalize xs[k] = x at *
      repeat' (first | refine rg 2 (aq3 ?_) | refine rg 3 (aq7 ?_) | (refine rg 4 (aq24 ?_); refine sp (po_load_own_agg (ts := tunR x) rfl rfl rfl rfl (tyT rfl) hrow rfl rfl) ?_; (first | refine sops_lcall_tclo (args := [_]) (caps := [_, _]) (c1) (fun i => i) (fun i => i) (fun _ => false) (.free rfl rfl) rfl rfl rfl rfl (by ((repeat' (first | exact .nil | refine .cons rfl rfl rfl ?_ | refine .vw rfl (by exact .t _) ?_)) <;> fail)) (.cons rfl rfl (.cons rfl rfl .nil)) .nil rfl rfl (fun _ h => Bool.noConfusion h) ?_ | refine sops_lcall_clo (args := [_]) (caps0 := [_, _]) (c1) (fun i => i) (fun i => i) (fun _ => false) (.free rfl rfl) rfl rfl rfl rfl rfl rfl (by ((repeat' (first | exact .nil | refine .cons rfl rfl rfl ?_)) <;> fail)) (.cons rfl rfl (.cons rfl rfl .nil)) .nil rfl rfl (fun _ h => Bool.noConfusion h) ?_); refine oN ?_) | refine rg 5 (aq7 ?_) | refine gc ?_ | refine ct ?_ | refine cf ?_ | refine sc ?_ ?_ <;> intro hc | refine retl (by exact .inr rfl) rfl (.tmp rfl rfl .nil) ?_ rfl (.cons rfl (by rfl) rfl (.cons rfl (by rfl) rfl .nil)) (.cons rfl (by rfl) .nil))
      rfl
    | false =>
      have hp2 := hp
      dsimp only at hp2
      rw [hp2] at c1
      have hst := hstep hp
      generalize xs[k] = x at *
      repeat' (first | refine for_next hlt (weak_sub (.cons rfl rfl rfl (.cons rfl rfl rfl (.cons rfl rfl rfl (.cons rfl rfl rfl .nil)))) (.cons rfl rfl rfl (.cons rfl rfl rfl .nil)) (.cons rfl rfl .nil)) hst | refine rg 2 (aq3 ?_) | refine rg 3 (aq7 ?_) | (refine rg 4 (aq24 ?_); refine sp (po_load_own_agg (ts := tunR x) rfl rfl rfl rfl (tyT rfl) hrow rfl rfl) ?_; (first | refine sops_lcall_tclo (args := [_]) (caps := [_, _]) (c1) (fun i => i) (fun i => i) (fun _ => false) (.free rfl rfl) rfl rfl rfl rfl (by ((repeat' (first | exact .nil | refine .cons rfl rfl rfl ?_ | refine .vw rfl (by exact .t _) ?_)) <;> fail)) (.cons rfl rfl (.cons rfl rfl .nil)) .nil rfl rfl (fun _ h => Bool.noConfusion h) ?_ | refine sops_lcall_clo (args := [_]) (caps0 := [_, _]) (c1) (fun i => i) (fun i => i) (fun _ => false) (.free rfl rfl) rfl rfl rfl rfl rfl rfl (by ((repeat' (first | exact .nil | refine .cons rfl rfl rfl ?_)) <;> fail)) (.cons rfl rfl (.cons rfl rfl .nil)) .nil rfl rfl (fun _ h => Bool.noConfusion h) ?_); refine oN ?_) | refine rg 6 (aq6 ?_) | refine gc ?_ | refine ct ?_ | refine cf ?_)
  · obtain rfl : k = xs.length := by omega
    have hr := idxP_miss (fun x : ATun => pAt peer a b c x.t) xs fun x hx => by obtain ⟨j, hj⟩ := List.getElem?_of_mem hx; exact hI j (List.getElem?_eq_some_iff.1 hj).1 x hj
    rw [hr]
    repeat' (first | refine rg 2 (aq3 ?_) | refine rg 7 (aq0 ?_) | refine gc ?_ | refine ct ?_ | refine cf ?_ | refine sc ?_ ?_ <;> intro hc | refine retl (by exact .inr rfl) rfl (.tmp rfl rfl .nil) ?_ rfl (.cons rfl (by rfl) rfl (.cons rfl (by rfl) rfl .nil)) (.cons rfl (by rfl) .nil))
    rfl
abbrev atW (W : PWk) (peer a b c : Int) : Int := idxP (fun x : ATun => pAt peer a b c x.t) W.tuns
set_option maxRecDepth 100000 in
theorem at_ (W : PWk) (peer a b c : Int) (hn : W.tuns.length ≤ 1000) : LCalls Try.prog 73 [.bp 2000 0, .t (i64T peer), .t (idT a b c)] (wX 2000 2001 2002 2003 W) (wO 2001 2002 2003 W) (.t (.v (.int .i64 (atW W peer a b c)))) (wX 2000 2001 2002 2003 W) (wO 2001 2002 2003 W) := by
  have c1 := idxAt peer a b c W.tuns hn
  rw [show (W.tuns.map tunR).length = W.tuns.length from List.length_map _] at c1
  refine lcalls_of Try.func73 rfl rfl Try.ntmps73 rfl ?_
  unfold wX wO wC idT
  repeat' (first | refine rg 0 (aq25 ?_) | (refine rg 1 ?_; refine oMv ?_; refine sp (po_nilcheck rfl rfl) ?_; refine oFb ?_; refine oFb ?_; refine oLb ?_; (first | refine sp (po_func rfl (ac (ac .nil))) ?_ | refine sp (po_func_cl rfl (.cons rfl rfl (.cons rfl rfl .nil))) ?_); refine sops_lcall (c1) (fun i => bif Nat.beq i 2000 then 4 else bif Nat.beq i 2001 then 5 else i) (fun i => bif Nat.beq i 2000 then 2001 else i) (fun i => Nat.beq i 2000) (.free rfl rfl) rfl rfl rfl (by ((repeat' (first | exact .nil | refine .cons rfl rfl rfl ?_)) <;> fail)) (.cons rfl rfl (.cons rfl rfl .nil)) (.cons rfl rfl .nil) rfl rfl (kp_id 2000 rfl rfl rfl (by rfl)) ?_; refine aq0 ?_) | refine gc ?_ | refine ct ?_ | refine cf ?_ | refine sc ?_ ?_ <;> intro hc | refine retl (by exact .inr rfl) rfl (.tmp rfl rfl .nil) ?_ rfl (.cons rfl (by rfl) rfl .nil) (.cons rfl (by rfl) (.cons rfl (by rfl) (.cons rfl (by rfl) .nil))))
  rfl
end Go.Proofs.Ytabejnjnkpdjbaa.Sim

/- Shut, Refused. -/
namespace Go.Proofs.Ytabejnjnkpdjbaa.Sim
set_option linter.unusedVariables false
set_option linter.unusedSimpArgs false
open Go.RowKit Mem
def cutT (f : PTun → Bool) : List PTun → Option (List PTun × PTun × List PTun)
  | [] => none
  | t :: l => if f t then some ([], t, l) else (cutT f l).map fun x => (t :: x.1, x.2)
theorem cutT_hit {f : PTun → Bool} : ∀ {A B : List PTun} {a : PTun}, (∀ x ∈ A, f x = false) → f a = true → cutT f (A ++ a :: B) = some (A, a, B)
  | [], B, a, _, h => by show (if f a then _ else _) = _; rw [if_pos h]
  | t :: A, B, a, hA, h => by
    show (if f t then _ else (cutT f (A ++ a :: B)).map _) = _
    rw [if_neg (by rw [hA t List.mem_cons_self]; simp), cutT_hit (fun x hx => hA x (List.mem_cons_of_mem _ hx)) h]; rfl
theorem cutT_miss {f : PTun → Bool} : ∀ {l : List PTun}, (∀ x ∈ l, f x = false) → cutT f l = none
  | [], _ => rfl
  | t :: l, h => by
    show (if f t then _ else (cutT f l).map _) = _
    rw [if_neg (by rw [h t List.mem_cons_self]; simp), cutT_miss (fun x hx => h x (List.mem_cons_of_mem _ hx))]; rfl
theorem idxP_split {α : Type} (p : α → Bool) (l : List α) : (idxP p l = -1 ∧ ∀ x ∈ l, p x = false) ∨ ∃ A a B, l = A ++ a :: B ∧ idxP p l = ((A.length : Nat) : Int) ∧ p a = true ∧ ∀ x ∈ A, p x = false := by
  cases h : l.any p with
  | false => exact .inl ⟨by unfold idxP; rw [if_neg (by simp [h])], fun x hx => by simpa using (List.any_eq_false.1 h) x hx⟩
  | true =>
    have hlt : l.findIdx p < l.length := by rw [List.findIdx_lt_length]; exact List.any_eq_true.1 h
    refine .inr ⟨l.take (l.findIdx p), l[l.findIdx p], l.drop (l.findIdx p + 1), ?_, ?_, List.findIdx_getElem, fun x hx => ?_⟩
    · rw [← List.drop_eq_getElem_cons hlt, List.take_append_drop]
    · unfold idxP; rw [if_pos h, List.length_take, Nat.min_eq_left (by omega)]
    · obtain ⟨j, hj⟩ := List.getElem?_of_mem hx
      have hjl := (List.getElem?_eq_some_iff.1 hj).1
      rw [List.length_take] at hjl
      rw [List.getElem?_take_of_lt (by omega), List.getElem?_eq_getElem (by omega)] at hj
      injection hj with hj; subst hj
      have := List.not_of_lt_findIdx (p := p) (xs := l) (i := j) (by omega)
      simpa using this
def shutP (p : PPool) (f : PTun → Bool) : PPool := match cutT f p.tuns with
  | none => p
  | some (A, _, B) => { p with tuns := A ++ B }
def shutF (p : PPool) (f : PTun → Bool) : List PFail := match cutT f p.tuns with
  | none => []
  | some (_, a, _) => failsL a.asks 5
def SWr (z : Nat) (tm : List (Nat × A)) (W : PWk) : St := ⟨tm, (z, zPool) :: wB 12 1100 1001 1002 1003 W, wO 1001 1002 1003 W⟩
set_option maxRecDepth 100000 in
set_option maxHeartbeats 4000000 in
theorem shut_ (p : PPool) (peer a b c : Int) (hn : p.tuns.length ≤ 500) (hq : ∀ t ∈ p.tuns, FewTun t) : LCalls Try.prog 22 [.t (.agg (poolT p)), .t (i64T peer), .t (idT a b c)] [] [] (.tu [.t (.agg (poolT (shutP p (pAt peer a b c)))), .t (.sl 2 ((shutF p (pAt peer a b c)).map failR))]) [] [] := by
  have c1 := with_ p 0 (by omega) hq
  refine lcalls_of Try.func22 rfl rfl Try.ntmps22 rfl ?_
  unfold poolT idT
  repeat' (first | (refine rg 0 ?_; refine sbx ?_; refine sbx ?_; refine sal str58 ?_; refine aq0 ?_) | refine gc ?_ | refine ct ?_ | refine cf ?_ | refine sc ?_ ?_ <;> intro hc | refine rq rfl (.cell rfl rfl (tyT rfl) (vc (vc (vc (vc .nil)))) rfl (rt .nil)) ?_)
  refine rg 1 ?_
  refine sp (po_load_bx_agg rfl rfl (tyT rfl) rfl (vc (vc (vc (vc .nil)))) rfl) ?_
  refine sops_ecall c1 (fun i => i) (fun i => i) (.free rfl rfl) rfl rfl rfl (.cons rfl rfl rfl (.cons rfl rfl rfl .nil)) .nil .nil rfl (fun _ => rfl) fun A => ?_
  obtain ⟨l, hl⟩ := A
  have hll : l.length ≤ 500 := by have := congrArg List.length hl; rw [List.length_map] at this; omega
  dsimp only
  refine oAs ?_
  refine oN ?_
  have c2 := at_ (begW p 0 l) peer a b c (by show l.length ≤ 1000; omega)
  unfold atW idT at c2
  unfold wX wO wC begW at c2
  unfold wB wO wC begW
  dsimp only at c2 ⊢
  have hfew : ∀ x ∈ l, FewTun x.t := fun x hx => hq _ (by rw [← hl]; exact List.mem_map_of_mem hx)
  rcases idxP_split (fun x : ATun => pAt peer a b c x.t) l with ⟨h1, h2⟩ | ⟨A, x, B, rfl, h1, h2, h3⟩
  · rw [h1] at c2
    have hm : cutT (pAt peer a b c) p.tuns = none := cutT_miss fun t ht => by
      rw [← hl] at ht
      obtain ⟨x, hx, rfl⟩ := List.mem_map.1 ht
      exact h2 x hx
    unfold shutP shutF
    rw [hm]
    repeat' (first | (refine rg 2 (aq26 ?_); refine sops_lcall (c2) (fun i => bif Nat.beq i 2000 then 12 else bif Nat.beq i 3000 then 1100 else i) (fun i => bif Nat.beq i 2001 then 1001 else bif Nat.beq i 2002 then 1002 else bif Nat.beq i 2003 then 1003 else i) (fun _ => false) (.free rfl rfl) rfl rfl rfl (by ((repeat' (first | exact .nil | refine .cons rfl rfl rfl ?_)) <;> fail)) (.cons rfl rfl .nil) (.cons rfl rfl (.cons rfl rfl (.cons rfl rfl .nil))) rfl rfl (fun _ h => Bool.noConfusion h) ?_; refine aq0 ?_) | refine rg 3 (aq27 ?_) | refine gc ?_ | refine ct ?_ | refine cf ?_ | refine sc ?_ ?_ <;> intro hc | refine rq rfl (.cell rfl rfl (tyT rfl) (vc (vc (vc (vc .nil)))) rfl (rt .nil)) ?_)
    have hK : l.map (fun a => tunT a.t) = p.tuns.map tunT := by rw [← hl, List.map_map]; rfl
    have hKl : l.length = (p.tuns.map tunT).length := by rw [← hK, List.length_map]
    refine swp_weak (weak_famshow 1100 1001 (l.map fun a : ATun => tunT a.t) (fs := famT l) (o := tunO l) rfl rfl (by show (List.map _ _).length = (List.map _ _).length; rw [List.length_map, List.length_map]) (by intro r hr; obtain ⟨a, _, rfl⟩ := List.mem_map.1 hr; rfl) (upl_tun l)) ?_
    rw [hK]
    refine swp_weak (weak_show 1001 101 rfl rfl rfl rfl) ?_
    refine swp_weak (weak_show 1002 102 rfl rfl rfl rfl) ?_
    refine swp_weak (weak_show 1003 103 rfl rfl rfl rfl) ?_
    repeat' (first | ((refine swp_any (id := 5) [[], [], [], [], [], [], [], [], [6], []] [[], [], [], [], [6], [6], [6], [6], [], []] mixed (by kernel_rfl) ?_) <;> refine yp (fun _ _ => po_move rfl rfl) ?_ <;> refine yp (fun _ _ => po_nilcheck rfl rfl) ?_ <;> refine yp (fun _ _ => po_field_bx rfl rfl (tyF rfl)) ?_ <;> (refine yp (fun _ _ => po_load_bx_agg rfl rfl (tyT rfl) rfl (vc (vc (vc (vc .nil)))) rfl) ?_) <;> refine yp (fun _ _ => po_move rfl rfl) ?_ <;> refine yp (fun _ _ => po_nilcheck rfl rfl) ?_ <;> refine yp (fun _ _ => po_field_bx rfl rfl (tyF rfl)) ?_ <;> refine yp (fun _ _ => po_load_bx rfl rfl (tyT rfl) rfl rfl) ?_ <;> refine sany_eff [(6, _)] [] (.free rfl rfl) rfl rfl (fun _ _ _ _ => e_store rfl rfl rfl rfl rfl rfl (tyT rfl) rfl rfl) ?_ <;> refine yp (fun _ _ => po_assign rfl rfl) ?_ <;> refine sany_nil ?_) | refine gc ?_ | refine ct ?_ | refine cf ?_ | refine sc ?_ ?_ <;> intro hc | refine rq rfl (.cell rfl rfl (tyT rfl) (vc (vc (vc (vc .nil)))) rfl (rt .nil)) ?_)
    exact retl (.inr rfl) rfl (.cellT rfl rfl (tyT rfl) (vc (vc (vc (vc .nil)))) rfl (.tmpT rfl (.own rfl rfl) .nil)) rfl rfl .nil .nil
  · rw [h1] at c2
    have hm : cutT (pAt peer a b c) p.tuns = some (A.map ATun.t, x.t, B.map ATun.t) := by
      rw [← hl, List.map_append, List.map_cons]
      exact cutT_hit (fun t ht => by obtain ⟨y, hy, rfl⟩ := List.mem_map.1 ht; exact h3 y hy) h2
    unfold shutP shutF
    rw [hm]
    have c3 := out_ (begW p 0 (A ++ x :: B)) A B x 5 rfl (hfew x (by simp)).asks (Nat.zero_le _) (by show (A ++ x :: B).length ≤ 1000; omega)
    unfold wB wO wC outW failW begW at c3
    dsimp only at c3
    have hge : (0 : Int) ≤ ((A.length : Nat) : Int) := by omega
    repeat' (first | (refine rg 2 (aq26 ?_); refine sops_lcall (c2) (fun i => bif Nat.beq i 2000 then 12 else bif Nat.beq i 3000 then 1100 else i) (fun i => bif Nat.beq i 2001 then 1001 else bif Nat.beq i 2002 then 1002 else bif Nat.beq i 2003 then 1003 else i) (fun _ => false) (.free rfl rfl) rfl rfl rfl (by ((repeat' (first | exact .nil | refine .cons rfl rfl rfl ?_)) <;> fail)) (.cons rfl rfl .nil) (.cons rfl rfl (.cons rfl rfl (.cons rfl rfl .nil))) rfl rfl (fun _ h => Bool.noConfusion h) ?_; refine aq0 ?_) | refine rg 3 (aq27 ?_) | (refine rg 4 (aq15 ?_); refine sops_lcall (c3) (fun i => bif Nat.beq i 2000 then 12 else bif Nat.beq i 3000 then 1100 else i) (fun i => bif Nat.beq i 2001 then 1001 else bif Nat.beq i 2002 then 1002 else bif Nat.beq i 2003 then 1003 else bif Nat.beq i 1001 then 1011 else bif Nat.beq i 1002 then 1012 else bif Nat.beq i 1003 then 1013 else i) (fun _ => false) (.free rfl rfl) rfl rfl rfl (by ((repeat' (first | exact .nil | refine .cons rfl rfl rfl ?_)) <;> fail)) (.cons rfl rfl (.cons rfl rfl .nil)) (.cons rfl rfl (.cons rfl rfl (.cons rfl rfl .nil))) rfl rfl (fun _ h => Bool.noConfusion h) ?_; refine oN ?_) | refine gc ?_ | refine ct ?_ | refine cf ?_ | refine sc ?_ ?_ <;> intro hc | refine rq rfl (.cell rfl rfl (tyT rfl) (vc (vc (vc (vc .nil)))) rfl (rt .nil)) ?_)
    refine swp_weak (weak_ren 1011 1001 rfl rfl rfl rfl rfl rfl rfl) ?_
    refine swp_weak (weak_ren 1013 1003 rfl rfl rfl rfl rfl rfl rfl) ?_
    refine swp_weak (st' := SWr 6 [(6, .bp 6 0), (7, .t (.v (.slice none 0 0))), (8, .bp 12 0)] ⟨p.node, p.inc, p.next, 0, A ++ B, [], failsL x.t.asks 5⟩) (weak_sub (.cons rfl rfl rfl (.cons rfl rfl rfl (.cons rfl rfl rfl .nil))) (.cons rfl rfl rfl (.cons rfl rfl rfl (.cons rfl rfl rfl .nil))) (.cons rfl rfl (.cons rfl rfl (.cons rfl rfl .nil)))) ?_
    unfold SWr wB wO wC
    dsimp only
    have hK : (A ++ B).map (fun a => tunT a.t) = (A.map ATun.t ++ B.map ATun.t).map tunT := by rw [List.map_append, List.map_append, List.map_map, List.map_map]; rfl
    have hKl : (A ++ B).length = ((A.map ATun.t ++ B.map ATun.t).map tunT).length := by rw [← hK, List.length_map]
    have hFl : (failsL x.t.asks 5).length = ((failsL x.t.asks 5).map failR).length := (List.length_map _).symm
    refine swp_weak (weak_famshow 1100 1001 ((A ++ B).map fun a : ATun => tunT a.t) (fs := famT (A ++ B)) (o := tunO (A ++ B)) rfl rfl (by show (List.map _ _).length = (List.map _ _).length; rw [List.length_map, List.length_map]) (by intro r hr; obtain ⟨a, _, rfl⟩ := List.mem_map.1 hr; rfl) (upl_tun (A ++ B))) ?_
    rw [hK]
    refine swp_weak (weak_show 1001 101 rfl rfl rfl rfl) ?_
    refine swp_weak (weak_show 1002 102 rfl rfl rfl rfl) ?_
    refine swp_weak (weak_show 1003 103 rfl rfl rfl rfl) ?_
    repeat' (first | ((refine swp_any (id := 5) [[], [], [], [], [], [], [], [], [6], []] [[], [], [], [], [6], [6], [6], [6], [], []] mixed (by kernel_rfl) ?_) <;> refine yp (fun _ _ => po_move rfl rfl) ?_ <;> refine yp (fun _ _ => po_nilcheck rfl rfl) ?_ <;> refine yp (fun _ _ => po_field_bx rfl rfl (tyF rfl)) ?_ <;> (refine yp (fun _ _ => po_load_bx_agg rfl rfl (tyT rfl) rfl (vc (vc (vc (vc .nil)))) rfl) ?_) <;> refine yp (fun _ _ => po_move rfl rfl) ?_ <;> refine yp (fun _ _ => po_nilcheck rfl rfl) ?_ <;> refine yp (fun _ _ => po_field_bx rfl rfl (tyF rfl)) ?_ <;> refine yp (fun _ _ => po_load_bx rfl rfl (tyT rfl) rfl rfl) ?_ <;> refine sany_eff [(6, _)] [] (.free rfl rfl) rfl rfl (fun _ _ _ _ => e_store rfl rfl rfl rfl rfl rfl (tyT rfl) rfl rfl) ?_ <;> refine yp (fun _ _ => po_assign rfl rfl) ?_ <;> refine sany_nil ?_) | refine gc ?_ | refine ct ?_ | refine cf ?_ | refine sc ?_ ?_ <;> intro hc | refine rq rfl (.cell rfl rfl (tyT rfl) (vc (vc (vc (vc .nil)))) rfl (rt .nil)) ?_)
    exact retl (.inr rfl) rfl (.cellT rfl rfl (tyT rfl) (vc (vc (vc (vc .nil)))) rfl (.tmpT rfl (.own rfl hFl) .nil)) rfl rfl .nil .nil
def refP (p : PPool) (f : PTun → Bool) : PPool := match cutT f p.tuns with
  | none => p
  | some (A, a, B) => if a.state = 1 then { p with tuns := A ++ B } else p
def refF (p : PPool) (f : PTun → Bool) (why : Int) : List PFail := match cutT f p.tuns with
  | none => []
  | some (_, a, _) => if a.state = 1 then failsL a.asks why else []
set_option maxRecDepth 100000 in
set_option maxHeartbeats 4000000 in
theorem refused_ (p : PPool) (peer a b c why : Int) (hn : p.tuns.length ≤ 500) (hq : ∀ t ∈ p.tuns, FewTun t) : LCalls Try.prog 20 [.t (.agg (poolT p)), .t (i64T peer), .t (idT a b c), .t (i64T why)] [] [] (.tu [.t (.agg (poolT (refP p (pAt peer a b c)))), .t (.sl 2 ((refF p (pAt peer a b c) why).map failR))]) [] [] := by
  have c1 := with_ p 0 (by omega) hq
  refine lcalls_of Try.func20 rfl rfl Try.ntmps20 rfl ?_
  unfold poolT idT
  repeat' (first | (refine rg 0 ?_; refine sbx ?_; refine sbx ?_; refine sal str58 ?_; refine aq0 ?_) | refine gc ?_ | refine ct ?_ | refine cf ?_ | refine sc ?_ ?_ <;> intro hc | refine rq rfl (.cell rfl rfl (tyT rfl) (vc (vc (vc (vc .nil)))) rfl (rt .nil)) ?_)
  refine rg 1 ?_
  refine sp (po_load_bx_agg rfl rfl (tyT rfl) rfl (vc (vc (vc (vc .nil)))) rfl) ?_
  refine sops_ecall c1 (fun i => i) (fun i => i) (.free rfl rfl) rfl rfl rfl (.cons rfl rfl rfl (.cons rfl rfl rfl .nil)) .nil .nil rfl (fun _ => rfl) fun A => ?_
  obtain ⟨l, hl⟩ := A
  have hll : l.length ≤ 500 := by have := congrArg List.length hl; rw [List.length_map] at this; omega
  dsimp only
  refine oAs ?_
  refine oN ?_
  have c2 := at_ (begW p 0 l) peer a b c (by show l.length ≤ 1000; omega)
  unfold atW idT at c2
  unfold wX wO wC begW at c2
  unfold wB wO wC begW
  dsimp only at c2 ⊢
  have hfew : ∀ x ∈ l, FewTun x.t := fun x hx => hq _ (by rw [← hl]; exact List.mem_map_of_mem hx)
  have hK0 : l.map (fun a => tunT a.t) = p.tuns.map tunT := by rw [← hl, List.map_map]; rfl
  have hKl0 : l.length = (p.tuns.map tunT).length := by rw [← hK0, List.length_map]
  rcases idxP_split (fun x : ATun => pAt peer a b c x.t) l with ⟨h1, h2⟩ | ⟨A, x, B, rfl, h1, h2, h3⟩
  · rw [h1] at c2
    have hm : cutT (pAt peer a b c) p.tuns = none := cutT_miss fun t ht => by
      rw [← hl] at ht
      obtain ⟨x, hx, rfl⟩ := List.mem_map.1 ht
      exact h2 x hx
    unfold refP refF
    rw [hm]
    repeat' (first | (refine rg 2 (aq26 ?_); refine sops_lcall (c2) (fun i => bif Nat.beq i 2000 then 12 else bif Nat.beq i 3000 then 1100 else i) (fun i => bif Nat.beq i 2001 then 1001 else bif Nat.beq i 2002 then 1002 else bif Nat.beq i 2003 then 1003 else i) (fun _ => false) (.free rfl rfl) rfl rfl rfl (by ((repeat' (first | exact .nil | refine .cons rfl rfl rfl ?_)) <;> fail)) (.cons rfl rfl .nil) (.cons rfl rfl (.cons rfl rfl (.cons rfl rfl .nil))) rfl rfl (fun _ h => Bool.noConfusion h) ?_; refine aq0 ?_) | (refine rg 3 (aq28 ?_) <;> (first | refine sp (po_nilcheck rfl rfl) ?_ | refine sp (po_nilcheck_oe rfl rfl rfl (by rfl)) ?_ | refine oK ?_) <;> refine aq29 ?_) | refine gc ?_ | refine ct ?_ | refine cf ?_ | refine sc ?_ ?_ <;> intro hc | refine rq rfl (.cell rfl rfl (tyT rfl) (vc (vc (vc (vc .nil)))) rfl (rt .nil)) ?_)
    have hK := hK0
    have hKl := hKl0
    refine swp_weak (weak_famshow 1100 1001 (l.map fun a : ATun => tunT a.t) (fs := famT l) (o := tunO l) rfl rfl (by show (List.map _ _).length = (List.map _ _).length; rw [List.length_map, List.length_map]) (by intro r hr; obtain ⟨a, _, rfl⟩ := List.mem_map.1 hr; rfl) (upl_tun l)) ?_
    rw [hK]
    refine swp_weak (weak_show 1001 101 rfl rfl rfl rfl) ?_
    refine swp_weak (weak_show 1002 102 rfl rfl rfl rfl) ?_
    refine swp_weak (weak_show 1003 103 rfl rfl rfl rfl) ?_
    repeat' (first | ((refine swp_any (id := 5) [[], [], [], [], [], [], [], [], [8], []] [[], [], [], [], [8], [8], [8], [8], [], []] mixed (by kernel_rfl) ?_) <;> refine yp (fun _ _ => po_move rfl rfl) ?_ <;> refine yp (fun _ _ => po_nilcheck rfl rfl) ?_ <;> refine yp (fun _ _ => po_field_bx rfl rfl (tyF rfl)) ?_ <;> (refine yp (fun _ _ => po_load_bx_agg rfl rfl (tyT rfl) rfl (vc (vc (vc (vc .nil)))) rfl) ?_) <;> refine yp (fun _ _ => po_move rfl rfl) ?_ <;> refine yp (fun _ _ => po_nilcheck rfl rfl) ?_ <;> refine yp (fun _ _ => po_field_bx rfl rfl (tyF rfl)) ?_ <;> refine yp (fun _ _ => po_load_bx rfl rfl (tyT rfl) rfl rfl) ?_ <;> refine sany_eff [(8, _)] [] (.free rfl rfl) rfl rfl (fun _ _ _ _ => e_store rfl rfl rfl rfl rfl rfl (tyT rfl) rfl rfl) ?_ <;> refine yp (fun _ _ => po_assign rfl rfl) ?_ <;> refine sany_nil ?_) | refine gc ?_ | refine ct ?_ | refine cf ?_ | refine sc ?_ ?_ <;> intro hc | refine rq rfl (.cell rfl rfl (tyT rfl) (vc (vc (vc (vc .nil)))) rfl (rt .nil)) ?_)
    exact retl (.inr rfl) rfl (.cellT rfl rfl (tyT rfl) (vc (vc (vc (vc .nil)))) rfl (.tmpT rfl (.own rfl rfl) .nil)) rfl rfl .nil .nil
  · rw [h1] at c2
    have hm : cutT (pAt peer a b c) p.tuns = some (A.map ATun.t, x.t, B.map ATun.t) := by
      rw [← hl, List.map_append, List.map_cons]
      exact cutT_hit (fun t ht => by obtain ⟨y, hy, rfl⟩ := List.mem_map.1 ht; exact h3 y hy) h2
    unfold refP refF
    rw [hm]
    dsimp only
    have hge : (0 : Int) ≤ ((A.length : Nat) : Int) := by omega
    have hat : ((A ++ x :: B).map tunR)[A.length]? = some (tunR x) := tunO_at
    have hlt : A.length < (A ++ x :: B).length := by rw [List.length_append, List.length_cons]; omega
    have hml : (A ++ x :: B).length = ((A ++ x :: B).map tunR).length := (List.length_map _).symm
    repeat' (first | (refine rg 2 (aq26 ?_); refine sops_lcall (c2) (fun i => bif Nat.beq i 2000 then 12 else bif Nat.beq i 3000 then 1100 else i) (fun i => bif Nat.beq i 2001 then 1001 else bif Nat.beq i 2002 then 1002 else bif Nat.beq i 2003 then 1003 else i) (fun _ => false) (.free rfl rfl) rfl rfl rfl (by ((repeat' (first | exact .nil | refine .cons rfl rfl rfl ?_)) <;> fail)) (.cons rfl rfl .nil) (.cons rfl rfl (.cons rfl rfl (.cons rfl rfl .nil))) rfl rfl (fun _ h => Bool.noConfusion h) ?_; refine aq0 ?_) | refine gc ?_ | refine ct ?_ | refine cf ?_ | refine sc ?_ ?_ <;> intro hc | refine rq rfl (.cell rfl rfl (tyT rfl) (vc (vc (vc (vc .nil)))) rfl (rt .nil)) ?_)
    refine swp_weak (st' := SWr 8 [(3, .t (i64T why)), (8, .bp 8 0), (9, .t (.v (.slice none 0 0))), (10, .bp 12 0), (11, .t (.v (.int .i64 ((A.length : Nat) : Int))))] ⟨p.node, p.inc, p.next, 0, A ++ x :: B, [], []⟩) (weak_sub (.cons rfl rfl rfl (.cons rfl rfl rfl (.cons rfl rfl rfl (.cons rfl rfl rfl (.cons rfl rfl rfl .nil))))) (.cons rfl rfl rfl (.cons rfl rfl rfl (.cons rfl rfl rfl .nil))) (.cons rfl rfl (.cons rfl rfl (.cons rfl rfl .nil)))) ?_
    unfold SWr wB wO wC
    dsimp only
    by_cases hs : x.t.state = 1
    · rw [if_pos hs, if_pos hs]
      have c3 := out_ (begW p 0 (A ++ x :: B)) A B x why rfl (hfew x (by simp)).asks (Nat.zero_le _) (by show (A ++ x :: B).length ≤ 1000; omega)
      unfold wB wO wC outW failW begW at c3
      dsimp only at c3
      have hds : decide (x.t.state = 1) = true := decide_eq_true hs
      repeat' (first | refine rg 3 (aq30 ?_) | (refine rg 4 ?_; refine oMv ?_; refine oMv ?_; refine oMv ?_; refine sops_lcall (c3) (fun i => bif Nat.beq i 2000 then 12 else bif Nat.beq i 3000 then 1100 else i) (fun i => bif Nat.beq i 2001 then 1001 else bif Nat.beq i 2002 then 1002 else bif Nat.beq i 2003 then 1003 else bif Nat.beq i 1001 then 1011 else bif Nat.beq i 1002 then 1012 else bif Nat.beq i 1003 then 1013 else i) (fun _ => false) (.free rfl rfl) rfl rfl rfl (by ((repeat' (first | exact .nil | refine .cons rfl rfl rfl ?_)) <;> fail)) (.cons rfl rfl (.cons rfl rfl .nil)) (.cons rfl rfl (.cons rfl rfl (.cons rfl rfl .nil))) rfl rfl (fun _ h => Bool.noConfusion h) ?_; refine oN ?_) | refine gc ?_ | refine ct ?_ | refine cf ?_ | refine sc ?_ ?_ <;> intro hc | refine rq rfl (.cell rfl rfl (tyT rfl) (vc (vc (vc (vc .nil)))) rfl (rt .nil)) ?_)
      refine swp_weak (weak_ren 1011 1001 rfl rfl rfl rfl rfl rfl rfl) ?_
      refine swp_weak (weak_ren 1013 1003 rfl rfl rfl rfl rfl rfl rfl) ?_
      refine swp_weak (st' := SWr 8 [(8, .bp 8 0), (9, .t (.v (.slice none 0 0))), (10, .bp 12 0)] ⟨p.node, p.inc, p.next, 0, A ++ B, [], failsL x.t.asks why⟩) (weak_sub (.cons rfl rfl rfl (.cons rfl rfl rfl (.cons rfl rfl rfl .nil))) (.cons rfl rfl rfl (.cons rfl rfl rfl (.cons rfl rfl rfl .nil))) (.cons rfl rfl (.cons rfl rfl (.cons rfl rfl .nil)))) ?_
      unfold SWr wB wO wC
      dsimp only
      have hK : (A ++ B).map (fun a => tunT a.t) = (A.map ATun.t ++ B.map ATun.t).map tunT := by rw [List.map_append, List.map_append, List.map_map, List.map_map]; rfl
      have hKl : (A ++ B).length = ((A.map ATun.t ++ B.map ATun.t).map tunT).length := by rw [← hK, List.length_map]
      have hFl : (failsL x.t.asks why).length = ((failsL x.t.asks why).map failR).length := (List.length_map _).symm
      refine swp_weak (weak_famshow 1100 1001 ((A ++ B).map fun a : ATun => tunT a.t) (fs := famT (A ++ B)) (o := tunO (A ++ B)) rfl rfl (by show (List.map _ _).length = (List.map _ _).length; rw [List.length_map, List.length_map]) (by intro r hr; obtain ⟨a, _, rfl⟩ := List.mem_map.1 hr; rfl) (upl_tun (A ++ B))) ?_
      rw [hK]
      refine swp_weak (weak_show 1001 101 rfl rfl rfl rfl) ?_
      refine swp_weak (weak_show 1002 102 rfl rfl rfl rfl) ?_
      refine swp_weak (weak_show 1003 103 rfl rfl rfl rfl) ?_
      repeat' (first | ((refine swp_any (id := 5) [[], [], [], [], [], [], [], [], [8], []] [[], [], [], [], [8], [8], [8], [8], [], []] mixed (by kernel_rfl) ?_) <;> refine yp (fun _ _ => po_move rfl rfl) ?_ <;> refine yp (fun _ _ => po_nilcheck rfl rfl) ?_ <;> refine yp (fun _ _ => po_field_bx rfl rfl (tyF rfl)) ?_ <;> (refine yp (fun _ _ => po_load_bx_agg rfl rfl (tyT rfl) rfl (vc (vc (vc (vc .nil)))) rfl) ?_) <;> refine yp (fun _ _ => po_move rfl rfl) ?_ <;> refine yp (fun _ _ => po_nilcheck rfl rfl) ?_ <;> refine yp (fun _ _ => po_field_bx rfl rfl (tyF rfl)) ?_ <;> refine yp (fun _ _ => po_load_bx rfl rfl (tyT rfl) rfl rfl) ?_ <;> refine sany_eff [(8, _)] [] (.free rfl rfl) rfl rfl (fun _ _ _ _ => e_store rfl rfl rfl rfl rfl rfl (tyT rfl) rfl rfl) ?_ <;> refine yp (fun _ _ => po_assign rfl rfl) ?_ <;> refine sany_nil ?_) | refine gc ?_ | refine ct ?_ | refine cf ?_ | refine sc ?_ ?_ <;> intro hc | refine rq rfl (.cell rfl rfl (tyT rfl) (vc (vc (vc (vc .nil)))) rfl (rt .nil)) ?_)
      exact retl (.inr rfl) rfl (.cellT rfl rfl (tyT rfl) (vc (vc (vc (vc .nil)))) rfl (.tmpT rfl (.own rfl hFl) .nil)) rfl rfl .nil .nil
    · rw [if_neg hs, if_neg hs]
      have hds : decide (x.t.state = 1) = false := decide_eq_false hs
      repeat' (first | refine rg 3 (aq30 ?_) | refine gc ?_ | refine ct ?_ | refine cf ?_ | refine sc ?_ ?_ <;> intro hc | refine rq rfl (.cell rfl rfl (tyT rfl) (vc (vc (vc (vc .nil)))) rfl (rt .nil)) ?_)
      have hK := hK0
      have hKl := hKl0
      refine swp_weak (weak_famshow 1100 1001 ((A ++ x :: B).map fun a : ATun => tunT a.t) (fs := famT (A ++ x :: B)) (o := tunO (A ++ x :: B)) rfl rfl (by show (List.map _ _).length = (List.map _ _).length; rw [List.length_map, List.length_map]) (by intro r hr; obtain ⟨a, _, rfl⟩ := List.mem_map.1 hr; rfl) (upl_tun (A ++ x :: B))) ?_
      rw [hK]
      refine swp_weak (weak_show 1001 101 rfl rfl rfl rfl) ?_
      refine swp_weak (weak_show 1002 102 rfl rfl rfl rfl) ?_
      refine swp_weak (weak_show 1003 103 rfl rfl rfl rfl) ?_
      repeat' (first | ((refine swp_any (id := 5) [[], [], [], [], [], [], [], [], [8], []] [[], [], [], [], [8], [8], [8], [8], [], []] mixed (by kernel_rfl) ?_) <;> refine yp (fun _ _ => po_move rfl rfl) ?_ <;> refine yp (fun _ _ => po_nilcheck rfl rfl) ?_ <;> refine yp (fun _ _ => po_field_bx rfl rfl (tyF rfl)) ?_ <;> (refine yp (fun _ _ => po_load_bx_agg rfl rfl (tyT rfl) rfl (vc (vc (vc (vc .nil)))) rfl) ?_) <;> refine yp (fun _ _ => po_move rfl rfl) ?_ <;> refine yp (fun _ _ => po_nilcheck rfl rfl) ?_ <;> refine yp (fun _ _ => po_field_bx rfl rfl (tyF rfl)) ?_ <;> refine yp (fun _ _ => po_load_bx rfl rfl (tyT rfl) rfl rfl) ?_ <;> refine sany_eff [(8, _)] [] (.free rfl rfl) rfl rfl (fun _ _ _ _ => e_store rfl rfl rfl rfl rfl rfl (tyT rfl) rfl rfl) ?_ <;> refine yp (fun _ _ => po_assign rfl rfl) ?_ <;> refine sany_nil ?_) | refine gc ?_ | refine ct ?_ | refine cf ?_ | refine sc ?_ ?_ <;> intro hc | refine rq rfl (.cell rfl rfl (tyT rfl) (vc (vc (vc (vc .nil)))) rfl (rt .nil)) ?_)
      exact retl (.inr rfl) rfl (.cellT rfl rfl (tyT rfl) (vc (vc (vc (vc .nil)))) rfl (.tmpT rfl (.own rfl rfl) .nil)) rfl rfl .nil .nil
end Go.Proofs.Ytabejnjnkpdjbaa.Sim
