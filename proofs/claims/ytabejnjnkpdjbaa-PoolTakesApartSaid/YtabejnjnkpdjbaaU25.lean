/- Merged by bundles.py: SimPd, SimEw. -/
import Derived.Test.YtabejnjnkpdjbaaU24
import Derived.Test.YtabejnjnkpdjbaaU15
import Derived.Test.YtabejnjnkpdjbaaU22
/- Replied. -/
namespace Go.Proofs.Ytabejnjnkpdjbaa.Sim
set_option linter.unusedVariables false
set_option linter.unusedSimpArgs false
open Go.RowKit Mem
def cutL {α : Type} (f : α → Bool) : List α → Option (List α × α × List α)
  | [] => none
  | t :: l => if f t then some ([], t, l) else (cutL f l).map fun x => (t :: x.1, x.2)
theorem cutL_hit {α : Type} {f : α → Bool} : ∀ {A B : List α} {a : α}, (∀ x ∈ A, f x = false) → f a = true → cutL f (A ++ a :: B) = some (A, a, B)
  | [], B, a, _, h => by show (if f a then _ else _) = _; rw [if_pos h]
  | t :: A, B, a, hA, h => by
    show (if f t then _ else (cutL f (A ++ a :: B)).map _) = _
    rw [if_neg (by rw [hA t List.mem_cons_self]; simp), cutL_hit (fun x hx => hA x (List.mem_cons_of_mem _ hx)) h]; rfl
theorem cutL_miss {α : Type} {f : α → Bool} : ∀ {l : List α}, (∀ x ∈ l, f x = false) → cutL f l = none
  | [], _ => rfl
  | t :: l, h => by
    show (if f t then _ else (cutL f l).map _) = _
    rw [if_neg (by rw [h t List.mem_cons_self]; simp), cutL_miss (fun x hx => h x (List.mem_cons_of_mem _ hx))]; rfl
set_option maxRecDepth 100000 in
theorem rep1_ (n : Int) (q : PQ) : LCalls Try.prog 76 [.t (.agg (askR q)), .bp 2000 0] [(2000, [.t (u64T n)])] [] (.t (.v (.bool (decide (q.n = n))))) [(2000, [.t (u64T n)])] [] := by
  refine lcalls_of Try.func76 rfl rfl Try.ntmps76 rfl ?_
  repeat' (first | refine rg 0 (aq10 ?_) | (refine rg 1 ?_; refine oFb ?_; refine oLb ?_; refine oLb ?_; refine oCm ?_; refine oAs ?_; refine oN ?_) | refine gc ?_ | refine ct ?_ | refine cf ?_ | refine sc ?_ ?_ <;> intro hc | refine retl (by exact .inr rfl) rfl (.tmp rfl rfl .nil) ?_ rfl (.cons rfl (by rfl) rfl .nil) .nil)
  rfl
def SidxN (n : Int) (xs : List PQ) (k : Nat) : St := ⟨[(0, .own 2000 (xs.map askR).length), (1, .cl 76 [.bp 2000 0]), (7, .t (.v (.int .i64 ((xs.map askR).length : Int)))), (8, .t (.v (.int .i64 (k : Int))))], [(2000, [.t (u64T n)])], [(2000, ⟨70, 9, xs.map askR⟩)]⟩
set_option maxRecDepth 100000 in
set_option maxHeartbeats 2000000 in
theorem idxN (n : Int) (xs : List PQ) (hn : xs.length ≤ 1000) : LCalls Try.prog 75 [.own 2000 (xs.map askR).length, .cl 76 [.bp 2000 0]] [(2000, [.t (u64T n)])] [(2000, ⟨70, 9, xs.map askR⟩)] (.t (.v (.int .i64 (idxP (fun q : PQ => decide (q.n = n)) xs)))) [(2000, [.t (u64T n)])] [(2000, ⟨70, 9, xs.map askR⟩)] := by
  have hm1 : (xs.map askR).length = xs.length := List.length_map _
  refine lcalls_of Try.func75 rfl rfl Try.ntmps75 rfl ?_
  repeat' (first | refine rg 0 (aq0 ?_) | refine rg 1 (aq2 ?_) | refine gc ?_ | refine ct ?_ | refine cf ?_ | refine sc ?_ ?_ <;> intro hc | refine rq rfl (rt .nil) ?_)
  refine swp_for (SidxN n xs) (fun k => ∀ j, j < k → ∀ x, xs[j]? = some x → (fun q : PQ => decide (q.n = n)) x = false) xs.length ?_ (fun j hj => by omega) ?_
  · exact (weak_sub (.cons rfl rfl rfl (.cons rfl rfl rfl (.cons rfl rfl rfl (.cons rfl rfl rfl .nil)))) (.cons rfl rfl rfl .nil) (.cons rfl rfl .nil))
  intro k hk hI
  unfold SidxN
  by_cases hlt : k < xs.length
  · have c1 := rep1_ n xs[k]
    have hrow : (xs.map askR)[k]? = some (askR xs[k]) := by rw [List.getElem?_map, List.getElem?_eq_getElem hlt]; rfl
    have hlt2 : k < (xs.map askR).length := by omega
    have hstep : (fun q : PQ => decide (q.n = n)) xs[k] = false → ∀ j, j < k + 1 → ∀ x, xs[j]? = some x → (fun q : PQ => decide (q.n = n)) x = false := fun hp j hj x hx => by
      by_cases h : j = k
      · subst h; rw [List.getElem?_eq_getElem hlt] at hx; injection hx with hx; subst hx; exact hp
      · exact hI j (by omega) x hx
    cases hp : (fun q : PQ => decide (q.n = n)) xs[k] with
    | true =>
      have hr := idxP_hit (fun q : PQ => decide (q.n = n)) xs k hlt hI hp
      have hp2 := hp
      dsimp only at hp2
      rw [hp2] at c1
      rw [hr]
      generalize xs[k] = x at *
      repeat' (first | refine rg 2 (aq3 ?_) | refine rg 3 (aq8 ?_) | (refine rg 4 (aq25 ?_); refine sp (po_load_own_agg (ts := askR x) rfl rfl rfl rfl (tyT rfl) hrow rfl rfl) ?_; (first | refine sops_lcall_tclo (args := [_]) (caps := [_]) (c1) (fun i => i) (fun i => i) (fun _ => false) (.free rfl rfl) rfl rfl rfl rfl (by ((repeat' (first | exact .nil | refine .cons rfl rfl rfl ?_ | refine .vw rfl (by exact .t _) ?_)) <;> fail)) (.cons rfl rfl .nil) .nil rfl rfl (fun _ h => Bool.noConfusion h) ?_ | refine sops_lcall_clo (args := [_]) (caps0 := [_]) (c1) (fun i => i) (fun i => i) (fun _ => false) (.free rfl rfl) rfl rfl rfl rfl rfl rfl (by ((repeat' (first | exact .nil | refine .cons rfl rfl rfl ?_)) <;> fail)) (.cons rfl rfl .nil) .nil rfl rfl (fun _ h => Bool.noConfusion h) ?_); refine oN ?_) | refine rg 5 (aq8 ?_) | refine gc ?_ | refine ct ?_ | refine cf ?_ | refine sc ?_ ?_ <;> intro hc | refine retl (by exact .inr rfl) rfl (.tmp rfl rfl .nil) ?_ rfl (.cons rfl (by rfl) rfl .nil) (.cons rfl (by rfl) .nil))
      rfl
    | false =>
      have hp2 := hp
      dsimp only at hp2
      rw [hp2] at c1
      have hst := hstep hp
      generalize xs[k] = x at *
      repeat' (first | refine for_next hlt (weak_sub (.cons rfl rfl rfl (.cons rfl rfl rfl (.cons rfl rfl rfl (.cons rfl rfl rfl .nil)))) (.cons rfl rfl rfl .nil) (.cons rfl rfl .nil)) hst | refine rg 2 (aq3 ?_) | refine rg 3 (aq8 ?_) | (refine rg 4 (aq25 ?_); refine sp (po_load_own_agg (ts := askR x) rfl rfl rfl rfl (tyT rfl) hrow rfl rfl) ?_; (first | refine sops_lcall_tclo (args := [_]) (caps := [_]) (c1) (fun i => i) (fun i => i) (fun _ => false) (.free rfl rfl) rfl rfl rfl rfl (by ((repeat' (first | exact .nil | refine .cons rfl rfl rfl ?_ | refine .vw rfl (by exact .t _) ?_)) <;> fail)) (.cons rfl rfl .nil) .nil rfl rfl (fun _ h => Bool.noConfusion h) ?_ | refine sops_lcall_clo (args := [_]) (caps0 := [_]) (c1) (fun i => i) (fun i => i) (fun _ => false) (.free rfl rfl) rfl rfl rfl rfl rfl rfl (by ((repeat' (first | exact .nil | refine .cons rfl rfl rfl ?_)) <;> fail)) (.cons rfl rfl .nil) .nil rfl rfl (fun _ h => Bool.noConfusion h) ?_); refine oN ?_) | refine rg 6 (aq7 ?_) | refine gc ?_ | refine ct ?_ | refine cf ?_)
  · obtain rfl : k = xs.length := by omega
    have hr := idxP_miss (fun q : PQ => decide (q.n = n)) xs fun x hx => by obtain ⟨j, hj⟩ := List.getElem?_of_mem hx; exact hI j (List.getElem?_eq_some_iff.1 hj).1 x hj
    rw [hr]
    repeat' (first | refine rg 2 (aq3 ?_) | refine rg 7 (aq0 ?_) | refine gc ?_ | refine ct ?_ | refine cf ?_ | refine sc ?_ ?_ <;> intro hc | refine retl (by exact .inr rfl) rfl (.tmp rfl rfl .nil) ?_ rfl (.cons rfl (by rfl) rfl .nil) (.cons rfl (by rfl) .nil))
    rfl
def repR (p : PPool) (now : Int) (f : PTun → Bool) (n : Int) : PPool × Int × Bool := match cutT f p.tuns with
  | none => (p, 0, false)
  | some (A, a, B) => if n = 0 then (p, 0, false) else match cutL (fun q : PQ => decide (q.n = n)) a.asks with
    | none => (p, 0, false)
    | some (C, q, D) => ({ p with tuns := A ++ { a with used := now, asks := C ++ D } :: B }, q.id, true)
def SRp (p : PPool) (now n : Int) (L : List ATun) (tm : List (Nat × Sim.A)) : St := ⟨(1, .t (u64T now)) :: (9, .bp 9 0) :: (10, .bp 10 0) :: (11, .t (u64T 0)) :: (12, .t (.v (.bool false))) :: (13, .bp 12 0) :: tm, [(9, [.t (u64T n)]), (10, zPool), (12, wN L.length 1001 1002 1003 ⟨p.node, p.inc, p.next, now, [], [], []⟩), (1100, [.rs (FamR (famT L))])], [(1001, tunO L), (1002, doO []), (1003, failO [])]⟩
def SRq (p : PPool) (now n : Int) (A B : List ATun) (m : Nat) (T : PTun) (u : Value) (qs : List PQ) (tm : List (Nat × Sim.A)) : St := ⟨(1, .t (u64T now)) :: (9, .bp 9 0) :: (10, .bp 10 0) :: (11, .t (u64T 0)) :: (12, .t (.v (.bool false))) :: (13, .bp 12 0) :: tm, [(9, [.t (u64T n)]), (10, zPool), (12, wN m 1001 1002 1003 ⟨p.node, p.inc, p.next, now, [], [], []⟩), (1100, [.rs (FamR (famT A ++ (u, ⟨70, 9, qs.map askR⟩) :: famT B))])], [(1001, ⟨118, 14, (A ++ ⟨T, u⟩ :: B).map tunR⟩), (1002, doO []), (1003, failO [])]⟩
set_option maxRecDepth 100000 in
set_option maxHeartbeats 4000000 in
theorem replied_ (p : PPool) (now peer a b c n : Int) (hn : p.tuns.length ≤ 500) (hq : ∀ t ∈ p.tuns, FewTun t) : LCalls Try.prog 21 [.t (.agg (poolT p)), .t (u64T now), .t (i64T peer), .t (idT a b c), .t (u64T n)] [] [] (.tu [.t (.agg (poolT (repR p now (pAt peer a b c) n).1)), .t (u64T (repR p now (pAt peer a b c) n).2.1), .t (.v (.bool (repR p now (pAt peer a b c) n).2.2))]) [] [] := by
  have c1 := with_ p now (by omega) hq
  refine lcalls_of Try.func21 rfl rfl Try.ntmps21 rfl ?_
  unfold poolT idT
  repeat' (first | (refine rg 0 ?_; refine sbx ?_; refine sbx ?_; refine sbx ?_; refine sal str58 ?_; refine aq19 ?_) | refine gc ?_ | refine ct ?_ | refine cf ?_ | refine sc ?_ ?_ <;> intro hc | refine rq rfl (.cell rfl rfl (tyT rfl) (vc (vc (vc (vc .nil)))) rfl (rt (rt .nil))) ?_)
  refine rg 1 ?_
  refine sp (po_load_bx_agg rfl rfl (tyT rfl) rfl (vc (vc (vc (vc .nil)))) rfl) ?_
  refine oMv ?_
  refine sops_ecall c1 (fun i => i) (fun i => i) (.free rfl rfl) rfl rfl rfl (.cons rfl rfl rfl (.cons rfl rfl rfl .nil)) .nil .nil rfl (fun _ => rfl) fun A => ?_
  obtain ⟨l, hl⟩ := A
  have hll : l.length ≤ 500 := by have := congrArg List.length hl; rw [List.length_map] at this; omega
  dsimp only
  refine oAs ?_
  refine oN ?_
  have c2 := at_ (begW p now l) peer a b c (by show l.length ≤ 1000; omega)
  unfold atW idT at c2
  unfold wX wO wC begW at c2
  unfold wB wO wC begW
  dsimp only at c2 ⊢
  have hfew : ∀ x ∈ l, FewTun x.t := fun x hx => hq _ (by rw [← hl]; exact List.mem_map_of_mem hx)
  have hK0 : l.map (fun a => tunT a.t) = p.tuns.map tunT := by rw [← hl, List.map_map]; rfl
  have hKl0 : l.length = (p.tuns.map tunT).length := by rw [← hK0, List.length_map]
  rcases idxP_split (fun x : ATun => pAt peer a b c x.t) l with ⟨h1, h2⟩ | ⟨A, x, B, rfl, h1, h2, h3⟩
  · rw [h1] at c2
    have hm : cutT (pAt peer a b c) p.tuns = none := cutT_miss fun t ht => by
      rw [← hl] at ht
      obtain ⟨x, hx, rfl⟩ := List.mem_map.1 ht
      exact h2 x hx
    unfold repR
    rw [hm]
    repeat' (first | (refine rg 2 (aq31 ?_); refine sops_lcall (c2) (fun i => bif Nat.beq i 2000 then 12 else bif Nat.beq i 3000 then 1100 else i) (fun i => bif Nat.beq i 2001 then 1001 else bif Nat.beq i 2002 then 1002 else bif Nat.beq i 2003 then 1003 else i) (fun _ => false) (.free rfl rfl) rfl rfl rfl (by ((repeat' (first | exact .nil | refine .cons rfl rfl rfl ?_)) <;> fail)) (.cons rfl rfl .nil) (.cons rfl rfl (.cons rfl rfl (.cons rfl rfl .nil))) rfl rfl (fun _ h => Bool.noConfusion h) ?_; refine aq0 ?_) | refine rg 3 (aq36 ?_) | refine gc ?_ | refine ct ?_ | refine cf ?_ | refine sc ?_ ?_ <;> intro hc | refine rq rfl (.cell rfl rfl (tyT rfl) (vc (vc (vc (vc .nil)))) rfl (rt (rt .nil))) ?_)
    have hK := hK0
    have hKl := hKl0
    refine swp_weak (weak_famshow 1100 1001 (l.map fun a : ATun => tunT a.t) (fs := famT l) (o := tunO l) rfl rfl (by show (List.map _ _).length = (List.map _ _).length; rw [List.length_map, List.length_map]) (by intro r hr; obtain ⟨a, _, rfl⟩ := List.mem_map.1 hr; rfl) (upl_tun l)) ?_
    rw [hK]
    refine swp_weak (weak_show 1001 101 rfl rfl rfl rfl) ?_
    refine swp_weak (weak_show 1002 102 rfl rfl rfl rfl) ?_
    refine swp_weak (weak_show 1003 103 rfl rfl rfl rfl) ?_
    repeat' (first | refine rg 4 (aq37 ?_) | refine gc ?_ | refine ct ?_ | refine cf ?_ | refine sc ?_ ?_ <;> intro hc | refine rq rfl (.cell rfl rfl (tyT rfl) (vc (vc (vc (vc .nil)))) rfl (rt (rt .nil))) ?_)
    exact retl (.inr rfl) rfl (.cellT rfl rfl (tyT rfl) (vc (vc (vc (vc .nil)))) rfl (.tmp rfl rfl (.tmp rfl rfl .nil))) rfl rfl .nil .nil
  · rw [h1] at c2
    have hm : cutT (pAt peer a b c) p.tuns = some (A.map ATun.t, x.t, B.map ATun.t) := by
      rw [← hl, List.map_append, List.map_cons]
      exact cutT_hit (fun t ht => by obtain ⟨y, hy, rfl⟩ := List.mem_map.1 ht; exact h3 y hy) h2
    unfold repR
    rw [hm]
    dsimp only
    have hge : ¬ ((A.length : Nat) : Int) < (0 : Int) := by omega
    repeat' (first | (refine rg 2 (aq31 ?_); refine sops_lcall (c2) (fun i => bif Nat.beq i 2000 then 12 else bif Nat.beq i 3000 then 1100 else i) (fun i => bif Nat.beq i 2001 then 1001 else bif Nat.beq i 2002 then 1002 else bif Nat.beq i 2003 then 1003 else i) (fun _ => false) (.free rfl rfl) rfl rfl rfl (by ((repeat' (first | exact .nil | refine .cons rfl rfl rfl ?_)) <;> fail)) (.cons rfl rfl .nil) (.cons rfl rfl (.cons rfl rfl (.cons rfl rfl .nil))) rfl rfl (fun _ h => Bool.noConfusion h) ?_; refine aq0 ?_) | refine gc ?_ | refine ct ?_ | refine cf ?_ | refine sc ?_ ?_ <;> intro hc | refine rq rfl (.cell rfl rfl (tyT rfl) (vc (vc (vc (vc .nil)))) rfl (rt (rt .nil))) ?_)
    refine swp_weak (st' := SRp p now n (A ++ x :: B) [(14, .t (.v (.int .i64 ((A.length : Nat) : Int))))]) (weak_sub (.cons rfl rfl rfl (.cons rfl rfl rfl (.cons rfl rfl rfl (.cons rfl rfl rfl (.cons rfl rfl rfl (.cons rfl rfl rfl (.cons rfl rfl rfl .nil))))))) (.cons rfl rfl rfl (.cons rfl rfl rfl (.cons rfl rfl rfl (.cons rfl rfl rfl .nil)))) (.cons rfl rfl (.cons rfl rfl (.cons rfl rfl .nil)))) ?_
    unfold SRp wN
    dsimp only
    by_cases hn0 : n = 0
    · rw [if_pos hn0]
      repeat' (first | refine rg 3 (aq38 ?_) | refine gc ?_ | refine ct ?_ | refine cf ?_ | refine sc ?_ ?_ <;> intro hc | refine rq rfl (.cell rfl rfl (tyT rfl) (vc (vc (vc (vc .nil)))) rfl (rt (rt .nil))) ?_)
      have hK := hK0
      have hKl := hKl0
      refine swp_weak (weak_famshow 1100 1001 ((A ++ x :: B).map fun a : ATun => tunT a.t) (fs := famT (A ++ x :: B)) (o := tunO (A ++ x :: B)) rfl rfl (by show (List.map _ _).length = (List.map _ _).length; rw [List.length_map, List.length_map]) (by intro r hr; obtain ⟨a, _, rfl⟩ := List.mem_map.1 hr; rfl) (upl_tun (A ++ x :: B))) ?_
      rw [hK]
      refine swp_weak (weak_show 1001 101 rfl rfl rfl rfl) ?_
      refine swp_weak (weak_show 1002 102 rfl rfl rfl rfl) ?_
      refine swp_weak (weak_show 1003 103 rfl rfl rfl rfl) ?_
      repeat' (first | refine rg 4 (aq37 ?_) | refine gc ?_ | refine ct ?_ | refine cf ?_ | refine sc ?_ ?_ <;> intro hc | refine rq rfl (.cell rfl rfl (tyT rfl) (vc (vc (vc (vc .nil)))) rfl (rt (rt .nil))) ?_)
      exact retl (.inr rfl) rfl (.cellT rfl rfl (tyT rfl) (vc (vc (vc (vc .nil)))) rfl (.tmp rfl rfl (.tmp rfl rfl .nil))) rfl rfl .nil .nil
    · rw [if_neg hn0]
      have hat : ((A ++ x :: B).map tunR)[A.length]? = some (tunR x) := tunO_at
      have hlt : A.length < (A ++ x :: B).length := by rw [List.length_append, List.length_cons]; omega
      have hml : (A ++ x :: B).length = ((A ++ x :: B).map tunR).length := (List.length_map _).symm
      have hfx := hfew x (by simp)
      have c3 := idxN n x.t.asks hfx.asks
      repeat' (first | refine rg 3 (aq38 ?_) | refine rg 5 (aq20 ?_) | refine gc ?_ | refine ct ?_ | refine cf ?_ | refine sc ?_ ?_ <;> intro hc | refine rq rfl (.cell rfl rfl (tyT rfl) (vc (vc (vc (vc .nil)))) rfl (rt (rt .nil))) ?_)
      rw [famT_open (a := x)]
      refine rg 6 ?_
      refine oMv ?_
      refine sp (po_nilcheck_oe rfl rfl rfl hml) ?_
      refine sp (fdo rfl) ?_
      refine sp (ldo rfl) ?_
      refine sops_weak (weak_openF 45 1100 1005 90000 (a := famT A) (b := famT B) (o := ⟨70, 9, x.t.asks.map askR⟩) rfl rfl rfl) ?_
      refine sp (po_func_cl rfl (.cons rfl rfl .nil)) ?_
      refine sops_lcall c3 (fun i => bif Nat.beq i 2000 then 9 else i) (fun i => bif Nat.beq i 2000 then 1005 else i) (fun i => Nat.beq i 2000) (.free rfl rfl) rfl rfl rfl (.cons rfl rfl rfl (.cons rfl rfl rfl .nil)) (.cons rfl rfl .nil) (.cons rfl rfl .nil) rfl rfl (kp_id 2000 rfl rfl rfl rfl) ?_
      refine oAs ?_
      refine sops_weak (weak_closeV 45 1100 1005 90000 (famT A) (famT B) rfl rfl rfl rfl rfl rfl) ?_
      refine oN ?_
      rcases idxP_split (fun q : PQ => decide (q.n = n)) x.t.asks with ⟨g1, g2⟩ | ⟨C, q, D, he, g1, g2, g3⟩
      · rw [g1, cutL_miss g2]
        refine then_go ?_
        refine swp_weak (st' := SRp p now n (A ++ x :: B) [(16, .t (.v (.int .i64 (-1))))]) (by unfold SRp; rw [famT_open (a := x)]; exact (weak_sub (.cons rfl rfl rfl (.cons rfl rfl rfl (.cons rfl rfl rfl (.cons rfl rfl rfl (.cons rfl rfl rfl (.cons rfl rfl rfl (.cons rfl rfl rfl .nil))))))) (.cons rfl rfl rfl (.cons rfl rfl rfl (.cons rfl rfl rfl (.cons rfl rfl rfl .nil)))) (.cons rfl rfl (.cons rfl rfl (.cons rfl rfl .nil))))) ?_
        unfold SRp wN
        repeat' (first | refine rg 7 (aq32 ?_) | refine gc ?_ | refine ct ?_ | refine cf ?_ | refine sc ?_ ?_ <;> intro hc | refine rq rfl (.cell rfl rfl (tyT rfl) (vc (vc (vc (vc .nil)))) rfl (rt (rt .nil))) ?_)
        have hK := hK0
        have hKl := hKl0
        refine swp_weak (weak_famshow 1100 1001 ((A ++ x :: B).map fun a : ATun => tunT a.t) (fs := famT (A ++ x :: B)) (o := tunO (A ++ x :: B)) rfl rfl (by show (List.map _ _).length = (List.map _ _).length; rw [List.length_map, List.length_map]) (by intro r hr; obtain ⟨a, _, rfl⟩ := List.mem_map.1 hr; rfl) (upl_tun (A ++ x :: B))) ?_
        rw [hK]
        refine swp_weak (weak_show 1001 101 rfl rfl rfl rfl) ?_
        refine swp_weak (weak_show 1002 102 rfl rfl rfl rfl) ?_
        refine swp_weak (weak_show 1003 103 rfl rfl rfl rfl) ?_
        repeat' (first | refine rg 8 (aq37 ?_) | refine gc ?_ | refine ct ?_ | refine cf ?_ | refine sc ?_ ?_ <;> intro hc | refine rq rfl (.cell rfl rfl (tyT rfl) (vc (vc (vc (vc .nil)))) rfl (rt (rt .nil))) ?_)
        exact retl (.inr rfl) rfl (.cellT rfl rfl (tyT rfl) (vc (vc (vc (vc .nil)))) rfl (.tmp rfl rfl (.tmp rfl rfl .nil))) rfl rfl .nil .nil
      · have hCl : C.length ≤ 1000 := by have := congrArg List.length he; rw [List.length_append] at this; have := hfx.asks; omega
        rw [g1, he, cutL_hit g3 g2]
        refine then_go ?_
        refine swp_weak (st' := SRq p now n A B (A ++ x :: B).length x.t x.u (C ++ q :: D) [(15, .oe 1001 (A ++ x :: B).length 14 A.length 0), (16, .t (.v (.int .i64 ((C.length : Nat) : Int))))]) (weak_sub (.cons rfl rfl rfl (.cons rfl rfl rfl (.cons rfl rfl rfl (.cons rfl rfl rfl (.cons rfl rfl rfl (.cons rfl rfl rfl (.cons rfl rfl rfl (.cons rfl rfl rfl .nil)))))))) (.cons rfl rfl rfl (.cons rfl rfl rfl (.cons rfl rfl rfl (.cons rfl rfl rfl .nil)))) (.cons rfl rfl (.cons rfl rfl (.cons rfl rfl .nil)))) ?_
        unfold SRq wN
        dsimp only
        have hgq : ¬ ((C.length : Nat) : Int) < (0 : Int) := by omega
        have hatq : ((C ++ q :: D).map askR)[C.length]? = some (askR q) := mid_at
        have hltq : C.length < ((C ++ q :: D).map askR).length := by rw [List.length_map, List.length_append, List.length_cons]; omega
        have c4 := delQs ((C ++ q :: D).map askR) C.length _ rfl hltq
        rw [mid_del, show ((C ++ q :: D).map askR).length - 1 = ((C ++ D).map askR).length by rw [List.length_map, List.length_map, List.length_append, List.length_append, List.length_cons]; omega] at c4
        repeat' (first | refine rg 7 (aq32 ?_) | refine gc ?_ | refine ct ?_ | refine cf ?_ | refine sc ?_ ?_ <;> intro hc | refine rq rfl (.cell rfl rfl (tyT rfl) (vc (vc (vc (vc .nil)))) rfl (rt (rt .nil))) ?_)
        refine rg 9 ?_
        refine oMv ?_
        refine sp (po_nilcheck_oe rfl rfl rfl hml) ?_
        refine sp (fdo rfl) ?_
        refine sp (ldo rfl) ?_
        refine sops_weak (weak_openF 57 1100 1005 90000 (a := famT A) (b := famT B) (o := ⟨70, 9, (C ++ q :: D).map askR⟩) rfl rfl rfl) ?_
        refine oMv ?_
        refine sp (ixo rfl) ?_
        refine sp (fdo rfl) ?_
        refine sp (po_load_own rfl rfl rfl rfl (tyT rfl) hatq rfl) ?_
        refine oAs ?_
        refine sops_weak (weak_closeV 57 1100 1005 90000 (famT A) (famT B) rfl rfl rfl rfl rfl rfl) ?_
        refine oN ?_
        refine then_go ?_
        refine swp_weak (st' := SRq p now n A B (A ++ x :: B).length x.t x.u (C ++ q :: D) [(15, .oe 1001 (A ++ x :: B).length 14 A.length 0), (16, .t (.v (.int .i64 ((C.length : Nat) : Int)))), (17, .t (u64T q.id))]) (weak_sub (.cons rfl rfl rfl (.cons rfl rfl rfl (.cons rfl rfl rfl (.cons rfl rfl rfl (.cons rfl rfl rfl (.cons rfl rfl rfl (.cons rfl rfl rfl (.cons rfl rfl rfl (.cons rfl rfl rfl .nil))))))))) (.cons rfl rfl rfl (.cons rfl rfl rfl (.cons rfl rfl rfl (.cons rfl rfl rfl .nil)))) (.cons rfl rfl (.cons rfl rfl (.cons rfl rfl .nil)))) ?_
        unfold SRq wN
        dsimp only
        refine gc ?_
        refine rg 10 ?_
        refine oMv ?_
        refine oMv ?_
        refine oMv ?_
        refine sp (po_nilcheck_oe rfl rfl rfl hml) ?_
        refine sp (fdo rfl) ?_
        refine sp (ldo rfl) ?_
        refine sops_weak (weak_openF 67 1100 1005 90000 (a := famT A) (b := famT B) (o := ⟨70, 9, (C ++ q :: D).map askR⟩) rfl rfl rfl) ?_
        refine oMv ?_
        refine oMv ?_
        refine sp (xadd rfl) ?_
        refine sops_lcall c4 (fun i => i) (fun i => bif Nat.beq i 2001 then 1005 else bif Nat.beq i 1001 then 1006 else i) (fun _ => false) (.free rfl rfl) rfl rfl rfl (.cons rfl rfl rfl (.cons rfl rfl rfl (.cons rfl rfl rfl .nil))) .nil (.cons rfl rfl .nil) rfl rfl (fun _ h => Bool.noConfusion h) ?_
        refine sops_weakE (weak_closeS 71 1100 1006 (famT A) (famT B) rfl rfl rfl rfl) fun y => ?_
        refine oMv ?_
        refine sp (po_nilcheck_oe rfl rfl rfl hml) ?_
        refine sp (fdo rfl) ?_
        refine sso ?_
        have hset := tunO_set (A := A) (B := B) (a := ⟨x.t, x.u⟩) ⟨{ x.t with asks := C ++ D }, .slice y.1 y.2.1 y.2.2⟩
        have hset' := congrArg (fun r => (⟨118, 14, r⟩ : Own)) hset
        refine sops_weak (st' := SRq p now n A B (A ++ x :: B).length { x.t with asks := C ++ D } (.slice y.1 y.2.1 y.2.2) (C ++ D) [(17, .t (u64T q.id)), (63, .oe 1001 (A ++ x :: B).length 14 A.length 0), (72, .t (u64T now))]) (weak_sub (.cons rfl (by first | rfl | (first | (exact hset'))) rfl (.cons rfl (by first | rfl | (first | (exact hset'))) rfl (.cons rfl (by first | rfl | (first | (exact hset'))) rfl (.cons rfl (by first | rfl | (first | (exact hset'))) rfl (.cons rfl (by first | rfl | (first | (exact hset'))) rfl (.cons rfl (by first | rfl | (first | (exact hset'))) rfl (.cons rfl (by first | rfl | (first | (exact hset'))) rfl (.cons rfl (by first | rfl | (first | (exact hset'))) rfl (.cons rfl (by first | rfl | (first | (exact hset'))) rfl .nil))))))))) (.cons rfl (by first | rfl | (first | (exact hset'))) rfl (.cons rfl (by first | rfl | (first | (exact hset'))) rfl (.cons rfl (by first | rfl | (first | (exact hset'))) rfl (.cons rfl (by first | rfl | (first | (exact hset'))) rfl .nil)))) (.cons rfl (by first | rfl | (first | (exact hset'))) (.cons rfl (by first | rfl | (first | (exact hset'))) (.cons rfl (by first | rfl | (first | (exact hset'))) .nil)))) ?_
        unfold SRq wN
        dsimp only
        have hat2 : ((A ++ (⟨{ x.t with asks := C ++ D }, .slice y.1 y.2.1 y.2.2⟩ : ATun) :: B).map tunR)[A.length]? = some (tunR ⟨{ x.t with asks := C ++ D }, .slice y.1 y.2.1 y.2.2⟩) := tunO_at
        have hml2 : (A ++ x :: B).length = ((A ++ (⟨{ x.t with asks := C ++ D }, .slice y.1 y.2.1 y.2.2⟩ : ATun) :: B).map tunR).length := by rw [List.length_map]; exact len_mid
        refine sp (po_nilcheck_oe rfl rfl rfl hml2) ?_
        refine sp (fdo rfl) ?_
        refine sso ?_
        refine oN ?_
        have hs3 := tunO_set (A := A) (B := B) (a := ⟨{ x.t with asks := C ++ D }, .slice y.1 y.2.1 y.2.2⟩) ⟨{ x.t with used := now, asks := C ++ D }, .slice y.1 y.2.1 y.2.2⟩
        have hs3' := congrArg (fun r => (⟨118, 14, r⟩ : Own)) hs3
        refine then_go ?_
        refine swp_weak (st' := SRq p now n A B (A ++ x :: B).length { x.t with used := now, asks := C ++ D } (.slice y.1 y.2.1 y.2.2) (C ++ D) [(17, .t (u64T q.id))]) (weak_sub (.cons rfl (by first | rfl | (first | (exact hs3'))) rfl (.cons rfl (by first | rfl | (first | (exact hs3'))) rfl (.cons rfl (by first | rfl | (first | (exact hs3'))) rfl (.cons rfl (by first | rfl | (first | (exact hs3'))) rfl (.cons rfl (by first | rfl | (first | (exact hs3'))) rfl (.cons rfl (by first | rfl | (first | (exact hs3'))) rfl (.cons rfl (by first | rfl | (first | (exact hs3'))) rfl .nil))))))) (.cons rfl (by first | rfl | (first | (exact hs3'))) rfl (.cons rfl (by first | rfl | (first | (exact hs3'))) rfl (.cons rfl (by first | rfl | (first | (exact hs3'))) rfl (.cons rfl (by first | rfl | (first | (exact hs3'))) rfl .nil)))) (.cons rfl (by first | rfl | (first | (exact hs3'))) (.cons rfl (by first | rfl | (first | (exact hs3'))) (.cons rfl (by first | rfl | (first | (exact hs3'))) .nil)))) ?_
        unfold SRq wN
        dsimp only
        generalize Value.slice y.1 y.2.1 y.2.2 = u
        have hfam : famT A ++ (u, (⟨70, 9, (C ++ D).map askR⟩ : Own)) :: famT B = famT (A ++ ⟨{ x.t with used := now, asks := C ++ D }, u⟩ :: B) := (famT_open (a := ⟨{ x.t with used := now, asks := C ++ D }, u⟩)).symm
        rw [hfam]
        have hK : (A ++ (⟨{ x.t with used := now, asks := C ++ D }, u⟩ : ATun) :: B).map (fun a => tunT a.t) = (A.map ATun.t ++ { x.t with used := now, asks := C ++ D } :: B.map ATun.t).map tunT := by simp; rfl
        have hKl : (A ++ x :: B).length = ((A.map ATun.t ++ { x.t with used := now, asks := C ++ D } :: B.map ATun.t).map tunT).length := by simp
        refine gc ?_
        refine swp_weak (weak_famshow 1100 1001 ((A ++ ⟨{ x.t with used := now, asks := C ++ D }, u⟩ :: B).map fun a : ATun => tunT a.t) (fs := famT (A ++ ⟨{ x.t with used := now, asks := C ++ D }, u⟩ :: B)) (o := tunO (A ++ ⟨{ x.t with used := now, asks := C ++ D }, u⟩ :: B)) rfl rfl (by show (List.map _ _).length = (List.map _ _).length; rw [List.length_map, List.length_map]) (by intro r hr; obtain ⟨a, _, rfl⟩ := List.mem_map.1 hr; rfl) (upl_tun (A ++ ⟨{ x.t with used := now, asks := C ++ D }, u⟩ :: B))) ?_
        rw [hK]
        refine swp_weak (weak_show 1001 101 rfl rfl rfl rfl) ?_
        refine swp_weak (weak_show 1002 102 rfl rfl rfl rfl) ?_
        refine swp_weak (weak_show 1003 103 rfl rfl rfl rfl) ?_
        repeat' (first | (refine rg 11 ?_; refine oMv ?_; refine sp (po_nilcheck rfl rfl) ?_; refine oFb ?_; (refine sp (po_load_bx_agg rfl rfl (tyT rfl) rfl (vc (vc (vc (vc .nil)))) rfl) ?_); refine oMv ?_; refine oS ?_; refine oAs ?_; refine oAs ?_; refine oN ?_) | refine gc ?_ | refine ct ?_ | refine cf ?_ | refine sc ?_ ?_ <;> intro hc | refine rq rfl (.cell rfl rfl (tyT rfl) (vc (vc (vc (vc .nil)))) rfl (rt (rt .nil))) ?_)
        exact retl (.inr rfl) rfl (.cellT rfl rfl (tyT rfl) (vc (vc (vc (vc .nil)))) rfl (.tmp rfl rfl (.tmp rfl rfl .nil))) rfl rfl .nil .nil
end Go.Proofs.Ytabejnjnkpdjbaa.Sim

/- Who, whether two are the same. -/
namespace Go.Proofs.Ytabejnjnkpdjbaa.Sim
set_option linter.unusedVariables false
set_option linter.unusedSimpArgs false
open Go.RowKit Mem
theorem eqWho (a b : ByteArray) (c d : Int) (e f : ByteArray) (g h : Int) (w : World) : (Op.equalIn 10000 37 (.agg #[.string a, .string b, .int .u64 c, .int .u32 d]) (.agg #[.string e, .string f, .int .u64 g, .int .u32 h])).run Try.prog w = .ok ((a.toList == e.toList && b.toList == f.toList) && (c == g && d == h)) w := by
  have us := Try.underlying9
  have as_ := Try.isAgg9
  have zs := Try.sizeOf9
  have u24 := Try.underlying24
  have a24 := Try.isAgg24
  have z24 := Try.sizeOf24
  have u32 := Try.underlying35
  have a32 := Try.isAgg35
  have z32 := Try.sizeOf35
  have un := Try.underlying34
  have an := Try.isAgg34
  have zn := Try.sizeOf34
  have hS : Try.prog.underlying 37 = some (.struct (Try.prog.fieldsOf 37)) := by kernel_rfl
  have hp : Try.prog.stoodInHeld 37 = false := by kernel_rfl
  have hS2 : Try.prog.underlying 34 = some (.struct (Try.prog.fieldsOf 34)) := by kernel_rfl
  have hp2 : Try.prog.stoodInHeld 34 = false := by kernel_rfl
  rw [show (10000 : Nat) = 9999 + 1 from rfl, run_equalIn_agg w 9999 37 _ _ hS hp]
  simp only [Program.fieldsOf, Try.underlying37]
  go_simp
  by_cases h1 : a.toList = e.toList <;> by_cases h2 : b.toList = f.toList <;> by_cases h3 : c = g <;> by_cases h4 : d = h <;> simp [h1, h2, h3, h4]
section
variable {bx : List (Nat × List A)} {ow : List (Nat × Own)} {o : Oper} {ρ : Operand → Option A}
def whoT (a b : ByteArray) (c d : Int) : T := .agg [.v (.string a), .v (.string b), u64T c, u32T d]
def whoB (a b : ByteArray) (c d : Int) (e f : ByteArray) (g h : Int) : Bool := (a.toList == e.toList && b.toList == f.toList) && (c == g && d == h)
end
end Go.Proofs.Ytabejnjnkpdjbaa.Sim
