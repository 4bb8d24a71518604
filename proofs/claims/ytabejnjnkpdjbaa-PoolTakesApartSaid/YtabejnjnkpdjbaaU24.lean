/- Merged by bundles.py: SimPc. -/
import Derived.Test.YtabejnjnkpdjbaaU23
import Derived.Test.YtabejnjnkpdjbaaU15
/- Accepted. -/
namespace Go.Proofs.Ytabejnjnkpdjbaa.Sim
set_option linter.unusedVariables false
set_option linter.unusedSimpArgs false
open Go.RowKit Mem
def accK (now : Int) (t : PTun) : Nat → PTun × List PDo
  | 0 => ({ t with state := 2 }, [])
  | k + 1 => match t.asks[k]? with
    | some q => (sendT now (accK now t k).1 k q, (accK now t k).2 ++ [askD (accK now t k).1 (sendQ now (sendS (accK now t k).1 q) q)])
    | none => accK now t k
theorem accK_s {now : Int} {t : PTun} {k : Nat} {q : PQ} (h : t.asks[k]? = some q) : accK now t (k + 1) = (sendT now (accK now t k).1 k q, (accK now t k).2 ++ [askD (accK now t k).1 (sendQ now (sendS (accK now t k).1 q) q)]) := by
  show (match t.asks[k]? with | some q => _ | none => _) = _
  rw [h]
theorem accK_asks (now : Int) (t : PTun) : ∀ k, k ≤ t.asks.length → (accK now t k).1.asks.length = t.asks.length ∧ (∀ j, k ≤ j → (accK now t k).1.asks[j]? = t.asks[j]?) ∧ (accK now t k).2.length = k
  | 0, _ => ⟨rfl, fun _ _ => rfl, rfl⟩
  | k + 1, h => by
    obtain ⟨h1, h2, h3⟩ := accK_asks now t k (by omega)
    rw [accK_s (List.getElem?_eq_getElem (by omega))]
    refine ⟨?_, fun j hj => ?_, ?_⟩
    · show ((accK now t k).1.asks.set k _).length = _; rw [List.length_set, h1]
    · show ((accK now t k).1.asks.set k _)[j]? = _; rw [List.getElem?_set_ne (by omega)]; exact h2 j (by omega)
    · show ((accK now t k).2 ++ [_]).length = _; rw [List.length_append, h3]; rfl
def acc (now : Int) (t : PTun) : PTun × List PDo := accK now t t.asks.length
def accP (p : PPool) (now : Int) (f : PTun → Bool) : PPool := match cutT f p.tuns with
  | none => p
  | some (A, a, B) => if a.state = 1 then { p with tuns := A ++ (acc now a).1 :: B } else p
def accD (p : PPool) (now : Int) (f : PTun → Bool) : List PDo := match cutT f p.tuns with
  | none => []
  | some (_, a, _) => if a.state = 1 then (acc now a).2 else []
def SAx (p : PPool) (now : Int) (A B : List ATun) (n : Nat) (T : PTun) (u : Value) (D : List PDo) (tm : List (Nat × Sim.A)) : St := ⟨(8, .bp 8 0) :: (9, .t (.v (.slice none 0 0))) :: (10, .bp 12 0) :: (12, .oe 1001 n 14 A.length 0) :: tm,
  [(8, zPool), (12, wN n 1001 1002 1003 ⟨p.node, p.inc, p.next, now, [], D, []⟩), (1100, [.rs (FamR (famT A ++ (u, ⟨70, 9, T.asks.map askR⟩) :: famT B))])], [(1001, ⟨118, 14, (A ++ ⟨T, u⟩ :: B).map tunR⟩), (1002, doO D), (1003, failO [])]⟩
def SAc (p : PPool) (now : Int) (A B : List ATun) (x : ATun) (k : Nat) : St := SAx p now A B (A ++ x :: B).length (accK now x.t k).1 x.u (accK now x.t k).2 [(49, .t (.v (.int .i64 (x.t.asks.length : Int)))), (50, .t (.v (.int .i64 (k : Int))))]
set_option maxRecDepth 100000 in
set_option maxHeartbeats 4000000 in
theorem accepted_ (p : PPool) (now peer a b c : Int) (hn : p.tuns.length ≤ 500) (hq : ∀ t ∈ p.tuns, FewTun t) : LCalls Try.prog 19 [.t (.agg (poolT p)), .t (u64T now), .t (i64T peer), .t (idT a b c)] [] [] (.tu [.t (.agg (poolT (accP p now (pAt peer a b c)))), .t (.sl 18 ((accD p now (pAt peer a b c)).map doR))]) [] [] := by
  have c1 := with_ p now (by omega) hq
  refine lcalls_of Try.func19 rfl rfl Try.ntmps19 rfl ?_
  unfold poolT idT
  repeat' (first | (refine rg 0 ?_; refine sbx ?_; refine sbx ?_; refine sal str58 ?_; refine aq0 ?_) | refine gc ?_ | refine ct ?_ | refine cf ?_ | refine sc ?_ ?_ <;> intro hc | refine rq rfl (.cell rfl rfl (tyT rfl) (vc (vc (vc (vc .nil)))) rfl (rt .nil)) ?_)
  refine rg 1 ?_
  refine sp (po_load_bx_agg rfl rfl (tyT rfl) rfl (vc (vc (vc (vc .nil)))) rfl) ?_
  refine oMv ?_
  refine sops_ecall c1 (fun i => i) (fun i => i) (.free rfl rfl) rfl rfl rfl (.cons rfl rfl rfl (.cons rfl rfl rfl .nil)) .nil .nil rfl (fun _ => rfl) fun A => ?_
  obtain ⟨l, hl⟩ := A
  have hll : l.length ≤ 500 := by have := congrArg List.length hl; rw [List.length_map] at this; omega
  dsimp only
  refine oAs ?_
  refine oN ?_
  have c2 := at_ (begW p now l) peer a b c (by show l.length ≤ 1000; omega)
  unfold atW idT at c2
  unfold wX wO wC begW at c2
  unfold wB wO wC begW
  dsimp only at c2 ⊢
  have hfew : ∀ x ∈ l, FewTun x.t := fun x hx => hq _ (by rw [← hl]; exact List.mem_map_of_mem hx)
  have hK0 : l.map (fun a => tunT a.t) = p.tuns.map tunT := by rw [← hl, List.map_map]; rfl
  have hKl0 : l.length = (p.tuns.map tunT).length := by rw [← hK0, List.length_map]
  rcases idxP_split (fun x : ATun => pAt peer a b c x.t) l with ⟨h1, h2⟩ | ⟨A, x, B, rfl, h1, h2, h3⟩
  · rw [h1] at c2
    have hm : cutT (pAt peer a b c) p.tuns = none := cutT_miss fun t ht => by
      rw [← hl] at ht
      obtain ⟨x, hx, rfl⟩ := List.mem_map.1 ht
      exact h2 x hx
    unfold accP accD
    rw [hm]
    repeat' (first | (refine rg 2 (aq31 ?_); refine sops_lcall (c2) (fun i => bif Nat.beq i 2000 then 12 else bif Nat.beq i 3000 then 1100 else i) (fun i => bif Nat.beq i 2001 then 1001 else bif Nat.beq i 2002 then 1002 else bif Nat.beq i 2003 then 1003 else i) (fun _ => false) (.free rfl rfl) rfl rfl rfl (by ((repeat' (first | exact .nil | refine .cons rfl rfl rfl ?_)) <;> fail)) (.cons rfl rfl .nil) (.cons rfl rfl (.cons rfl rfl (.cons rfl rfl .nil))) rfl rfl (fun _ h => Bool.noConfusion h) ?_; refine aq0 ?_) | (refine rg 3 (aq33 ?_) <;> (first | refine sp (po_nilcheck rfl rfl) ?_ | refine sp (po_nilcheck_oe rfl rfl rfl (by rfl)) ?_ | refine oK ?_) <;> refine aq34 ?_) | refine gc ?_ | refine ct ?_ | refine cf ?_ | refine sc ?_ ?_ <;> intro hc | refine rq rfl (.cell rfl rfl (tyT rfl) (vc (vc (vc (vc .nil)))) rfl (rt .nil)) ?_)
    have hK := hK0
    have hKl := hKl0
    refine swp_weak (weak_famshow 1100 1001 (l.map fun a : ATun => tunT a.t) (fs := famT l) (o := tunO l) rfl rfl (by show (List.map _ _).length = (List.map _ _).length; rw [List.length_map, List.length_map]) (by intro r hr; obtain ⟨a, _, rfl⟩ := List.mem_map.1 hr; rfl) (upl_tun l)) ?_
    rw [hK]
    refine swp_weak (weak_show 1001 101 rfl rfl rfl rfl) ?_
    refine swp_weak (weak_show 1002 102 rfl rfl rfl rfl) ?_
    refine swp_weak (weak_show 1003 103 rfl rfl rfl rfl) ?_
    repeat' (first | ((refine swp_any (id := 11) [[], [], [], [], [], [], [], [], [8], []] [[], [], [], [], [8], [8], [8], [8], [], []] mixed (by kernel_rfl) ?_) <;> refine yp (fun _ _ => po_move rfl rfl) ?_ <;> refine yp (fun _ _ => po_nilcheck rfl rfl) ?_ <;> refine yp (fun _ _ => po_field_bx rfl rfl (tyF rfl)) ?_ <;> (refine yp (fun _ _ => po_load_bx_agg rfl rfl (tyT rfl) rfl (vc (vc (vc (vc .nil)))) rfl) ?_) <;> refine yp (fun _ _ => po_move rfl rfl) ?_ <;> refine yp (fun _ _ => po_nilcheck rfl rfl) ?_ <;> refine yp (fun _ _ => po_field_bx rfl rfl (tyF rfl)) ?_ <;> refine yp (fun _ _ => po_load_bx rfl rfl (tyT rfl) rfl rfl) ?_ <;> refine sany_eff [(8, _)] [] (.free rfl rfl) rfl rfl (fun _ _ _ _ => e_store rfl rfl rfl rfl rfl rfl (tyT rfl) rfl rfl) ?_ <;> refine yp (fun _ _ => po_assign rfl rfl) ?_ <;> refine sany_nil ?_) | refine gc ?_ | refine ct ?_ | refine cf ?_ | refine sc ?_ ?_ <;> intro hc | refine rq rfl (.cell rfl rfl (tyT rfl) (vc (vc (vc (vc .nil)))) rfl (rt .nil)) ?_)
    exact retl (.inr rfl) rfl (.cellT rfl rfl (tyT rfl) (vc (vc (vc (vc .nil)))) rfl (.tmpT rfl (.own rfl rfl) .nil)) rfl rfl .nil .nil
  · rw [h1] at c2
    have hm : cutT (pAt peer a b c) p.tuns = some (A.map ATun.t, x.t, B.map ATun.t) := by
      rw [← hl, List.map_append, List.map_cons]
      exact cutT_hit (fun t ht => by obtain ⟨y, hy, rfl⟩ := List.mem_map.1 ht; exact h3 y hy) h2
    unfold accP accD
    rw [hm]
    dsimp only
    have hge : (0 : Int) ≤ ((A.length : Nat) : Int) := by omega
    have hat : ((A ++ x :: B).map tunR)[A.length]? = some (tunR x) := tunO_at
    have hlt : A.length < (A ++ x :: B).length := by rw [List.length_append, List.length_cons]; omega
    have hml : (A ++ x :: B).length = ((A ++ x :: B).map tunR).length := (List.length_map _).symm
    repeat' (first | (refine rg 2 (aq31 ?_); refine sops_lcall (c2) (fun i => bif Nat.beq i 2000 then 12 else bif Nat.beq i 3000 then 1100 else i) (fun i => bif Nat.beq i 2001 then 1001 else bif Nat.beq i 2002 then 1002 else bif Nat.beq i 2003 then 1003 else i) (fun _ => false) (.free rfl rfl) rfl rfl rfl (by ((repeat' (first | exact .nil | refine .cons rfl rfl rfl ?_)) <;> fail)) (.cons rfl rfl .nil) (.cons rfl rfl (.cons rfl rfl (.cons rfl rfl .nil))) rfl rfl (fun _ h => Bool.noConfusion h) ?_; refine aq0 ?_) | refine gc ?_ | refine ct ?_ | refine cf ?_ | refine sc ?_ ?_ <;> intro hc | refine rq rfl (.cell rfl rfl (tyT rfl) (vc (vc (vc (vc .nil)))) rfl (rt .nil)) ?_)
    refine swp_weak (st' := SWr 8 [(8, .bp 8 0), (9, .t (.v (.slice none 0 0))), (10, .bp 12 0), (11, .t (.v (.int .i64 ((A.length : Nat) : Int))))] ⟨p.node, p.inc, p.next, now, A ++ x :: B, [], []⟩) (weak_sub (.cons rfl rfl rfl (.cons rfl rfl rfl (.cons rfl rfl rfl (.cons rfl rfl rfl .nil)))) (.cons rfl rfl rfl (.cons rfl rfl rfl (.cons rfl rfl rfl .nil))) (.cons rfl rfl (.cons rfl rfl (.cons rfl rfl .nil)))) ?_
    unfold SWr wB wO wC
    dsimp only
    by_cases hs : x.t.state = 1
    · rw [if_pos hs, if_pos hs]
      have hds : decide (x.t.state = 1) = true := decide_eq_true hs
      repeat' (first | refine rg 3 (aq35 ?_) | refine rg 4 (aq20 ?_) | (refine rg 5 ?_; refine oMv ?_; (first | refine sp (po_nilcheck rfl rfl) ?_ | refine sp (po_nilcheck_oe rfl rfl rfl (by first | rfl | assumption)) ?_); refine aq13 ?_) | refine gc ?_ | refine ct ?_ | refine cf ?_ | refine sc ?_ ?_ <;> intro hc | refine rq rfl (.cell rfl rfl (tyT rfl) (vc (vc (vc (vc .nil)))) rfl (rt .nil)) ?_)
      have hset := tunO_set (A := A) (B := B) (a := x) ⟨{ x.t with state := 2 }, x.u⟩
      have hset' := congrArg (fun r => (⟨118, 14, r⟩ : Own)) hset
      have hfx := hfew x (by simp)
      have hasks := hfx.asks
      rw [famT_open (a := x)]
      refine swp_weak (st' := SAx p now A B (A ++ x :: B).length { x.t with state := 2 } x.u [] []) (weak_sub (.cons rfl (by first | rfl | (first | (exact hset'))) rfl (.cons rfl (by first | rfl | (first | (exact hset'))) rfl (.cons rfl (by first | rfl | (first | (exact hset'))) rfl (.cons rfl (by first | rfl | (first | (exact hset'))) rfl .nil)))) (.cons rfl (by first | rfl | (first | (exact hset'))) rfl (.cons rfl (by first | rfl | (first | (exact hset'))) rfl (.cons rfl (by first | rfl | (first | (exact hset'))) rfl .nil))) (.cons rfl (by first | rfl | (first | (exact hset'))) (.cons rfl (by first | rfl | (first | (exact hset'))) (.cons rfl (by first | rfl | (first | (exact hset'))) .nil)))) ?_
      have hat2 : ((A ++ (⟨{ x.t with state := 2 }, x.u⟩ : ATun) :: B).map tunR)[A.length]? = some (tunR ⟨{ x.t with state := 2 }, x.u⟩) := tunO_at
      have hml2 : (A ++ x :: B).length = ((A ++ (⟨{ x.t with state := 2 }, x.u⟩ : ATun) :: B).map tunR).length := by rw [List.length_map]; exact len_mid
      have hla : (x.t.asks.map askR).length = x.t.asks.length := List.length_map _
      unfold SAx wN
      dsimp only
      refine rg 6 ?_
      refine oMv ?_
      refine sp (po_nilcheck_oe rfl rfl rfl hml2) ?_
      refine sp (fdo rfl) ?_
      refine sp (ldo rfl) ?_
      refine sops_weak (weak_openF 48 1100 1005 90000 (a := famT A) (b := famT B) (o := ⟨70, 9, x.t.asks.map askR⟩) rfl rfl rfl) ?_
      refine sp (po_len_own rfl rfl (tyS rfl)) ?_
      refine sops_weak (weak_closeV 48 1100 1005 90000 (famT A) (famT B) rfl rfl rfl rfl rfl rfl) ?_
      refine oMv ?_
      refine oN ?_
      refine gc ?_
      refine swp_for (SAc p now A B x) (fun _ => True) x.t.asks.length ?_ trivial ?_
      · unfold SAc SAx wN
        exact (weak_sub (.cons rfl (by first | rfl | (first | (rw [← hla]; rfl))) rfl (.cons rfl (by first | rfl | (first | (rw [← hla]; rfl))) rfl (.cons rfl (by first | rfl | (first | (rw [← hla]; rfl))) rfl (.cons rfl (by first | rfl | (first | (rw [← hla]; rfl))) rfl (.cons rfl (by first | rfl | (first | (rw [← hla]; rfl))) rfl (.cons rfl (by first | rfl | (first | (rw [← hla]; rfl))) rfl .nil)))))) (.cons rfl (by first | rfl | (first | (rw [← hla]; rfl))) rfl (.cons rfl (by first | rfl | (first | (rw [← hla]; rfl))) rfl (.cons rfl (by first | rfl | (first | (rw [← hla]; rfl))) rfl .nil))) (.cons rfl (by first | rfl | (first | (rw [← hla]; rfl))) (.cons rfl (by first | rfl | (first | (rw [← hla]; rfl))) (.cons rfl (by first | rfl | (first | (rw [← hla]; rfl))) .nil))))
      intro k hk _
      obtain ⟨g1, g2, g3⟩ := accK_asks now x.t k hk
      unfold SAc SAx wN
      dsimp only
      by_cases hlk : k < x.t.asks.length
      · have hq1 : x.t.asks[k]? = some x.t.asks[k] := List.getElem?_eq_getElem hlk
        have hlkI : (k : Int) < (x.t.asks.length : Int) := by omega
        have hb := hfx.each _ (List.getElem_mem hlk)
        have c3 := send_ ⟨p.node, p.inc, p.next, now, A ++ ⟨(accK now x.t k).1, x.u⟩ :: B, (accK now x.t k).2, []⟩ A B ⟨(accK now x.t k).1, x.u⟩ k x.t.asks[k] rfl (by show k < (accK now x.t k).1.asks.length; rw [g1]; exact hlk) ((g2 k (Nat.le_refl _)).trans hq1) (fun s => ⟨hb.bytes⟩) (by show (accK now x.t k).2.length ≤ _; rw [g3]; omega)
        unfold wB wO wC sendW addD at c3
        dsimp only at c3
        have hk1 := accK_s hq1 (now := now)
        generalize x.t.asks[k] = q at *
        have e1 : (sendT now (accK now x.t k).1 k q) = (accK now x.t (k + 1)).1 := by rw [hk1]
        have e2 : (accK now x.t k).2 ++ [askD (accK now x.t k).1 (sendQ now (sendS (accK now x.t k).1 q) q)] = (accK now x.t (k + 1)).2 := by rw [hk1]
        rw [e1, e2, famT_open (a := ⟨(accK now x.t k).1, x.u⟩), famT_open (a := ⟨(accK now x.t (k + 1)).1, x.u⟩), show (A ++ (⟨(accK now x.t k).1, x.u⟩ : ATun) :: B).length = (A ++ x :: B).length from len_mid, show (A ++ (⟨(accK now x.t (k + 1)).1, x.u⟩ : ATun) :: B).length = (A ++ x :: B).length from len_mid] at c3
        repeat' (first | refine rg 7 (aq3 ?_) | refine rg 8 (aq8 ?_) | refine gc ?_ | refine ct ?_ | refine cf ?_ | refine sc ?_ ?_ <;> intro hc | refine rq rfl (.cell rfl rfl (tyT rfl) (vc (vc (vc (vc .nil)))) rfl (rt .nil)) ?_)
        refine rg 9 ?_
        refine oMv ?_
        refine oMv ?_
        refine oMv ?_
        refine sops_lcall c3 (fun i => bif Nat.beq i 2000 then 12 else bif Nat.beq i 3000 then 1100 else i) (fun i => bif Nat.beq i 2001 then 1001 else bif Nat.beq i 2002 then 1002 else bif Nat.beq i 2003 then 1003 else bif Nat.beq i 1002 then 1012 else i) (fun i => Nat.beq i 2001) (.free rfl rfl) rfl rfl rfl (.cons rfl rfl rfl (.cons rfl rfl rfl (.cons rfl rfl rfl .nil))) (.cons rfl rfl (.cons rfl rfl .nil)) (.cons rfl rfl (.cons rfl rfl (.cons rfl rfl .nil))) rfl rfl (kp_id 2001 rfl rfl rfl (by rw [tunO_len, tunO_len]; exact len_mid)) ?_
        refine oN ?_
        repeat' (first | refine rg 10 (aq7 ?_) | refine gc ?_ | refine ct ?_ | refine cf ?_ | refine sc ?_ ?_ <;> intro hc | refine rq rfl (.cell rfl rfl (tyT rfl) (vc (vc (vc (vc .nil)))) rfl (rt .nil)) ?_)
        refine for_next hlk ?_ trivial
        refine (weak_ren 1012 1002 rfl rfl rfl rfl rfl rfl rfl).trans ?_
        exact (weak_sub (.cons rfl rfl rfl (.cons rfl rfl rfl (.cons rfl rfl rfl (.cons rfl rfl rfl (.cons rfl rfl rfl (.cons rfl rfl rfl .nil)))))) (.cons rfl rfl rfl (.cons rfl rfl rfl (.cons rfl rfl rfl .nil))) (.cons rfl rfl (.cons rfl rfl (.cons rfl rfl .nil))))
      · have hkl : k = x.t.asks.length := by omega
        subst hkl
        have hnI : ¬ ((x.t.asks.length : Int) < (x.t.asks.length : Int)) := by omega
        repeat' (first | refine then_go ?_ | refine swp_seq ?_ | refine for_exit ?_ | refine block_exit ?_ | refine rg 7 (aq3 ?_) | refine swp_ret ?_ | refine swp_skip ?_ | refine swp_block ?_ | refine swp_exit ?_ | refine block_go ?_ | refine block_exit ?_ | refine block_far rfl ?_ | refine block_ret ?_ | refine then_ret ?_ | refine then_exit ?_ | refine for_ret ?_ | refine for_exit ?_ | refine ct ?_ | refine cf ?_ | refine sc ?_ ?_ <;> intro hc | refine rq rfl (.cell rfl rfl (tyT rfl) (vc (vc (vc (vc .nil)))) rfl (rt .nil)) ?_)
        unfold acc
        generalize accK now x.t x.t.asks.length = R at *
        have hfam : famT A ++ (x.u, (⟨70, 9, R.1.asks.map askR⟩ : Own)) :: famT B = famT (A ++ ⟨R.1, x.u⟩ :: B) := (famT_open (a := ⟨R.1, x.u⟩)).symm
        rw [hfam]
        have hK : (A ++ (⟨R.1, x.u⟩ : ATun) :: B).map (fun a => tunT a.t) = (A.map ATun.t ++ R.1 :: B.map ATun.t).map tunT := by simp; rfl
        have hKl : (A ++ x :: B).length = ((A.map ATun.t ++ R.1 :: B.map ATun.t).map tunT).length := by simp
        have hDl : R.2.length = (R.2.map doR).length := (List.length_map _).symm
        refine swp_weak (weak_famshow 1100 1001 ((A ++ ⟨R.1, x.u⟩ :: B).map fun a : ATun => tunT a.t) (fs := famT (A ++ ⟨R.1, x.u⟩ :: B)) (o := tunO (A ++ ⟨R.1, x.u⟩ :: B)) rfl rfl (by show (List.map _ _).length = (List.map _ _).length; rw [List.length_map, List.length_map]) (by intro r hr; obtain ⟨a, _, rfl⟩ := List.mem_map.1 hr; rfl) (upl_tun (A ++ ⟨R.1, x.u⟩ :: B))) ?_
        rw [hK]
        refine swp_weak (weak_show 1001 101 rfl rfl rfl rfl) ?_
        refine swp_weak (weak_show 1002 102 rfl rfl rfl rfl) ?_
        refine swp_weak (weak_show 1003 103 rfl rfl rfl rfl) ?_
        repeat' (first | ((refine swp_any (id := 11) [[], [], [], [], [], [], [], [], [8], []] [[], [], [], [], [8], [8], [8], [8], [], []] mixed (by kernel_rfl) ?_) <;> refine yp (fun _ _ => po_move rfl rfl) ?_ <;> refine yp (fun _ _ => po_nilcheck rfl rfl) ?_ <;> refine yp (fun _ _ => po_field_bx rfl rfl (tyF rfl)) ?_ <;> (refine yp (fun _ _ => po_load_bx_agg rfl rfl (tyT rfl) rfl (vc (vc (vc (vc .nil)))) rfl) ?_) <;> refine yp (fun _ _ => po_move rfl rfl) ?_ <;> refine yp (fun _ _ => po_nilcheck rfl rfl) ?_ <;> refine yp (fun _ _ => po_field_bx rfl rfl (tyF rfl)) ?_ <;> refine yp (fun _ _ => po_load_bx rfl rfl (tyT rfl) rfl rfl) ?_ <;> refine sany_eff [(8, _)] [] (.free rfl rfl) rfl rfl (fun _ _ _ _ => e_store rfl rfl rfl rfl rfl rfl (tyT rfl) rfl rfl) ?_ <;> refine yp (fun _ _ => po_assign rfl rfl) ?_ <;> refine sany_nil ?_) | refine gc ?_ | refine ct ?_ | refine cf ?_ | refine sc ?_ ?_ <;> intro hc | refine rq rfl (.cell rfl rfl (tyT rfl) (vc (vc (vc (vc .nil)))) rfl (rt .nil)) ?_)
        exact retl (.inr rfl) rfl (.cellT rfl rfl (tyT rfl) (vc (vc (vc (vc .nil)))) rfl (.tmpT rfl (.own rfl hDl) .nil)) rfl rfl .nil .nil
    · rw [if_neg hs, if_neg hs]
      have hds : decide (x.t.state = 1) = false := decide_eq_false hs
      repeat' (first | refine rg 3 (aq35 ?_) | refine gc ?_ | refine ct ?_ | refine cf ?_ | refine sc ?_ ?_ <;> intro hc | refine rq rfl (.cell rfl rfl (tyT rfl) (vc (vc (vc (vc .nil)))) rfl (rt .nil)) ?_)
      have hK := hK0
      have hKl := hKl0
      refine swp_weak (weak_famshow 1100 1001 ((A ++ x :: B).map fun a : ATun => tunT a.t) (fs := famT (A ++ x :: B)) (o := tunO (A ++ x :: B)) rfl rfl (by show (List.map _ _).length = (List.map _ _).length; rw [List.length_map, List.length_map]) (by intro r hr; obtain ⟨a, _, rfl⟩ := List.mem_map.1 hr; rfl) (upl_tun (A ++ x :: B))) ?_
      rw [hK]
      refine swp_weak (weak_show 1001 101 rfl rfl rfl rfl) ?_
      refine swp_weak (weak_show 1002 102 rfl rfl rfl rfl) ?_
      refine swp_weak (weak_show 1003 103 rfl rfl rfl rfl) ?_
      repeat' (first | ((refine swp_any (id := 11) [[], [], [], [], [], [], [], [], [8], []] [[], [], [], [], [8], [8], [8], [8], [], []] mixed (by kernel_rfl) ?_) <;> refine yp (fun _ _ => po_move rfl rfl) ?_ <;> refine yp (fun _ _ => po_nilcheck rfl rfl) ?_ <;> refine yp (fun _ _ => po_field_bx rfl rfl (tyF rfl)) ?_ <;> (refine yp (fun _ _ => po_load_bx_agg rfl rfl (tyT rfl) rfl (vc (vc (vc (vc .nil)))) rfl) ?_) <;> refine yp (fun _ _ => po_move rfl rfl) ?_ <;> refine yp (fun _ _ => po_nilcheck rfl rfl) ?_ <;> refine yp (fun _ _ => po_field_bx rfl rfl (tyF rfl)) ?_ <;> refine yp (fun _ _ => po_load_bx rfl rfl (tyT rfl) rfl rfl) ?_ <;> refine sany_eff [(8, _)] [] (.free rfl rfl) rfl rfl (fun _ _ _ _ => e_store rfl rfl rfl rfl rfl rfl (tyT rfl) rfl rfl) ?_ <;> refine yp (fun _ _ => po_assign rfl rfl) ?_ <;> refine sany_nil ?_) | refine gc ?_ | refine ct ?_ | refine cf ?_ | refine sc ?_ ?_ <;> intro hc | refine rq rfl (.cell rfl rfl (tyT rfl) (vc (vc (vc (vc .nil)))) rfl (rt .nil)) ?_)
      exact retl (.inr rfl) rfl (.cellT rfl rfl (tyT rfl) (vc (vc (vc (vc .nil)))) rfl (.tmpT rfl (.own rfl rfl) .nil)) rfl rfl .nil .nil
end Go.Proofs.Ytabejnjnkpdjbaa.Sim
