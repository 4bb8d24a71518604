/- Merged by bundles.py: SimPo9. -/
import Derived.Test.YtabejnjnkpdjbaaU19
import Derived.Test.YtabejnjnkpdjbaaU15
/- Tick. -/
namespace Go.Proofs.Ytabejnjnkpdjbaa.Sim
set_option linter.unusedVariables false
set_option linter.unusedSimpArgs false
open Go.RowKit Mem
structure TickR where
  t : Option PTun
  d : List PDo
  f : List PFail
def tickT (now : Int) (t : PTun) : TickR :=
  if t.state = 1 then
    if 12 ≤ afterP now t.born then ⟨none, [clsD t], failsL t.asks 9⟩
    else if 3 ≤ afterP now t.since then ⟨some (sinT now t), [opnD t], []⟩
    else ⟨some t, [], []⟩
  else if t.state = 2 then
    if (beatK now t.asks).length = 0 ∧ 30 ≤ afterP now (beatU now t.used t.asks) then ⟨none, beatD now t t.asks ++ [clsD t], beatF now t.asks⟩
    else ⟨some (beatT now t t.asks []), beatD now t t.asks, beatF now t.asks⟩
  else ⟨some t, [], []⟩
def tickK (now : Int) (l : List PTun) : List PTun := l.filterMap fun t => (tickT now t).t
def tickD (now : Int) (l : List PTun) : List PDo := l.flatMap fun t => (tickT now t).d
def tickF (now : Int) (l : List PTun) : List PFail := l.flatMap fun t => (tickT now t).f
theorem tickD_s (now : Int) (l : List PTun) (t : PTun) : tickD now (l ++ [t]) = tickD now l ++ (tickT now t).d := by unfold tickD; rw [List.flatMap_append]; simp
theorem tickF_s (now : Int) (l : List PTun) (t : PTun) : tickF now (l ++ [t]) = tickF now l ++ (tickT now t).f := by unfold tickF; rw [List.flatMap_append]; simp
theorem tickK_s (now : Int) (l : List PTun) (t : PTun) : tickK now (l ++ [t]) = tickK now l ++ (tickT now t).t.toList := by
  unfold tickK; rw [List.filterMap_append, List.filterMap_cons]
  cases h : (tickT now t).t <;> simp
def tickP (p : PPool) (now : Int) : PPool := { p with tuns := tickK now p.tuns }
theorem tickD_len (now : Int) (l : List PTun) : (tickD now l).length ≤ (l.map fun t => t.asks.length).sum + l.length := by
  induction l with
  | nil => exact Nat.le_refl _
  | cons t l ih =>
    have h1 : (tickT now t).d.length ≤ t.asks.length + 1 := by
      have h2 : (beatD now t t.asks).length ≤ t.asks.length := by unfold beatD; rw [List.length_map]; exact List.length_filter_le _ _
      unfold tickT
      repeat' split
      all_goals (try simp only [List.length_append, List.length_cons, List.length_nil]) <;> omega
    unfold tickD at ih ⊢
    rw [List.flatMap_cons, List.length_append, List.map_cons, List.sum_cons, List.length_cons]; omega
theorem tickF_len (now : Int) (l : List PTun) : (tickF now l).length ≤ (l.map fun t => t.asks.length).sum := by
  induction l with
  | nil => exact Nat.le_refl _
  | cons t l ih =>
    have h1 : (tickT now t).f.length ≤ t.asks.length := by
      have h2 : (beatF now t.asks).length ≤ t.asks.length := by unfold beatF; rw [List.length_map]; exact List.length_filter_le _ _
      unfold tickT
      repeat' split
      all_goals (try simp only [List.length_nil, failsL, List.length_map]) <;> omega
    unfold tickF at ih ⊢
    rw [List.flatMap_cons, List.length_append, List.map_cons, List.sum_cons]; omega
structure TkI where
  pre : List PTun
  K : List ATun
  rest : List ATun
def zPool : List A := [.t (.v (.int .i64 0)), .t (.v (.int .u64 0)), .t (.v (.int .u64 0)), .t (.v (.slice none 0 0))]
def tkW (p : PPool) (now : Int) (x : TkI) : PWk := ⟨p.node, p.inc, p.next, now, x.K ++ x.rest, tickD now x.pre, tickF now x.pre⟩
def STk (p : PPool) (now : Int) (x : TkI) : St := ⟨[(4, .bp 4 0), (5, .t (.v (.slice none 0 0))), (6, .t (.v (.slice none 0 0))), (7, .bp 12 0), (8, .t (.v (.int .i64 (x.K.length : Int))))], (4, zPool) :: wB 12 1100 1001 1002 1003 (tkW p now x), wO 1001 1002 1003 (tkW p now x)⟩
def STy (p : PPool) (now : Int) (n : Nat) (K rest : List ATun) (b : ATun) (D : List PDo) (F : List PFail) : St := ⟨[(4, .bp 4 0), (5, .t (.v (.slice none 0 0))), (6, .t (.v (.slice none 0 0))), (7, .bp 12 0), (8, .t (.v (.int .i64 (K.length : Int)))), (9, .oe 1001 n 14 K.length 0)], [(4, zPool), (12, [.t (i64T p.node), .t (u64T p.inc), .t (u64T p.next), .own 1001 n, .t (u64T now), .own 1002 D.length, .own 1003 F.length]), (1100, [.rs (FamR (famT K ++ (b.u, ⟨70, 9, b.t.asks.map askR⟩) :: famT rest))])], [(1001, ⟨118, 14, (K ++ b :: rest).map tunR⟩), (1002, doO D), (1003, failO F)]⟩
structure TkOk (p : PPool) (now : Int) (x : TkI) : Prop where
  all : x.pre ++ x.rest.map ATun.t = p.tuns
  kept : x.K.map ATun.t = tickK now x.pre
set_option maxRecDepth 100000 in
set_option maxHeartbeats 4000000 in
theorem tick_ (p : PPool) (now : Int) (hn : p.tuns.length ≤ 500) (hq : ∀ t ∈ p.tuns, FewTun t) (hs : (p.tuns.map fun t => t.asks.length).sum ≤ 500000) : LCalls Try.prog 24 [.t (.agg (poolT p)), .t (u64T now)] [] [] (.tu [.t (.agg (poolT (tickP p now))), .t (.sl 18 ((tickD now p.tuns).map doR)), .t (.sl 2 ((tickF now p.tuns).map failR))]) [] [] := by
  have c1 := with_ p now (by omega) hq
  refine lcalls_of Try.func24 rfl rfl Try.ntmps24 rfl ?_
  unfold poolT
  repeat' (first | (refine rg 0 ?_; refine sbx ?_; refine sal str58 ?_; refine aq19 ?_) | refine gc ?_ | refine ct ?_ | refine cf ?_ | refine sc ?_ ?_ <;> intro hc | refine rq rfl (.cell rfl rfl (tyT rfl) (vc (vc (vc (vc .nil)))) rfl (rt (rt .nil))) ?_)
  refine rg 1 ?_
  refine sp (po_load_bx_agg rfl rfl (tyT rfl) rfl (vc (vc (vc (vc .nil)))) rfl) ?_
  refine oMv ?_
  refine sops_ecall c1 (fun i => i) (fun i => i) (.free rfl rfl) rfl rfl rfl (.cons rfl rfl rfl (.cons rfl rfl rfl .nil)) .nil .nil rfl (fun _ => rfl) fun A => ?_
  obtain ⟨l, hl⟩ := A
  refine oAs ?_
  refine oN ?_
  repeat' (first | refine rg 2 (aq0 ?_) | refine gc ?_ | refine ct ?_ | refine cf ?_ | refine sc ?_ ?_ <;> intro hc | refine rq rfl (.cell rfl rfl (tyT rfl) (vc (vc (vc (vc .nil)))) rfl (rt (rt .nil))) ?_)
  refine swp_fam (STk p now) (TkOk p now) (fun x => x.rest.length) ⟨[], [], l⟩ ?_ ⟨hl, rfl⟩ ?_
  · unfold STk wB wO wC tkW
    dsimp only
    exact (weak_sub (.cons rfl rfl rfl (.cons rfl rfl rfl (.cons rfl rfl rfl (.cons rfl rfl rfl (.cons rfl rfl rfl .nil))))) (.cons rfl rfl rfl (.cons rfl rfl rfl (.cons rfl rfl rfl .nil))) (.cons rfl rfl (.cons rfl rfl (.cons rfl rfl .nil))))
  rintro ⟨pre, K, rest⟩ ⟨hall, hkept⟩
  dsimp only at hall hkept
  unfold STk wB wO wC tkW
  dsimp only
  have hml : ((K ++ rest).map tunR).length = (K ++ rest).length := List.length_map _
  have hTl : (K ++ rest).length ≤ 500 := by
    have h1 := congrArg List.length hall
    have h2 := congrArg List.length hkept
    have h3 : (tickK now pre).length ≤ pre.length := by unfold tickK; exact List.length_filterMap_le _ _
    rw [List.length_append, List.length_map] at h1
    rw [List.length_map] at h2
    rw [List.length_append]; omega
  refine gc ?_
  refine rg 3 ?_
  refine oMv ?_
  refine oMv ?_
  refine sp (po_nilcheck rfl rfl) ?_
  refine oFb ?_
  refine oFb ?_
  refine oLb ?_
  refine sp (po_len_own rfl rfl (tyS rfl)) ?_
  refine oCm ?_
  refine oN ?_
  rcases rest with _ | ⟨a, rest⟩
  · rw [List.map_nil, List.append_nil] at hall
    subst hall
    rw [List.append_nil]
    have hge : ¬ ((K.length : Int) < (K.length : Int)) := by omega
    repeat' (first | refine then_go ?_ | refine swp_seq ?_ | refine fam_exit ?_ | refine block_exit ?_ | (refine rg 0 ?_; refine sbx ?_; refine sal str58 ?_; refine aq19 ?_) | refine swp_ret ?_ | refine swp_skip ?_ | refine swp_block ?_ | refine swp_exit ?_ | refine block_go ?_ | refine block_exit ?_ | refine block_far rfl ?_ | refine block_ret ?_ | refine then_ret ?_ | refine then_exit ?_ | refine for_ret ?_ | refine for_exit ?_ | refine ct ?_ | refine cf ?_ | refine sc ?_ ?_ <;> intro hc | refine rq rfl (.cell rfl rfl (tyT rfl) (vc (vc (vc (vc .nil)))) rfl (rt (rt .nil))) ?_)
    have hK : K.map (fun a => tunT a.t) = (tickK now p.tuns).map tunT := by rw [← hkept, List.map_map]; rfl
    have hKl : K.length = ((tickK now p.tuns).map tunT).length := by rw [← hK, List.length_map]
    refine swp_weak (weak_famshow 1100 1001 (K.map fun a : ATun => tunT a.t) (fs := famT K) (o := tunO K) rfl rfl (by show (List.map _ _).length = (List.map _ _).length; rw [List.length_map, List.length_map]) (by intro r hr; obtain ⟨a, _, rfl⟩ := List.mem_map.1 hr; rfl) (upl_tun K)) ?_
    rw [hK]
    refine swp_weak (weak_show 1001 101 rfl rfl rfl rfl) ?_
    refine swp_weak (weak_show 1002 102 rfl rfl rfl rfl) ?_
    refine swp_weak (weak_show 1003 103 rfl rfl rfl rfl) ?_
    have hDl : (tickD now p.tuns).length = ((tickD now p.tuns).map doR).length := (List.length_map _).symm
    have hFl : (tickF now p.tuns).length = ((tickF now p.tuns).map failR).length := (List.length_map _).symm
    unfold zPool
    repeat' (first | ((refine swp_any (id := 16) [[], [], [], [], [], [], [], [], [], [], [], [], [4], [], []] [[], [], [], [], [4], [4], [4], [4], [4], [4], [4], [4], [], [], []] mixed (by kernel_rfl) ?_) <;> refine yp (fun _ _ => po_move rfl rfl) ?_ <;> refine yp (fun _ _ => po_nilcheck rfl rfl) ?_ <;> refine yp (fun _ _ => po_field_bx rfl rfl (tyF rfl)) ?_ <;> (refine yp (fun _ _ => po_load_bx_agg rfl rfl (tyT rfl) rfl (vc (vc (vc (vc .nil)))) rfl) ?_) <;> refine yp (fun _ _ => po_move rfl rfl) ?_ <;> refine yp (fun _ _ => po_nilcheck rfl rfl) ?_ <;> refine yp (fun _ _ => po_field_bx rfl rfl (tyF rfl)) ?_ <;> refine yp (fun _ _ => po_load_bx rfl rfl (tyT rfl) rfl rfl) ?_ <;> refine yp (fun _ _ => po_move rfl rfl) ?_ <;> refine yp (fun _ _ => po_nilcheck rfl rfl) ?_ <;> refine yp (fun _ _ => po_field_bx rfl rfl (tyF rfl)) ?_ <;> refine yp (fun _ _ => po_load_bx rfl rfl (tyT rfl) rfl rfl) ?_ <;> refine sany_eff [(4, _)] [] (.free rfl rfl) rfl rfl (fun _ _ _ _ => e_store rfl rfl rfl rfl rfl rfl (tyT rfl) rfl rfl) ?_ <;> refine yp (fun _ _ => po_assign rfl rfl) ?_ <;> refine yp (fun _ _ => po_assign rfl rfl) ?_ <;> refine sany_nil ?_) | refine gc ?_ | refine ct ?_ | refine cf ?_ | refine sc ?_ ?_ <;> intro hc | refine rq rfl (.cell rfl rfl (tyT rfl) (vc (vc (vc (vc .nil)))) rfl (rt (rt .nil))) ?_)
    exact retl (.inr rfl) rfl (.cellT rfl rfl (tyT rfl) (vc (vc (vc (vc .nil)))) rfl (.tmpT rfl (.own rfl hDl) (.tmpT rfl (.own rfl hFl) .nil))) rfl rfl .nil .nil
  · have hat : ((K ++ a :: rest).map tunR)[K.length]? = some (tunR a) := tunO_at
    have hlt : K.length < (K ++ a :: rest).length := by rw [List.length_append, List.length_cons]; omega
    have hltI : (K.length : Int) < ((K ++ a :: rest).length : Int) := by omega
    have hnl : (K ++ a :: rest).length = ((K ++ a :: rest).map tunR).length := hml.symm
    have hmem : a.t ∈ p.tuns := by rw [← hall]; simp
    have hfew := hq _ hmem
    have hsum : (pre.map fun t => t.asks.length).sum + a.t.asks.length ≤ 500000 := by
      have h1 := congrArg (fun l => (List.map (fun t => t.asks.length) l).sum) hall
      simp only [List.map_append, List.map_cons, List.sum_append, List.sum_cons] at h1
      omega
    have hpre : pre.length ≤ 500 := by have h1 := congrArg List.length hall; rw [List.length_append] at h1; omega
    have hDl : (tickD now pre).length ≤ 600000 := by have := tickD_len now pre; omega
    have hFl : (tickF now pre).length ≤ 600000 := by have := tickF_len now pre; omega
    have hall2 : (pre ++ [a.t]) ++ rest.map ATun.t = p.tuns := by rw [← hall]; simp
    have c2 := after_ ⟨p.node, p.inc, p.next, now, K ++ a :: rest, tickD now pre, tickF now pre⟩ a.t.born
    have c3 := after_ ⟨p.node, p.inc, p.next, now, K ++ a :: rest, tickD now pre, tickF now pre⟩ a.t.since
    unfold wX wO wC at c2 c3
    dsimp only at c2 c3
    by_cases h1 : a.t.state = 1
    · repeat' (first | refine rg 4 (aq20 ?_) | (refine rg 5 ?_; refine oMv ?_; (first | refine sp (po_nilcheck rfl rfl) ?_ | refine sp (po_nilcheck_oe rfl rfl rfl (by first | rfl | assumption)) ?_); refine aq21 ?_) | refine rg 6 (aq17 ?_) | (refine rg 7 (aq16 ?_); (first | refine sp (po_nilcheck rfl rfl) ?_ | refine sp (po_nilcheck_oe rfl rfl rfl (by first | rfl | assumption)) ?_); refine aq15 ?_; refine sops_lcall (c2) (fun i => bif Nat.beq i 2000 then 12 else bif Nat.beq i 3000 then 1100 else i) (fun i => bif Nat.beq i 2001 then 1001 else bif Nat.beq i 2002 then 1002 else bif Nat.beq i 2003 then 1003 else i) (fun i => Nat.beq i 2001) (.free rfl rfl) rfl rfl rfl (by ((repeat' (first | exact .nil | refine .cons rfl rfl rfl ?_)) <;> fail)) (.cons rfl rfl .nil) (.cons rfl rfl (.cons rfl rfl (.cons rfl rfl .nil))) rfl rfl (kp_id 2001 rfl rfl rfl (by rfl)) ?_; refine aq3 ?_) | refine gc ?_ | refine ct ?_ | refine cf ?_ | refine sc ?_ ?_ <;> intro hc | refine rq rfl (.cell rfl rfl (tyT rfl) (vc (vc (vc (vc .nil)))) rfl (rt (rt .nil))) ?_)
      · have h12 : 12 ≤ afterP now a.t.born := by simpa using hc
        have htk : tickT now a.t = ⟨none, [clsD a.t], failsL a.t.asks 9⟩ := by unfold tickT; rw [if_pos h1, if_pos h12]
        have c4 := goes_ ⟨p.node, p.inc, p.next, now, K ++ a :: rest, tickD now pre, tickF now pre⟩ K rest a 9 rfl hfew.asks (by dsimp only; omega) (by dsimp only; omega) (by dsimp only; omega)
        unfold wB wO wC goW outW failW addD at c4
        dsimp only at c4
        repeat' (first | (refine rg 8 (aq16 ?_); refine sops_lcall (c4) (fun i => bif Nat.beq i 2000 then 12 else bif Nat.beq i 3000 then 1100 else i) (fun i => bif Nat.beq i 2001 then 1001 else bif Nat.beq i 2002 then 1002 else bif Nat.beq i 2003 then 1003 else bif Nat.beq i 1001 then 1011 else bif Nat.beq i 1002 then 1012 else bif Nat.beq i 1003 then 1013 else i) (fun _ => false) (.free rfl rfl) rfl rfl rfl (by ((repeat' (first | exact .nil | refine .cons rfl rfl rfl ?_)) <;> fail)) (.cons rfl rfl (.cons rfl rfl .nil)) (.cons rfl rfl (.cons rfl rfl (.cons rfl rfl .nil))) rfl rfl (fun _ h => Bool.noConfusion h) ?_; refine oN ?_) | refine gc ?_ | refine ct ?_ | refine cf ?_ | refine sc ?_ ?_ <;> intro hc | refine rq rfl (.cell rfl rfl (tyT rfl) (vc (vc (vc (vc .nil)))) rfl (rt (rt .nil))) ?_)
        refine fam_next ⟨pre ++ [a.t], K, rest⟩ (by simp) ?_ ⟨hall2, by rw [tickK_s, htk]; dsimp only; rw [hkept]; exact (List.append_nil _).symm⟩
        dsimp only
        rw [tickD_s, tickF_s, htk]
        refine (weak_ren 1011 1001 rfl rfl rfl rfl rfl rfl rfl).trans ?_
        refine (weak_ren 1012 1002 rfl rfl rfl rfl rfl rfl rfl).trans ?_
        refine (weak_ren 1013 1003 rfl rfl rfl rfl rfl rfl rfl).trans ?_
        exact (weak_sub (.cons rfl rfl rfl (.cons rfl rfl rfl (.cons rfl rfl rfl (.cons rfl rfl rfl (.cons rfl rfl rfl .nil))))) (.cons rfl rfl rfl (.cons rfl rfl rfl (.cons rfl rfl rfl .nil))) (.cons rfl rfl (.cons rfl rfl (.cons rfl rfl .nil))))
      · have h12 : ¬ 12 ≤ afterP now a.t.born := by simpa using hc
        repeat' (first | (refine rg 9 (aq16 ?_); (first | refine sp (po_nilcheck rfl rfl) ?_ | refine sp (po_nilcheck_oe rfl rfl rfl (by first | rfl | assumption)) ?_); refine aq15 ?_; refine sops_lcall (c3) (fun i => bif Nat.beq i 2000 then 12 else bif Nat.beq i 3000 then 1100 else i) (fun i => bif Nat.beq i 2001 then 1001 else bif Nat.beq i 2002 then 1002 else bif Nat.beq i 2003 then 1003 else i) (fun i => Nat.beq i 2001) (.free rfl rfl) rfl rfl rfl (by ((repeat' (first | exact .nil | refine .cons rfl rfl rfl ?_)) <;> fail)) (.cons rfl rfl .nil) (.cons rfl rfl (.cons rfl rfl (.cons rfl rfl .nil))) rfl rfl (kp_id 2001 rfl rfl rfl (by rfl)) ?_; refine aq3 ?_) | refine gc ?_ | refine ct ?_ | refine cf ?_ | refine sc ?_ ?_ <;> intro hc | refine rq rfl (.cell rfl rfl (tyT rfl) (vc (vc (vc (vc .nil)))) rfl (rt (rt .nil))) ?_)
        · have h3 : 3 ≤ afterP now a.t.since := by simpa using hc
          have htk : tickT now a.t = ⟨some (sinT now a.t), [opnD a.t], []⟩ := by unfold tickT; rw [if_pos h1, if_neg h12, if_pos h3]
          have c4 := open_ ⟨p.node, p.inc, p.next, now, K ++ a :: rest, tickD now pre, tickF now pre⟩ K rest a rfl (by dsimp only; omega)
          unfold wX wO wC openW addD at c4
          dsimp only at c4
          rw [show (K ++ (⟨sinT now a.t, a.u⟩ : ATun) :: rest).length = (K ++ a :: rest).length from len_mid] at c4
          repeat' (first | (refine rg 10 (aq16 ?_); refine sops_lcall (c4) (fun i => bif Nat.beq i 2000 then 12 else bif Nat.beq i 3000 then 1100 else i) (fun i => bif Nat.beq i 2001 then 1001 else bif Nat.beq i 2002 then 1002 else bif Nat.beq i 2003 then 1003 else bif Nat.beq i 1002 then 1012 else i) (fun _ => false) (.free rfl rfl) rfl rfl rfl (by ((repeat' (first | exact .nil | refine .cons rfl rfl rfl ?_)) <;> fail)) (.cons rfl rfl .nil) (.cons rfl rfl (.cons rfl rfl (.cons rfl rfl .nil))) rfl rfl (fun _ h => Bool.noConfusion h) ?_; refine oN ?_) | refine rg 15 (aq18 ?_) | refine gc ?_ | refine ct ?_ | refine cf ?_ | refine sc ?_ ?_ <;> intro hc | refine rq rfl (.cell rfl rfl (tyT rfl) (vc (vc (vc (vc .nil)))) rfl (rt (rt .nil))) ?_)
          refine fam_next ⟨pre ++ [a.t], K ++ [⟨sinT now a.t, a.u⟩], rest⟩ (by simp) ?_ ⟨hall2, by rw [tickK_s, htk, List.map_append, hkept]; rfl⟩
          dsimp only
          rw [tickD_s, tickF_s, htk]
          dsimp only
          rw [List.append_assoc K, List.append_nil, show famT (K ++ ([(⟨sinT now a.t, a.u⟩ : ATun)] ++ rest)) = famT (K ++ a :: rest) from by rw [famT_open (a := a)]; exact famT_open (a := ⟨sinT now a.t, a.u⟩)]
          have e6 : (K ++ ([(⟨sinT now a.t, a.u⟩ : ATun)] ++ rest)).length = (K ++ a :: rest).length := len_mid
          rw [e6]
          refine (weak_ren 1012 1002 rfl rfl rfl rfl rfl rfl rfl).trans ?_
          exact (weak_sub (.cons rfl (by first | rfl | (first | (rw [List.length_append]; rfl))) rfl (.cons rfl (by first | rfl | (first | (rw [List.length_append]; rfl))) rfl (.cons rfl (by first | rfl | (first | (rw [List.length_append]; rfl))) rfl (.cons rfl (by first | rfl | (first | (rw [List.length_append]; rfl))) rfl (.cons rfl (by first | rfl | (first | (rw [List.length_append]; rfl))) rfl .nil))))) (.cons rfl (by first | rfl | (first | (rw [List.length_append]; rfl))) rfl (.cons rfl (by first | rfl | (first | (rw [List.length_append]; rfl))) rfl (.cons rfl (by first | rfl | (first | (rw [List.length_append]; rfl))) rfl .nil))) (.cons rfl (by first | rfl | (first | (rw [List.length_append]; rfl))) (.cons rfl (by first | rfl | (first | (rw [List.length_append]; rfl))) (.cons rfl (by first | rfl | (first | (rw [List.length_append]; rfl))) .nil))))
        · have h3 : ¬ 3 ≤ afterP now a.t.since := by simpa using hc
          have htk : tickT now a.t = ⟨some a.t, [], []⟩ := by unfold tickT; rw [if_pos h1, if_neg h12, if_neg h3]
          repeat' (first | refine rg 15 (aq18 ?_) | refine gc ?_ | refine ct ?_ | refine cf ?_ | refine sc ?_ ?_ <;> intro hc | refine rq rfl (.cell rfl rfl (tyT rfl) (vc (vc (vc (vc .nil)))) rfl (rt (rt .nil))) ?_)
          refine fam_next ⟨pre ++ [a.t], K ++ [a], rest⟩ (by simp) ?_ ⟨hall2, by rw [tickK_s, htk, List.map_append, hkept]; rfl⟩
          dsimp only
          rw [tickD_s, tickF_s, htk]
          dsimp only
          rw [List.append_assoc K, List.append_nil, List.append_nil]
          exact (weak_sub (.cons rfl (by first | rfl | (first | (rw [List.length_append]; rfl))) rfl (.cons rfl (by first | rfl | (first | (rw [List.length_append]; rfl))) rfl (.cons rfl (by first | rfl | (first | (rw [List.length_append]; rfl))) rfl (.cons rfl (by first | rfl | (first | (rw [List.length_append]; rfl))) rfl (.cons rfl (by first | rfl | (first | (rw [List.length_append]; rfl))) rfl .nil))))) (.cons rfl (by first | rfl | (first | (rw [List.length_append]; rfl))) rfl (.cons rfl (by first | rfl | (first | (rw [List.length_append]; rfl))) rfl (.cons rfl (by first | rfl | (first | (rw [List.length_append]; rfl))) rfl .nil))) (.cons rfl (by first | rfl | (first | (rw [List.length_append]; rfl))) (.cons rfl (by first | rfl | (first | (rw [List.length_append]; rfl))) (.cons rfl (by first | rfl | (first | (rw [List.length_append]; rfl))) .nil))))
    · by_cases h2 : a.t.state = 2
      · repeat' (first | refine rg 4 (aq20 ?_) | (refine rg 5 ?_; refine oMv ?_; (first | refine sp (po_nilcheck rfl rfl) ?_ | refine sp (po_nilcheck_oe rfl rfl rfl (by first | rfl | assumption)) ?_); refine aq21 ?_) | refine rg 6 (aq17 ?_) | refine rg 11 (aq17 ?_) | refine gc ?_ | refine ct ?_ | refine cf ?_ | refine sc ?_ ?_ <;> intro hc | refine rq rfl (.cell rfl rfl (tyT rfl) (vc (vc (vc (vc .nil)))) rfl (rt (rt .nil))) ?_)
        have c5 := beats_ ⟨p.node, p.inc, p.next, now, K ++ a :: rest, tickD now pre, tickF now pre⟩ K rest a rfl hfew (by dsimp only; omega) (by dsimp only; omega)
        unfold wB wO wC beatW at c5
        dsimp only at c5
        refine rg 12 ?_
        refine oMv ?_
        refine oMv ?_
        refine sops_ecallk c5 (fun i => bif Nat.beq i 2000 then 12 else bif Nat.beq i 3000 then 1100 else i) (fun i => bif Nat.beq i 2001 then 1001 else bif Nat.beq i 2002 then 1002 else bif Nat.beq i 2003 then 1003 else bif Nat.beq i 1002 then 1012 else bif Nat.beq i 1003 then 1013 else i) (fun i => Nat.beq i 2001) (.free rfl rfl) rfl rfl rfl (.cons rfl rfl rfl (.cons rfl rfl rfl .nil)) (.cons rfl rfl (.cons rfl rfl .nil)) (.cons rfl rfl (.cons rfl rfl (.cons rfl rfl .nil))) rfl (fun _ => rfl) (fun _ => kp_id 2001 rfl rfl rfl (by rw [tunO_len, tunO_len]; exact len_mid)) fun u => ?_
        refine oN ?_
        have hlm : (K ++ (⟨beatT now a.t a.t.asks [], u⟩ : ATun) :: rest).length = (K ++ a :: rest).length := len_mid
        rw [hlm, famT_open (a := ⟨beatT now a.t a.t.asks [], u⟩)]
        refine then_go ?_
        refine swp_weak (weak_ren 1012 1002 rfl rfl rfl rfl rfl rfl rfl) ?_
        refine swp_weak (weak_ren 1013 1003 rfl rfl rfl rfl rfl rfl rfl) ?_
        refine swp_weak (st' := STy p now (K ++ a :: rest).length K rest ⟨beatT now a.t a.t.asks [], u⟩ (tickD now pre ++ beatD now a.t a.t.asks) (tickF now pre ++ beatF now a.t.asks)) (weak_sub (.cons rfl rfl rfl (.cons rfl rfl rfl (.cons rfl rfl rfl (.cons rfl rfl rfl (.cons rfl rfl rfl (.cons rfl rfl rfl .nil)))))) (.cons rfl rfl rfl (.cons rfl rfl rfl (.cons rfl rfl rfl .nil))) (.cons rfl rfl (.cons rfl rfl (.cons rfl rfl .nil)))) ?_
        have hat2 : ((K ++ (⟨beatT now a.t a.t.asks [], u⟩ : ATun) :: rest).map tunR)[K.length]? = some (tunR ⟨beatT now a.t a.t.asks [], u⟩) := tunO_at
        have hnl2 : (K ++ a :: rest).length = ((K ++ (⟨beatT now a.t a.t.asks [], u⟩ : ATun) :: rest).map tunR).length := by rw [List.length_map]; exact len_mid
        have hlk : ((beatT now a.t a.t.asks []).asks.map askR).length = (beatK now a.t.asks).length := by rw [List.length_map]; show (beatK now a.t.asks ++ []).length = _; rw [List.append_nil]
        have hbD : (beatD now a.t a.t.asks).length ≤ 1000 := by unfold beatD; rw [List.length_map]; exact Nat.le_trans (List.length_filter_le _ _) hfew.asks
        have hbF : (beatF now a.t.asks).length ≤ 1000 := by unfold beatF; rw [List.length_map]; exact Nat.le_trans (List.length_filter_le _ _) hfew.asks
        have hbK : (beatT now a.t a.t.asks []).asks.length ≤ 1000 := by
          show (beatK now a.t.asks ++ []).length ≤ _
          rw [List.append_nil]; unfold beatK; rw [List.length_map]; exact Nat.le_trans (List.length_filter_le _ _) hfew.asks
        have c6 := after_ ⟨p.node, p.inc, p.next, now, K ++ (⟨beatT now a.t a.t.asks [], u⟩ : ATun) :: rest, tickD now pre ++ beatD now a.t a.t.asks, tickF now pre ++ beatF now a.t.asks⟩ (beatU now a.t.used a.t.asks)
        unfold wX wO wC at c6
        dsimp only at c6
        rw [hlm] at c6
        unfold STy
        dsimp only
        refine gc ?_
        refine rg 13 ?_
        refine oMv ?_
        refine sp (po_nilcheck_oe rfl rfl rfl hnl2) ?_
        refine sp (fdo rfl) ?_
        refine sp (ldo rfl) ?_
        refine sops_weak (weak_openF 62 1100 1005 90000 (a := famT K) (b := famT rest) (o := ⟨70, 9, (beatT now a.t a.t.asks []).asks.map askR⟩) rfl rfl rfl) ?_
        refine sp (po_len_own rfl rfl (tyS rfl)) ?_
        refine sops_weak (weak_closeV 62 1100 1005 90000 (famT K) (famT rest) rfl rfl rfl rfl rfl rfl) ?_
        refine oCm ?_
        refine oMv ?_
        refine ssp (fun hc => ?_) (fun hc => ?_)
        · refine oMv ?_
          refine oMv ?_
          refine sp (po_nilcheck_oe rfl rfl rfl hnl2) ?_
          refine sp (fdo rfl) ?_
          refine sp (ldo rfl) ?_
          refine sops_lcall c6 (fun i => bif Nat.beq i 2000 then 12 else bif Nat.beq i 3000 then 1100 else i) (fun i => bif Nat.beq i 2001 then 1001 else bif Nat.beq i 2002 then 1002 else bif Nat.beq i 2003 then 1003 else i) (fun i => Nat.beq i 2001) gy rfl rfl rfl (.cons rfl rfl rfl (.cons rfl rfl rfl .nil)) (.cons rfl rfl .nil) (.cons rfl rfl (.cons rfl rfl (.cons rfl rfl .nil))) rfl rfl (kp_id 2001 rfl rfl rfl rfl) ?_
          refine oCm ?_
          refine oPt ?_
          refine oN ?_
          have hz : (beatK now a.t.asks).length = 0 := by
            have h9 : (((beatT now a.t a.t.asks []).asks.map askR).length : Int) = 0 := of_decide_eq_true hc
            rw [hlk] at h9; omega
          by_cases h30 : 30 ≤ afterP now (beatU now a.t.used a.t.asks)
          · have hk0 : beatK now a.t.asks = [] := List.eq_nil_of_length_eq_zero hz
            have htk : tickT now a.t = ⟨none, beatD now a.t a.t.asks ++ [clsD a.t], beatF now a.t.asks⟩ := by unfold tickT; rw [if_neg h1, if_pos h2, if_pos ⟨hz, h30⟩]
            have c7 := goes_ ⟨p.node, p.inc, p.next, now, K ++ (⟨beatT now a.t a.t.asks [], u⟩ : ATun) :: rest, tickD now pre ++ beatD now a.t a.t.asks, tickF now pre ++ beatF now a.t.asks⟩ K rest ⟨beatT now a.t a.t.asks [], u⟩ 0 rfl hbK (by dsimp only; rw [List.length_append]; omega) (by dsimp only; rw [hlm]; omega) (by dsimp only; rw [List.length_append]; omega)
            unfold wB wO wC goW outW failW addD at c7
            dsimp only at c7
            rw [hlm, famT_open (a := ⟨beatT now a.t a.t.asks [], u⟩), show failsL (beatT now a.t a.t.asks []).asks 0 = [] from by show failsL (beatK now a.t.asks ++ []) 0 = []; rw [hk0]; rfl, List.append_nil] at c7
            repeat' (first | (refine rg 14 (aq16 ?_); refine sops_lcall (c7) (fun i => bif Nat.beq i 2000 then 12 else bif Nat.beq i 3000 then 1100 else i) (fun i => bif Nat.beq i 2001 then 1001 else bif Nat.beq i 2002 then 1002 else bif Nat.beq i 2003 then 1003 else bif Nat.beq i 1001 then 1011 else bif Nat.beq i 1002 then 1012 else bif Nat.beq i 1003 then 1013 else i) (fun _ => false) (.free rfl rfl) rfl rfl rfl (by ((repeat' (first | exact .nil | refine .cons rfl rfl rfl ?_)) <;> fail)) (.cons rfl rfl (.cons rfl rfl .nil)) (.cons rfl rfl (.cons rfl rfl (.cons rfl rfl .nil))) rfl rfl (fun _ h => Bool.noConfusion h) ?_; refine oN ?_) | refine gc ?_ | refine ct ?_ | refine cf ?_ | refine sc ?_ ?_ <;> intro hc | refine rq rfl (.cell rfl rfl (tyT rfl) (vc (vc (vc (vc .nil)))) rfl (rt (rt .nil))) ?_)
            refine fam_next ⟨pre ++ [a.t], K, rest⟩ (by simp) ?_ ⟨hall2, by rw [tickK_s, htk]; dsimp only; rw [hkept]; exact (List.append_nil _).symm⟩
            dsimp only
            rw [tickD_s, tickF_s, htk, ← List.append_assoc]
            refine (weak_ren 1011 1001 rfl rfl rfl rfl rfl rfl rfl).trans ?_
            refine (weak_ren 1012 1002 rfl rfl rfl rfl rfl rfl rfl).trans ?_
            refine (weak_ren 1013 1003 rfl rfl rfl rfl rfl rfl rfl).trans ?_
            exact (weak_sub (.cons rfl rfl rfl (.cons rfl rfl rfl (.cons rfl rfl rfl (.cons rfl rfl rfl (.cons rfl rfl rfl .nil))))) (.cons rfl rfl rfl (.cons rfl rfl rfl (.cons rfl rfl rfl .nil))) (.cons rfl rfl (.cons rfl rfl (.cons rfl rfl .nil))))
          · have hno : ¬ ((beatK now a.t.asks).length = 0 ∧ 30 ≤ afterP now (beatU now a.t.used a.t.asks)) := fun h => h30 h.2
            have htk : tickT now a.t = ⟨some (beatT now a.t a.t.asks []), beatD now a.t a.t.asks, beatF now a.t.asks⟩ := by unfold tickT; rw [if_neg h1, if_pos h2, if_neg hno]
            repeat' (first | refine rg 15 (aq18 ?_) | refine gc ?_ | refine ct ?_ | refine cf ?_ | refine sc ?_ ?_ <;> intro hc | refine rq rfl (.cell rfl rfl (tyT rfl) (vc (vc (vc (vc .nil)))) rfl (rt (rt .nil))) ?_)
            refine fam_next ⟨pre ++ [a.t], K ++ [⟨beatT now a.t a.t.asks [], u⟩], rest⟩ (by simp) ?_ ⟨hall2, by rw [tickK_s, htk, List.map_append, hkept]; rfl⟩
            dsimp only
            rw [tickD_s, tickF_s, htk]
            dsimp only
            rw [List.append_assoc K, show (K ++ ([(⟨beatT now a.t a.t.asks [], u⟩ : ATun)] ++ rest)).length = (K ++ a :: rest).length from len_mid, show famT (K ++ ([(⟨beatT now a.t a.t.asks [], u⟩ : ATun)] ++ rest)) = famT K ++ (u, askO (beatT now a.t a.t.asks [])) :: famT rest from famT_open]
            exact (weak_sub (.cons rfl (by first | rfl | (first | (rw [List.length_append]; rfl))) rfl (.cons rfl (by first | rfl | (first | (rw [List.length_append]; rfl))) rfl (.cons rfl (by first | rfl | (first | (rw [List.length_append]; rfl))) rfl (.cons rfl (by first | rfl | (first | (rw [List.length_append]; rfl))) rfl (.cons rfl (by first | rfl | (first | (rw [List.length_append]; rfl))) rfl .nil))))) (.cons rfl (by first | rfl | (first | (rw [List.length_append]; rfl))) rfl (.cons rfl (by first | rfl | (first | (rw [List.length_append]; rfl))) rfl (.cons rfl (by first | rfl | (first | (rw [List.length_append]; rfl))) rfl .nil))) (.cons rfl (by first | rfl | (first | (rw [List.length_append]; rfl))) (.cons rfl (by first | rfl | (first | (rw [List.length_append]; rfl))) (.cons rfl (by first | rfl | (first | (rw [List.length_append]; rfl))) .nil))))
        · refine oK ?_
          refine oK ?_
          refine oK ?_
          refine oK ?_
          refine oK ?_
          refine oK ?_
          refine oK ?_
          refine oPf ?_
          refine oN ?_
          have hz : ¬ (beatK now a.t.asks).length = 0 := by
            have h9 : ¬ (((beatT now a.t a.t.asks []).asks.map askR).length : Int) = 0 := of_decide_eq_false hc
            rw [hlk] at h9; omega
          have hno : ¬ ((beatK now a.t.asks).length = 0 ∧ 30 ≤ afterP now (beatU now a.t.used a.t.asks)) := fun h => hz h.1
          have htk : tickT now a.t = ⟨some (beatT now a.t a.t.asks []), beatD now a.t a.t.asks, beatF now a.t.asks⟩ := by unfold tickT; rw [if_neg h1, if_pos h2, if_neg hno]
          repeat' (first | refine rg 15 (aq18 ?_) | refine gc ?_ | refine ct ?_ | refine cf ?_ | refine sc ?_ ?_ <;> intro hc | refine rq rfl (.cell rfl rfl (tyT rfl) (vc (vc (vc (vc .nil)))) rfl (rt (rt .nil))) ?_)
          refine fam_next ⟨pre ++ [a.t], K ++ [⟨beatT now a.t a.t.asks [], u⟩], rest⟩ (by simp) ?_ ⟨hall2, by rw [tickK_s, htk, List.map_append, hkept]; rfl⟩
          dsimp only
          rw [tickD_s, tickF_s, htk]
          dsimp only
          rw [List.append_assoc K, show (K ++ ([(⟨beatT now a.t a.t.asks [], u⟩ : ATun)] ++ rest)).length = (K ++ a :: rest).length from len_mid, show famT (K ++ ([(⟨beatT now a.t a.t.asks [], u⟩ : ATun)] ++ rest)) = famT K ++ (u, askO (beatT now a.t a.t.asks [])) :: famT rest from famT_open]
          exact (weak_sub (.cons rfl (by first | rfl | (first | (rw [List.length_append]; rfl))) rfl (.cons rfl (by first | rfl | (first | (rw [List.length_append]; rfl))) rfl (.cons rfl (by first | rfl | (first | (rw [List.length_append]; rfl))) rfl (.cons rfl (by first | rfl | (first | (rw [List.length_append]; rfl))) rfl (.cons rfl (by first | rfl | (first | (rw [List.length_append]; rfl))) rfl .nil))))) (.cons rfl (by first | rfl | (first | (rw [List.length_append]; rfl))) rfl (.cons rfl (by first | rfl | (first | (rw [List.length_append]; rfl))) rfl (.cons rfl (by first | rfl | (first | (rw [List.length_append]; rfl))) rfl .nil))) (.cons rfl (by first | rfl | (first | (rw [List.length_append]; rfl))) (.cons rfl (by first | rfl | (first | (rw [List.length_append]; rfl))) (.cons rfl (by first | rfl | (first | (rw [List.length_append]; rfl))) .nil))))
      · have htk : tickT now a.t = ⟨some a.t, [], []⟩ := by unfold tickT; rw [if_neg h1, if_neg h2]
        repeat' (first | refine rg 4 (aq20 ?_) | (refine rg 5 ?_; refine oMv ?_; (first | refine sp (po_nilcheck rfl rfl) ?_ | refine sp (po_nilcheck_oe rfl rfl rfl (by first | rfl | assumption)) ?_); refine aq21 ?_) | refine rg 6 (aq17 ?_) | refine rg 11 (aq17 ?_) | refine rg 15 (aq18 ?_) | refine gc ?_ | refine ct ?_ | refine cf ?_ | refine sc ?_ ?_ <;> intro hc | refine rq rfl (.cell rfl rfl (tyT rfl) (vc (vc (vc (vc .nil)))) rfl (rt (rt .nil))) ?_)
        refine fam_next ⟨pre ++ [a.t], K ++ [a], rest⟩ (by simp) ?_ ⟨hall2, by rw [tickK_s, htk, List.map_append, hkept]; rfl⟩
        dsimp only
        rw [tickD_s, tickF_s, htk]
        dsimp only
        rw [List.append_assoc K, List.append_nil, List.append_nil]
        exact (weak_sub (.cons rfl (by first | rfl | (first | (rw [List.length_append]; rfl))) rfl (.cons rfl (by first | rfl | (first | (rw [List.length_append]; rfl))) rfl (.cons rfl (by first | rfl | (first | (rw [List.length_append]; rfl))) rfl (.cons rfl (by first | rfl | (first | (rw [List.length_append]; rfl))) rfl (.cons rfl (by first | rfl | (first | (rw [List.length_append]; rfl))) rfl .nil))))) (.cons rfl (by first | rfl | (first | (rw [List.length_append]; rfl))) rfl (.cons rfl (by first | rfl | (first | (rw [List.length_append]; rfl))) rfl (.cons rfl (by first | rfl | (first | (rw [List.length_append]; rfl))) rfl .nil))) (.cons rfl (by first | rfl | (first | (rw [List.length_append]; rfl))) (.cons rfl (by first | rfl | (first | (rw [List.length_append]; rfl))) (.cons rfl (by first | rfl | (first | (rw [List.length_append]; rfl))) .nil))))
end Go.Proofs.Ytabejnjnkpdjbaa.Sim
