/- Merged by bundles.py: SimPj. -/
import Derived.Test.YtabejnjnkpdjbaaU29
import Derived.Test.YtabejnjnkpdjbaaU15
/- Ask: its pieces. -/
namespace Go.Proofs.Ytabejnjnkpdjbaa.Sim
set_option linter.unusedVariables false
set_option linter.unusedSimpArgs false
open Go.RowKit Mem
def askOl (p : PPool) (now : Int) (q : PQ) (A B : List PTun) (t : PTun) : PPool × List PDo × Int :=
  if 8 ≤ t.asks.length then (noPool, [], 3)
  else if t.state = 2 then ({ p with tuns := A ++ sendT now { t with asks := t.asks ++ [newQ now q] } t.asks.length (newQ now q) :: B }, [askD { t with asks := t.asks ++ [newQ now q] } (sendQ now (sendS { t with asks := t.asks ++ [newQ now q] } (newQ now q)) (newQ now q))], 0)
  else ({ p with tuns := A ++ { t with asks := t.asks ++ [newQ now q] } :: B }, [], 0)
def askMs {α : Type} (f : α → PTun) (l : List α) : Option (List α × List PDo) :=
  if 16 ≤ l.length then match lruI (l.map f) l.length with
    | none => none
    | some (k, _) => match l[k]? with
      | none => none
      | some y => some (l.take k ++ l.drop (k + 1), [clsD (f y)])
  else some (l, [])
def askP (p : PPool) (now peer src a b c : Int) (q : PQ) : PPool × List PDo × Int :=
  if peer = p.node ∨ peer < 1 ∨ 9 < peer ∨ q.id = 0 ∨ (0 : Int) ≤ idxP (fun t : PTun => inT q t) p.tuns then (noPool, [], 1)
  else if 4096 < q.bytes.length then (noPool, [], 6)
  else match cutT (pAsk peer src a b c) p.tuns with
    | some (A, t, B) => askOl p now q A B t
    | none => match askMs (fun t => t) p.tuns with
      | none => (noPool, [], 3)
      | some (l, D) => addT p now peer src a b c q l D
theorem askMs_map (l : List ATun) : askMs (fun t => t) (l.map ATun.t) = (askMs ATun.t l).map fun x => (x.1.map ATun.t, x.2) := by
  unfold askMs
  rw [List.length_map, List.map_id']
  by_cases h : 16 ≤ l.length
  · rw [if_pos h, if_pos h]
    cases lruI (l.map ATun.t) l.length with
    | none => rfl
    | some ku =>
      dsimp only
      rw [List.getElem?_map]
      cases l[ku.1]? with
      | none => rfl
      | some y => dsimp only [Option.map]; rw [List.map_append, List.map_take, List.map_drop]
  · rw [if_neg h, if_neg h]; rfl
def rAsk (X : PPool × List PDo × Int) : Sim.A := .tu [.t (.agg (poolT X.1)), .t (.sl 18 (X.2.1.map doR)), .t (i64T X.2.2)]
def SAk (p : PPool) (now peer src a b c : Int) (q : PQ) (l : List ATun) (i : Int) (as_ : Bool) : St := ⟨[(1, .t (u64T now)), (6, .bp 6 0), (8, .bp 8 0), (9, .bp 9 0), (10, .bp 10 0), (11, .bp 11 0), (12, .bp 12 0), (13, .t (.v (.slice none 0 0))), (14, .t (i64T 0)), (15, .bp 500 0), (16, .t (.v (.bool as_))), (17, .t (.v (.int .i64 i)))],
  [(6, (poolT p).map .t), (8, [.t (i64T peer)]), (9, [.t (u64T src)]), (10, [.t (u64T a), .t (u32T b), .t (i64T c)]), (11, (askR (newQ now q)).map .t), (12, zPool), (500, wN l.length 1001 1002 1003 ⟨p.node, p.inc, p.next, now, [], [], []⟩), (1100, [.rs (FamR (famT l))])], [(1001, tunO l), (1002, doO []), (1003, failO [])]⟩
def SAe (p : PPool) (now : Int) (A B : List ATun) (m : Nat) (T : PTun) (u : Value) (D : List PDo) : St := ⟨[(12, .bp 12 0), (13, .t (.v (.slice none 0 0))), (14, .t (i64T 0)), (15, .bp 500 0), (18, .oe 1001 m 14 A.length 0)],
  [(12, zPool), (500, wN m 1001 1002 1003 ⟨p.node, p.inc, p.next, now, [], D, []⟩), (1100, [.rs (FamR (famT A ++ (u, ⟨70, 9, T.asks.map askR⟩) :: famT B))])], [(1001, ⟨118, 14, (A ++ ⟨T, u⟩ :: B).map tunR⟩), (1002, doO D), (1003, failO [])]⟩
set_option maxRecDepth 100000 in
set_option maxHeartbeats 4000000 in
theorem askEnd19_ {c0 d0 : Code} (hc0 : fS 19 (bodyOf Try.f17) = some (.seq c0 d0)) {Q : Exit → St → Prop} (p : PPool) (now : Int) (L : List ATun) (D : List PDo) (nx : Int) (hret : ∀ st, RetL Try.prog Try.f17 (rAsk (⟨p.node, p.inc, nx, L.map ATun.t⟩, D, 0)) [] [] .ret st → Q .ret st) : SWp Try.prog 200 c0 (Then Try.prog 200 d0 Q) (SAo p now L D nx) := by
  obtain ⟨rfl, rfl⟩ := Code.seq.inj (Option.some.inj hc0)
  have hK : L.map (fun a => tunT a.t) = (L.map ATun.t).map tunT := by rw [List.map_map]; rfl
  have hKl : L.length = ((L.map ATun.t).map tunT).length := by rw [← hK, List.length_map]
  have hDl : D.length = (D.map doR).length := (List.length_map _).symm
  unfold SAo wN
  dsimp only
  refine swp_weak (weak_famshow 1100 1001 (L.map fun a : ATun => tunT a.t) (fs := famT L) (o := tunO L) rfl rfl (by show (List.map _ _).length = (List.map _ _).length; rw [List.length_map, List.length_map]) (by intro r hr; obtain ⟨a, _, rfl⟩ := List.mem_map.1 hr; rfl) (upl_tun L)) ?_
  rw [hK]
  refine swp_weak (weak_show 1001 101 rfl rfl rfl rfl) ?_
  refine swp_weak (weak_show 1002 102 rfl rfl rfl rfl) ?_
  refine swp_weak (weak_show 1003 103 rfl rfl rfl rfl) ?_
  repeat' (first | ((refine swp_any (id := 19) [[], [], [], [], [], [], [], [], [12], [], []] [[], [], [], [], [12], [12], [12], [12], [], [], []] mixed (by kernel_rfl) ?_) <;> refine yp (fun _ _ => po_move rfl rfl) ?_ <;> refine yp (fun _ _ => po_nilcheck rfl rfl) ?_ <;> refine yp (fun _ _ => po_field_bx rfl rfl (tyF rfl)) ?_ <;> (refine yp (fun _ _ => po_load_bx_agg rfl rfl (tyT rfl) rfl (vc (vc (vc (vc .nil)))) rfl) ?_) <;> refine yp (fun _ _ => po_move rfl rfl) ?_ <;> refine yp (fun _ _ => po_nilcheck rfl rfl) ?_ <;> refine yp (fun _ _ => po_field_bx rfl rfl (tyF rfl)) ?_ <;> refine yp (fun _ _ => po_load_bx rfl rfl (tyT rfl) rfl rfl) ?_ <;> refine sany_eff [(12, _)] [] (.free rfl rfl) rfl rfl (fun _ _ _ _ => e_store rfl rfl rfl rfl rfl rfl (tyT rfl) rfl rfl) ?_ <;> refine yp (fun _ _ => po_assign rfl rfl) ?_ <;> refine yp (fun _ _ => po_assign rfl rfl) ?_ <;> refine sany_nil ?_) | refine gc ?_ | refine ct ?_ | refine cf ?_ | refine sc ?_ ?_ <;> intro hc | refine rq rfl (.cell rfl rfl (tyT rfl) (vc (vc (vc (vc .nil)))) rfl (rt (rt .nil))) ?_)
  refine hret _ ?_
  exact retl (.inr rfl) rfl (.cellT rfl rfl (tyT rfl) (vc (vc (vc (vc .nil)))) rfl (.tmpT rfl (.own rfl hDl) (.tmp rfl rfl .nil))) rfl rfl .nil .nil
set_option maxRecDepth 100000 in
set_option maxHeartbeats 4000000 in
theorem askEnd24_ {c0 d0 : Code} (hc0 : fS 24 (bodyOf Try.f17) = some (.seq c0 d0)) {Q : Exit → St → Prop} (p : PPool) (now : Int) (L : List ATun) (D : List PDo) (nx : Int) (hret : ∀ st, RetL Try.prog Try.f17 (rAsk (⟨p.node, p.inc, nx, L.map ATun.t⟩, D, 0)) [] [] .ret st → Q .ret st) : SWp Try.prog 200 c0 (Then Try.prog 200 d0 Q) (SAo p now L D nx) := by
  obtain ⟨rfl, rfl⟩ := Code.seq.inj (Option.some.inj hc0)
  have hK : L.map (fun a => tunT a.t) = (L.map ATun.t).map tunT := by rw [List.map_map]; rfl
  have hKl : L.length = ((L.map ATun.t).map tunT).length := by rw [← hK, List.length_map]
  have hDl : D.length = (D.map doR).length := (List.length_map _).symm
  unfold SAo wN
  dsimp only
  refine swp_weak (weak_famshow 1100 1001 (L.map fun a : ATun => tunT a.t) (fs := famT L) (o := tunO L) rfl rfl (by show (List.map _ _).length = (List.map _ _).length; rw [List.length_map, List.length_map]) (by intro r hr; obtain ⟨a, _, rfl⟩ := List.mem_map.1 hr; rfl) (upl_tun L)) ?_
  rw [hK]
  refine swp_weak (weak_show 1001 101 rfl rfl rfl rfl) ?_
  refine swp_weak (weak_show 1002 102 rfl rfl rfl rfl) ?_
  refine swp_weak (weak_show 1003 103 rfl rfl rfl rfl) ?_
  repeat' (first | ((refine swp_any (id := 24) [[], [], [], [], [], [], [], [], [12], [], []] [[], [], [], [], [12], [12], [12], [12], [], [], []] mixed (by kernel_rfl) ?_) <;> refine yp (fun _ _ => po_move rfl rfl) ?_ <;> refine yp (fun _ _ => po_nilcheck rfl rfl) ?_ <;> refine yp (fun _ _ => po_field_bx rfl rfl (tyF rfl)) ?_ <;> (refine yp (fun _ _ => po_load_bx_agg rfl rfl (tyT rfl) rfl (vc (vc (vc (vc .nil)))) rfl) ?_) <;> refine yp (fun _ _ => po_move rfl rfl) ?_ <;> refine yp (fun _ _ => po_nilcheck rfl rfl) ?_ <;> refine yp (fun _ _ => po_field_bx rfl rfl (tyF rfl)) ?_ <;> refine yp (fun _ _ => po_load_bx rfl rfl (tyT rfl) rfl rfl) ?_ <;> refine sany_eff [(12, _)] [] (.free rfl rfl) rfl rfl (fun _ _ _ _ => e_store rfl rfl rfl rfl rfl rfl (tyT rfl) rfl rfl) ?_ <;> refine yp (fun _ _ => po_assign rfl rfl) ?_ <;> refine yp (fun _ _ => po_assign rfl rfl) ?_ <;> refine sany_nil ?_) | refine gc ?_ | refine ct ?_ | refine cf ?_ | refine sc ?_ ?_ <;> intro hc | refine rq rfl (.cell rfl rfl (tyT rfl) (vc (vc (vc (vc .nil)))) rfl (rt (rt .nil))) ?_)
  refine hret _ ?_
  exact retl (.inr rfl) rfl (.cellT rfl rfl (tyT rfl) (vc (vc (vc (vc .nil)))) rfl (.tmpT rfl (.own rfl hDl) (.tmp rfl rfl .nil))) rfl rfl .nil .nil
set_option maxRecDepth 100000 in
set_option maxHeartbeats 4000000 in
theorem askOld_ {c0 d0 : Code} (hc0 : fS 10 (bodyOf Try.f17) = some (.seq c0 d0)) {Q : Exit → St → Prop} (p : PPool) (now peer src a b c : Int) (q : PQ) (A B : List ATun) (x : ATun) (as_ : Bool) (hll : (A ++ x :: B).length ≤ 500) (hfq : FewQ q) (hret : ∀ st, RetL Try.prog Try.f17 (rAsk (askOl p now q (A.map ATun.t) (B.map ATun.t) x.t)) [] [] .ret st → Q .ret st) : SWp Try.prog 200 c0 (Then Try.prog 200 d0 Q) (SAk p now peer src a b c q (A ++ x :: B) ((A.length : Nat) : Int) as_) := by
  obtain ⟨rfl, rfl⟩ := Code.seq.inj (Option.some.inj hc0)
  have hge : (0 : Int) ≤ ((A.length : Nat) : Int) := by omega
  have hat : ((A ++ x :: B).map tunR)[A.length]? = some (tunR x) := tunO_at
  have hlt : A.length < (A ++ x :: B).length := by rw [List.length_append, List.length_cons]; omega
  have hml : (A ++ x :: B).length = ((A ++ x :: B).map tunR).length := (List.length_map _).symm
  have hfs : famT (A ++ x :: B) = famT A ++ (x.u, askO x.t) :: famT B := famT_open
  have hla : (askO x.t).rows.length = x.t.asks.length := List.length_map _
  unfold SAk wN
  dsimp only
  by_cases h8 : 8 ≤ x.t.asks.length
  · have hr : askOl p now q (A.map ATun.t) (B.map ATun.t) x.t = (noPool, [], 3) := by unfold askOl; rw [if_pos h8]
    have hb8 : (8 : Int) ≤ (((askO x.t).rows.length : Nat) : Int) := by rw [hla]; omega
    rw [hr] at hret
    repeat' (first | (refine rg 10 (aq55 ?_) <;> refine sp (po_len_fam (i := 1100) rfl rfl rfl hfs (tyS rfl)) ?_ <;> refine oCm ?_ <;> refine oPt ?_ <;> refine oAs ?_ <;> refine oN ?_) | (refine rg 11 ?_; refine sp (po_buildS str58 rfl .nil rfl) ?_; refine aq56 ?_) | refine gc ?_ | refine ct ?_ | refine cf ?_ | refine sc ?_ ?_ <;> intro hc | refine rq rfl (.cell rfl rfl (tyT rfl) (vc (vc (vc (vc .nil)))) rfl (rt (rt .nil))) ?_)
    refine hret _ ?_
    exact retl (.inr rfl) rfl (.cellT rfl rfl (tyT rfl) (vc (vc (vc (vc .nil)))) rfl (.tmpT rfl (.nil _) (.tmp rfl rfl .nil))) rfl rfl .nil .nil
  · have hb8 : ¬ (8 : Int) ≤ (((askO x.t).rows.length : Nat) : Int) := by rw [hla]; omega
    repeat' (first | (refine rg 10 (aq55 ?_) <;> refine sp (po_len_fam (i := 1100) rfl rfl rfl hfs (tyS rfl)) ?_ <;> refine oCm ?_ <;> refine oPt ?_ <;> refine oAs ?_ <;> refine oN ?_) | (refine rg 12 (aq33 ?_) <;> (first | refine sp (po_nilcheck rfl rfl) ?_ | refine sp (po_nilcheck_oe rfl rfl rfl (by rfl)) ?_ | refine oK ?_) <;> (first | refine oFb ?_ | refine oFd ?_ | refine sp (fdo rfl) ?_ | refine oK ?_) <;> (first | refine oFb ?_ | refine oFd ?_ | refine sp (fdo rfl) ?_ | refine oK ?_) <;> (first | refine oLb ?_ | refine oLd ?_ | refine sp (ldo rfl) ?_ | refine oK ?_) <;> (first | refine sp (po_len_fam (i := 1100) rfl rfl rfl hfs (tyS rfl)) ?_ | refine sp (po_len_own rfl rfl (tyS rfl)) ?_ | refine sp (pln rfl (tyS rfl)) ?_ | refine oK ?_) <;> (first | refine oCm ?_ | refine oK ?_) <;> (first | refine oPt ?_ | refine oPf ?_) <;> refine oMv ?_ <;> (first | refine oMv ?_ | refine oK ?_) <;> (first | refine sp (po_len_fam (i := 1100) rfl rfl rfl hfs (tyS rfl)) ?_ | refine oK ?_) <;> (first | refine sp (po_not rfl rfl) ?_ | refine oK ?_) <;> (first | refine oPt ?_ | refine oPf ?_) <;> refine oAs ?_ <;> refine oN ?_) | refine rg 14 (aq51 ?_) | refine rg 15 (aq20 ?_) | refine gc ?_ | refine ct ?_ | refine cf ?_ | refine sc ?_ ?_ <;> intro hc | refine rq rfl (.cell rfl rfl (tyT rfl) (vc (vc (vc (vc .nil)))) rfl (rt (rt .nil))) ?_)
    rw [famT_open]
    refine swp_weak (weak_openN 1100 1005 90000 (a := famT A) (b := famT B) (u := x.u) (o := ⟨70, 9, x.t.asks.map askR⟩) rfl rfl) ?_
    refine swp_weak (weak_evbx 90000 8 0 rfl rfl) ?_
    have hma : (x.t.asks.map askR).length = x.t.asks.length := List.length_map _
    refine swp_anyN (id := 16) 8 [[], [], [], [], [], [], [], [1005], [], [], []] [[1005], [], [], [], [], [], [], [], [], [], []] mixed (by kernel_rfl) (by kernel_rfl) rfl ?_
    refine yp (fun _ _ => po_move rfl rfl) ?_
    refine yp (fun _ _ => po_move rfl rfl) ?_
    refine yp (fun _ _ => po_nilcheck_oe rfl rfl rfl hml) ?_
    refine yp (fun _ _ => po_field_own rfl rfl rfl hml (tyF rfl)) ?_
    refine yp (fun _ _ => po_load_ev (B := 8) (q := 0) rfl rfl rfl hml (tyT rfl) hat rfl rfl rfl rfl rfl) ?_
    refine yp (fun _ _ => po_load_bx_agg rfl rfl (tyT rfl) rfl (vc (vc (vc (vc (vc (vc (vc (vc (vc .nil))))))))) rfl) ?_
    refine yp (fun _ _ => po_buildSlice rfl (tyE rfl) (dc (.nil _)) rfl rfl rfl) ?_
    refine sany_eff [] [(1005, _)] (.free rfl rfl) rfl rfl (fun _ _ _ _ => e_append rfl rfl rfl rfl rfl (.t _) (tyE rfl) (by simp only [List.length_map, List.length_cons, List.length_nil]; omega) (by unfold maxLen; simp only [List.length_map, List.length_cons, List.length_nil]; omega)) ?_
    refine sany_nil ?_
    refine sops_weakE (weak_closeS 120 1100 1005 (famT A) (famT B) rfl rfl rfl rfl) fun y => ?_
    refine sp (po_nilcheck_oe rfl rfl rfl hml) ?_
    refine sp (fdo rfl) ?_
    refine sso ?_
    refine oN ?_
    have hset := tunO_set (A := A) (B := B) (a := x) ⟨{ x.t with asks := x.t.asks ++ [newQ now q] }, .slice y.1 y.2.1 y.2.2⟩
    have hset' := congrArg (fun r => (⟨118, 14, r⟩ : Own)) hset
    have hmapp : x.t.asks.map askR ++ [askR (newQ now q)] = (x.t.asks ++ [newQ now q]).map askR := by rw [List.map_append]; rfl
    have hfr := congrArg (fun r => [Sim.A.rs (FamR (famT A ++ (.slice y.1 y.2.1 y.2.2, (⟨70, 9, r⟩ : Own)) :: famT B))]) hmapp
    refine then_go ?_
    refine swp_weak (st' := SAe p now A B (A ++ x :: B).length { x.t with asks := x.t.asks ++ [newQ now q] } (.slice y.1 y.2.1 y.2.2) []) (weak_sub (.cons rfl (by first | rfl | (first | (exact hset') | (exact hfr))) rfl (.cons rfl (by first | rfl | (first | (exact hset') | (exact hfr))) rfl (.cons rfl (by first | rfl | (first | (exact hset') | (exact hfr))) rfl (.cons rfl (by first | rfl | (first | (exact hset') | (exact hfr))) rfl (.cons rfl (by first | rfl | (first | (exact hset') | (exact hfr))) rfl .nil))))) (.cons rfl (by first | rfl | (first | (exact hset') | (exact hfr))) rfl (.cons rfl (by first | rfl | (first | (exact hset') | (exact hfr))) rfl (.cons rfl (by first | rfl | (first | (exact hset') | (exact hfr))) rfl .nil))) (.cons rfl (by first | rfl | (first | (exact hset') | (exact hfr))) (.cons rfl (by first | rfl | (first | (exact hset') | (exact hfr))) (.cons rfl (by first | rfl | (first | (exact hset') | (exact hfr))) .nil)))) ?_
    generalize Value.slice y.1 y.2.1 y.2.2 = u
    have hat2 : ((A ++ (⟨{ x.t with asks := x.t.asks ++ [newQ now q] }, u⟩ : ATun) :: B).map tunR)[A.length]? = some (tunR ⟨{ x.t with asks := x.t.asks ++ [newQ now q] }, u⟩) := tunO_at
    have hml2 : (A ++ x :: B).length = ((A ++ (⟨{ x.t with asks := x.t.asks ++ [newQ now q] }, u⟩ : ATun) :: B).map tunR).length := by rw [List.length_map]; exact len_mid
    unfold SAe wN
    dsimp only
    by_cases hst : x.t.state = 2
    · have hr : askOl p now q (A.map ATun.t) (B.map ATun.t) x.t = ({ p with tuns := A.map ATun.t ++ sendT now { x.t with asks := x.t.asks ++ [newQ now q] } x.t.asks.length (newQ now q) :: B.map ATun.t }, [askD { x.t with asks := x.t.asks ++ [newQ now q] } (sendQ now (sendS { x.t with asks := x.t.asks ++ [newQ now q] } (newQ now q)) (newQ now q))], 0) := by unfold askOl; rw [if_neg h8, if_pos hst]
      have hds : decide (x.t.state = 2) = true := decide_eq_true hst
      have hxl : x.t.asks.length ≤ 1000 := by omega
      have c3 := send_ ⟨p.node, p.inc, p.next, now, A ++ ⟨{ x.t with asks := x.t.asks ++ [newQ now q] }, u⟩ :: B, [], []⟩ A B ⟨{ x.t with asks := x.t.asks ++ [newQ now q] }, u⟩ x.t.asks.length (newQ now q) rfl (by show _ < (x.t.asks ++ [newQ now q]).length; rw [List.length_append]; exact Nat.lt_succ_self _) (by show (x.t.asks ++ [newQ now q])[_]? = _; rw [List.getElem?_append_right (Nat.le_refl _), Nat.sub_self]; rfl) (fun s => ⟨hfq.bytes⟩) (Nat.zero_le _)
      unfold wB wO wC sendW addD at c3
      dsimp only at c3
      rw [famT_open (a := ⟨{ x.t with asks := x.t.asks ++ [newQ now q] }, u⟩), famT_open (a := ⟨sendT now { x.t with asks := x.t.asks ++ [newQ now q] } x.t.asks.length (newQ now q), u⟩), show (A ++ (⟨{ x.t with asks := x.t.asks ++ [newQ now q] }, u⟩ : ATun) :: B).length = (A ++ x :: B).length from len_mid, show (A ++ (⟨sendT now { x.t with asks := x.t.asks ++ [newQ now q] } x.t.asks.length (newQ now q), u⟩ : ATun) :: B).length = (A ++ x :: B).length from len_mid] at c3
      rw [hr] at hret
      generalize sendT now { x.t with asks := x.t.asks ++ [newQ now q] } x.t.asks.length (newQ now q) = Z at *
      repeat' (first | (refine rg 17 ?_; refine oMv ?_; (first | refine sp (po_nilcheck rfl rfl) ?_ | refine sp (po_nilcheck_oe rfl rfl rfl (by first | rfl | assumption)) ?_); refine aq14 ?_) | refine gc ?_ | refine ct ?_ | refine cf ?_ | refine sc ?_ ?_ <;> intro hc | refine rq rfl (.cell rfl rfl (tyT rfl) (vc (vc (vc (vc .nil)))) rfl (rt (rt .nil))) ?_)
      refine rg 18 ?_
      refine oMv ?_
      refine oMv ?_
      refine oMv ?_
      refine sp (po_nilcheck_oe rfl rfl rfl hml2) ?_
      refine sp (fdo rfl) ?_
      refine sp (ldo rfl) ?_
      refine sops_weak (weak_openF 133 1100 1005 90000 (a := famT A) (b := famT B) (o := ⟨70, 9, (x.t.asks ++ [newQ now q]).map askR⟩) rfl rfl rfl) ?_
      refine sp (po_len_own rfl rfl (tyS rfl)) ?_
      refine sops_weak (weak_closeV 133 1100 1005 90000 (famT A) (famT B) rfl rfl rfl rfl rfl rfl) ?_
      dsimp only
      rw [show ((x.t.asks ++ [newQ now q]).map askR).length = x.t.asks.length + 1 from by rw [List.length_map, List.length_append]; rfl]
      refine sp (po_dec rfl rfl rfl (by omega)) ?_
      rw [show x.t.asks.length + 1 - 1 = x.t.asks.length from rfl]
      refine sops_lcall c3 (fun i => bif Nat.beq i 2000 then 500 else bif Nat.beq i 3000 then 1100 else i) (fun i => bif Nat.beq i 2001 then 1001 else bif Nat.beq i 2002 then 1002 else bif Nat.beq i 2003 then 1003 else bif Nat.beq i 1002 then 1012 else i) (fun i => Nat.beq i 2001) (.free rfl rfl) rfl rfl rfl (.cons rfl rfl rfl (.cons rfl rfl rfl (.cons rfl rfl rfl .nil))) (.cons rfl rfl (.cons rfl rfl .nil)) (.cons rfl rfl (.cons rfl rfl (.cons rfl rfl .nil))) rfl rfl (kp_id 2001 rfl rfl rfl (by rw [tunO_len, tunO_len]; exact len_mid)) ?_
      refine oN ?_
      refine then_go ?_
      refine swp_weak (weak_ren 1012 1002 rfl rfl rfl rfl rfl rfl rfl) ?_
      refine swp_weak (st' := SAe p now A B (A ++ x :: B).length Z u [askD { x.t with asks := x.t.asks ++ [newQ now q] } (sendQ now (sendS { x.t with asks := x.t.asks ++ [newQ now q] } (newQ now q)) (newQ now q))]) (weak_sub (.cons rfl rfl rfl (.cons rfl rfl rfl (.cons rfl rfl rfl (.cons rfl rfl rfl (.cons rfl rfl rfl .nil))))) (.cons rfl rfl rfl (.cons rfl rfl rfl (.cons rfl rfl rfl .nil))) (.cons rfl rfl (.cons rfl rfl (.cons rfl rfl .nil)))) ?_
      unfold SAe wN
      dsimp only
      have hfam : famT A ++ (u, (⟨70, 9, Z.asks.map askR⟩ : Own)) :: famT B = famT (A ++ ⟨Z, u⟩ :: B) := (famT_open (a := ⟨Z, u⟩)).symm
      rw [hfam]
      refine swp_weak (st' := SAo p now (A ++ ⟨Z, u⟩ :: B) [askD { x.t with asks := x.t.asks ++ [newQ now q] } (sendQ now (sendS { x.t with asks := x.t.asks ++ [newQ now q] } (newQ now q)) (newQ now q))] p.next) (weak_sub (.cons rfl (by first | rfl | (first | (exact congrArg (fun n => wN n 1001 1002 1003 ⟨p.node, p.inc, p.next, now, [], [askD { x.t with asks := x.t.asks ++ [newQ now q] } (sendQ now (sendS { x.t with asks := x.t.asks ++ [newQ now q] } (newQ now q)) (newQ now q))], []⟩) len_mid))) rfl (.cons rfl (by first | rfl | (first | (exact congrArg (fun n => wN n 1001 1002 1003 ⟨p.node, p.inc, p.next, now, [], [askD { x.t with asks := x.t.asks ++ [newQ now q] } (sendQ now (sendS { x.t with asks := x.t.asks ++ [newQ now q] } (newQ now q)) (newQ now q))], []⟩) len_mid))) rfl (.cons rfl (by first | rfl | (first | (exact congrArg (fun n => wN n 1001 1002 1003 ⟨p.node, p.inc, p.next, now, [], [askD { x.t with asks := x.t.asks ++ [newQ now q] } (sendQ now (sendS { x.t with asks := x.t.asks ++ [newQ now q] } (newQ now q)) (newQ now q))], []⟩) len_mid))) rfl (.cons rfl (by first | rfl | (first | (exact congrArg (fun n => wN n 1001 1002 1003 ⟨p.node, p.inc, p.next, now, [], [askD { x.t with asks := x.t.asks ++ [newQ now q] } (sendQ now (sendS { x.t with asks := x.t.asks ++ [newQ now q] } (newQ now q)) (newQ now q))], []⟩) len_mid))) rfl .nil)))) (.cons rfl (by first | rfl | (first | (exact congrArg (fun n => wN n 1001 1002 1003 ⟨p.node, p.inc, p.next, now, [], [askD { x.t with asks := x.t.asks ++ [newQ now q] } (sendQ now (sendS { x.t with asks := x.t.asks ++ [newQ now q] } (newQ now q)) (newQ now q))], []⟩) len_mid))) rfl (.cons rfl (by first | rfl | (first | (exact congrArg (fun n => wN n 1001 1002 1003 ⟨p.node, p.inc, p.next, now, [], [askD { x.t with asks := x.t.asks ++ [newQ now q] } (sendQ now (sendS { x.t with asks := x.t.asks ++ [newQ now q] } (newQ now q)) (newQ now q))], []⟩) len_mid))) rfl (.cons rfl (by first | rfl | (first | (exact congrArg (fun n => wN n 1001 1002 1003 ⟨p.node, p.inc, p.next, now, [], [askD { x.t with asks := x.t.asks ++ [newQ now q] } (sendQ now (sendS { x.t with asks := x.t.asks ++ [newQ now q] } (newQ now q)) (newQ now q))], []⟩) len_mid))) rfl .nil))) (.cons rfl (by first | rfl | (first | (exact congrArg (fun n => wN n 1001 1002 1003 ⟨p.node, p.inc, p.next, now, [], [askD { x.t with asks := x.t.asks ++ [newQ now q] } (sendQ now (sendS { x.t with asks := x.t.asks ++ [newQ now q] } (newQ now q)) (newQ now q))], []⟩) len_mid))) (.cons rfl (by first | rfl | (first | (exact congrArg (fun n => wN n 1001 1002 1003 ⟨p.node, p.inc, p.next, now, [], [askD { x.t with asks := x.t.asks ++ [newQ now q] } (sendQ now (sendS { x.t with asks := x.t.asks ++ [newQ now q] } (newQ now q)) (newQ now q))], []⟩) len_mid))) (.cons rfl (by first | rfl | (first | (exact congrArg (fun n => wN n 1001 1002 1003 ⟨p.node, p.inc, p.next, now, [], [askD { x.t with asks := x.t.asks ++ [newQ now q] } (sendQ now (sendS { x.t with asks := x.t.asks ++ [newQ now q] } (newQ now q)) (newQ now q))], []⟩) len_mid))) .nil)))) ?_
      refine gc ?_
      refine askEnd19_ rfl p now (A ++ ⟨Z, u⟩ :: B) _ p.next fun st h => hret st ?_
      rw [List.map_append, List.map_cons] at h
      exact h
    · have hr : askOl p now q (A.map ATun.t) (B.map ATun.t) x.t = ({ p with tuns := A.map ATun.t ++ { x.t with asks := x.t.asks ++ [newQ now q] } :: B.map ATun.t }, [], 0) := by unfold askOl; rw [if_neg h8, if_neg hst]
      have hds : decide (x.t.state = 2) = false := decide_eq_false hst
      rw [hr] at hret
      repeat' (first | (refine rg 17 ?_; refine oMv ?_; (first | refine sp (po_nilcheck rfl rfl) ?_ | refine sp (po_nilcheck_oe rfl rfl rfl (by first | rfl | assumption)) ?_); refine aq14 ?_) | refine gc ?_ | refine ct ?_ | refine cf ?_ | refine sc ?_ ?_ <;> intro hc | refine rq rfl (.cell rfl rfl (tyT rfl) (vc (vc (vc (vc .nil)))) rfl (rt (rt .nil))) ?_)
      have hfam : famT A ++ (u, (⟨70, 9, (x.t.asks ++ [newQ now q]).map askR⟩ : Own)) :: famT B = famT (A ++ ⟨{ x.t with asks := x.t.asks ++ [newQ now q] }, u⟩ :: B) := (famT_open (a := ⟨{ x.t with asks := x.t.asks ++ [newQ now q] }, u⟩)).symm
      rw [hfam]
      refine swp_weak (st' := SAo p now (A ++ ⟨{ x.t with asks := x.t.asks ++ [newQ now q] }, u⟩ :: B) [] p.next) (weak_sub (.cons rfl (by first | rfl | (first | (exact congrArg (fun n => wN n 1001 1002 1003 ⟨p.node, p.inc, p.next, now, [], [], []⟩) len_mid))) rfl (.cons rfl (by first | rfl | (first | (exact congrArg (fun n => wN n 1001 1002 1003 ⟨p.node, p.inc, p.next, now, [], [], []⟩) len_mid))) rfl (.cons rfl (by first | rfl | (first | (exact congrArg (fun n => wN n 1001 1002 1003 ⟨p.node, p.inc, p.next, now, [], [], []⟩) len_mid))) rfl (.cons rfl (by first | rfl | (first | (exact congrArg (fun n => wN n 1001 1002 1003 ⟨p.node, p.inc, p.next, now, [], [], []⟩) len_mid))) rfl .nil)))) (.cons rfl (by first | rfl | (first | (exact congrArg (fun n => wN n 1001 1002 1003 ⟨p.node, p.inc, p.next, now, [], [], []⟩) len_mid))) rfl (.cons rfl (by first | rfl | (first | (exact congrArg (fun n => wN n 1001 1002 1003 ⟨p.node, p.inc, p.next, now, [], [], []⟩) len_mid))) rfl (.cons rfl (by first | rfl | (first | (exact congrArg (fun n => wN n 1001 1002 1003 ⟨p.node, p.inc, p.next, now, [], [], []⟩) len_mid))) rfl .nil))) (.cons rfl (by first | rfl | (first | (exact congrArg (fun n => wN n 1001 1002 1003 ⟨p.node, p.inc, p.next, now, [], [], []⟩) len_mid))) (.cons rfl (by first | rfl | (first | (exact congrArg (fun n => wN n 1001 1002 1003 ⟨p.node, p.inc, p.next, now, [], [], []⟩) len_mid))) (.cons rfl (by first | rfl | (first | (exact congrArg (fun n => wN n 1001 1002 1003 ⟨p.node, p.inc, p.next, now, [], [], []⟩) len_mid))) .nil)))) ?_
      refine askEnd19_ rfl p now (A ++ ⟨{ x.t with asks := x.t.asks ++ [newQ now q] }, u⟩ :: B) [] p.next fun st h => hret st ?_
      rw [List.map_append, List.map_cons] at h
      exact h
set_option maxRecDepth 100000 in
set_option maxHeartbeats 4000000 in
theorem askMiss_ {c0 d0 : Code} (hc0 : fS 10 (bodyOf Try.f17) = some (.seq c0 d0)) {Q : Exit → St → Prop} (p : PPool) (now peer src a b c : Int) (q : PQ) (l : List ATun) (as_ : Bool) (hll : l.length ≤ 500) (hret : askMs ATun.t l = none → ∀ st, RetL Try.prog Try.f17 (rAsk (noPool, [], 3)) [] [] .ret st → Q .ret st) (hnorm : ∀ l' D, askMs ATun.t l = some (l', D) → l'.length ≤ 500 → D.length ≤ 1000 → Q .normal (SAn p now peer src a b c q l' D)) : SWp Try.prog 200 c0 (Then Try.prog 200 d0 Q) (SAk p now peer src a b c q l (-1) as_) := by
  obtain ⟨rfl, rfl⟩ := Code.seq.inj (Option.some.inj hc0)
  unfold SAk wN
  dsimp only
  by_cases h16 : 16 ≤ l.length
  · have hb16 : (16 : Int) ≤ ((l.length : Nat) : Int) := by omega
    have c4 := room_ ⟨p.node, p.inc, p.next, now, l, [], []⟩ (by show l.length ≤ 1000; omega) (Nat.zero_le _) (Nat.zero_le _)
    dsimp only at c4
    cases hlr : lruI (l.map ATun.t) l.length with
    | none =>
      have hr : askMs ATun.t l = none := by unfold askMs; rw [if_pos h16, hlr]
      unfold roomX at c4
      dsimp only at c4
      rw [hlr] at c4
      unfold wB wO wC at c4
      dsimp only at c4
      repeat' (first | (refine rg 10 (aq33 ?_) <;> (first | refine sp (po_nilcheck rfl rfl) ?_ | refine sp (po_nilcheck_oe rfl rfl rfl (by rfl)) ?_ | refine oK ?_) <;> refine aq57 ?_) | (refine rg 12 (aq58 ?_) <;> (refine sops_lcall (c4) (fun i => bif Nat.beq i 2000 then 500 else bif Nat.beq i 3000 then 1100 else i) (fun i => bif Nat.beq i 2001 then 1001 else bif Nat.beq i 2002 then 1002 else bif Nat.beq i 2003 then 1003 else bif Nat.beq i 1001 then 1011 else bif Nat.beq i 1002 then 1012 else bif Nat.beq i 1003 then 1013 else i) (fun _ => false) gy rfl rfl rfl (by ((repeat' (first | exact .nil | refine .cons rfl rfl rfl ?_)) <;> fail)) (.cons rfl rfl (.cons rfl rfl .nil)) (.cons rfl rfl (.cons rfl rfl (.cons rfl rfl .nil))) rfl rfl (fun _ h => Bool.noConfusion h) ?_) <;> refine sp (po_not rfl rfl) ?_ <;> refine oPt ?_ <;> refine oAs ?_ <;> refine oN ?_) | (refine rg 13 ?_; refine sp (po_buildS str58 rfl .nil rfl) ?_; refine aq56 ?_) | refine gc ?_ | refine ct ?_ | refine cf ?_ | refine sc ?_ ?_ <;> intro hc | refine rq rfl (.cell rfl rfl (tyT rfl) (vc (vc (vc (vc .nil)))) rfl (rt (rt .nil))) ?_)
      refine hret hr _ ?_
      exact retl (.inr rfl) rfl (.cellT rfl rfl (tyT rfl) (vc (vc (vc (vc .nil)))) rfl (.tmpT rfl (.nil _) (.tmp rfl rfl .nil))) rfl rfl .nil .nil
    | some ku =>
      obtain ⟨k, u⟩ := ku
      obtain ⟨hk1, b0, hb1, hb2, hb3⟩ := lruI_ok _ _ _ _ hlr
      rw [List.getElem?_map] at hb1
      cases hy : l[k]? with
      | none => rw [hy] at hb1; cases hb1
      | some y =>
        rw [hy] at hb1
        injection hb1 with hb1
        subst hb1
        have hr : askMs ATun.t l = some (l.take k ++ l.drop (k + 1), [clsD y.t]) := by unfold askMs; rw [if_pos h16, hlr]; dsimp only; rw [hy]
        have hfl : failsL y.t.asks 0 = [] := by rw [List.eq_nil_of_length_eq_zero hb3]; rfl
        have hnl : (l.take k ++ l.drop (k + 1)).length ≤ 500 := by rw [List.length_append, List.length_take, List.length_drop]; omega
        unfold roomX at c4
        dsimp only at c4
        rw [hlr] at c4
        dsimp only at c4
        rw [hy] at c4
        unfold goW outW failW addD at c4
        dsimp only at c4
        rw [hfl] at c4
        unfold wB wO wC at c4
        dsimp only at c4
        rw [show (some (k, u)).isSome = true from rfl] at c4
        generalize l.take k ++ l.drop (k + 1) = l' at *
        repeat' (first | (refine rg 10 (aq33 ?_) <;> (first | refine sp (po_nilcheck rfl rfl) ?_ | refine sp (po_nilcheck_oe rfl rfl rfl (by rfl)) ?_ | refine oK ?_) <;> refine aq57 ?_) | (refine rg 12 (aq58 ?_) <;> (refine sops_lcall (c4) (fun i => bif Nat.beq i 2000 then 500 else bif Nat.beq i 3000 then 1100 else i) (fun i => bif Nat.beq i 2001 then 1001 else bif Nat.beq i 2002 then 1002 else bif Nat.beq i 2003 then 1003 else bif Nat.beq i 1001 then 1011 else bif Nat.beq i 1002 then 1012 else bif Nat.beq i 1003 then 1013 else i) (fun _ => false) gy rfl rfl rfl (by ((repeat' (first | exact .nil | refine .cons rfl rfl rfl ?_)) <;> fail)) (.cons rfl rfl (.cons rfl rfl .nil)) (.cons rfl rfl (.cons rfl rfl (.cons rfl rfl .nil))) rfl rfl (fun _ h => Bool.noConfusion h) ?_) <;> refine sp (po_not rfl rfl) ?_ <;> refine oPt ?_ <;> refine oAs ?_ <;> refine oN ?_) | refine gc ?_ | refine ct ?_ | refine cf ?_ | refine sc ?_ ?_ <;> intro hc | refine rq rfl (.cell rfl rfl (tyT rfl) (vc (vc (vc (vc .nil)))) rfl (rt (rt .nil))) ?_)
        refine swp_weak (weak_ren 1011 1001 rfl rfl rfl rfl rfl rfl rfl) ?_
        refine swp_weak (weak_ren 1012 1002 rfl rfl rfl rfl rfl rfl rfl) ?_
        refine swp_weak (weak_ren 1013 1003 rfl rfl rfl rfl rfl rfl rfl) ?_
        refine swp_weak (st' := SAn p now peer src a b c q l' [clsD y.t]) (weak_sub (.cons rfl rfl rfl (.cons rfl rfl rfl (.cons rfl rfl rfl (.cons rfl rfl rfl (.cons rfl rfl rfl (.cons rfl rfl rfl (.cons rfl rfl rfl (.cons rfl rfl rfl (.cons rfl rfl rfl (.cons rfl rfl rfl .nil)))))))))) (.cons rfl rfl rfl (.cons rfl rfl rfl (.cons rfl rfl rfl (.cons rfl rfl rfl (.cons rfl rfl rfl (.cons rfl rfl rfl (.cons rfl rfl rfl .nil))))))) (.cons rfl rfl (.cons rfl rfl (.cons rfl rfl .nil)))) ?_
        unfold SAn wN
        dsimp only
        refine rg 14 ?_
        refine oMv ?_
        refine oCm ?_
        refine oAs ?_
        refine oN ?_
        refine then_go ?_
        refine cf ?_
        refine swp_weak (st' := SAn p now peer src a b c q l' [clsD y.t]) (weak_sub (.cons rfl rfl rfl (.cons rfl rfl rfl (.cons rfl rfl rfl (.cons rfl rfl rfl (.cons rfl rfl rfl (.cons rfl rfl rfl (.cons rfl rfl rfl (.cons rfl rfl rfl (.cons rfl rfl rfl (.cons rfl rfl rfl .nil)))))))))) (.cons rfl rfl rfl (.cons rfl rfl rfl (.cons rfl rfl rfl (.cons rfl rfl rfl (.cons rfl rfl rfl (.cons rfl rfl rfl (.cons rfl rfl rfl .nil))))))) (.cons rfl rfl (.cons rfl rfl (.cons rfl rfl .nil)))) ?_
        refine swp_skip ?_
        exact hnorm l' [clsD y.t] hr hnl (by show 1 ≤ 1000; omega)
  · have hb16 : ¬ (16 : Int) ≤ ((l.length : Nat) : Int) := by omega
    have hr : askMs ATun.t l = some (l, []) := by unfold askMs; rw [if_neg h16]
    repeat' (first | (refine rg 10 (aq33 ?_) <;> (first | refine sp (po_nilcheck rfl rfl) ?_ | refine sp (po_nilcheck_oe rfl rfl rfl (by rfl)) ?_ | refine oK ?_) <;> refine aq57 ?_) | (refine rg 12 ?_; refine oMv ?_; refine oCm ?_; refine oMv ?_; refine oMv ?_ <;> refine sp (po_nilcheck rfl rfl) ?_ <;> refine oFb ?_ <;> refine oFb ?_ <;> refine oLb ?_ <;> refine sp (po_len_own rfl rfl (tyS rfl)) ?_ <;> refine oCm ?_ <;> refine oPt ?_ <;> refine oMv ?_ <;> (first | refine oMv ?_ | refine oK ?_) <;> refine oK ?_ <;> (first | refine sp (po_not rfl rfl) ?_ | refine oK ?_) <;> (first | refine oPt ?_ | refine oPf ?_) <;> refine oAs ?_ <;> refine oN ?_) | refine gc ?_ | refine ct ?_ | refine cf ?_ | refine sc ?_ ?_ <;> intro hc | refine rq rfl (.cell rfl rfl (tyT rfl) (vc (vc (vc (vc .nil)))) rfl (rt (rt .nil))) ?_)
    refine swp_weak (st' := SAn p now peer src a b c q l []) (weak_sub (.cons rfl rfl rfl (.cons rfl rfl rfl (.cons rfl rfl rfl (.cons rfl rfl rfl (.cons rfl rfl rfl (.cons rfl rfl rfl (.cons rfl rfl rfl (.cons rfl rfl rfl (.cons rfl rfl rfl (.cons rfl rfl rfl .nil)))))))))) (.cons rfl rfl rfl (.cons rfl rfl rfl (.cons rfl rfl rfl (.cons rfl rfl rfl (.cons rfl rfl rfl (.cons rfl rfl rfl (.cons rfl rfl rfl .nil))))))) (.cons rfl rfl (.cons rfl rfl (.cons rfl rfl .nil)))) ?_
    unfold SAn wN
    dsimp only
    refine rg 14 ?_
    refine oMv ?_
    refine oCm ?_
    refine oAs ?_
    refine oN ?_
    refine then_go ?_
    refine cf ?_
    refine swp_weak (st' := SAn p now peer src a b c q l []) (weak_sub (.cons rfl rfl rfl (.cons rfl rfl rfl (.cons rfl rfl rfl (.cons rfl rfl rfl (.cons rfl rfl rfl (.cons rfl rfl rfl (.cons rfl rfl rfl (.cons rfl rfl rfl (.cons rfl rfl rfl (.cons rfl rfl rfl .nil)))))))))) (.cons rfl rfl rfl (.cons rfl rfl rfl (.cons rfl rfl rfl (.cons rfl rfl rfl (.cons rfl rfl rfl (.cons rfl rfl rfl (.cons rfl rfl rfl .nil))))))) (.cons rfl rfl (.cons rfl rfl (.cons rfl rfl .nil)))) ?_
    refine swp_skip ?_
    exact hnorm l [] hr hll (by decide)
end Go.Proofs.Ytabejnjnkpdjbaa.Sim
