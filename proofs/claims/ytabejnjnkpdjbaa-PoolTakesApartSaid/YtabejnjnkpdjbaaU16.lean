/- Merged by bundles.py: SimPo2, SimPo3, SimPo4, Del, Own2, SimDe. -/
import Derived.Test.YtabejnjnkpdjbaaU15
import Derived.Test.YtabejnjnkpdjbaaU14
import Derived.Test.YtabejnjnkpdjbaaU9
import Derived.Test.YtabejnjnkpdjbaaU13
import Derived.Deep.RegionLaw
/- own of tunnels: a row, and a family of rows of queries. -/
namespace Go.Proofs.Ytabejnjnkpdjbaa.Sim
set_option linter.unusedVariables false
set_option linter.unusedSimpArgs false
open Go.RowKit Mem
def AOf (l : List PTun) : Type := { A : List ATun // A.map ATun.t = l }
instance (l : List PTun) : Inhabited (AOf l) := ⟨⟨l.map fun t => ⟨t, undef⟩, by rw [List.map_map]; exact List.map_id' l⟩⟩
def rowA (l : List PTun) (A : List ATun) : List (List T) := A.map tunR ++ (l.drop A.length).map tunT
theorem rowA_len {l : List PTun} {A : List ATun} (h : A.length ≤ l.length) : (rowA l A).length = l.length := by
  unfold rowA; rw [List.length_append, List.length_map, List.length_map, List.length_drop]; omega
theorem rowA_at {l : List PTun} {A : List ATun} (h : A.length < l.length) : (rowA l A)[A.length]? = some (tunT l[A.length]) := by
  unfold rowA
  rw [List.getElem?_append_right (by rw [List.length_map]; exact Nat.le_refl _), List.length_map, Nat.sub_self, List.getElem?_map, List.getElem?_drop, Nat.add_zero, List.getElem?_eq_getElem h]; rfl
theorem rowA_set {l : List PTun} {A : List ATun} (h : A.length < l.length) (u : Value) : (rowA l A).set A.length (tunR ⟨l[A.length], u⟩) = rowA l (A ++ [⟨l[A.length], u⟩]) := by
  unfold rowA
  rw [List.set_append_right _ _ (by rw [List.length_map]; exact Nat.le_refl _), List.length_map, Nat.sub_self, List.drop_eq_getElem_cons h, List.map_cons, List.set_cons_zero, List.map_append, List.length_append, List.append_assoc]; rfl
def SOt (l : List PTun) (A : List ATun) : St := ⟨[(0, .own 1001 l.length), (1, .t (.clo 114 [])), (9, .own 1001 l.length), (10, .t (.v (.int .i64 (l.length : Int)))), (11, .t (.v (.int .i64 (A.length : Int))))], [(1100, [.rs (FamR (famT A))])], [(1001, ⟨118, 14, rowA l A⟩)]⟩
set_option maxRecDepth 100000 in
set_option maxHeartbeats 2000000 in
theorem ownTuns (l : List PTun) (hn : l.length ≤ 1000) (hq : ∀ t ∈ l, FewTun t) : ECalls Try.prog 113 [.t (.sl 14 (l.map tunT)), .t (.clo 114 [])] [] [] (fun _ : AOf l => .own 1001 l.length) (fun A => [(1100, [.rs (FamR (famT A.1))])]) (fun A => [(1001, tunO A.1)]) := by
  have hm : (l.map tunT).length = l.length := List.length_map _
  have c1 := cloneTun (l.map tunT) (by rw [hm]; omega) (by rw [hm]; unfold maxLen; omega)
  rw [hm] at c1
  refine ecalls_of Try.func113 rfl rfl Try.ntmps113 rfl ?_
  repeat' (first | refine rg 0 (aq0 ?_) | (refine rg 1 ?_; refine oMv ?_; refine sops_lcall (c1) (fun i => i) (fun _ => 1001) (fun _ => false) (.free rfl rfl) rfl rfl rfl (by ((repeat' (first | exact .nil | refine .cons rfl rfl rfl ?_)) <;> fail)) .nil .nil rfl rfl (fun _ h => Bool.noConfusion h) ?_; refine aq0 ?_) | refine rg 2 (aq2 ?_) | refine gc ?_ | refine ct ?_ | refine cf ?_ | refine sc ?_ ?_ <;> intro hc | refine rq rfl (rt .nil) ?_)
  refine swp_weak (weak_fam0 1100 rfl) ?_
  refine swp_fam (SOt l) (fun A => A.map ATun.t = l.take A.length ∧ A.length ≤ l.length) (fun A => l.length - A.length) [] ?_ ⟨rfl, Nat.zero_le _⟩ ?_
  · exact (weak_sub (.cons rfl rfl rfl (.cons rfl rfl rfl (.cons rfl rfl rfl (.cons rfl rfl rfl (.cons rfl rfl rfl .nil))))) (.cons rfl rfl rfl .nil) (.cons rfl rfl .nil))
  rintro A ⟨hA, hk⟩
  have hrl := rowA_len hk
  unfold SOt
  by_cases hlt : A.length < l.length
  · have hlt' : (A.length : Int) < l.length := by omega
    have hat := rowA_at hlt
    have c2 := ownTun_ l[A.length] (hq _ (List.getElem_mem hlt))
    have hset := rowA_set hlt
    have hA2 : ∀ u, (A ++ [(⟨l[A.length], u⟩ : ATun)]).map ATun.t = l.take (A ++ [(⟨l[A.length], u⟩ : ATun)]).length := fun u => by
      rw [List.map_append, hA, List.length_append]
      exact (List.take_append_getElem hlt)
    generalize l[A.length] = t at *
    repeat' (first | refine rg 3 (aq3 ?_) | refine gc ?_ | refine ct ?_ | refine cf ?_ | refine sc ?_ ?_ <;> intro hc | refine rq rfl (rt .nil) ?_)
    refine rg 4 ?_
    refine oMv ?_
    refine sp (ixo rfl) ?_
    refine sp (po_load_own_agg (ts := tunT t) rfl rfl rfl hrl.symm (tyT rfl) hat rfl rfl) ?_
    refine sal str118 ?_
    refine oAs ?_
    refine oS ?_
    refine oN ?_
    refine gc ?_
    refine rg 5 ?_
    refine oMv ?_
    refine oMv ?_
    refine oMv ?_
    refine sp (po_load_bx_agg rfl rfl (tyT rfl) rfl (vc (vc (vc (vc (vc (vc (vc (vc (vc (vc (vc (vc (vc (vc .nil)))))))))))))) rfl) ?_
    refine sops_lcall_tclo (args := [_]) (caps := []) c2 (fun i => i) (fun _ => 1002) (fun _ => false) (.free rfl rfl) rfl rfl rfl rfl (.cons rfl rfl rfl .nil) .nil .nil rfl rfl (fun _ h => Bool.noConfusion h) ?_
    refine sops_weakE (weak_closeG 20 1100 1002 (famT A) [] ((tunS t).map .t) [] rfl (by rw [List.append_nil]; rfl) rfl rfl) fun u => ?_
    have hf : famT A ++ (u, askO t) :: [] = famT (A ++ [⟨t, u⟩]) := by unfold famT; rw [List.map_append]; rfl
    rw [hf]
    refine sp (po_index_own (sz := 14) (k := A.length) rfl rfl rfl (by omega) rfl (tyS rfl) rfl hlt) ?_
    refine sops_store_own (t := .agg (tunR ⟨t, u⟩)) (ts := tunR ⟨t, u⟩) (by rfl) (.free rfl rfl) rfl rfl rfl rfl (by omega) rfl (by repeat first | exact .agn | refine .agc ?_ ?_ | exact .t _) rfl rfl (tyT rfl) rfl hat rfl ?_
    refine oN ?_
    have e1 := congrArg (fun r => (⟨118, 14, r⟩ : Own)) (hset u)
    have hla : (A ++ [(⟨t, u⟩ : ATun)]).length = A.length + 1 := List.length_append
    repeat' (first | refine rg 6 (aq7 ?_) | refine gc ?_ | refine ct ?_ | refine cf ?_ | refine sc ?_ ?_ <;> intro hc | refine rq rfl (rt .nil) ?_)
    refine fam_next (A ++ [⟨t, u⟩]) (by rw [hla]; omega) ?_ ⟨hA2 u, by rw [hla]; exact hlt⟩
    refine weak_sub ?_ ?_ ?_
    · exact .cons rfl (by rfl) rfl (.cons rfl (by rfl) rfl (.cons rfl (by rfl) rfl (.cons rfl (by rfl) rfl (.cons rfl (by rw [hla]) rfl .nil))))
    · exact .cons rfl (by rfl) rfl .nil
    · exact .cons rfl (by exact e1) .nil
  · have hkl : A.length = l.length := by omega
    rw [hkl, List.take_length] at hA
    have hro : rowA l A = A.map tunR := by unfold rowA; rw [hkl, List.drop_length]; exact List.append_nil _
    rw [hro, hkl]
    repeat' (first | refine gc ?_ | refine fam_exit ?_ | refine fam_ret ?_ | refine rete ⟨A, hA⟩ ?_ | refine rg 3 (aq3 ?_) | refine rg 7 (aq8 ?_) | refine ct ?_ | refine cf ?_ | refine sc ?_ ?_ <;> intro hc | refine retl (by exact .inr rfl) rfl (.tmp rfl rfl .nil) ?_ rfl (.cons rfl (by rfl) rfl .nil) (.cons rfl (by rfl) .nil))
    rfl
end Go.Proofs.Ytabejnjnkpdjbaa.Sim

/- A pool that is worked on: with, after. -/
namespace Go.Proofs.Ytabejnjnkpdjbaa.Sim
set_option linter.unusedVariables false
set_option linter.unusedSimpArgs false
open Go.RowKit Mem
section
variable {P : Program} {bx : List (Nat × List A)} {ow : List (Nat × Own)} {o : Oper} {ρ : Operand → Option A} {r : A}
theorem po_nilcheck {x : Operand} {i off : Nat} (ho : o.op = .nilCheck x) (hx : ρ x = some (.bp i off)) : PureOp P bx ow o ρ (.bp i off) := pure_run fun C m g w a he h => by
  obtain ⟨h0, h1⟩ := h x (by simp [ho, Op.operands]) _ hx
  exact ⟨_, by simp [execOp, ho, h1], h0, rfl⟩
theorem po_nilcheck_oe {x : Operand} {i nn sz k off : Nat} {o' : Own} (ho : o.op = .nilCheck x) (hx : ρ x = some (.oe i nn sz k off)) (hi : get ow i = some o') (hnn : nn = o'.rows.length) : PureOp P bx ow o ρ (.oe i nn sz k off) := pure_run fun C m g w a he h => by
  obtain ⟨h1, h2, h3, h4⟩ := h x (by simp [ho, Op.operands]) _ hx
  obtain ⟨b, h5, h6⟩ := h4 (by rw [he.ln i _ hi]; exact hnn)
  exact ⟨_, by simp only [execOp, ho, h6]; rfl, h1, h2, ⟨_, rfl⟩, fun _ => ⟨b, h5, rfl⟩⟩
theorem po_subu {t t2 : TypeId} {x y : Operand} {i j : Int} (ho : o.op = .binOp .sub t x y t2) (hx : ρ x = some (.t (.v (.int .u64 i)))) (hy : ρ y = some (.t (.v (.int .u64 j)))) : PureOp P bx ow o ρ (.t (.v (.int .u64 (IntKind.u64.wrap (i - j))))) := po_arith ho hx hy rfl
theorem po_addu {t t2 : TypeId} {x y : Operand} {i j : Int} (ho : o.op = .binOp .add t x y t2) (hx : ρ x = some (.t (.v (.int .u64 i)))) (hy : ρ y = some (.t (.v (.int .u64 j)))) : PureOp P bx ow o ρ (.t (.v (.int .u64 (IntKind.u64.wrap (i + j))))) := po_arith ho hx hy rfl
inductive PartsA (ρ : Operand → Option A) : List (Nat × Operand) → List (Nat × A) → Prop
  | nil : PartsA ρ [] []
  | cons {i : Nat} {x : Operand} {y : A} {xs : List (Nat × Operand)} {ts : List (Nat × A)} (h : ρ x = some y) (hl : PartsA ρ xs ts) : PartsA ρ ((i, x) :: xs) ((i, y) :: ts)
theorem PartsA.ok {m : Mm} {g : Gh} {xs : List (Nat × Operand)} {ts : List (Nat × A)} (h : PartsA ρ xs ts) {a : Act} (ha : ∀ x ∈ xs.map (·.2), ∀ y, ρ x = some y → AR m g y (a.eval x)) :
    ts.length = (xs.map fun p => (p.1, a.eval p.2)).length ∧ ∀ (i : Nat) p q, ts[i]? = some p → (xs.map fun p => (p.1, a.eval p.2))[i]? = some q → q.1 = p.1 ∧ AR m g p.2 q.2 := by
  induction h with
  | nil => exact ⟨rfl, fun i p q h => by simp at h⟩
  | @cons i x y xs ts h hl ih =>
    obtain ⟨h1, h2⟩ := ih fun x hx => ha x (by simp at hx ⊢; exact .inr hx)
    refine ⟨by simp [h1], fun j p q h3 h4 => ?_⟩
    cases j with
    | zero => simp at h3 h4; subst h3 h4; exact ⟨rfl, ha x (by simp) y h⟩
    | succ j => simp at h3; exact h2 j p q h3 (by simpa using h4)
theorem po_build_agl {t : TypeId} {xs : List (Nat × Operand)} {ts : List (Nat × A)} {rs : List A} {pl : List (Nat × Nat)} {zs : List Value} (hS : strI P t = some (pl, zs)) (ho : o.op = .build t xs.toArray) (hx : PartsA ρ xs ts) (hb : fillA (fun i => pl[i]?) (zs.map fun v => .t (.v v)) ts = some rs) (hlf : rs.all A.isLf = true) : PureOp P bx ow o ρ (.ag rs) := pure_run fun C m g w a he h => by
  obtain ⟨k1, k2⟩ := hx.ok (m := m) (g := g) (a := a) (fun x hx y hy => h x (by simp [ho, Op.operands] at hx ⊢; exact hx) y hy)
  unfold strI at hS
  split at hS
  · rename_i it fields hi hu
    split at hS
    · rename_i z places hz hpl
      cases hb2 : (z.cells.toList.all (·.oneCell')) with
      | false => rw [hb2] at hS; cases hS
      | true =>
        rw [hb2] at hS
        injection hS with hS
        injection hS with e1 e2
        subst e1 e2
        obtain ⟨cells, h3, h4⟩ := fillA_ok (m := m) (g := g) hb (zero_acells m g (List.all_eq_true.1 hb2)) k1 k2
        have hbuilt : P.built t (xs.map fun p => (p.1, a.eval p.2)) = some cells := by
          unfold Program.built
          rw [hi, hu]
          dsimp only
          rw [hz, hpl]
          dsimp only
          have : (fun i : Nat => places[i]?) = (fun i : Nat => places.toArray[i]?) := by funext i; simp
          rw [← this]; exact h3
        have hrun := run_build (P := P) w t (xs.map fun p => (p.1, a.eval p.2)).toArray cells (by simpa using hbuilt)
        refine ⟨.agg cells, ?_, cells, rfl, by have := h4.1; simpa using this, fun j y u hj hu => ?_⟩
        · simp only [execOp, ho]
          rw [List.map_toArray] at *
          rw [Sem.run_bind, show (xs.map fun x => (x.1, a.eval x.2)).toArray = (xs.map fun p => (p.1, a.eval p.2)).toArray from rfl, hrun]; rfl
        obtain ⟨h5, h6⟩ := h4.2 j y u hj (by simpa using hu)
        exact ⟨ar_leaf h5 ((List.all_eq_true.1 hlf) y (List.mem_of_getElem? hj)), h6⟩
    · cases hS
  · cases hS
end
structure PDo where
  kind : Int
  peer : Int
  node : Int
  inc : Int
  num : Int
  src : Int
  duid : Int
  daddr : Int
  dport : Int
  q : Option PQ
def qT : Option PQ → List T
  | none => [u64T 0, u64T 0, u64T 0, u64T 0, .v (.string .empty), .v (.string .empty), u64T 0, u32T 0, .v (.slice none 0 0)]
  | some q => askR q
def doR (d : PDo) : List T := [i64T d.kind, i64T d.peer, i64T d.node, u64T d.inc, u64T d.num, u64T d.src, u64T d.duid, u32T d.daddr, i64T d.dport] ++ qT d.q
structure PFail where
  id : Int
  why : Int
def failR (f : PFail) : List T := [u64T f.id, i64T f.why]
def doO (l : List PDo) : Own := ⟨84, 18, l.map doR⟩
def failO (l : List PFail) : Own := ⟨82, 2, l.map failR⟩
structure PPool where
  node : Int
  inc : Int
  next : Int
  tuns : List PTun
def poolT (p : PPool) : List T := [i64T p.node, u64T p.inc, u64T p.next, .sl 14 (p.tuns.map tunT)]
structure PWk where
  node : Int
  inc : Int
  next : Int
  now : Int
  tuns : List ATun
  dos : List PDo
  fails : List PFail
def wC (a b c : Nat) (W : PWk) : List A := [.t (i64T W.node), .t (u64T W.inc), .t (u64T W.next), .own a W.tuns.length, .t (u64T W.now), .own b W.dos.length, .own c W.fails.length]
def wB (i r a b c : Nat) (W : PWk) : List (Nat × List A) := [(i, wC a b c W), (r, [.rs (FamR (famT W.tuns))])]
def wO (a b c : Nat) (W : PWk) : List (Nat × Own) := [(a, tunO W.tuns), (b, doO W.dos), (c, failO W.fails)]
def begW (p : PPool) (now : Int) (l : List ATun) : PWk := ⟨p.node, p.inc, p.next, now, l, [], []⟩
def StW (p : PPool) (now : Int) (A : List ATun) : St := ⟨[(4, .bp 12 0)], wB 12 1100 1001 1002 1003 (begW p now A), wO 1001 1002 1003 (begW p now A)⟩
set_option maxRecDepth 100000 in
set_option maxHeartbeats 1000000 in
theorem with_ (p : PPool) (now : Int) (hn : p.tuns.length ≤ 1000) (hq : ∀ t ∈ p.tuns, FewTun t) : ECalls Try.prog 62 [.t (.agg (poolT p)), .t (u64T now)] [] [] (fun _ : AOf p.tuns => .bp 12 0) (fun A => wB 12 1100 1001 1002 1003 (begW p now A.1)) (fun A => wO 1001 1002 1003 (begW p now A.1)) := by
  have c1 := ownTuns p.tuns hn hq
  refine ecalls_of Try.func62 rfl rfl Try.ntmps62 rfl ?_
  unfold poolT
  repeat' (first | refine rg 0 (aq10 ?_) | refine gc ?_ | refine ct ?_ | refine cf ?_ | refine sc ?_ ?_ <;> intro hc | refine rq rfl (rt .nil) ?_)
  refine rg 1 ?_
  refine oFb ?_
  refine oLb ?_
  refine sops_ecall c1 (fun i => i) (fun i => i) (.free rfl rfl) rfl rfl rfl (.cons rfl rfl rfl (.vw rfl (.fn _) .nil)) .nil .nil rfl (fun _ => rfl) fun A => ?_
  obtain ⟨l, hl⟩ := A
  have hlen : p.tuns.length = l.length := by rw [← hl, List.length_map]
  dsimp only
  rw [hlen]
  refine oFb ?_
  refine oS ?_
  refine oN ?_
  refine gc ?_
  refine rg 2 ?_
  refine sp (po_load_bx_ag rfl rfl (tyT rfl) rfl rfl rfl rfl) ?_
  refine oMv ?_
  refine sp (po_build_agl str124 rfl (.cons rfl (.cons rfl .nil)) rfl rfl) ?_
  refine sbx ?_
  refine oAs ?_
  refine oN ?_
  refine then_go ?_
  refine swp_weak (weak_own0_bx 84 18 (i := 12) (j := 5) (q := 1002) rfl rfl rfl) ?_
  refine swp_weak (weak_own0_bx 82 2 (i := 12) (j := 6) (q := 1003) rfl rfl rfl) ?_
  refine swp_weak (st' := StW p now l) (weak_sub (.cons rfl rfl rfl .nil) (.cons rfl rfl rfl (.cons rfl rfl rfl .nil)) (.cons rfl rfl (.cons rfl rfl (.cons rfl rfl .nil)))) ?_
  unfold StW
  repeat' (first | refine gc ?_ | refine rete ⟨l, hl⟩ ?_ | refine rg 0 (aq10 ?_) | refine ct ?_ | refine cf ?_ | refine sc ?_ ?_ <;> intro hc | refine retl (by exact .inr rfl) rfl (.tmp rfl rfl .nil) ?_ rfl (.cons rfl (by rfl) rfl (.cons rfl (by rfl) rfl .nil)) (.cons rfl (by rfl) (.cons rfl (by rfl) (.cons rfl (by rfl) .nil))))
  rfl
end Go.Proofs.Ytabejnjnkpdjbaa.Sim

/- after, fail. -/
namespace Go.Proofs.Ytabejnjnkpdjbaa.Sim
set_option linter.unusedVariables false
set_option linter.unusedSimpArgs false
open Go.RowKit Mem
def afterP (now then_ : Int) : Int := if now < then_ then 0 else IntKind.u64.wrap (now - then_)
def wX (i a b c : Nat) (W : PWk) : List (Nat × List A) := [(i, wC a b c W)]
set_option maxRecDepth 100000 in
set_option maxHeartbeats 1000000 in
theorem after_ (W : PWk) (t : Int) : LCalls Try.prog 79 [.bp 2000 0, .t (u64T t)] (wX 2000 2001 2002 2003 W) (wO 2001 2002 2003 W) (.t (u64T (afterP W.now t))) (wX 2000 2001 2002 2003 W) (wO 2001 2002 2003 W) := by
  refine lcalls_of Try.func79 rfl rfl Try.ntmps79 rfl ?_
  unfold wX wO wC afterP
  by_cases hlt : W.now < t
  · rw [if_pos hlt]
    repeat' (first | refine rg 0 (aq0 ?_) | refine rg 1 (aq11 ?_) | refine rg 2 (aq0 ?_) | refine gc ?_ | refine ct ?_ | refine cf ?_ | refine sc ?_ ?_ <;> intro hc | refine retl (by exact .inr rfl) rfl (.tmp rfl rfl .nil) ?_ rfl (.cons rfl (by rfl) rfl .nil) (.cons rfl (by rfl) (.cons rfl (by rfl) (.cons rfl (by rfl) .nil))))
    rfl
  · rw [if_neg hlt]
    repeat' (first | refine rg 0 (aq0 ?_) | refine rg 1 (aq11 ?_) | (refine rg 3 ?_; refine oMv ?_; refine sp (po_nilcheck rfl rfl) ?_; refine oFb ?_; refine oLb ?_; refine oMv ?_; refine sp (po_subu rfl rfl rfl) ?_; refine aq0 ?_) | refine gc ?_ | refine ct ?_ | refine cf ?_ | refine sc ?_ ?_ <;> intro hc | refine retl (by exact .inr rfl) rfl (.tmp rfl rfl .nil) ?_ rfl (.cons rfl (by rfl) rfl .nil) (.cons rfl (by rfl) (.cons rfl (by rfl) (.cons rfl (by rfl) .nil))))
    rfl
theorem famT_open {A B : List ATun} {a : ATun} : famT (A ++ a :: B) = famT A ++ (a.u, askO a.t) :: famT B := famT_split
def failsL (l : List PQ) (why : Int) : List PFail := l.map fun q => ⟨q.id, why⟩
def failW (W : PWk) (l : List PQ) (why : Int) : PWk := { W with fails := W.fails ++ failsL l why }
theorem failsL_take {l : List PQ} {k : Nat} {why : Int} (h : k < l.length) : failsL (l.take (k + 1)) why = failsL (l.take k) why ++ [⟨l[k].id, why⟩] := by
  unfold failsL; rw [← List.take_append_getElem h, List.map_append]; rfl
theorem failW_0 (W : PWk) (l : List PQ) (why : Int) : failW W (l.take 0) why = W := by unfold failW failsL; rw [List.take_zero, List.map_nil, List.append_nil]
def SFl (W : PWk) (A B : List ATun) (a : ATun) (why : Int) (k : Nat) : St := ⟨[(0, .bp 2000 0), (2, .t (i64T why)), (9, .own 1005 (a.t.asks.map askR).length), (10, .t (.v (.int .i64 ((a.t.asks.map askR).length : Int)))), (11, .t (.v (.int .i64 (k : Int)))), (90000, .ev 1005 (a.t.asks.map askR).length a.u)],
  [(2000, wC 2001 2002 1003 (failW W (a.t.asks.take k) why)), (3000, [.rs (FamR (famT A ++ famT B))])], [(1005, ⟨70, 9, a.t.asks.map askR⟩), (2001, tunO W.tuns), (2002, doO W.dos), (1003, failO (failW W (a.t.asks.take k) why).fails)]⟩
set_option maxRecDepth 100000 in
set_option maxHeartbeats 2000000 in
theorem fail_ (W : PWk) (A B : List ATun) (a : ATun) (why : Int) (hW : W.tuns = A ++ a :: B) (ha : a.t.asks.length ≤ 1000) (hf : W.fails.length ≤ 1000000) : LCalls Try.prog 116 [.bp 2000 0, .t (.agg (tunR a)), .t (i64T why)] (wB 2000 3000 2001 2002 2003 W) (wO 2001 2002 2003 W) (resA []) (wB 2000 3000 2001 2002 1003 (failW W a.t.asks why)) (wO 2001 2002 1003 (failW W a.t.asks why)) := by
  obtain ⟨wn, wi, wx, now, tuns, dos, fails⟩ := W
  dsimp only at hW hf
  subst hW
  refine lcalls_of Try.func116 rfl rfl Try.ntmps116 rfl ?_
  refine swp_up ?_
  unfold wB wO wC failW
  dsimp only
  rw [famT_open]
  refine swp_weak (weak_ren 2003 1003 rfl rfl rfl rfl rfl rfl rfl) ?_
  repeat' (first | (refine rg 0 ?_; refine sbx ?_; refine oN ?_) | refine gc ?_ | refine ct ?_ | refine cf ?_ | refine sc ?_ ?_ <;> intro hc | refine rq rfl .nil ?_)
  refine rg 1 ?_
  refine oFb ?_
  refine oLb ?_
  refine sops_weak (weak_openF 9 3000 1005 90000 (a := famT A) (b := famT B) (o := ⟨70, 9, a.t.asks.map askR⟩) rfl rfl rfl) ?_
  refine sp (po_len_own rfl rfl (tyS rfl)) ?_
  refine oMv ?_
  refine oN ?_
  refine gc ?_
  have hfam : famT (A ++ a :: B) = famT A ++ (a.u, askO a.t) :: famT B := famT_open
  refine swp_for (SFl ⟨wn, wi, wx, now, A ++ a :: B, dos, fails⟩ A B a why) (fun _ => True) a.t.asks.length ?_ trivial ?_
  · unfold SFl
    rw [failW_0]
    exact (weak_sub (.cons rfl rfl rfl (.cons rfl rfl rfl (.cons rfl rfl rfl (.cons rfl rfl rfl (.cons rfl rfl rfl (.cons rfl rfl rfl .nil)))))) (.cons rfl rfl rfl (.cons rfl rfl rfl .nil)) (.cons rfl rfl (.cons rfl rfl (.cons rfl rfl (.cons rfl rfl .nil)))))
  intro k hk _
  unfold SFl
  have hm : (a.t.asks.map askR).length = a.t.asks.length := List.length_map _
  by_cases hlt : k < a.t.asks.length
  · have hlt' : (k : Int) < (a.t.asks.map askR).length := by rw [hm]; omega
    have hat : (a.t.asks.map askR)[k]? = some (askR a.t.asks[k]) := map_at_some hlt
    have hlt2 : k < (a.t.asks.map askR).length := by rw [hm]; exact hlt
    have hs := failsL_take (why := why) hlt
    have hfl : (failsL (a.t.asks.take k) why).length ≤ 1000 := by unfold failsL; rw [List.length_map, List.length_take]; omega
    have hL1 : (fails ++ failsL (a.t.asks.take k) why).length ≤ 1001000 := by rw [List.length_append]; omega
    have hL2 : fails ++ failsL (a.t.asks.take (k + 1)) why = (fails ++ failsL (a.t.asks.take k) why) ++ [⟨a.t.asks[k].id, why⟩] := by rw [hs, List.append_assoc]
    unfold wC failW
    dsimp only
    generalize fails ++ failsL (a.t.asks.take k) why = L at *
    generalize a.t.asks[k] = q at *
    repeat' (first | refine rg 2 (aq3 ?_) | (refine rg 3 ?_; refine sp (ixo rfl) ?_; refine sp (po_load_own_agg (ts := askR q) rfl rfl rfl rfl (tyT rfl) hat rfl rfl) ?_; refine sal str70 ?_; refine aq12 ?_) | ((refine swp_any (id := 4) [[], [], [], [], [], [], [], [], [], [], [1003], [], [], [2000]] [[1003], [], [], [], [], [], [], [], [], [], [], [], [], []] mixed (by kernel_rfl) ?_) <;> (first | refine yp (fun _ _ => po_load_own_agg (ts := askR q) rfl rfl rfl rfl (tyT rfl) hat rfl rfl) ?_ | refine yp (fun _ _ => po_move rfl rfl) ?_) <;> (first | refine yp (fun _ _ => po_load_own_agg (ts := askR q) rfl rfl rfl rfl (tyT rfl) hat rfl rfl) ?_ | refine yp (fun _ _ => po_move rfl rfl) ?_) <;> (first | refine yp (fun _ _ => po_load_own_agg (ts := askR q) rfl rfl rfl rfl (tyT rfl) hat rfl rfl) ?_ | refine yp (fun _ _ => po_nilcheck rfl rfl) ?_) <;> (first | refine yp (fun _ _ => po_load_own_agg (ts := askR q) rfl rfl rfl rfl (tyT rfl) hat rfl rfl) ?_ | refine yp (fun _ _ => po_field_bx rfl rfl (tyF rfl)) ?_) <;> (first | refine yp (fun _ _ => po_load_own_agg (ts := askR q) rfl rfl rfl rfl (tyT rfl) hat rfl rfl) ?_ | refine yp (fun _ _ => po_load_bx rfl rfl (tyT rfl) rfl rfl) ?_) <;> (first | refine yp (fun _ _ => po_load_own_agg (ts := askR q) rfl rfl rfl rfl (tyT rfl) hat rfl rfl) ?_ | refine yp (fun _ _ => po_field_bx rfl rfl (tyF rfl)) ?_) <;> (first | refine yp (fun _ _ => po_load_own_agg (ts := askR q) rfl rfl rfl rfl (tyT rfl) hat rfl rfl) ?_ | refine yp (fun _ _ => po_load_bx rfl rfl (tyT rfl) rfl rfl) ?_) <;> (first | refine yp (fun _ _ => po_load_own_agg (ts := askR q) rfl rfl rfl rfl (tyT rfl) hat rfl rfl) ?_ | refine yp (fun _ _ => po_move rfl rfl) ?_) <;> (first | refine yp (fun _ _ => po_load_own_agg (ts := askR q) rfl rfl rfl rfl (tyT rfl) hat rfl rfl) ?_ | refine yp (fun _ _ => po_buildS str82 rfl (pc (pc .nil)) rfl) ?_) <;> (first | refine yp (fun _ _ => po_load_own_agg (ts := askR q) rfl rfl rfl rfl (tyT rfl) hat rfl rfl) ?_ | refine yp (fun _ _ => po_buildSlice rfl (tyE rfl) (dc (.nil _)) rfl rfl rfl) ?_) <;> refine sany_eff [] [(1003, _)] (.free rfl rfl) rfl rfl (fun _ _ _ _ => e_append rfl rfl rfl (by first | rfl | simp) rfl (by exact .t _) (tyE rfl) (by first | assumption | (simp only [List.length_map, List.length_cons, List.length_nil]; omega)) (by first | assumption | (unfold maxLen; simp only [List.length_map, List.length_cons, List.length_nil]; omega))) ?_ <;> (first | refine yp (fun _ _ => po_load_own_agg (ts := askR q) rfl rfl rfl rfl (tyT rfl) hat rfl rfl) ?_ | refine yp (fun _ _ => po_nilcheck rfl rfl) ?_) <;> (first | refine yp (fun _ _ => po_load_own_agg (ts := askR q) rfl rfl rfl rfl (tyT rfl) hat rfl rfl) ?_ | refine yp (fun _ _ => po_field_bx rfl rfl (tyF rfl)) ?_) <;> refine sany_eff [(2000, _)] [] (.free rfl rfl) rfl rfl (fun _ _ _ _ => e_store rfl rfl rfl rfl rfl rfl (tyT rfl) rfl rfl) ?_ <;> refine sany_nil ?_) | refine rg 5 (aq7 ?_) | refine gc ?_ | refine ct ?_ | refine cf ?_ | refine sc ?_ ?_ <;> intro hc | refine rq rfl .nil ?_)
    have hE : (⟨82, 2, L.map failR ++ [failR ⟨q.id, why⟩]⟩ : Own) = failO (L ++ [⟨q.id, why⟩]) := by unfold failO; rw [List.map_append]; rfl
    have hN : (L.map failR ++ [failR ⟨q.id, why⟩]).length = (L ++ [(⟨q.id, why⟩ : PFail)]).length := by rw [List.length_append, List.length_append, List.length_map]; rfl
    refine for_next hlt ?_ trivial
    dsimp only
    rw [hL2]
    exact (weak_sub (.cons rfl (by first | rfl | (first | (exact hE) | (exact congrArg (fun n => [Sim.A.t (i64T wn), Sim.A.t (u64T wi), Sim.A.t (u64T wx), Sim.A.own 2001 (A ++ a :: B).length, Sim.A.t (u64T now), Sim.A.own 2002 dos.length, Sim.A.own 1003 n]) hN))) rfl (.cons rfl (by first | rfl | (first | (exact hE) | (exact congrArg (fun n => [Sim.A.t (i64T wn), Sim.A.t (u64T wi), Sim.A.t (u64T wx), Sim.A.own 2001 (A ++ a :: B).length, Sim.A.t (u64T now), Sim.A.own 2002 dos.length, Sim.A.own 1003 n]) hN))) rfl (.cons rfl (by first | rfl | (first | (exact hE) | (exact congrArg (fun n => [Sim.A.t (i64T wn), Sim.A.t (u64T wi), Sim.A.t (u64T wx), Sim.A.own 2001 (A ++ a :: B).length, Sim.A.t (u64T now), Sim.A.own 2002 dos.length, Sim.A.own 1003 n]) hN))) rfl (.cons rfl (by first | rfl | (first | (exact hE) | (exact congrArg (fun n => [Sim.A.t (i64T wn), Sim.A.t (u64T wi), Sim.A.t (u64T wx), Sim.A.own 2001 (A ++ a :: B).length, Sim.A.t (u64T now), Sim.A.own 2002 dos.length, Sim.A.own 1003 n]) hN))) rfl (.cons rfl (by first | rfl | (first | (exact hE) | (exact congrArg (fun n => [Sim.A.t (i64T wn), Sim.A.t (u64T wi), Sim.A.t (u64T wx), Sim.A.own 2001 (A ++ a :: B).length, Sim.A.t (u64T now), Sim.A.own 2002 dos.length, Sim.A.own 1003 n]) hN))) rfl (.cons rfl (by first | rfl | (first | (exact hE) | (exact congrArg (fun n => [Sim.A.t (i64T wn), Sim.A.t (u64T wi), Sim.A.t (u64T wx), Sim.A.own 2001 (A ++ a :: B).length, Sim.A.t (u64T now), Sim.A.own 2002 dos.length, Sim.A.own 1003 n]) hN))) rfl .nil)))))) (.cons rfl (by first | rfl | (first | (exact hE) | (exact congrArg (fun n => [Sim.A.t (i64T wn), Sim.A.t (u64T wi), Sim.A.t (u64T wx), Sim.A.own 2001 (A ++ a :: B).length, Sim.A.t (u64T now), Sim.A.own 2002 dos.length, Sim.A.own 1003 n]) hN))) rfl (.cons rfl (by first | rfl | (first | (exact hE) | (exact congrArg (fun n => [Sim.A.t (i64T wn), Sim.A.t (u64T wi), Sim.A.t (u64T wx), Sim.A.own 2001 (A ++ a :: B).length, Sim.A.t (u64T now), Sim.A.own 2002 dos.length, Sim.A.own 1003 n]) hN))) rfl .nil)) (.cons rfl (by first | rfl | (first | (exact hE) | (exact congrArg (fun n => [Sim.A.t (i64T wn), Sim.A.t (u64T wi), Sim.A.t (u64T wx), Sim.A.own 2001 (A ++ a :: B).length, Sim.A.t (u64T now), Sim.A.own 2002 dos.length, Sim.A.own 1003 n]) hN))) (.cons rfl (by first | rfl | (first | (exact hE) | (exact congrArg (fun n => [Sim.A.t (i64T wn), Sim.A.t (u64T wi), Sim.A.t (u64T wx), Sim.A.own 2001 (A ++ a :: B).length, Sim.A.t (u64T now), Sim.A.own 2002 dos.length, Sim.A.own 1003 n]) hN))) (.cons rfl (by first | rfl | (first | (exact hE) | (exact congrArg (fun n => [Sim.A.t (i64T wn), Sim.A.t (u64T wi), Sim.A.t (u64T wx), Sim.A.own 2001 (A ++ a :: B).length, Sim.A.t (u64T now), Sim.A.own 2002 dos.length, Sim.A.own 1003 n]) hN))) (.cons rfl (by first | rfl | (first | (exact hE) | (exact congrArg (fun n => [Sim.A.t (i64T wn), Sim.A.t (u64T wi), Sim.A.t (u64T wx), Sim.A.own 2001 (A ++ a :: B).length, Sim.A.t (u64T now), Sim.A.own 2002 dos.length, Sim.A.own 1003 n]) hN))) .nil)))))
  · have hkl : k = a.t.asks.length := by omega
    subst hkl
    rw [List.take_length]
    unfold wC failW
    dsimp only
    repeat' (first | refine then_go ?_ | refine swp_seq ?_ | refine for_exit ?_ | refine block_exit ?_ | refine up_to (weak_closeV 9 3000 1005 90000 (famT A) (famT B) rfl rfl rfl rfl rfl rfl) ?_ | refine rg 2 (aq3 ?_) | refine swp_ret ?_ | refine swp_skip ?_ | refine swp_block ?_ | refine swp_exit ?_ | refine block_go ?_ | refine block_exit ?_ | refine block_far rfl ?_ | refine block_ret ?_ | refine then_ret ?_ | refine then_exit ?_ | refine for_ret ?_ | refine for_exit ?_ | refine ct ?_ | refine cf ?_ | refine sc ?_ ?_ <;> intro hc | refine retl (by first | exact .inr rfl | exact .inl rfl) rfl .nil ?_ rfl (.cons rfl (by rfl) rfl (.cons rfl (by rfl) rfl .nil)) (.cons rfl (by rfl) (.cons rfl (by rfl) (.cons rfl (by rfl) .nil))))
    rfl
end Go.Proofs.Ytabejnjnkpdjbaa.Sim

/- What slices.DeleteFunc keeps, round by round: a row of the call's own, written in place. -/
namespace Go.Proofs.Ytabejnjnkpdjbaa.Mem
set_option linter.unusedVariables false
set_option linter.unusedSimpArgs false
open Go.RowKit

def Own3 {α : Type} (f : α → List Value) (e : TypeId) (base : Nat) (w : World) (v : Value) (xs : List α) : Prop := w.ownsRow base e 3 v xs.length (xs.flatMap f)
def Cells3 {α : Type} (f : α → List Value) (xs : List α) : Prop := ∀ x ∈ xs, ∃ c0 c1 c2, f x = [c0, c1, c2] ∧ c0.oneCell' = true ∧ c1.oneCell' = true ∧ c2.oneCell' = true
theorem Cells3.len {α : Type} {f : α → List Value} : ∀ {xs : List α}, Cells3 f xs → (xs.flatMap f).length = xs.length * 3
  | [], _ => rfl
  | x :: r, h => by
    obtain ⟨c0, c1, c2, hx, _⟩ := h x (by simp)
    rw [List.flatMap_cons, List.length_append, Cells3.len fun y hy => h y (by simp [hy]), hx]
    simp; omega
theorem Cells3.sub {α : Type} {f : α → List Value} {xs ys : List α} (h : Cells3 f xs) (hs : ∀ y ∈ ys, y ∈ xs) : Cells3 f ys := fun y hy => h y (hs y hy)
theorem Cells3.get {α : Type} {f : α → List Value} : ∀ {xs : List α}, Cells3 f xs → ∀ {k : Nat} {x : α}, xs[k]? = some x → ∀ {m : Nat}, m < 3 → (xs.flatMap f)[k * 3 + m]? = (f x)[m]?
  | [], _, k, x, h, _, _ => by simp at h
  | y :: r, hc, 0, x, h, m, hm => by
    simp at h; subst h
    obtain ⟨c0, c1, c2, hx, _⟩ := hc y (by simp)
    rw [List.flatMap_cons, Nat.zero_mul, Nat.zero_add, List.getElem?_append_left (by rw [hx]; simpa using hm)]
  | y :: r, hc, k + 1, x, h, m, hm => by
    simp at h
    obtain ⟨c0, c1, c2, hx, _⟩ := hc y (by simp)
    rw [List.flatMap_cons, List.getElem?_append_right (by rw [hx]; simp; omega), hx]
    have : (k + 1) * 3 + m - [c0, c1, c2].length = k * 3 + m := by simp; omega
    rw [this]
    exact Cells3.get (fun z hz => hc z (by simp [hz])) h hm
theorem Cells3.one {α : Type} {f : α → List Value} {xs : List α} (h : Cells3 f xs) : ∀ u ∈ xs.flatMap f, u.oneCell' = true := by
  intro u hu
  obtain ⟨x, hx, hux⟩ := List.mem_flatMap.1 hu
  obtain ⟨c0, c1, c2, he, h0, h1, h2⟩ := h x hx
  rw [he] at hux
  simp at hux
  rcases hux with rfl | rfl | rfl <;> assumption
theorem Own3.nil {α : Type} {f : α → List Value} {e : TypeId} {base : Nat} {w : World} : Own3 f e base w (.slice none 0 0) ([] : List α) := World.ownsRow_nil _ _ _ _
theorem Own3.lo {α : Type} {f : α → List Value} {e : TypeId} {base : Nat} {w w' : World} {v : Value} {xs : List α} (h : Own3 f e base w v xs) (hl : Lo w w') : Own3 f e base w' v xs := hl.owns h
theorem Own3.kept {α : Type} {f : α → List Value} {e : TypeId} {base : Nat} {w w' : World} {v : Value} {xs : List α} {row : Option Nat} (h : Own3 f e base w v xs) (hg : w.grownBy w' row) (hne : v.ownBlock = none ∨ v.ownBlock ≠ row) : Own3 f e base w' v xs := World.ownsRow.kept h hg hne
theorem Own3.open_ {α : Type} {f : α → List Value} {e : TypeId} {base : Nat} {w : World} {v : Value} {xs : List α} (h : Own3 f e base w v xs) :
    (v = .slice none 0 0 ∧ xs = []) ∨ ∃ g cap cur, v = .slice (some ⟨g, 0, none⟩) xs.length cap ∧ base ≤ g ∧ w.heap[g]? = some (.cells (List.toArray cur) e (0, 0)) ∧ xs.length ≤ cap ∧ cap ≤ maxLen ∧ cur.length = cap * 3 ∧ cur.take (xs.length * 3) = xs.flatMap f := by
  obtain ⟨_, ⟨rfl, h0⟩ | ⟨g, cap, cur, hv, hb, hg, hn, hc, hs, ht⟩⟩ := h
  · exact .inl ⟨rfl, List.eq_nil_of_length_eq_zero h0⟩
  · exact .inr ⟨g, cap, cur.toList, hv, hb, by simpa using hg, hn, hc, by simpa using hs, ht⟩
def CellR {α : Type} (f : α → List Value) : Rel α := fun _ _ x cs => cs = f x
theorem CellR.kept {α : Type} {f : α → List Value} : Kept (CellR f) := fun _ _ _ _ _ _ h _ _ => h
theorem Own3.slice {α : Type} {f : α → List Value} {e : TypeId} {base : Nat} {w : World} {v : Value} {xs : List α} (h : Own3 f e base w v xs) (h3 : Cells3 f xs) :
    ∃ A cap, v = .slice A xs.length cap ∧ SliceAt (CellR f) 3 w.heap.size w A xs ∧ xs.length ≤ cap ∧ cap ≤ maxLen := by
  rcases h.open_ with ⟨rfl, rfl⟩ | ⟨g, cap, cur, rfl, hb, hg, hn, hc, hs, ht⟩
  · exact ⟨none, 0, rfl, SliceAt.nil, by simp, by simp [maxLen]⟩
  · refine ⟨some ⟨g, 0, none⟩, cap, rfl, ?_, hn, hc⟩
    intro k x hx
    have hk : k < xs.length := (List.getElem?_eq_some_iff.1 hx).1
    obtain ⟨c0, c1, c2, hf, _⟩ := h3 x (List.mem_of_getElem? hx)
    refine ⟨g, 0, f x, rfl, block_lt hg, by rw [hf]; rfl, ?_, rfl⟩
    intro j v hj
    have hj3 : j < 3 := by
      rcases Nat.lt_or_ge j 3 with h' | h'
      · exact h'
      · rw [hf, List.getElem?_eq_none (by simpa using h')] at hj; cases hj
    rw [Nat.zero_add]
    refine cell_row hg ?_
    have := h3.get hx hj3
    rw [← ht, List.getElem?_take_of_lt (by omega)] at this
    rw [this]; exact hj

section
variable {α : Type} (f : α → List Value) (e : TypeId) (w : World) (g cap : Nat) (xs : List α) (p : α → Bool)
structure DelInv (i j : Nat) (wr : World) : Prop where
  gr : w.grownBy wr (some g)
  cells : ∃ cur : List Value, wr.heap[g]? = some (.cells cur.toArray e (0, 0)) ∧ cur.length = cap * 3 ∧ cur.take (i * 3) = ((xs.take j).filter fun x => !p x).flatMap f ∧
    ∀ k x, j ≤ k → xs[k]? = some x → ∀ m, m < 3 → cur[k * 3 + m]? = (f x)[m]?
  hi : i = ((xs.take j).filter fun x => !p x).length
  ij : i < j
  jn : j ≤ xs.length
variable {f e w g cap xs p}
theorem DelInv.lo {i j : Nat} {wr w' : World} (h : DelInv f e w g cap xs p i j wr) (hl : Lo wr w') : DelInv f e w g cap xs p i j w' := by
  obtain ⟨gr, ⟨cur, hg, hs, ht, hc⟩, hi, ij, jn⟩ := h
  exact ⟨grown_lo gr hl, ⟨cur, cells_lo hg hl, hs, ht, hc⟩, hi, ij, jn⟩
theorem DelInv.drop {i j : Nat} {wr : World} (h : DelInv f e w g cap xs p i j wr) (hj : j < xs.length) (hp : p xs[j] = true) : DelInv f e w g cap xs p i (j + 1) wr := by
  obtain ⟨gr, ⟨cur, hg, hs, ht, hc⟩, hi, ij, jn⟩ := h
  have hf : (xs.take (j + 1)).filter (fun x => !p x) = (xs.take j).filter fun x => !p x := by
    rw [List.take_succ_eq_append_getElem hj, List.filter_append]; simp [hp]
  exact ⟨gr, ⟨cur, hg, hs, by rw [hf]; exact ht, fun k x hk => hc k x (by omega)⟩, by rw [hf]; exact hi, by omega, hj⟩
theorem DelInv.keep {i j : Nat} {wr : World} (h : DelInv f e w g cap xs p i j wr) (hn : xs.length ≤ cap) (hj : j < xs.length) (hp : p xs[j] = false) {c0 c1 c2 : Value} (hf : f xs[j] = [c0, c1, c2]) :
    DelInv f e w g cap xs p (i + 1) (j + 1) (((wr.setCell ⟨g, i * 3, none⟩ c0).setCell ⟨g, i * 3 + 1, none⟩ c1).setCell ⟨g, i * 3 + 2, none⟩ c2) := by
  obtain ⟨gr, ⟨cur, hg, hs, ht, hc⟩, hi, ij, jn⟩ := h
  have hff : (xs.take (j + 1)).filter (fun x => !p x) = ((xs.take j).filter fun x => !p x) ++ [xs[j]] := by
    rw [List.take_succ_eq_append_getElem hj, List.filter_append]; simp [hp]
  have g1 := setCell_eq_setRow wr g (i * 3) cur.toArray e (0, 0) c0 hg
  have h1 : (wr.setCell ⟨g, i * 3, none⟩ c0).heap[g]? = some (.cells (cur.set (i * 3) c0).toArray e (0, 0)) := by rw [g1]; simpa using setRow_heap wr g _ (cur.toArray.setIfInBounds (i * 3) c0) e (0, 0) hg
  have g2 := setCell_eq_setRow _ g (i * 3 + 1) _ e (0, 0) c1 h1
  have h2 : ((wr.setCell ⟨g, i * 3, none⟩ c0).setCell ⟨g, i * 3 + 1, none⟩ c1).heap[g]? = some (.cells ((cur.set (i * 3) c0).set (i * 3 + 1) c1).toArray e (0, 0)) := by rw [g2]; simpa using setRow_heap _ g _ ((cur.set (i * 3) c0).toArray.setIfInBounds (i * 3 + 1) c1) e (0, 0) h1
  have g3 := setCell_eq_setRow _ g (i * 3 + 2) _ e (0, 0) c2 h2
  have h3 : (((wr.setCell ⟨g, i * 3, none⟩ c0).setCell ⟨g, i * 3 + 1, none⟩ c1).setCell ⟨g, i * 3 + 2, none⟩ c2).heap[g]? = some (.cells (((cur.set (i * 3) c0).set (i * 3 + 1) c1).set (i * 3 + 2) c2).toArray e (0, 0)) := by rw [g3]; simpa using setRow_heap _ g _ (((cur.set (i * 3) c0).set (i * 3 + 1) c1).toArray.setIfInBounds (i * 3 + 2) c2) e (0, 0) h2
  refine ⟨grown_trans (grown_trans (grown_trans gr (grown_setCell _)) (grown_setCell _)) (grown_setCell _), ⟨_, h3, by simpa using hs, ?_, ?_⟩, by rw [hff, List.length_append, ← hi]; rfl, by omega, hj⟩
  · rw [hff, List.flatMap_append, ← ht]
    have hlen : i * 3 + 3 ≤ cur.length := by omega
    refine List.ext_getElem? fun m => ?_
    by_cases hm : m < (i + 1) * 3
    · rw [List.getElem?_take_of_lt hm]
      by_cases hmi : m < i * 3
      · rw [List.getElem?_append_left (by rw [List.length_take]; omega), List.getElem?_take_of_lt hmi]
        rw [List.getElem?_set_ne (by omega), List.getElem?_set_ne (by omega), List.getElem?_set_ne (by omega)]
      · rw [List.getElem?_append_right (by rw [List.length_take]; omega), List.length_take, Nat.min_eq_left (by omega)]
        simp only [List.flatMap_cons, List.flatMap_nil, List.append_nil, hf]
        obtain rfl | rfl | rfl : m = i * 3 ∨ m = i * 3 + 1 ∨ m = i * 3 + 2 := by omega
        · rw [List.getElem?_set_ne (by omega), List.getElem?_set_ne (by omega), List.getElem?_set_self (by omega)]; simp
        · rw [List.getElem?_set_ne (by omega), List.getElem?_set_self (by simp; omega)]; simp
        · rw [List.getElem?_set_self (by simp; omega)]; simp
    · rw [List.getElem?_eq_none (by simp; omega), List.getElem?_eq_none (by simp [hf]; omega)]
  · intro k x hk hx m hm
    rw [List.getElem?_set_ne (by omega), List.getElem?_set_ne (by omega), List.getElem?_set_ne (by omega)]
    exact hc k x (by omega) hx m hm
theorem DelInv.done {i : Nat} {wr : World} (h : DelInv f e w g cap xs p i xs.length wr) : w.grownBy wr (some g) ∧ i = (xs.filter fun x => !p x).length ∧ i < xs.length ∧ ∃ cur : List Value, wr.heap[g]? = some (.cells cur.toArray e (0, 0)) ∧ cur.length = cap * 3 ∧ cur.take (i * 3) = (xs.filter fun x => !p x).flatMap f := by
  obtain ⟨gr, ⟨cur, hg, hs, ht, hc⟩, hi, ij, jn⟩ := h
  rw [List.take_length] at ht hi
  exact ⟨gr, hi, ij, cur, hg, hs, ht⟩
end
end Go.Proofs.Ytabejnjnkpdjbaa.Mem

/- Rows of the call's own: an append of a make; what an insertion leaves. -/
namespace Go.Proofs.Ytabejnjnkpdjbaa.Mem
set_option linter.unusedVariables false
set_option linter.unusedSimpArgs false
open Go.RowKit

theorem size_splice {β : Type} {L cs : List β} {off : Nat} (h : off + cs.length ≤ L.length) : (splice L off cs).length = L.length := length_splice L off cs h

end Go.Proofs.Ytabejnjnkpdjbaa.Mem

/- slices.Delete of one element, of a row of the call's own. -/
namespace Go.Proofs.Ytabejnjnkpdjbaa.Sim
set_option linter.unusedVariables false
set_option linter.unusedSimpArgs false
open Go.RowKit Mem BigFrame
theorem step_append_roomN {P : Program} {ops : Array Oper} {o : Oper} {a : Act} {w : World} {K : Act → World → Prop} {Q : Exit → Act → World → Prop} {E : Prop} (hgd : o.guard = none) (d s : Operand) (t e : TypeId) (i : TypeInfo) (sz : Nat)
    (ho : o.op = .call { callee := .builtin .append, args := #[d, s], argTypes := #[t, t] }) (hu : P.underlying t = some (.slice e)) (hi : P.info? e = some i) (hsz : i.size = sz)
    (g sLen sCap : Nat) (ad : Addr) (m c : Nat) (hd : a.eval d = .slice (some ⟨g, 0, none⟩) sLen sCap) (hs : a.eval s = .slice (some ad) m c)
    (cur : List Value) (fz : Nat × Nat) (hg : w.heap[g]? = some (.cells cur.toArray e fz)) (hfz : FzOk fz cur.length) (cs : List Value) (hn : cs.length = m * sz)
    (hsrc : ∀ (j : Nat) v, cs[j]? = some v → w.cell? (ad.add j) = some v) (hroom : sLen + m ≤ sCap) (hfit : sLen * sz + cs.length ≤ cur.length) {nn : Nat} (hnn : sLen + m = nn) (h1 : ∀ v ∈ cs, v.oneCell' = true)
    (h : ∀ w', Hid (w'.heap[g]? = some (.cells (splice cur (sLen * sz) cs).toArray e fz)) → w.grownBy w' (some g) → K (a.put o.dst (.slice (some ⟨g, 0, none⟩) nn sCap)) w') :
    if Region.wanted o (yielded ops a.tmps) = true then Oper.wp P o a w K Q else E := by
  subst hnn hsz
  have hw : Region.wanted o (yielded ops a.tmps) = true := by simp [Region.wanted, hgd]
  rw [if_pos hw]
  have hrun := run_append_roomM (P := P) w t o.type e i hu hi g sLen sCap cur.toArray fz hg (by simpa using hfz) ad m c cs hn hsrc h1 hroom (by simpa using hfit)
  unfold Oper.wp execOp
  simp only [ho, resolve, invoke, builtin, Sem.run_bind, Sem.run_pure, Result.andThen_ok, List.map_toArray, List.map_cons, List.map_nil, hd, hs, hrun]
  refine h _ (Lib.hid ?_) (grown_setRow w g _)
  rw [setRow_heap w g _ _ e fz hg]
  simp [splice]
theorem wpList_clear_rowN {P : Program} {w : World} {ops : Array Oper} {rest : List Oper} {o : Oper} {a : Act} {Q : Exit → Act → World → Prop} (hgd : o.guard = none) (s : Operand) (sT : TypeId)
    (ho : o.op = .call { callee := .builtin .clear, args := #[s], argTypes := #[sT] }) (e : TypeId) (i : TypeInfo) (z : Value) (hu : P.underlying sT = some (.slice e)) (hi : P.info? e = some i) (hz : i.zero = some z)
    (g off n c : Nat) (hs : a.eval s = .slice (some ⟨g, off, none⟩) n c) (hn : 0 < n)
    (cur : List Value) (t : TypeId) {fz : Nat × Nat} (hg : w.heap[g]? = some (.cells cur.toArray t fz)) (hfz : FzOk fz cur.length) (hfit : off + n * z.cells.size ≤ cur.length) (h1 : ∀ u ∈ z.cells.toList, u.oneCell' = true) (hz0 : 0 < z.cells.size)
    (h : ∀ (w' : World) (cur' : List Value), Hid (w'.heap[g]? = some (.cells cur'.toArray t fz) ∧ cur'.length = cur.length ∧ cur'.take off = cur.take off) → w.grownBy w' (some g) → wpList P ops Q rest (a.put o.dst (.tuple #[])) w') : wpList P ops Q (o :: rest) a w := by
  refine wpList_plain hgd fun K hK => ?_
  have hone : ∀ u ∈ (Builtin.zeroCells z.cells n).toList, u.oneCell' = true := by
    intro u hu
    simp only [Builtin.zeroCells, Array.toList_map, List.mem_map] at hu
    obtain ⟨k, _, rfl⟩ := hu
    have hk : k % z.cells.size < z.cells.size := Nat.mod_lt _ hz0
    rw [getElem!_pos z.cells (k % z.cells.size) hk]
    exact h1 _ (by simp)
  have hrun := run_clear_rowM (P := P) (w := w) sT e o.type i z hu hi hz g off n c hn cur.toArray t hg (by simpa using hfz) (by simpa using hfit) hone
  unfold Oper.wp execOp
  simp only [ho, resolve, invoke, builtin, Sem.run_bind, Sem.run_pure, Result.andThen_ok, List.map_toArray, List.map_cons, List.map_nil, hs, hrun]
  have hzl : (Builtin.zeroCells z.cells n).toList.length = n * z.cells.size := by rw [Array.length_toList, size_zeroCells]
  refine hK _ _ (h _ (cur.take off ++ (Builtin.zeroCells z.cells n).toList ++ cur.drop (off + (Builtin.zeroCells z.cells n).toList.length)) (Lib.hid ⟨?_, ?_, ?_⟩) (grown_setRow w g _))
  · rw [setRow_heap w g _ _ t _ hg]
  · simp only [List.length_append, List.length_take, List.length_drop, hzl]; omega
  · rw [List.append_assoc]; exact List.take_left' (by rw [List.length_take]; omega)
def dropE {β : Type} (sz i : Nat) (L : List β) : List β := L.take (i * sz) ++ L.drop ((i + 1) * sz)
theorem splice_dropE {β : Type} {L : List β} {n i sz : Nat} (hi : i < n) (hn : n * sz ≤ L.length) : (splice L (i * sz) ((L.take (n * sz)).drop ((i + 1) * sz))).take ((n - 1) * sz) = dropE sz i (L.take (n * sz)) := by
  obtain ⟨d, rfl⟩ : ∃ d, n = i + 1 + d := ⟨n - (i + 1), by omega⟩
  have e1 : (i + 1 + d - 1) * sz = i * sz + d * sz := by rw [show i + 1 + d - 1 = i + d by omega, Nat.add_mul]
  have e2 : (i + 1 + d) * sz = i * sz + sz + d * sz := by rw [Nat.add_mul, Nat.add_mul, Nat.one_mul]
  have e3 : (i + 1) * sz = i * sz + sz := by rw [Nat.add_mul, Nat.one_mul]
  rw [e2] at hn ⊢
  rw [e1, e3]
  unfold dropE splice
  rw [e3]
  have ht : (L.take (i * sz + sz + d * sz)).take (i * sz) = L.take (i * sz) := by rw [List.take_take, Nat.min_eq_left (by omega)]
  rw [ht, ← List.append_assoc]
  refine List.take_left' ?_
  simp only [List.length_append, List.length_take, List.length_drop]; omega
end Go.Proofs.Ytabejnjnkpdjbaa.Sim
