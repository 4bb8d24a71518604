/- Merged by bundles.py: SimNl1. -/
import Derived.Test.YtabejnjnkpdjbaaU20
import Derived.Test.YtabejnjnkpdjbaaU15
/- Inlets as plain data; rows of their own: ownTaken, own of these, ownInbound, own of these, ownInlet. -/
namespace Go.Proofs.Ytabejnjnkpdjbaa.Sim
set_option linter.unusedVariables false
set_option linter.unusedSimpArgs false
open Go.RowKit Mem
structure PTk where
  n : Int
  done : Int
  code : Int
  bytes : List UInt8
structure PIn where
  node : Int
  inc : Int
  num : Int
  peer : Int
  owner : Int
  ns : ByteArray
  sa : ByteArray
  uid : Int
  addr : Int
  duid : Int
  daddr : Int
  dport : Int
  used : Int
  taken : List PTk
structure AIn where
  t : PIn
  u : Value
def takR (q : PTk) : List T := [u64T q.n, i64T q.done, i64T q.code, bysT q.bytes]
def inC (t : PIn) (x : T) : List T := [i64T t.node, u64T t.inc, u64T t.num, i64T t.peer, u64T t.owner, .v (.string t.ns), .v (.string t.sa), u64T t.uid, u32T t.addr, u64T t.duid, u32T t.daddr, i64T t.dport, u64T t.used, x]
def inS (t : PIn) : List T := [i64T t.node, u64T t.inc, u64T t.num, i64T t.peer, u64T t.owner, .v (.string t.ns), .v (.string t.sa), u64T t.uid, u32T t.addr, u64T t.duid, u32T t.daddr, i64T t.dport, u64T t.used]
def inT' (t : PIn) : List T := inC t (.sl 4 (t.taken.map takR))
def inR (a : AIn) : List T := inC a.t (.v a.u)
def takO (t : PIn) : Own := ⟨46, 4, t.taken.map takR⟩
def famI (l : List AIn) : List (Value × Own) := l.map fun a => (a.u, takO a.t)
def inO (l : List AIn) : Own := ⟨42, 14, l.map inR⟩
structure FewK (q : PTk) : Prop where
  bytes : q.bytes.length ≤ 1000000
structure FewIn (t : PIn) : Prop where
  taken : t.taken.length ≤ 1000
  each : ∀ q ∈ t.taken, FewK q
theorem famI_split {A B : List AIn} {a : AIn} : famI (A ++ a :: B) = famI A ++ (a.u, takO a.t) :: famI B := by unfold famI; rw [List.map_append]; rfl
theorem famI_app {A B : List AIn} : famI (A ++ B) = famI A ++ famI B := by unfold famI; rw [List.map_append]
theorem inO_at {A B : List AIn} {a : AIn} : ((A ++ a :: B).map inR)[A.length]? = some (inR a) := mid_at
theorem inO_set {A B : List AIn} {a : AIn} (b : AIn) : ((A ++ a :: B).map inR).set A.length (inR b) = (A ++ b :: B).map inR := by
  rw [List.map_append, List.map_cons, List.set_append_right _ _ (by rw [List.length_map]; exact Nat.le_refl _), List.length_map, Nat.sub_self, List.set_cons_zero, List.map_append]; rfl
theorem upl_in (l : List AIn) : UpL (famI l) (l.map inR).flatten (l.map fun a => inT' a.t).flatten := by
  have key : ∀ l' : List AIn, (∀ a ∈ l', a ∈ l) → UpL (famI l) (l'.map inR).flatten (l'.map fun a => inT' a.t).flatten := by
    intro l'
    induction l' with
    | nil => intro _; exact .nil
    | cons a l' ih =>
      intro h
      rw [List.map_cons, List.map_cons, List.flatten_cons, List.flatten_cons]
      refine .app ?_ (ih fun b hb => h b (List.mem_cons_of_mem _ hb))
      refine .keep _ (.keep _ (.keep _ (.keep _ (.keep _ (.keep _ (.keep _ (.keep _ (.keep _ (.keep _ (.keep _ (.keep _ (.keep _ ?_))))))))))))
      exact .up (a.u, takO a.t) (List.mem_map.2 ⟨a, h a List.mem_cons_self, rfl⟩) .nil
  exact key l fun _ h => h
structure PInl where
  tuns : List PIn
def inlT (l : List PIn) : List T := [.sl 14 (l.map inT')]
set_option maxRecDepth 100000 in
theorem cloneK (rows : List (List T)) (hbd : rows.length * 48 ≤ 140737488355328) (hmx : rows.length ≤ maxLen) : LCalls Try.prog 127 [.t (.sl 4 rows)] [] [] (.own 1000 rows.length) [] [(1000, ⟨46, 4, rows⟩)] := by
  have hbd' : 0 + rows.length * 48 ≤ 140737488355328 := by omega
  refine lcalls_of Try.func127 rfl rfl Try.ntmps127 rfl ?_
  repeat' (first | refine rg 0 (aq0 ?_) | (refine rg 1 ?_; refine oMv ?_; refine sops_isnil (.free rfl rfl) rfl rfl rfl rfl (.t _) (tyS rfl) (fun b hnil => ?_); refine oN ?_) | refine gc ?_ | refine ct ?_ | refine cf ?_ | refine sc ?_ ?_ <;> intro hc | refine rq rfl (rt .nil) ?_)
  · obtain rfl := hnil hc
    repeat' (first | refine then_go ?_ | refine swp_seq ?_ | refine swp_ret_weak (weak_own0 (i := 1000) 46 4 (s := 2) rfl rfl) ?_ | refine rg 2 (aq0 ?_) | refine swp_ret ?_ | refine swp_skip ?_ | refine swp_block ?_ | refine swp_exit ?_ | refine block_go ?_ | refine block_exit ?_ | refine block_far rfl ?_ | refine block_ret ?_ | refine then_ret ?_ | refine then_exit ?_ | refine for_ret ?_ | refine for_exit ?_ | refine ct ?_ | refine cf ?_ | refine sc ?_ ?_ <;> intro hc | exact retl1 (by exact .inr rfl) rfl (.tmp rfl rfl .nil) rfl .nil (.cons rfl (by rfl) .nil))
  · repeat' (first | refine rg 3 (aq1 ?_) | refine gc ?_ | refine ct ?_ | refine cf ?_ | refine sc ?_ ?_ <;> intro hc | refine retl (by exact .inr rfl) rfl (.tmp rfl rfl .nil) ?_ rfl .nil (.cons rfl (by rfl) .nil))
    rfl
set_option maxRecDepth 100000 in
theorem cloneIn (rows : List (List T)) (hbd : rows.length * 144 ≤ 140737488355328) (hmx : rows.length ≤ maxLen) : LCalls Try.prog 121 [.t (.sl 14 rows)] [] [] (.own 1000 rows.length) [] [(1000, ⟨42, 14, rows⟩)] := by
  have hbd' : 0 + rows.length * 144 ≤ 140737488355328 := by omega
  refine lcalls_of Try.func121 rfl rfl Try.ntmps121 rfl ?_
  repeat' (first | refine rg 0 (aq0 ?_) | (refine rg 1 ?_; refine oMv ?_; refine sops_isnil (.free rfl rfl) rfl rfl rfl rfl (.t _) (tyS rfl) (fun b hnil => ?_); refine oN ?_) | refine gc ?_ | refine ct ?_ | refine cf ?_ | refine sc ?_ ?_ <;> intro hc | refine rq rfl (rt .nil) ?_)
  · obtain rfl := hnil hc
    repeat' (first | refine then_go ?_ | refine swp_seq ?_ | refine swp_ret_weak (weak_own0 (i := 1000) 42 14 (s := 2) rfl rfl) ?_ | refine rg 2 (aq0 ?_) | refine swp_ret ?_ | refine swp_skip ?_ | refine swp_block ?_ | refine swp_exit ?_ | refine block_go ?_ | refine block_exit ?_ | refine block_far rfl ?_ | refine block_ret ?_ | refine then_ret ?_ | refine then_exit ?_ | refine for_ret ?_ | refine for_exit ?_ | refine ct ?_ | refine cf ?_ | refine sc ?_ ?_ <;> intro hc | exact retl1 (by exact .inr rfl) rfl (.tmp rfl rfl .nil) rfl .nil (.cons rfl (by rfl) .nil))
  · repeat' (first | refine rg 3 (aq1 ?_) | refine gc ?_ | refine ct ?_ | refine cf ?_ | refine sc ?_ ?_ <;> intro hc | refine retl (by exact .inr rfl) rfl (.tmp rfl rfl .nil) ?_ rfl .nil (.cons rfl (by rfl) .nil))
    rfl
set_option maxRecDepth 100000 in
theorem ownTaken_ (q : PTk) (h : FewK q) : PCalls Try.prog 54 [.agg (takR q)] (.agg (takR q)) := by
  have c1 := clone_ q.bytes (by have := h.bytes; omega)
  refine pcalls_of Try.func54 rfl rfl Try.ntmps54 rfl ?_
  unfold takR
  repeat' (first | (refine rg 0 ?_; refine sbx ?_; refine sal str46 ?_; refine oN ?_) | (refine rg 1 ?_; refine oFb ?_; refine oLb ?_; refine oC (c1) rfl (ac .nil) ?_; refine oFb ?_; refine oS ?_; refine oN ?_) | (refine rg 2 ?_; (refine sp (po_load_bx_agg rfl rfl (tyT rfl) rfl (vc (vc (vc (vc .nil)))) rfl) ?_); refine oS ?_; refine oN ?_) | refine gc ?_ | refine ct ?_ | refine cf ?_ | refine sc ?_ ?_ <;> intro hc | refine rq rfl (.cell rfl rfl (tyT rfl) (vc (vc (vc (vc .nil)))) rfl .nil) ?_)
  all_goals rfl
def SOk (l : List PTk) (k : Nat) : St := ⟨[(0, .own 1000 (l.map takR).length), (1, .t (.clo 54 [])), (9, .own 1000 (l.map takR).length), (10, .t (.v (.int .i64 ((l.map takR).length : Int)))), (11, .t (.v (.int .i64 (k : Int))))], [], [(1000, ⟨46, 4, l.map takR⟩)]⟩
set_option maxRecDepth 100000 in
set_option maxHeartbeats 1000000 in
theorem ownKs (l : List PTk) (hn : l.length ≤ 1000) (hq : ∀ q ∈ l, FewK q) : LCalls Try.prog 122 [.t (.sl 4 (l.map takR)), .t (.clo 54 [])] [] [] (.own 1000 (l.map takR).length) [] [(1000, ⟨46, 4, l.map takR⟩)] := by
  have hm : (l.map takR).length = l.length := List.length_map _
  have c1 := cloneK (l.map takR) (by rw [hm]; omega) (by rw [hm]; unfold maxLen; omega)
  refine lcalls_of Try.func122 rfl rfl Try.ntmps122 rfl ?_
  repeat' (first | refine rg 0 (aq0 ?_) | (refine rg 1 ?_; refine oMv ?_; refine sops_lcall (c1) (fun i => i) (fun i => i) (fun _ => false) (.free rfl rfl) rfl rfl rfl (by ((repeat' (first | exact .nil | refine .cons rfl rfl rfl ?_)) <;> fail)) .nil .nil rfl rfl (fun _ h => Bool.noConfusion h) ?_; refine aq0 ?_) | refine rg 2 (aq2 ?_) | refine gc ?_ | refine ct ?_ | refine cf ?_ | refine sc ?_ ?_ <;> intro hc | refine rq rfl (rt .nil) ?_)
  refine swp_for (SOk l) (fun _ => True) l.length ?_ trivial ?_
  · exact (weak_sub (.cons rfl rfl rfl (.cons rfl rfl rfl (.cons rfl rfl rfl (.cons rfl rfl rfl (.cons rfl rfl rfl .nil))))) .nil (.cons rfl rfl .nil))
  intro k hk _
  unfold SOk
  by_cases hlt : k < l.length
  · have hlt' : (k : Int) < l.length := by omega
    have hat : (l.map takR)[k]? = some (takR l[k]) := map_at_some hlt
    have c2 := ownTaken_ l[k] (hq _ (List.getElem_mem hlt))
    have hset := set_same hat
    generalize l[k] = q at *
    repeat' (first | refine for_next hlt (weak_sub (.cons rfl (by rfl) rfl (.cons rfl (by rfl) rfl (.cons rfl (by rfl) rfl (.cons rfl (by rfl) rfl (.cons rfl (by rfl) rfl .nil))))) .nil (.cons rfl (by first | rfl | (first | (rw [hset]; try rfl) | (exact congrArg _ hset))) .nil)) trivial | refine rg 3 (aq3 ?_) | (refine rg 4 (aq4 ?_); refine sp (po_load_own_agg (ts := takR q) rfl rfl rfl rfl (tyT rfl) hat rfl rfl) ?_; refine sal str46 ?_; refine aq5 ?_) | (refine rg 5 (aq6 ?_); (first | refine sp (po_load_own_agg (ts := takR q) rfl rfl rfl rfl (tyT rfl) hat rfl rfl) ?_ | refine sp (po_load_bx_agg rfl rfl (tyT rfl) rfl (vc (vc (vc (vc .nil)))) rfl) ?_); refine sp (po_call_clo rfl rfl (ac .nil) (c2)) ?_; refine sp (ixo rfl) ?_; (first | refine oS ?_ | refine sso ?_); refine oN ?_) | refine rg 6 (aq7 ?_) | refine gc ?_ | refine ct ?_)
  · obtain rfl : k = l.length := by omega
    repeat' (first | refine rg 3 (aq3 ?_) | refine rg 7 (aq8 ?_) | refine gc ?_ | refine ct ?_ | refine cf ?_ | refine sc ?_ ?_ <;> intro hc | exact retl1 (by exact .inr rfl) rfl (.tmp rfl rfl .nil) rfl .nil (.cons rfl (by rfl) .nil))
set_option maxRecDepth 100000 in
theorem ownIn_ (t : PIn) (h : FewIn t) : LCalls Try.prog 105 [.t (.agg (inT' t))] [] [] (.ag ((inS t).map .t ++ [.own 1000 (t.taken.map takR).length])) [] [(1000, takO t)] := by
  have c1 := ownKs t.taken h.taken h.each
  refine lcalls_of Try.func105 rfl rfl Try.ntmps105 rfl ?_
  unfold inT' inC
  repeat' (first | (refine rg 0 ?_; refine sbx ?_; refine sal str42 ?_; refine oN ?_) | (refine rg 1 ?_; refine oFb ?_; refine oLb ?_; refine sops_lcall (c1) (fun i => i) (fun i => i) (fun _ => false) (.free rfl rfl) rfl rfl rfl (by ((repeat' (first | exact .nil | refine .cons rfl rfl rfl ?_ | refine .vw rfl (by first | exact .t _ | exact .own rfl (by rfl) | exact .nil _ | exact .emp _ | exact .fn _) ?_)) <;> fail)) .nil .nil rfl rfl (fun _ h => Bool.noConfusion h) ?_; refine oFb ?_; refine oS ?_; refine oN ?_) | refine rg 2 (aq9 ?_) | refine gc ?_ | refine ct ?_ | refine cf ?_ | refine sc ?_ ?_ <;> intro hc | refine retl (by exact .inr rfl) rfl (.cell rfl rfl (tyT rfl) rfl rfl .nil) ?_ rfl .nil (.cons rfl (by rfl) .nil))
  all_goals rfl
def AOfI (l : List PIn) : Type := { A : List AIn // A.map AIn.t = l }
instance (l : List PIn) : Inhabited (AOfI l) := ⟨⟨l.map fun t => ⟨t, undef⟩, by rw [List.map_map]; exact List.map_id' l⟩⟩
def rowI (l : List PIn) (A : List AIn) : List (List T) := A.map inR ++ (l.drop A.length).map inT'
theorem rowI_len {l : List PIn} {A : List AIn} (h : A.length ≤ l.length) : (rowI l A).length = l.length := by
  unfold rowI; rw [List.length_append, List.length_map, List.length_map, List.length_drop]; omega
theorem rowI_at {l : List PIn} {A : List AIn} (h : A.length < l.length) : (rowI l A)[A.length]? = some (inT' l[A.length]) := by
  unfold rowI
  rw [List.getElem?_append_right (by rw [List.length_map]; exact Nat.le_refl _), List.length_map, Nat.sub_self, List.getElem?_map, List.getElem?_drop, Nat.add_zero, List.getElem?_eq_getElem h]; rfl
theorem rowI_set {l : List PIn} {A : List AIn} (h : A.length < l.length) (u : Value) : (rowI l A).set A.length (inR ⟨l[A.length], u⟩) = rowI l (A ++ [⟨l[A.length], u⟩]) := by
  unfold rowI
  rw [List.set_append_right _ _ (by rw [List.length_map]; exact Nat.le_refl _), List.length_map, Nat.sub_self, List.drop_eq_getElem_cons h, List.map_cons, List.set_cons_zero, List.map_append, List.length_append, List.append_assoc]; rfl
def SOi (l : List PIn) (A : List AIn) : St := ⟨[(0, .own 1001 l.length), (1, .t (.clo 105 [])), (9, .own 1001 l.length), (10, .t (.v (.int .i64 (l.length : Int)))), (11, .t (.v (.int .i64 (A.length : Int))))], [(1100, [.rs (FamR (famI A))])], [(1001, ⟨42, 14, rowI l A⟩)]⟩
set_option maxRecDepth 100000 in
set_option maxHeartbeats 2000000 in
theorem ownIns (l : List PIn) (hn : l.length ≤ 1000) (hq : ∀ t ∈ l, FewIn t) : ECalls Try.prog 104 [.t (.sl 14 (l.map inT')), .t (.clo 105 [])] [] [] (fun _ : AOfI l => .own 1001 l.length) (fun A => [(1100, [.rs (FamR (famI A.1))])]) (fun A => [(1001, inO A.1)]) := by
  have hm : (l.map inT').length = l.length := List.length_map _
  have c1 := cloneIn (l.map inT') (by rw [hm]; omega) (by rw [hm]; unfold maxLen; omega)
  rw [hm] at c1
  refine ecalls_of Try.func104 rfl rfl Try.ntmps104 rfl ?_
  repeat' (first | refine rg 0 (aq0 ?_) | (refine rg 1 ?_; refine oMv ?_; refine sops_lcall (c1) (fun i => i) (fun _ => 1001) (fun _ => false) (.free rfl rfl) rfl rfl rfl (by ((repeat' (first | exact .nil | refine .cons rfl rfl rfl ?_)) <;> fail)) .nil .nil rfl rfl (fun _ h => Bool.noConfusion h) ?_; refine aq0 ?_) | refine rg 2 (aq2 ?_) | refine gc ?_ | refine ct ?_ | refine cf ?_ | refine sc ?_ ?_ <;> intro hc | refine rq rfl (rt .nil) ?_)
  refine swp_weak (weak_fam0 1100 rfl) ?_
  refine swp_fam (SOi l) (fun A => A.map AIn.t = l.take A.length ∧ A.length ≤ l.length) (fun A => l.length - A.length) [] ?_ ⟨rfl, Nat.zero_le _⟩ ?_
  · exact (weak_sub (.cons rfl rfl rfl (.cons rfl rfl rfl (.cons rfl rfl rfl (.cons rfl rfl rfl (.cons rfl rfl rfl .nil))))) (.cons rfl rfl rfl .nil) (.cons rfl rfl .nil))
  rintro A ⟨hA, hk⟩
  have hrl := rowI_len hk
  unfold SOi
  by_cases hlt : A.length < l.length
  · have hlt' : (A.length : Int) < l.length := by omega
    have hat := rowI_at hlt
    have c2 := ownIn_ l[A.length] (hq _ (List.getElem_mem hlt))
    have hset := rowI_set hlt
    have hA2 : ∀ u, (A ++ [(⟨l[A.length], u⟩ : AIn)]).map AIn.t = l.take (A ++ [(⟨l[A.length], u⟩ : AIn)]).length := fun u => by
      rw [List.map_append, hA, List.length_append]
      exact (List.take_append_getElem hlt)
    generalize l[A.length] = t at *
    repeat' (first | refine rg 3 (aq3 ?_) | refine gc ?_ | refine ct ?_ | refine cf ?_ | refine sc ?_ ?_ <;> intro hc | refine rq rfl (rt .nil) ?_)
    refine rg 4 ?_
    refine oMv ?_
    refine sp (ixo rfl) ?_
    refine sp (po_load_own_agg (ts := inT' t) rfl rfl rfl hrl.symm (tyT rfl) hat rfl rfl) ?_
    refine sal str42 ?_
    refine oAs ?_
    refine oS ?_
    refine oN ?_
    refine gc ?_
    refine rg 5 ?_
    refine oMv ?_
    refine oMv ?_
    refine oMv ?_
    refine sp (po_load_bx_agg rfl rfl (tyT rfl) rfl (vc (vc (vc (vc (vc (vc (vc (vc (vc (vc (vc (vc (vc (vc .nil)))))))))))))) rfl) ?_
    refine sops_lcall_tclo (args := [_]) (caps := []) c2 (fun i => i) (fun _ => 1002) (fun _ => false) (.free rfl rfl) rfl rfl rfl rfl (.cons rfl rfl rfl .nil) .nil .nil rfl rfl (fun _ h => Bool.noConfusion h) ?_
    refine sops_weakE (weak_closeG 20 1100 1002 (famI A) [] ((inS t).map .t) [] rfl (by rw [List.append_nil]; rfl) rfl rfl) fun u => ?_
    have hf : famI A ++ (u, takO t) :: [] = famI (A ++ [⟨t, u⟩]) := by unfold famI; rw [List.map_append]; rfl
    rw [hf]
    refine sp (po_index_own (sz := 14) (k := A.length) rfl rfl rfl (by omega) rfl (tyS rfl) rfl hlt) ?_
    refine sops_store_own (t := .agg (inR ⟨t, u⟩)) (ts := inR ⟨t, u⟩) (by rfl) (.free rfl rfl) rfl rfl rfl rfl (by omega) rfl (by repeat first | exact .agn | refine .agc ?_ ?_ | exact .t _) rfl rfl (tyT rfl) rfl hat rfl ?_
    refine oN ?_
    have e1 := congrArg (fun r => (⟨42, 14, r⟩ : Own)) (hset u)
    have hla : (A ++ [(⟨t, u⟩ : AIn)]).length = A.length + 1 := List.length_append
    repeat' (first | refine rg 6 (aq7 ?_) | refine gc ?_ | refine ct ?_ | refine cf ?_ | refine sc ?_ ?_ <;> intro hc | refine rq rfl (rt .nil) ?_)
    refine fam_next (A ++ [⟨t, u⟩]) (by rw [hla]; omega) ?_ ⟨hA2 u, by rw [hla]; exact hlt⟩
    refine weak_sub ?_ ?_ ?_
    · exact .cons rfl (by rfl) rfl (.cons rfl (by rfl) rfl (.cons rfl (by rfl) rfl (.cons rfl (by rfl) rfl (.cons rfl (by rw [hla]) rfl .nil))))
    · exact .cons rfl (by rfl) rfl .nil
    · exact .cons rfl (by exact e1) .nil
  · have hkl : A.length = l.length := by omega
    rw [hkl, List.take_length] at hA
    have hro : rowI l A = A.map inR := by unfold rowI; rw [hkl, List.drop_length]; exact List.append_nil _
    rw [hro, hkl]
    repeat' (first | refine gc ?_ | refine fam_exit ?_ | refine fam_ret ?_ | refine rete ⟨A, hA⟩ ?_ | refine rg 3 (aq3 ?_) | refine rg 7 (aq8 ?_) | refine ct ?_ | refine cf ?_ | refine sc ?_ ?_ <;> intro hc | refine retl (by exact .inr rfl) rfl (.tmp rfl rfl .nil) ?_ rfl (.cons rfl (by rfl) rfl .nil) (.cons rfl (by rfl) .nil))
    rfl
set_option maxRecDepth 100000 in
set_option maxHeartbeats 1000000 in
theorem ownInlet_ (l : List PIn) (hn : l.length ≤ 1000) (hq : ∀ t ∈ l, FewIn t) : ECalls Try.prog 49 [.t (.agg (inlT l))] [] [] (fun _ : AOfI l => .ag [.own 1001 l.length]) (fun A => [(1100, [.rs (FamR (famI A.1))])]) (fun A => [(1001, inO A.1)]) := by
  have c1 := ownIns l hn hq
  refine ecalls_of Try.func49 rfl rfl Try.ntmps49 rfl ?_
  unfold inlT
  repeat' (first | (refine rg 0 ?_; refine sbx ?_; refine sal str29 ?_; refine oN ?_) | refine gc ?_ | refine ct ?_ | refine cf ?_ | refine sc ?_ ?_ <;> intro hc | refine rq rfl (.cell rfl rfl (tyT rfl) (vc .nil) rfl .nil) ?_)
  refine rg 1 ?_
  refine oFb ?_
  refine oLb ?_
  refine sops_ecall c1 (fun i => i) (fun i => i) (.free rfl rfl) rfl rfl rfl (.cons rfl rfl rfl (.vw rfl (.fn _) .nil)) .nil .nil rfl (fun _ => rfl) fun A => ?_
  obtain ⟨A, hl⟩ := A
  dsimp only
  refine oFb ?_
  refine oS ?_
  refine oN ?_
  refine gc ?_
  repeat' (first | refine gc ?_ | refine rete ⟨A, hl⟩ ?_ | (refine rg 2 ?_; (first | refine sp (po_load_bx_agg rfl rfl (tyT rfl) rfl (vc .nil) rfl) ?_ | refine sp (po_load_agg rfl rfl (tyT rfl) rfl rfl) ?_ | refine sp (lda rfl) ?_ | refine sp (po_load_bx_ag rfl rfl (tyT rfl) rfl rfl rfl rfl) ?_); refine oS ?_; refine oN ?_) | refine ct ?_ | refine cf ?_ | refine sc ?_ ?_ <;> intro hc | refine retl (by exact .inr rfl) rfl (.cell rfl rfl (tyT rfl) rfl rfl .nil) ?_ rfl (.cons rfl (by rfl) rfl .nil) (.cons rfl (by rfl) .nil))
  rfl
end Go.Proofs.Ytabejnjnkpdjbaa.Sim
