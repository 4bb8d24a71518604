/- Merged by bundles.py: SimFam, Post0, PlPool, SimPo1, SimPo2, SimPo3. -/
import Derived.Test.YtabejnjnkpdjbaaS14
import Derived.Test.YtabejnjnkpdjbaaS0
import Derived.ProofKit
import Derived.OpenShut
import Derived.Lib.SmallJoins
import Derived.ShutString
import Derived.ChangeSame
import Derived.Test.YtabejnjnkpdjbaaS13
/- A logic of states: a loop whose rounds bear data. -/
namespace Go.Proofs.Ytabejnjnkpdjbaa.Sim
set_option linter.unusedVariables false
set_option linter.unusedSimpArgs false
open Go.RowKit Mem
section
variable {P : Program} {N : Nat} {Q : Exit → St → Prop} {st : St}
def famF {α : Type} (N : Nat) (S : α → St) (I : α → Prop) (μ : α → Nat) (x : α) (Q : Exit → St → Prop) : Exit → St → Prop
  | .normal, s' => ∃ y, μ y < μ x ∧ I y ∧ Weak N s' (S y)
  | e, s' => Q e s'
structure FamQ {α : Type} (N : Nat) (S : α → St) (I : α → Prop) (μ : α → Nat) (x : α) (Q : Exit → St → Prop) (e : Exit) (s' : St) : Prop where
  go : famF N S I μ x Q e s'
theorem fam_next {α : Type} {S : α → St} {I : α → Prop} {μ : α → Nat} {x : α} {s' : St} (y : α) (hm : μ y < μ x) (hw : Weak N s' (S y)) (hI : I y) : FamQ N S I μ x Q .normal s' := ⟨⟨y, hm, hI, hw⟩⟩
theorem fam_ret {α : Type} {S : α → St} {I : α → Prop} {μ : α → Nat} {x : α} {s' : St} (h : Q .ret s') : FamQ N S I μ x Q .ret s' := ⟨h⟩
theorem fam_exit {α : Type} {S : α → St} {I : α → Prop} {μ : α → Nat} {x : α} {s' : St} {id : Nat} (h : Q (.exit id) s') : FamQ N S I μ x Q (.exit id) s' := ⟨h⟩
/-- a loop whose rounds bear data that a measure counts down -/
theorem swp_fam {α : Type} {c : Code} (S : α → St) (I : α → Prop) (μ : α → Nat) (x0 : α) (h0 : Weak N st (S x0)) (hI : I x0) (hround : ∀ x, I x → SWp P N c (FamQ N S I μ x Q) (S x)) : SWp P N (.loop c) Q st := by
  refine .mk fun C a w hr => ?_
  have key : ∀ n x a w, μ x = n → I x → Rel C N (S x) a w → ∀ (b : Frame) (k : List Item) (cs : List Frame), b.kind ≠ .early → ∃ e a' w', Good C N Q e a' w' ∧ Arrives P (lone (b.at a (.code c :: .inLoop c :: k)) cs w) b k cs e a' w' := by
    intro n
    induction n using Nat.strongRecOn with
    | _ n ih =>
      intro x a w hn hi hr b k cs hb
      obtain ⟨e, a1, w1, ⟨s1, hr1, hq⟩, harr⟩ := (hround x hi).go C a w hr b (.inLoop c :: k) cs hb
      cases e with
      | normal =>
        obtain ⟨y, hm, hi', hw⟩ := hq.go
        obtain ⟨e2, a2, w2, hq2, harr2⟩ := ih (μ y) (by omega) y a1 w1 rfl hi' (hw.go C a1 w1 hr1) b k cs hb
        exact ⟨e2, a2, w2, hq2, .of_steps (Steps.trans harr (.one step_inLoop)) harr2⟩
      | exit id => exact ⟨_, a1, w1, ⟨s1, hr1, hq.go⟩, .pass (x := .inLoop c) rfl (fun _ _ => .inl (by simp)) harr⟩
      | goto l => exact ⟨_, a1, w1, ⟨s1, hr1, hq.go⟩, .pass (x := .inLoop c) rfl (fun _ _ => .inl (by simp)) harr⟩
      | ret => exact ⟨_, a1, w1, ⟨s1, hr1, hq.go⟩, .pass (x := .inLoop c) rfl (fun _ _ => .inl (by simp)) harr⟩
      | panic ch => exact ⟨_, a1, w1, ⟨s1, hr1, hq.go⟩, .pass (x := .inLoop c) rfl (fun _ _ => .inl (by simp)) harr⟩
      | outgrown => exact ⟨_, a1, w1, ⟨s1, hr1, hq.go⟩, .pass (x := .inLoop c) rfl (fun _ _ => .inl (by simp)) harr⟩
  intro b k cs hb
  obtain ⟨e, a', w', hq, harr⟩ := key _ x0 a w rfl hI (h0.go C a w hr) b k cs hb
  exact ⟨e, a', w', hq, .of_steps (.one step_loop) harr⟩
end
end Go.Proofs.Ytabejnjnkpdjbaa.Sim

/- The rows' last step: arguments opened, the row shut where only new memory was made. -/
namespace Go.Proofs.Ytabejnjnkpdjbaa.Post
set_option linter.unusedVariables false
set_option linter.unusedSimpArgs false
open Go.RowKit Go.WideShapes Go.ChangeShapes Go.Joins Mem
section
variable {H : Type} {enc : TypeId × Value → H} {P : Program}
theorem post_of_below {f : Func} {s : ChangeSpec} {apart fresh handsOn again : Bool} {W W' : World} {args : Array Value} {v : Value} {ds gs : List (DataW H)} {before pa pv : List MemPlace}
    (hW : DataW.Whole enc P f.params.toList s.vars apart W args.toList ds gs before)
    (hres : ∀ (b : Nat) (sp : Nat → Bool) (hd : Bool), DataW.TrodAll enc P W' b sp hd f.resultTypes.toList (v.resultList f.resultTypes.size) (s.fn H (ds ++ gs)).results [])
    (hargs : ∀ sp : Nat → Bool, (∀ p ∈ before, sp p.block = true) → DataW.TrodAll enc P W' 0 sp true f.params.toList args.toList (s.fn H (ds ++ gs)).args pa)
    (hvars : ∀ sp : Nat → Bool, (∀ p ∈ before, sp p.block = true) → DataW.TrodVars enc P W' sp s.vars (s.fn H (ds ++ gs)).vars pv)
    (hps : before = pa ++ pv) (hb : Below W.heap.size W W')
    (hok : ∀ (j : Nat) (t : TypeId) (r : Value), f.resultTypes[j]? = some t → (v.resultList f.resultTypes.size)[j]? = some r → Value.okWide P W' .any 0 t r) :
    s.post enc P f apart fresh handsOn again W args v W' := by
  have hlt : ∀ p ∈ before, p.block < W.heap.size := fun p hp => hW.lt p hp
  have hold : ∀ p ∈ before, (fun b => decide (b < W.heap.size)) p.block = true := fun p hp => by simpa using hlt p hp
  refine ⟨ds, gs, before, [], pa, pv, hW, hres _ _ _, hargs _ hold, hvars _ hold, World.keptBut_mono (fun p hp => ⟨hp, ?_⟩) (hb.frame (· ∈ before)), fun _ => ?_⟩
  · rw [hps, List.mem_append] at hp
    exact Or.inr hp
  · obtain ⟨_, _, _, _, _, hz, hn⟩ := hW
    refine ⟨hok, _, _, ([] ++ pa) ++ pv, ⟨[] ++ pa, pv, trodAll_append (hargs _ (fun _ _ => rfl)) (hres _ _ _), hvars _ (fun _ _ => rfl), rfl, ?_, ?_⟩, ?_⟩
    · intro b off hp
      have hin : MemPlace.cell b off ∈ before := by rw [hps]; simpa using hp
      rw [hb.frozen (hlt _ hin)]
      exact hz b off hin
    · intro ha
      have := hn ha
      rw [hps] at this
      simpa using this
    · intro p hp _
      rw [hps]
      simpa using hp
theorem trodAll_stays {W W' : World} {sp' : Nat → Bool} (hl : laidOutB P = true) : ∀ {ts : List TypeId} {vs : List Value} {ds : List (DataW H)} {ps : List MemPlace}, (∀ t ∈ ts, P.readableRec t = true ∧ t < P.types.size) →
    DataW.TrodAll enc P W 0 (fun _ => true) true ts vs ds ps → (∀ p ∈ ps, W.sameAt W' p) → (∀ p ∈ ps, sp' p.block = true) → DataW.TrodAll enc P W' 0 sp' true ts vs ds ps
  | [], vs, ds, ps, _, h, _, _ => by obtain ⟨rfl, rfl, rfl⟩ := trodAll_nil h; exact trodAll_mk0
  | t :: ts, vs, ds, ps, hr, h, hs, hsp => by
    obtain ⟨v, vs', d, ds', p, q, rfl, rfl, rfl, h0, r0⟩ := trodAll_cons h
    obtain ⟨hr1, hr2⟩ := hr t (by simp)
    exact trodAll_cons_mk (WideElems.Trod_stays hl hr1 hr2 h0 (fun x hx => hs x (by simp [hx])) (fun x hx => hsp x (by simp [hx])))
      (trodAll_stays hl (fun t ht => hr t (by simp [ht])) r0 (fun x hx => hs x (by simp [hx])) (fun x hx => hsp x (by simp [hx])))

/-- A LAW's END: it returned true, and nothing that was there has turned. -/
theorem law_post {f : Func} {s : ChangeSpec} {apart fresh handsOn again : Bool} {W W' : World} {args : Array Value} {ds gs : List (DataW H)} {before : List MemPlace} {tb : TypeId}
    (hl : laidOutB P = true) (hr : ∀ t ∈ f.params.toList, P.readableRec t = true ∧ t < P.types.size) (hvars : s.vars = []) (hb1 : P.underlying tb = some .bool) (hres : f.resultTypes = #[tb])
    (hfn : gs = [] → s.fn H (ds ++ gs) = { results := [.lit (.bool true)], args := ds })
    (hW : DataW.Whole enc P f.params.toList s.vars apart W args.toList ds gs before) (hb : Lo W W') : s.post enc P f apart fresh handsOn again W args (.bool true) W' := by
  have hW' := hW
  obtain ⟨p, q, hA, hV, rfl, _, _⟩ := hW
  rw [hvars] at hV
  obtain ⟨rfl, rfl⟩ := trodVars_none hV
  have hf := hfn rfl
  have hlt : ∀ x ∈ p, x.block < W.heap.size := fun x hx => hW'.lt x (by simp [hx])
  refine post_of_below (pa := p) (pv := []) hW' ?_ ?_ ?_ rfl hb ?_
  · intro b sp hd
    rw [hf, hres]
    exact trodAll_mk1 (shut_bool hb1 _)
  · intro sp hsp
    rw [hf]
    exact trodAll_stays hl hr hA (fun x hx => Below.same hb (hlt x hx)) (fun x hx => hsp x (by simp [hx]))
  · intro sp _
    rw [hf, hvars]
    rfl
  · exact ok_one hres rfl (okWide_bool_mk hb1 _)
end
theorem Try.own : ownKnob Try.prog.godebug = none := by kernel_rfl
theorem Try.laidOut : laidOutB Try.prog = true := by kernel_rfl
end Go.Proofs.Ytabejnjnkpdjbaa.Post

/- Pools as plain data: queries, tunnels, what is wanted, what failed. -/
namespace Go.Proofs.Ytabejnjnkpdjbaa.Sim
set_option linter.unusedVariables false
set_option linter.unusedSimpArgs false
open Go.RowKit Mem
def bysT (l : List UInt8) : T := .sl 1 (l.map byteT)
abbrev u64T (n : Int) : T := .v (.int .u64 n)
abbrev i64T (n : Int) : T := .v (.int .i64 n)
abbrev u32T (n : Int) : T := .v (.int .u32 n)
structure PQ where
  id : Int
  n : Int
  born : Int
  since : Int
  ns : ByteArray
  sa : ByteArray
  uid : Int
  addr : Int
  bytes : List UInt8
structure PTun where
  node : Int
  inc : Int
  num : Int
  peer : Int
  src : Int
  duid : Int
  daddr : Int
  dport : Int
  state : Int
  sent : Int
  born : Int
  since : Int
  used : Int
  asks : List PQ
/-- a tunnel in memory: its queries' slice -/
structure ATun where
  t : PTun
  u : Value
def askR (q : PQ) : List T := [u64T q.id, u64T q.n, u64T q.born, u64T q.since, .v (.string q.ns), .v (.string q.sa), u64T q.uid, u32T q.addr, bysT q.bytes]
def tunC (t : PTun) (x : T) : List T := [i64T t.node, u64T t.inc, u64T t.num, i64T t.peer, u64T t.src, u64T t.duid, u32T t.daddr, i64T t.dport, i64T t.state, u64T t.sent, u64T t.born, u64T t.since, u64T t.used, x]
def tunS (t : PTun) : List T := [i64T t.node, u64T t.inc, u64T t.num, i64T t.peer, u64T t.src, u64T t.duid, u32T t.daddr, i64T t.dport, i64T t.state, u64T t.sent, u64T t.born, u64T t.since, u64T t.used]
def tunT (t : PTun) : List T := tunC t (.sl 9 (t.asks.map askR))
def tunR (a : ATun) : List T := tunC a.t (.v a.u)
def askO (t : PTun) : Own := ⟨70, 9, t.asks.map askR⟩
def famT (l : List ATun) : List (Value × Own) := l.map fun a => (a.u, askO a.t)
def tunO (l : List ATun) : Own := ⟨118, 14, l.map tunR⟩
structure FewQ (q : PQ) : Prop where
  bytes : q.bytes.length ≤ 1000000
structure FewTun (t : PTun) : Prop where
  asks : t.asks.length ≤ 1000
  each : ∀ q ∈ t.asks, FewQ q
theorem set_same {β : Type} {l : List β} {k : Nat} {x : β} (h : l[k]? = some x) : l.set k x = l := by
  refine List.ext_getElem? fun j => ?_
  rw [List.getElem?_set]
  by_cases hj : k = j
  · subst hj; rw [if_pos rfl]
    obtain ⟨h1, h2⟩ := List.getElem?_eq_some_iff.1 h
    rw [if_pos h1, h]
  · rw [if_neg hj]
theorem map_at_some {α β : Type} {f : α → β} {l : List α} {k : Nat} (h : k < l.length) : (l.map f)[k]? = some (f l[k]) := by rw [List.getElem?_map, List.getElem?_eq_getElem h]; rfl
theorem famT_split {A B : List ATun} {a : ATun} : famT (A ++ a :: B) = famT A ++ (a.u, askO a.t) :: famT B := by unfold famT; rw [List.map_append]; rfl
theorem famT_app {A B : List ATun} : famT (A ++ B) = famT A ++ famT B := by unfold famT; rw [List.map_append]
theorem upl_tun (l : List ATun) : UpL (famT l) (l.map tunR).flatten (l.map fun a => tunT a.t).flatten := by
  have key : ∀ l' : List ATun, (∀ a ∈ l', a ∈ l) → UpL (famT l) (l'.map tunR).flatten (l'.map fun a => tunT a.t).flatten := by
    intro l'
    induction l' with
    | nil => intro _; exact .nil
    | cons a l' ih =>
      intro h
      rw [List.map_cons, List.map_cons, List.flatten_cons, List.flatten_cons]
      refine .app ?_ (ih fun b hb => h b (List.mem_cons_of_mem _ hb))
      refine .keep _ (.keep _ (.keep _ (.keep _ (.keep _ (.keep _ (.keep _ (.keep _ (.keep _ (.keep _ (.keep _ (.keep _ (.keep _ ?_))))))))))))
      exact .up (a.u, askO a.t) (List.mem_map.2 ⟨a, h a List.mem_cons_self, rfl⟩) .nil
  exact key l fun _ h => h
end Go.Proofs.Ytabejnjnkpdjbaa.Sim

/- Rows of their own: slices.Clone, ownQuery, own of queries, ownTunnel. -/
namespace Go.Proofs.Ytabejnjnkpdjbaa.Sim
set_option linter.unusedVariables false
set_option linter.unusedSimpArgs false
open Go.RowKit Mem
set_option maxRecDepth 100000 in
theorem clone_ (l : List UInt8) (hl : l.length ≤ 140737488355328) : PCalls Try.prog 60 [bysT l] (bysT l) := by
  have hm : (l.map byteT).length = l.length := List.length_map _
  refine pcalls_of Try.func60 rfl rfl Try.ntmps60 rfl ?_
  unfold bysT
  repeat' (first | (refine rg 0 ?_; refine oAs ?_; refine oN ?_) | (refine rg 1 ?_; refine oMv ?_; refine sops_isnil (.free rfl rfl) rfl rfl rfl rfl (.t _) (tyS rfl) (fun b hnil => ?_); refine oN ?_) | refine gc ?_ | refine ct ?_ | refine cf ?_ | refine swp_cond rfl (fun hc => ?_) (fun hc => ?_) | refine rq rfl (rt .nil) ?_)
  · have hn := hnil hc
    rw [hn]
    repeat' (first | (refine rg 2 ?_; refine oAs ?_; refine oN ?_) | refine gc ?_ | refine ct ?_ | refine cf ?_ | refine swp_cond rfl (fun hc => ?_) (fun hc => ?_) | exact rq1 rfl (rt .nil))
  · repeat' (first | (refine rg 3 ?_; refine sops_build0 (.free rfl rfl) rfl rfl rfl (tyE rfl) rfl ?_; refine oMv ?_; refine sap rfl (tyE rfl) ?_; refine oAs ?_; refine oN ?_) | refine gc ?_ | refine ct ?_ | refine cf ?_ | refine swp_cond rfl (fun hc => ?_) (fun hc => ?_) | refine rq rfl (rt .nil) ?_)
    rfl
set_option maxRecDepth 100000 in
theorem cloneQ (rows : List (List T)) (hbd : rows.length * 104 ≤ 140737488355328) (hmx : rows.length ≤ maxLen) : LCalls Try.prog 129 [.t (.sl 9 rows)] [] [] (.own 1000 rows.length) [] [(1000, ⟨70, 9, rows⟩)] := by
  have hbd' : 0 + rows.length * 104 ≤ 140737488355328 := by omega
  refine lcalls_of Try.func129 rfl rfl Try.ntmps129 rfl ?_
  repeat' (first | (refine rg 0 ?_; refine oAs ?_; refine oN ?_) | (refine rg 1 ?_; refine oMv ?_; refine sops_isnil (.free rfl rfl) rfl rfl rfl rfl (.t _) (tyS rfl) (fun b hnil => ?_); refine oN ?_) | refine gc ?_ | refine ct ?_ | refine cf ?_ | refine swp_cond rfl (fun hc => ?_) (fun hc => ?_) | refine rq rfl (rt .nil) ?_)
  · obtain rfl := hnil hc
    repeat' (first | refine then_go ?_ | refine swp_seq ?_ | refine swp_ret_weak (weak_own0 (i := 1000) 70 9 (s := 2) rfl rfl) ?_ | (refine rg 2 ?_; refine oAs ?_; refine oN ?_) | refine swp_ret ?_ | refine swp_skip ?_ | refine swp_block ?_ | refine swp_exit ?_ | refine block_go ?_ | refine block_exit ?_ | refine block_far rfl ?_ | refine block_ret ?_ | refine then_ret ?_ | refine then_exit ?_ | refine for_ret ?_ | refine for_exit ?_ | refine ct ?_ | refine cf ?_ | refine swp_cond rfl (fun hc => ?_) (fun hc => ?_) | exact retl1 (by exact .inr rfl) rfl (.tmp rfl rfl .nil) rfl .nil (.cons rfl (by rfl) .nil))
  · repeat' (first | (refine rg 3 ?_; refine sops_build0i 1000 (.free rfl rfl) rfl rfl rfl (tyE rfl) rfl ?_; refine oMv ?_; refine sap rfl (tyE rfl) ?_; refine oAs ?_; refine oN ?_) | refine gc ?_ | refine ct ?_ | refine cf ?_ | refine swp_cond rfl (fun hc => ?_) (fun hc => ?_) | refine retl (by exact .inr rfl) rfl (.tmp rfl rfl .nil) ?_ rfl .nil (.cons rfl (by rfl) .nil))
    rfl
set_option maxRecDepth 100000 in
theorem cloneTun (rows : List (List T)) (hbd : rows.length * 128 ≤ 140737488355328) (hmx : rows.length ≤ maxLen) : LCalls Try.prog 125 [.t (.sl 14 rows)] [] [] (.own 1000 rows.length) [] [(1000, ⟨118, 14, rows⟩)] := by
  have hbd' : 0 + rows.length * 128 ≤ 140737488355328 := by omega
  refine lcalls_of Try.func125 rfl rfl Try.ntmps125 rfl ?_
  repeat' (first | (refine rg 0 ?_; refine oAs ?_; refine oN ?_) | (refine rg 1 ?_; refine oMv ?_; refine sops_isnil (.free rfl rfl) rfl rfl rfl rfl (.t _) (tyS rfl) (fun b hnil => ?_); refine oN ?_) | refine gc ?_ | refine ct ?_ | refine cf ?_ | refine swp_cond rfl (fun hc => ?_) (fun hc => ?_) | refine rq rfl (rt .nil) ?_)
  · obtain rfl := hnil hc
    repeat' (first | refine then_go ?_ | refine swp_seq ?_ | refine swp_ret_weak (weak_own0 (i := 1000) 118 14 (s := 2) rfl rfl) ?_ | (refine rg 2 ?_; refine oAs ?_; refine oN ?_) | refine swp_ret ?_ | refine swp_skip ?_ | refine swp_block ?_ | refine swp_exit ?_ | refine block_go ?_ | refine block_exit ?_ | refine block_far rfl ?_ | refine block_ret ?_ | refine then_ret ?_ | refine then_exit ?_ | refine for_ret ?_ | refine for_exit ?_ | refine ct ?_ | refine cf ?_ | refine swp_cond rfl (fun hc => ?_) (fun hc => ?_) | exact retl1 (by exact .inr rfl) rfl (.tmp rfl rfl .nil) rfl .nil (.cons rfl (by rfl) .nil))
  · repeat' (first | (refine rg 3 ?_; refine sops_build0i 1000 (.free rfl rfl) rfl rfl rfl (tyE rfl) rfl ?_; refine oMv ?_; refine sap rfl (tyE rfl) ?_; refine oAs ?_; refine oN ?_) | refine gc ?_ | refine ct ?_ | refine cf ?_ | refine swp_cond rfl (fun hc => ?_) (fun hc => ?_) | refine retl (by exact .inr rfl) rfl (.tmp rfl rfl .nil) ?_ rfl .nil (.cons rfl (by rfl) .nil))
    rfl
set_option maxRecDepth 100000 in
theorem ownQuery_ (q : PQ) (h : FewQ q) : PCalls Try.prog 69 [.agg (askR q)] (.agg (askR q)) := by
  have c1 := clone_ q.bytes (by have := h.bytes; omega)
  refine pcalls_of Try.func69 rfl rfl Try.ntmps69 rfl ?_
  unfold askR
  repeat' (first | (refine rg 0 ?_; refine sbx ?_; refine sal str70 ?_; refine oN ?_) | (refine rg 1 ?_; refine oFb ?_; refine oLb ?_; refine oC (c1) rfl (ac .nil) ?_; refine oFb ?_; refine oS ?_; refine oN ?_) | (refine rg 2 ?_; (refine sp (po_load_bx_agg rfl rfl (tyT rfl) rfl (vc (vc (vc (vc (vc (vc (vc (vc (vc .nil))))))))) rfl) ?_); refine oS ?_; refine oN ?_) | refine gc ?_ | refine ct ?_ | refine cf ?_ | refine swp_cond rfl (fun hc => ?_) (fun hc => ?_) | refine rq rfl (.cell rfl rfl (tyT rfl) (vc (vc (vc (vc (vc (vc (vc (vc (vc .nil))))))))) rfl .nil) ?_)
  all_goals rfl
def SOq (l : List PQ) (k : Nat) : St := ⟨[(0, .own 1000 (l.map askR).length), (1, .t (.clo 69 [])), (9, .own 1000 (l.map askR).length), (10, .t (.v (.int .i64 ((l.map askR).length : Int)))), (11, .t (.v (.int .i64 (k : Int))))], [], [(1000, ⟨70, 9, l.map askR⟩)]⟩
set_option maxRecDepth 100000 in
set_option maxHeartbeats 1000000 in
theorem ownQs (l : List PQ) (hn : l.length ≤ 1000) (hq : ∀ q ∈ l, FewQ q) : LCalls Try.prog 126 [.t (.sl 9 (l.map askR)), .t (.clo 69 [])] [] [] (.own 1000 (l.map askR).length) [] [(1000, ⟨70, 9, l.map askR⟩)] := by
  have hm : (l.map askR).length = l.length := List.length_map _
  have c1 := cloneQ (l.map askR) (by rw [hm]; omega) (by rw [hm]; unfold maxLen; omega)
  refine lcalls_of Try.func126 rfl rfl Try.ntmps126 rfl ?_
  repeat' (first | (refine rg 0 ?_; refine oAs ?_; refine oN ?_) | (refine rg 1 ?_; refine oMv ?_; refine sops_lcall (c1) (fun i => i) (fun i => i) (fun _ => false) (.free rfl rfl) rfl rfl rfl (by ((repeat' (first | exact .nil | refine .cons rfl rfl rfl ?_)) <;> fail)) .nil .nil rfl rfl (fun _ h => Bool.noConfusion h) ?_; refine oAs ?_; refine oN ?_) | (refine rg 2 ?_; refine oMv ?_; refine sp (po_len_own rfl rfl (tyS rfl)) ?_; refine oMv ?_; refine oN ?_) | refine gc ?_ | refine ct ?_ | refine cf ?_ | refine swp_cond rfl (fun hc => ?_) (fun hc => ?_) | refine rq rfl (rt .nil) ?_)
  refine swp_for (SOq l) (fun _ => True) l.length ?_ trivial ?_
  · exact (weak_sub (.cons rfl rfl rfl (.cons rfl rfl rfl (.cons rfl rfl rfl (.cons rfl rfl rfl (.cons rfl rfl rfl .nil))))) .nil (.cons rfl rfl .nil))
  intro k hk _
  unfold SOq
  by_cases hlt : k < l.length
  · have hlt' : (k : Int) < l.length := by omega
    have hat : (l.map askR)[k]? = some (askR l[k]) := map_at_some hlt
    have c2 := ownQuery_ l[k] (hq _ (List.getElem_mem hlt))
    have hset := set_same hat
    generalize l[k] = q at *
    repeat' (first | refine for_next hlt (weak_sub (.cons rfl (by rfl) rfl (.cons rfl (by rfl) rfl (.cons rfl (by rfl) rfl (.cons rfl (by rfl) rfl (.cons rfl (by rfl) rfl .nil))))) .nil (.cons rfl (by first | rfl | (first | (rw [hset]; try rfl) | (exact congrArg _ hset))) .nil)) trivial | (refine rg 3 ?_; refine oCm ?_; refine oN ?_) | (refine rg 4 ?_; refine oMv ?_; refine sp (ixo rfl) ?_; refine sp (po_load_own_agg (ts := askR q) rfl rfl rfl rfl (tyT rfl) hat rfl rfl) ?_; refine sal str70 ?_; refine oAs ?_; refine oS ?_; refine oN ?_) | (refine rg 5 ?_; refine oMv ?_; refine oMv ?_; refine oMv ?_; (first | refine sp (po_load_own_agg (ts := askR q) rfl rfl rfl rfl (tyT rfl) hat rfl rfl) ?_ | refine sp (po_load_bx_agg rfl rfl (tyT rfl) rfl (vc (vc (vc (vc (vc (vc (vc (vc (vc .nil))))))))) rfl) ?_); refine sp (po_call_clo rfl rfl (ac .nil) (c2)) ?_; refine sp (ixo rfl) ?_; (first | refine oS ?_ | refine sso ?_); refine oN ?_) | (refine rg 6 ?_; refine sp (xinc rfl) ?_; refine oMv ?_; refine oN ?_) | refine gc ?_ | refine ct ?_)
  · obtain rfl : k = l.length := by omega
    repeat' (first | (refine rg 3 ?_; refine oCm ?_; refine oN ?_) | (refine rg 7 ?_; refine oMv ?_; refine oAs ?_; refine oN ?_) | refine gc ?_ | refine ct ?_ | refine cf ?_ | refine swp_cond rfl (fun hc => ?_) (fun hc => ?_) | exact retl1 (by exact .inr rfl) rfl (.tmp rfl rfl .nil) rfl .nil (.cons rfl (by rfl) .nil))
set_option maxRecDepth 100000 in
theorem ownTun_ (t : PTun) (h : FewTun t) : LCalls Try.prog 114 [.t (.agg (tunT t))] [] [] (.ag ((tunS t).map .t ++ [.own 1000 (t.asks.map askR).length])) [] [(1000, askO t)] := by
  have c1 := ownQs t.asks h.asks h.each
  refine lcalls_of Try.func114 rfl rfl Try.ntmps114 rfl ?_
  unfold tunT tunC
  repeat' (first | (refine rg 0 ?_; refine sbx ?_; refine sal str118 ?_; refine oN ?_) | (refine rg 1 ?_; refine oFb ?_; refine oLb ?_; refine sops_lcall (c1) (fun i => i) (fun i => i) (fun _ => false) (.free rfl rfl) rfl rfl rfl (by ((repeat' (first | exact .nil | refine .cons rfl rfl rfl ?_ | refine .vw rfl (by first | exact .t _ | exact .own rfl (by rfl) | exact .nil _ | exact .emp _ | exact .fn _) ?_)) <;> fail)) .nil .nil rfl rfl (fun _ h => Bool.noConfusion h) ?_; refine oFb ?_; refine oS ?_; refine oN ?_) | (refine rg 2 ?_; (first | refine sp (po_load_bx_agg rfl rfl (tyT rfl) rfl (vc (vc (vc (vc (vc (vc (vc (vc (vc (vc (vc (vc (vc (vc .nil)))))))))))))) rfl) ?_ | refine sp (po_load_agg rfl rfl (tyT rfl) rfl rfl) ?_ | refine sp (lda rfl) ?_ | refine sp (po_load_bx_ag rfl rfl (tyT rfl) rfl rfl rfl rfl) ?_); refine oS ?_; refine oN ?_) | refine gc ?_ | refine ct ?_ | refine cf ?_ | refine swp_cond rfl (fun hc => ?_) (fun hc => ?_) | refine retl (by exact .inr rfl) rfl (.cell rfl rfl (tyT rfl) rfl rfl .nil) ?_ rfl .nil (.cons rfl (by rfl) .nil))
  all_goals rfl
end Go.Proofs.Ytabejnjnkpdjbaa.Sim

/- own of tunnels: a row, and a family of rows of queries. -/
namespace Go.Proofs.Ytabejnjnkpdjbaa.Sim
set_option linter.unusedVariables false
set_option linter.unusedSimpArgs false
open Go.RowKit Mem
/-- tunnels in memory -/
def AOf (l : List PTun) : Type := { A : List ATun // A.map ATun.t = l }
instance (l : List PTun) : Inhabited (AOf l) := ⟨⟨l.map fun t => ⟨t, undef⟩, by rw [List.map_map]; exact List.map_id' l⟩⟩
def rowA (l : List PTun) (A : List ATun) : List (List T) := A.map tunR ++ (l.drop A.length).map tunT
theorem rowA_len {l : List PTun} {A : List ATun} (h : A.length ≤ l.length) : (rowA l A).length = l.length := by
  unfold rowA; rw [List.length_append, List.length_map, List.length_map, List.length_drop]; omega
theorem rowA_at {l : List PTun} {A : List ATun} (h : A.length < l.length) : (rowA l A)[A.length]? = some (tunT l[A.length]) := by
  unfold rowA
  rw [List.getElem?_append_right (by rw [List.length_map]; exact Nat.le_refl _), List.length_map, Nat.sub_self, List.getElem?_map, List.getElem?_drop, Nat.add_zero, List.getElem?_eq_getElem h]; rfl
theorem rowA_set {l : List PTun} {A : List ATun} (h : A.length < l.length) (u : Value) : (rowA l A).set A.length (tunR ⟨l[A.length], u⟩) = rowA l (A ++ [⟨l[A.length], u⟩]) := by
  unfold rowA
  rw [List.set_append_right _ _ (by rw [List.length_map]; exact Nat.le_refl _), List.length_map, Nat.sub_self, List.drop_eq_getElem_cons h, List.map_cons, List.set_cons_zero, List.map_append, List.length_append, List.append_assoc]; rfl
def SOt (l : List PTun) (A : List ATun) : St := ⟨[(0, .own 1001 l.length), (1, .t (.clo 114 [])), (9, .own 1001 l.length), (10, .t (.v (.int .i64 (l.length : Int)))), (11, .t (.v (.int .i64 (A.length : Int))))], [(1100, [.rs (FamR (famT A))])], [(1001, ⟨118, 14, rowA l A⟩)]⟩
set_option maxRecDepth 100000 in
set_option maxHeartbeats 2000000 in
theorem ownTuns (l : List PTun) (hn : l.length ≤ 1000) (hq : ∀ t ∈ l, FewTun t) : ECalls Try.prog 113 [.t (.sl 14 (l.map tunT)), .t (.clo 114 [])] [] [] (fun _ : AOf l => .own 1001 l.length) (fun A => [(1100, [.rs (FamR (famT A.1))])]) (fun A => [(1001, tunO A.1)]) := by
  have hm : (l.map tunT).length = l.length := List.length_map _
  have c1 := cloneTun (l.map tunT) (by rw [hm]; omega) (by rw [hm]; unfold maxLen; omega)
  rw [hm] at c1
  refine ecalls_of Try.func113 rfl rfl Try.ntmps113 rfl ?_
  repeat' (first | (refine rg 0 ?_; refine oAs ?_; refine oN ?_) | (refine rg 1 ?_; refine oMv ?_; refine sops_lcall (c1) (fun i => i) (fun _ => 1001) (fun _ => false) (.free rfl rfl) rfl rfl rfl (by ((repeat' (first | exact .nil | refine .cons rfl rfl rfl ?_)) <;> fail)) .nil .nil rfl rfl (fun _ h => Bool.noConfusion h) ?_; refine oAs ?_; refine oN ?_) | (refine rg 2 ?_; refine oMv ?_; refine sp (po_len_own rfl rfl (tyS rfl)) ?_; refine oMv ?_; refine oN ?_) | refine gc ?_ | refine ct ?_ | refine cf ?_ | refine swp_cond rfl (fun hc => ?_) (fun hc => ?_) | refine rq rfl (rt .nil) ?_)
  refine swp_weak (weak_fam0 1100 rfl) ?_
  refine swp_fam (SOt l) (fun A => A.map ATun.t = l.take A.length ∧ A.length ≤ l.length) (fun A => l.length - A.length) [] ?_ ⟨rfl, Nat.zero_le _⟩ ?_
  · exact (weak_sub (.cons rfl rfl rfl (.cons rfl rfl rfl (.cons rfl rfl rfl (.cons rfl rfl rfl (.cons rfl rfl rfl .nil))))) (.cons rfl rfl rfl .nil) (.cons rfl rfl .nil))
  rintro A ⟨hA, hk⟩
  have hrl := rowA_len hk
  unfold SOt
  by_cases hlt : A.length < l.length
  · have hlt' : (A.length : Int) < l.length := by omega
    have hat := rowA_at hlt
    have c2 := ownTun_ l[A.length] (hq _ (List.getElem_mem hlt))
    have hset := rowA_set hlt
    have hA2 : ∀ u, (A ++ [(⟨l[A.length], u⟩ : ATun)]).map ATun.t = l.take (A ++ [(⟨l[A.length], u⟩ : ATun)]).length := fun u => by
      rw [List.map_append, hA, List.length_append]
      exact (List.take_append_getElem hlt)
    generalize l[A.length] = t at *
    repeat' (first | (refine rg 3 ?_; refine oCm ?_; refine oN ?_) | refine gc ?_ | refine ct ?_ | refine cf ?_ | refine swp_cond rfl (fun hc => ?_) (fun hc => ?_) | refine rq rfl (rt .nil) ?_)
    refine rg 4 ?_
    refine oMv ?_
    refine sp (ixo rfl) ?_
    refine sp (po_load_own_agg (ts := tunT t) rfl rfl rfl hrl.symm (tyT rfl) hat rfl rfl) ?_
    refine sal str118 ?_
    refine oAs ?_
    refine oS ?_
    refine oN ?_
    refine gc ?_
    refine rg 5 ?_
    refine oMv ?_
    refine oMv ?_
    refine oMv ?_
    refine sp (po_load_bx_agg rfl rfl (tyT rfl) rfl (vc (vc (vc (vc (vc (vc (vc (vc (vc (vc (vc (vc (vc (vc .nil)))))))))))))) rfl) ?_
    refine sops_lcall_tclo (args := [_]) (caps := []) c2 (fun i => i) (fun _ => 1002) (fun _ => false) (.free rfl rfl) rfl rfl rfl rfl (.cons rfl rfl rfl .nil) .nil .nil rfl rfl (fun _ h => Bool.noConfusion h) ?_
    refine sops_weakE (weak_closeG 20 1100 1002 (famT A) [] ((tunS t).map .t) [] rfl (by rw [List.append_nil]; rfl) rfl rfl) fun u => ?_
    have hf : famT A ++ (u, askO t) :: [] = famT (A ++ [⟨t, u⟩]) := by unfold famT; rw [List.map_append]; rfl
    rw [hf]
    refine sp (po_index_own (sz := 14) (k := A.length) rfl rfl rfl (by omega) rfl (tyS rfl) rfl hlt) ?_
    refine sops_store_own (t := .agg (tunR ⟨t, u⟩)) (ts := tunR ⟨t, u⟩) (by rfl) (.free rfl rfl) rfl rfl rfl rfl (by omega) rfl (by repeat first | exact .agn | refine .agc ?_ ?_ | exact .t _) rfl rfl (tyT rfl) rfl hat rfl ?_
    refine oN ?_
    have e1 := congrArg (fun r => (⟨118, 14, r⟩ : Own)) (hset u)
    have hla : (A ++ [(⟨t, u⟩ : ATun)]).length = A.length + 1 := List.length_append
    repeat' (first | (refine rg 6 ?_; refine sp (xinc rfl) ?_; refine oMv ?_; refine oN ?_) | refine gc ?_ | refine ct ?_ | refine cf ?_ | refine swp_cond rfl (fun hc => ?_) (fun hc => ?_) | refine rq rfl (rt .nil) ?_)
    refine fam_next (A ++ [⟨t, u⟩]) (by rw [hla]; omega) ?_ ⟨hA2 u, by rw [hla]; exact hlt⟩
    refine weak_sub ?_ ?_ ?_
    · exact .cons rfl (by rfl) rfl (.cons rfl (by rfl) rfl (.cons rfl (by rfl) rfl (.cons rfl (by rfl) rfl (.cons rfl (by rw [hla]) rfl .nil))))
    · exact .cons rfl (by rfl) rfl .nil
    · exact .cons rfl (by exact e1) .nil
  · have hkl : A.length = l.length := by omega
    rw [hkl, List.take_length] at hA
    have hro : rowA l A = A.map tunR := by unfold rowA; rw [hkl, List.drop_length]; exact List.append_nil _
    rw [hro, hkl]
    repeat' (first | refine gc ?_ | refine fam_exit ?_ | refine fam_ret ?_ | refine rete ⟨A, hA⟩ ?_ | (refine rg 3 ?_; refine oCm ?_; refine oN ?_) | (refine rg 7 ?_; refine oMv ?_; refine oAs ?_; refine oN ?_) | refine ct ?_ | refine cf ?_ | refine swp_cond rfl (fun hc => ?_) (fun hc => ?_) | refine retl (by exact .inr rfl) rfl (.tmp rfl rfl .nil) ?_ rfl (.cons rfl (by rfl) rfl .nil) (.cons rfl (by rfl) .nil))
    rfl
end Go.Proofs.Ytabejnjnkpdjbaa.Sim

/- A pool that is worked on: with, after. -/
namespace Go.Proofs.Ytabejnjnkpdjbaa.Sim
set_option linter.unusedVariables false
set_option linter.unusedSimpArgs false
open Go.RowKit Mem
section
variable {P : Program} {bx : List (Nat × List A)} {ow : List (Nat × Own)} {o : Oper} {ρ : Operand → Option A} {r : A}
theorem po_nilcheck {x : Operand} {i off : Nat} (ho : o.op = .nilCheck x) (hx : ρ x = some (.bp i off)) : PureOp P bx ow o ρ (.bp i off) := pure_run fun C m g w a he h => by
  obtain ⟨h0, h1⟩ := h x (by simp [ho, Op.operands]) _ hx
  exact ⟨_, by simp [execOp, ho, h1], h0, rfl⟩
theorem po_nilcheck_oe {x : Operand} {i nn sz k off : Nat} {o' : Own} (ho : o.op = .nilCheck x) (hx : ρ x = some (.oe i nn sz k off)) (hi : get ow i = some o') (hnn : nn = o'.rows.length) : PureOp P bx ow o ρ (.oe i nn sz k off) := pure_run fun C m g w a he h => by
  obtain ⟨h1, h2, h3, h4⟩ := h x (by simp [ho, Op.operands]) _ hx
  obtain ⟨b, h5, h6⟩ := h4 (by rw [he.ln i _ hi]; exact hnn)
  exact ⟨_, by simp only [execOp, ho, h6]; rfl, h1, h2, ⟨_, rfl⟩, fun _ => ⟨b, h5, rfl⟩⟩
theorem po_subu {t t2 : TypeId} {x y : Operand} {i j : Int} (ho : o.op = .binOp .sub t x y t2) (hx : ρ x = some (.t (.v (.int .u64 i)))) (hy : ρ y = some (.t (.v (.int .u64 j)))) : PureOp P bx ow o ρ (.t (.v (.int .u64 (IntKind.u64.wrap (i - j))))) := po_arith ho hx hy rfl
theorem po_addu {t t2 : TypeId} {x y : Operand} {i j : Int} (ho : o.op = .binOp .add t x y t2) (hx : ρ x = some (.t (.v (.int .u64 i)))) (hy : ρ y = some (.t (.v (.int .u64 j)))) : PureOp P bx ow o ρ (.t (.v (.int .u64 (IntKind.u64.wrap (i + j))))) := po_arith ho hx hy rfl
inductive PartsA (ρ : Operand → Option A) : List (Nat × Operand) → List (Nat × A) → Prop
  | nil : PartsA ρ [] []
  | cons {i : Nat} {x : Operand} {y : A} {xs : List (Nat × Operand)} {ts : List (Nat × A)} (h : ρ x = some y) (hl : PartsA ρ xs ts) : PartsA ρ ((i, x) :: xs) ((i, y) :: ts)
theorem PartsA.ok {m : Mm} {g : Gh} {xs : List (Nat × Operand)} {ts : List (Nat × A)} (h : PartsA ρ xs ts) {a : Act} (ha : ∀ x ∈ xs.map (·.2), ∀ y, ρ x = some y → AR m g y (a.eval x)) :
    ts.length = (xs.map fun p => (p.1, a.eval p.2)).length ∧ ∀ (i : Nat) p q, ts[i]? = some p → (xs.map fun p => (p.1, a.eval p.2))[i]? = some q → q.1 = p.1 ∧ AR m g p.2 q.2 := by
  induction h with
  | nil => exact ⟨rfl, fun i p q h => by simp at h⟩
  | @cons i x y xs ts h hl ih =>
    obtain ⟨h1, h2⟩ := ih fun x hx => ha x (by simp at hx ⊢; exact .inr hx)
    refine ⟨by simp [h1], fun j p q h3 h4 => ?_⟩
    cases j with
    | zero => simp at h3 h4; subst h3 h4; exact ⟨rfl, ha x (by simp) y h⟩
    | succ j => simp at h3; exact h2 j p q h3 (by simpa using h4)
/-- a struct's literal of parts that the call owns -/
theorem po_build_agl {t : TypeId} {xs : List (Nat × Operand)} {ts : List (Nat × A)} {rs : List A} {pl : List (Nat × Nat)} {zs : List Value} (hS : strI P t = some (pl, zs)) (ho : o.op = .build t xs.toArray) (hx : PartsA ρ xs ts) (hb : fillA (fun i => pl[i]?) (zs.map fun v => .t (.v v)) ts = some rs) (hlf : rs.all A.isLf = true) : PureOp P bx ow o ρ (.ag rs) := pure_run fun C m g w a he h => by
  obtain ⟨k1, k2⟩ := hx.ok (m := m) (g := g) (a := a) (fun x hx y hy => h x (by simp [ho, Op.operands] at hx ⊢; exact hx) y hy)
  unfold strI at hS
  split at hS
  · rename_i it fields hi hu
    split at hS
    · rename_i z places hz hpl
      cases hb2 : (z.cells.toList.all (·.oneCell')) with
      | false => rw [hb2] at hS; cases hS
      | true =>
        rw [hb2] at hS
        injection hS with hS
        injection hS with e1 e2
        subst e1 e2
        obtain ⟨cells, h3, h4⟩ := fillA_ok (m := m) (g := g) hb (zero_acells m g (List.all_eq_true.1 hb2)) k1 k2
        have hbuilt : P.built t (xs.map fun p => (p.1, a.eval p.2)) = some cells := by
          unfold Program.built
          rw [hi, hu]
          dsimp only
          rw [hz, hpl]
          dsimp only
          have : (fun i : Nat => places[i]?) = (fun i : Nat => places.toArray[i]?) := by funext i; simp
          rw [← this]; exact h3
        have hrun := run_build (P := P) w t (xs.map fun p => (p.1, a.eval p.2)).toArray cells (by simpa using hbuilt)
        refine ⟨.agg cells, ?_, cells, rfl, by have := h4.1; simpa using this, fun j y u hj hu => ?_⟩
        · simp only [execOp, ho]
          rw [List.map_toArray] at *
          rw [Sem.run_bind, show (xs.map fun x => (x.1, a.eval x.2)).toArray = (xs.map fun p => (p.1, a.eval p.2)).toArray from rfl, hrun]; rfl
        obtain ⟨h5, h6⟩ := h4.2 j y u hj (by simpa using hu)
        exact ⟨ar_leaf h5 ((List.all_eq_true.1 hlf) y (List.mem_of_getElem? hj)), h6⟩
    · cases hS
  · cases hS
end
/-- what a pool wants done -/
structure PDo where
  kind : Int
  peer : Int
  node : Int
  inc : Int
  num : Int
  src : Int
  duid : Int
  daddr : Int
  dport : Int
  q : Option PQ
def qT : Option PQ → List T
  | none => [u64T 0, u64T 0, u64T 0, u64T 0, .v (.string .empty), .v (.string .empty), u64T 0, u32T 0, .v (.slice none 0 0)]
  | some q => askR q
def doR (d : PDo) : List T := [i64T d.kind, i64T d.peer, i64T d.node, u64T d.inc, u64T d.num, u64T d.src, u64T d.duid, u32T d.daddr, i64T d.dport] ++ qT d.q
structure PFail where
  id : Int
  why : Int
def failR (f : PFail) : List T := [u64T f.id, i64T f.why]
def doO (l : List PDo) : Own := ⟨84, 18, l.map doR⟩
def failO (l : List PFail) : Own := ⟨82, 2, l.map failR⟩
structure PPool where
  node : Int
  inc : Int
  next : Int
  tuns : List PTun
def poolT (p : PPool) : List T := [i64T p.node, u64T p.inc, u64T p.next, .sl 14 (p.tuns.map tunT)]
structure PWk where
  node : Int
  inc : Int
  next : Int
  now : Int
  tuns : List ATun
  dos : List PDo
  fails : List PFail
def wC (a b c : Nat) (W : PWk) : List A := [.t (i64T W.node), .t (u64T W.inc), .t (u64T W.next), .own a W.tuns.length, .t (u64T W.now), .own b W.dos.length, .own c W.fails.length]
def wB (i r a b c : Nat) (W : PWk) : List (Nat × List A) := [(i, wC a b c W), (r, [.rs (FamR (famT W.tuns))])]
def wO (a b c : Nat) (W : PWk) : List (Nat × Own) := [(a, tunO W.tuns), (b, doO W.dos), (c, failO W.fails)]
def begW (p : PPool) (now : Int) (l : List ATun) : PWk := ⟨p.node, p.inc, p.next, now, l, [], []⟩
def StW (p : PPool) (now : Int) (A : List ATun) : St := ⟨[(4, .bp 12 0)], wB 12 1100 1001 1002 1003 (begW p now A), wO 1001 1002 1003 (begW p now A)⟩
set_option maxRecDepth 100000 in
set_option maxHeartbeats 1000000 in
theorem with_ (p : PPool) (now : Int) (hn : p.tuns.length ≤ 1000) (hq : ∀ t ∈ p.tuns, FewTun t) : ECalls Try.prog 62 [.t (.agg (poolT p)), .t (u64T now)] [] [] (fun _ : AOf p.tuns => .bp 12 0) (fun A => wB 12 1100 1001 1002 1003 (begW p now A.1)) (fun A => wO 1001 1002 1003 (begW p now A.1)) := by
  have c1 := ownTuns p.tuns hn hq
  refine ecalls_of Try.func62 rfl rfl Try.ntmps62 rfl ?_
  unfold poolT
  repeat' (first | (refine rg 0 ?_; refine sbx ?_; refine oAs ?_; refine oN ?_) | refine gc ?_ | refine ct ?_ | refine cf ?_ | refine swp_cond rfl (fun hc => ?_) (fun hc => ?_) | refine rq rfl (rt .nil) ?_)
  refine rg 1 ?_
  refine oFb ?_
  refine oLb ?_
  refine sops_ecall c1 (fun i => i) (fun i => i) (.free rfl rfl) rfl rfl rfl (.cons rfl rfl rfl (.vw rfl (.fn _) .nil)) .nil .nil rfl (fun _ => rfl) fun A => ?_
  obtain ⟨l, hl⟩ := A
  have hlen : p.tuns.length = l.length := by rw [← hl, List.length_map]
  dsimp only
  rw [hlen]
  refine oFb ?_
  refine oS ?_
  refine oN ?_
  refine gc ?_
  refine rg 2 ?_
  refine sp (po_load_bx_ag rfl rfl (tyT rfl) rfl rfl rfl rfl) ?_
  refine oMv ?_
  refine sp (po_build_agl str124 rfl (.cons rfl (.cons rfl .nil)) rfl rfl) ?_
  refine sbx ?_
  refine oAs ?_
  refine oN ?_
  refine then_go ?_
  refine swp_weak (weak_own0_bx 84 18 (i := 12) (j := 5) (q := 1002) rfl rfl rfl) ?_
  refine swp_weak (weak_own0_bx 82 2 (i := 12) (j := 6) (q := 1003) rfl rfl rfl) ?_
  refine swp_weak (st' := StW p now l) (weak_sub (.cons rfl rfl rfl .nil) (.cons rfl rfl rfl (.cons rfl rfl rfl .nil)) (.cons rfl rfl (.cons rfl rfl (.cons rfl rfl .nil)))) ?_
  unfold StW
  repeat' (first | refine gc ?_ | refine rete ⟨l, hl⟩ ?_ | (refine rg 0 ?_; refine sbx ?_; refine oAs ?_; refine oN ?_) | refine ct ?_ | refine cf ?_ | refine swp_cond rfl (fun hc => ?_) (fun hc => ?_) | refine retl (by exact .inr rfl) rfl (.tmp rfl rfl .nil) ?_ rfl (.cons rfl (by rfl) rfl (.cons rfl (by rfl) rfl .nil)) (.cons rfl (by rfl) (.cons rfl (by rfl) (.cons rfl (by rfl) .nil))))
  rfl
end Go.Proofs.Ytabejnjnkpdjbaa.Sim
