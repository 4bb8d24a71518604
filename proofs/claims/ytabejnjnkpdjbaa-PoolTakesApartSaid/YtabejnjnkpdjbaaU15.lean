/- Merged by bundles.py: SimFam, Post0, PlPool, SimAt, SimPo1. -/
import Derived.Test.YtabejnjnkpdjbaaU14
import Derived.Test.YtabejnjnkpdjbaaU0
import Derived.ProofKit
import Derived.OpenShut
import Derived.Lib.SmallJoins
import Derived.ShutString
import Derived.ChangeSame
import Derived.Test.YtabejnjnkpdjbaaU13
/- A logic of states: a loop whose rounds bear data. -/
namespace Go.Proofs.Ytabejnjnkpdjbaa.Sim
set_option linter.unusedVariables false
set_option linter.unusedSimpArgs false
open Go.RowKit Mem
section
variable {P : Program} {N : Nat} {Q : Exit → St → Prop} {st : St}
def famF {α : Type} (N : Nat) (S : α → St) (I : α → Prop) (μ : α → Nat) (x : α) (Q : Exit → St → Prop) : Exit → St → Prop
  | .normal, s' => ∃ y, μ y < μ x ∧ I y ∧ Weak N s' (S y)
  | e, s' => Q e s'
structure FamQ {α : Type} (N : Nat) (S : α → St) (I : α → Prop) (μ : α → Nat) (x : α) (Q : Exit → St → Prop) (e : Exit) (s' : St) : Prop where
  go : famF N S I μ x Q e s'
theorem fam_next {α : Type} {S : α → St} {I : α → Prop} {μ : α → Nat} {x : α} {s' : St} (y : α) (hm : μ y < μ x) (hw : Weak N s' (S y)) (hI : I y) : FamQ N S I μ x Q .normal s' := ⟨⟨y, hm, hI, hw⟩⟩
theorem fam_ret {α : Type} {S : α → St} {I : α → Prop} {μ : α → Nat} {x : α} {s' : St} (h : Q .ret s') : FamQ N S I μ x Q .ret s' := ⟨h⟩
theorem fam_exit {α : Type} {S : α → St} {I : α → Prop} {μ : α → Nat} {x : α} {s' : St} {id : Nat} (h : Q (.exit id) s') : FamQ N S I μ x Q (.exit id) s' := ⟨h⟩
theorem swp_fam {α : Type} {c : Code} (S : α → St) (I : α → Prop) (μ : α → Nat) (x0 : α) (h0 : Weak N st (S x0)) (hI : I x0) (hround : ∀ x, I x → SWp P N c (FamQ N S I μ x Q) (S x)) : SWp P N (.loop c) Q st := by
  refine .mk fun C a w hr => ?_
  have key : ∀ n x a w, μ x = n → I x → Rel C N (S x) a w → ∀ (b : Frame) (k : List Item) (cs : List Frame), b.kind ≠ .early → ∃ e a' w', Good C N Q e a' w' ∧ Arrives P (lone (b.at a (.code c :: .inLoop c :: k)) cs w) b k cs e a' w' := by
    intro n
    induction n using Nat.strongRecOn with
    | _ n ih =>
      intro x a w hn hi hr b k cs hb
      obtain ⟨e, a1, w1, ⟨s1, hr1, hq⟩, harr⟩ := (hround x hi).go C a w hr b (.inLoop c :: k) cs hb
      cases e with
      | normal =>
        obtain ⟨y, hm, hi', hw⟩ := hq.go
        obtain ⟨e2, a2, w2, hq2, harr2⟩ := ih (μ y) (by omega) y a1 w1 rfl hi' (hw.go C a1 w1 hr1) b k cs hb
        exact ⟨e2, a2, w2, hq2, .of_steps (Steps.trans harr (.one step_inLoop)) harr2⟩
      | exit id => exact ⟨_, a1, w1, ⟨s1, hr1, hq.go⟩, .pass (x := .inLoop c) rfl (fun _ _ => .inl (by simp)) harr⟩
      | goto l => exact ⟨_, a1, w1, ⟨s1, hr1, hq.go⟩, .pass (x := .inLoop c) rfl (fun _ _ => .inl (by simp)) harr⟩
      | ret => exact ⟨_, a1, w1, ⟨s1, hr1, hq.go⟩, .pass (x := .inLoop c) rfl (fun _ _ => .inl (by simp)) harr⟩
      | panic ch => exact ⟨_, a1, w1, ⟨s1, hr1, hq.go⟩, .pass (x := .inLoop c) rfl (fun _ _ => .inl (by simp)) harr⟩
      | outgrown => exact ⟨_, a1, w1, ⟨s1, hr1, hq.go⟩, .pass (x := .inLoop c) rfl (fun _ _ => .inl (by simp)) harr⟩
  intro b k cs hb
  obtain ⟨e, a', w', hq, harr⟩ := key _ x0 a w rfl hI (h0.go C a w hr) b k cs hb
  exact ⟨e, a', w', hq, .of_steps (.one step_loop) harr⟩
end
end Go.Proofs.Ytabejnjnkpdjbaa.Sim

/- The rows' last step: arguments opened, the row shut where only new memory was made. -/
namespace Go.Proofs.Ytabejnjnkpdjbaa.Post
set_option linter.unusedVariables false
set_option linter.unusedSimpArgs false
open Go.RowKit Go.WideShapes Go.ChangeShapes Go.Joins Mem
section
variable {H : Type} {enc : TypeId × Value → H} {P : Program}
theorem post_of_below {f : Func} {s : ChangeSpec} {apart fresh handsOn again : Bool} {W W' : World} {args : Array Value} {v : Value} {ds gs : List (DataW H)} {before pa pv : List MemPlace}
    (hW : DataW.Whole enc P f.params.toList s.vars apart W args.toList ds gs before)
    (hres : ∀ (b : Nat) (sp : Nat → Bool) (hd : Bool), DataW.TrodAll enc P W' b sp hd f.resultTypes.toList (v.resultList f.resultTypes.size) (s.fn H (ds ++ gs)).results [])
    (hargs : ∀ sp : Nat → Bool, (∀ p ∈ before, sp p.block = true) → DataW.TrodAll enc P W' 0 sp true f.params.toList args.toList (s.fn H (ds ++ gs)).args pa)
    (hvars : ∀ sp : Nat → Bool, (∀ p ∈ before, sp p.block = true) → DataW.TrodVars enc P W' sp s.vars (s.fn H (ds ++ gs)).vars pv)
    (hps : before = pa ++ pv) (hb : Below W.heap.size W W')
    (hok : ∀ (j : Nat) (t : TypeId) (r : Value), f.resultTypes[j]? = some t → (v.resultList f.resultTypes.size)[j]? = some r → Value.okWide P W' .any 0 t r) :
    s.post enc P f apart fresh handsOn again W args v W' := by
  have hlt : ∀ p ∈ before, p.block < W.heap.size := fun p hp => hW.lt p hp
  have hold : ∀ p ∈ before, (fun b => decide (b < W.heap.size)) p.block = true := fun p hp => by simpa using hlt p hp
  refine ⟨ds, gs, before, [], pa, pv, hW, hres _ _ _, hargs _ hold, hvars _ hold, World.keptBut_mono (fun p hp => ⟨hp, ?_⟩) (hb.frame (· ∈ before)), fun _ => ?_⟩
  · rw [hps, List.mem_append] at hp
    exact Or.inr hp
  · obtain ⟨_, _, _, _, _, hz, hn⟩ := hW
    refine ⟨hok, _, _, ([] ++ pa) ++ pv, ⟨[] ++ pa, pv, trodAll_append (hargs _ (fun _ _ => rfl)) (hres _ _ _), hvars _ (fun _ _ => rfl), rfl, ?_, ?_⟩, ?_⟩
    · intro b off hp
      have hin : MemPlace.cell b off ∈ before := by rw [hps]; simpa using hp
      rw [hb.frozen (hlt _ hin)]
      exact hz b off hin
    · intro ha
      have := hn ha
      rw [hps] at this
      simpa using this
    · intro p hp _
      rw [hps]
      simpa using hp
theorem trodAll_stays {W W' : World} {sp' : Nat → Bool} (hl : laidOutB P = true) : ∀ {ts : List TypeId} {vs : List Value} {ds : List (DataW H)} {ps : List MemPlace}, (∀ t ∈ ts, P.readableRec t = true ∧ t < P.types.size) →
    DataW.TrodAll enc P W 0 (fun _ => true) true ts vs ds ps → (∀ p ∈ ps, W.sameAt W' p) → (∀ p ∈ ps, sp' p.block = true) → DataW.TrodAll enc P W' 0 sp' true ts vs ds ps
  | [], vs, ds, ps, _, h, _, _ => by obtain ⟨rfl, rfl, rfl⟩ := trodAll_nil h; exact trodAll_mk0
  | t :: ts, vs, ds, ps, hr, h, hs, hsp => by
    obtain ⟨v, vs', d, ds', p, q, rfl, rfl, rfl, h0, r0⟩ := trodAll_cons h
    obtain ⟨hr1, hr2⟩ := hr t (by simp)
    exact trodAll_cons_mk (WideElems.Trod_stays hl hr1 hr2 h0 (fun x hx => hs x (by simp [hx])) (fun x hx => hsp x (by simp [hx])))
      (trodAll_stays hl (fun t ht => hr t (by simp [ht])) r0 (fun x hx => hs x (by simp [hx])) (fun x hx => hsp x (by simp [hx])))

theorem law_post {f : Func} {s : ChangeSpec} {apart fresh handsOn again : Bool} {W W' : World} {args : Array Value} {ds gs : List (DataW H)} {before : List MemPlace} {tb : TypeId}
    (hl : laidOutB P = true) (hr : ∀ t ∈ f.params.toList, P.readableRec t = true ∧ t < P.types.size) (hvars : s.vars = []) (hb1 : P.underlying tb = some .bool) (hres : f.resultTypes = #[tb])
    (hfn : gs = [] → s.fn H (ds ++ gs) = { results := [.lit (.bool true)], args := ds })
    (hW : DataW.Whole enc P f.params.toList s.vars apart W args.toList ds gs before) (hb : Lo W W') : s.post enc P f apart fresh handsOn again W args (.bool true) W' := by
  have hW' := hW
  obtain ⟨p, q, hA, hV, rfl, _, _⟩ := hW
  rw [hvars] at hV
  obtain ⟨rfl, rfl⟩ := trodVars_none hV
  have hf := hfn rfl
  have hlt : ∀ x ∈ p, x.block < W.heap.size := fun x hx => hW'.lt x (by simp [hx])
  refine post_of_below (pa := p) (pv := []) hW' ?_ ?_ ?_ rfl hb ?_
  · intro b sp hd
    rw [hf, hres]
    exact trodAll_mk1 (shut_bool hb1 _)
  · intro sp hsp
    rw [hf]
    exact trodAll_stays hl hr hA (fun x hx => Below.same hb (hlt x hx)) (fun x hx => hsp x (by simp [hx]))
  · intro sp _
    rw [hf, hvars]
    rfl
  · exact ok_one hres rfl (okWide_bool_mk hb1 _)
end
theorem Try.own : ownKnob Try.prog.godebug = none := by kernel_rfl
theorem Try.laidOut : laidOutB Try.prog = true := by kernel_rfl
end Go.Proofs.Ytabejnjnkpdjbaa.Post

/- Pools as plain data: queries, tunnels, what is wanted, what failed. -/
namespace Go.Proofs.Ytabejnjnkpdjbaa.Sim
set_option linter.unusedVariables false
set_option linter.unusedSimpArgs false
open Go.RowKit Mem
def bysT (l : List UInt8) : T := .sl 1 (l.map byteT)
abbrev u64T (n : Int) : T := .v (.int .u64 n)
abbrev i64T (n : Int) : T := .v (.int .i64 n)
abbrev u32T (n : Int) : T := .v (.int .u32 n)
structure PQ where
  id : Int
  n : Int
  born : Int
  since : Int
  ns : ByteArray
  sa : ByteArray
  uid : Int
  addr : Int
  bytes : List UInt8
structure PTun where
  node : Int
  inc : Int
  num : Int
  peer : Int
  src : Int
  duid : Int
  daddr : Int
  dport : Int
  state : Int
  sent : Int
  born : Int
  since : Int
  used : Int
  asks : List PQ
structure ATun where
  t : PTun
  u : Value
def askR (q : PQ) : List T := [u64T q.id, u64T q.n, u64T q.born, u64T q.since, .v (.string q.ns), .v (.string q.sa), u64T q.uid, u32T q.addr, bysT q.bytes]
def tunC (t : PTun) (x : T) : List T := [i64T t.node, u64T t.inc, u64T t.num, i64T t.peer, u64T t.src, u64T t.duid, u32T t.daddr, i64T t.dport, i64T t.state, u64T t.sent, u64T t.born, u64T t.since, u64T t.used, x]
def tunS (t : PTun) : List T := [i64T t.node, u64T t.inc, u64T t.num, i64T t.peer, u64T t.src, u64T t.duid, u32T t.daddr, i64T t.dport, i64T t.state, u64T t.sent, u64T t.born, u64T t.since, u64T t.used]
def tunT (t : PTun) : List T := tunC t (.sl 9 (t.asks.map askR))
def tunR (a : ATun) : List T := tunC a.t (.v a.u)
def askO (t : PTun) : Own := ⟨70, 9, t.asks.map askR⟩
def famT (l : List ATun) : List (Value × Own) := l.map fun a => (a.u, askO a.t)
def tunO (l : List ATun) : Own := ⟨118, 14, l.map tunR⟩
structure FewQ (q : PQ) : Prop where
  bytes : q.bytes.length ≤ 1000000
structure FewTun (t : PTun) : Prop where
  asks : t.asks.length ≤ 1000
  each : ∀ q ∈ t.asks, FewQ q
theorem set_same {β : Type} {l : List β} {k : Nat} {x : β} (h : l[k]? = some x) : l.set k x = l := by
  refine List.ext_getElem? fun j => ?_
  rw [List.getElem?_set]
  by_cases hj : k = j
  · subst hj; rw [if_pos rfl]
    obtain ⟨h1, h2⟩ := List.getElem?_eq_some_iff.1 h
    rw [if_pos h1, h]
  · rw [if_neg hj]
theorem map_at_some {α β : Type} {f : α → β} {l : List α} {k : Nat} (h : k < l.length) : (l.map f)[k]? = some (f l[k]) := by rw [List.getElem?_map, List.getElem?_eq_getElem h]; rfl
theorem famT_split {A B : List ATun} {a : ATun} : famT (A ++ a :: B) = famT A ++ (a.u, askO a.t) :: famT B := by unfold famT; rw [List.map_append]; rfl
theorem famT_app {A B : List ATun} : famT (A ++ B) = famT A ++ famT B := by unfold famT; rw [List.map_append]
theorem upl_tun (l : List ATun) : UpL (famT l) (l.map tunR).flatten (l.map fun a => tunT a.t).flatten := by
  have key : ∀ l' : List ATun, (∀ a ∈ l', a ∈ l) → UpL (famT l) (l'.map tunR).flatten (l'.map fun a => tunT a.t).flatten := by
    intro l'
    induction l' with
    | nil => intro _; exact .nil
    | cons a l' ih =>
      intro h
      rw [List.map_cons, List.map_cons, List.flatten_cons, List.flatten_cons]
      refine .app ?_ (ih fun b hb => h b (List.mem_cons_of_mem _ hb))
      refine .keep _ (.keep _ (.keep _ (.keep _ (.keep _ (.keep _ (.keep _ (.keep _ (.keep _ (.keep _ (.keep _ (.keep _ (.keep _ ?_))))))))))))
      exact .up (a.u, askO a.t) (List.mem_map.2 ⟨a, h a List.mem_cons_self, rfl⟩) .nil
  exact key l fun _ h => h
end Go.Proofs.Ytabejnjnkpdjbaa.Sim

/- A logic of states: runs of steps. (Printed by prune.py.) -/
namespace Go.Proofs.Ytabejnjnkpdjbaa.Sim
open Go.RowKit Mem
section
variable {p q : Prop}
theorem aq0 (k : q) (h : W1 q → p := by (intro k_; refine oAs ?_; refine oN ?_; exact k_.p)) : p := h ⟨k⟩
theorem aq1 (k : q) (h : W1 q → p := by (intro k_; refine sops_build0i 1000 (.free rfl rfl) rfl rfl rfl (tyE rfl) rfl ?_; refine oMv ?_; refine sap rfl (tyE rfl) ?_; refine oAs ?_; refine oN ?_; exact k_.p)) : p := h ⟨k⟩
theorem aq2 (k : q) (h : W1 q → p := by (intro k_; refine oMv ?_; refine sp (po_len_own rfl rfl (tyS rfl)) ?_; refine oMv ?_; refine oN ?_; exact k_.p)) : p := h ⟨k⟩
theorem aq3 (k : q) (h : W1 q → p := by (intro k_; refine oCm ?_; refine oN ?_; exact k_.p)) : p := h ⟨k⟩
theorem aq4 (k : q) (h : W1 q → p := by (intro k_; refine oMv ?_; refine sp (ixo rfl) ?_; exact k_.p)) : p := h ⟨k⟩
theorem aq5 (k : q) (h : W1 q → p := by (intro k_; refine oAs ?_; refine oS ?_; refine oN ?_; exact k_.p)) : p := h ⟨k⟩
theorem aq6 (k : q) (h : W1 q → p := by (intro k_; refine oMv ?_; refine oMv ?_; refine oMv ?_; exact k_.p)) : p := h ⟨k⟩
theorem aq7 (k : q) (h : W1 q → p := by (intro k_; refine sp (xinc rfl) ?_; refine oMv ?_; refine oN ?_; exact k_.p)) : p := h ⟨k⟩
theorem aq8 (k : q) (h : W1 q → p := by (intro k_; refine oMv ?_; refine oAs ?_; refine oN ?_; exact k_.p)) : p := h ⟨k⟩
theorem aq9 (k : q) (h : W1 q → p := by (intro k_; (first | refine sp (po_load_bx_agg rfl rfl (tyT rfl) rfl (vc (vc (vc (vc (vc (vc (vc (vc (vc (vc (vc (vc (vc (vc .nil)))))))))))))) rfl) ?_ | refine sp (po_load_agg rfl rfl (tyT rfl) rfl rfl) ?_ | refine sp (lda rfl) ?_ | refine sp (po_load_bx_ag rfl rfl (tyT rfl) rfl rfl rfl rfl) ?_); refine oS ?_; refine oN ?_; exact k_.p)) : p := h ⟨k⟩
theorem aq10 (k : q) (h : W1 q → p := by (intro k_; refine sbx ?_; refine oAs ?_; refine oN ?_; exact k_.p)) : p := h ⟨k⟩
theorem aq11 (k : q) (h : W1 q → p := by (intro k_; refine oMv ?_; refine sp (po_nilcheck rfl rfl) ?_; refine oFb ?_; refine oLb ?_; refine oMv ?_; refine oCm ?_; refine oN ?_; exact k_.p)) : p := h ⟨k⟩
theorem aq12 (k : q) (h : W1 q → p := by (intro k_; refine oS ?_; refine oN ?_; exact k_.p)) : p := h ⟨k⟩
theorem aq13 (k : q) (h : W1 q → p := by (intro k_; (first | refine oFb ?_ | refine oFd ?_ | refine sp (fdo rfl) ?_); (first | refine oS ?_ | refine sso ?_); refine oN ?_; exact k_.p)) : p := h ⟨k⟩
theorem aq14 (k : q) (h : W1 q → p := by (intro k_; (first | refine oFb ?_ | refine oFd ?_ | refine sp (fdo rfl) ?_); (first | refine oLb ?_ | refine oLd ?_ | refine sp (ldo rfl) ?_); refine oCm ?_; refine oN ?_; exact k_.p)) : p := h ⟨k⟩
theorem aq15 (k : q) (h : W1 q → p := by (intro k_; (first | refine oFb ?_ | refine oFd ?_ | refine sp (fdo rfl) ?_); (first | refine oLb ?_ | refine oLd ?_ | refine sp (ldo rfl) ?_); exact k_.p)) : p := h ⟨k⟩
theorem aq16 (k : q) (h : W1 q → p := by (intro k_; refine oMv ?_; refine oMv ?_; exact k_.p)) : p := h ⟨k⟩
theorem aq17 (k : q) (h : W1 q → p := by (intro k_; refine oCm ?_; refine oAs ?_; refine oN ?_; exact k_.p)) : p := h ⟨k⟩
theorem aq18 (k : q) (h : W1 q → p := by (intro k_; refine oMv ?_; refine sp (xinc rfl) ?_; refine oAs ?_; refine oN ?_; exact k_.p)) : p := h ⟨k⟩
theorem aq19 (k : q) (h : W1 q → p := by (intro k_; refine oAs ?_; refine oAs ?_; refine oN ?_; exact k_.p)) : p := h ⟨k⟩
theorem aq20 (k : q) (h : W1 q → p := by (intro k_; refine oMv ?_; refine sp (po_nilcheck rfl rfl) ?_; refine oFb ?_; refine oFb ?_; refine oLb ?_; refine oMv ?_; refine sp (ixo rfl) ?_; refine oAs ?_; refine oN ?_; exact k_.p)) : p := h ⟨k⟩
theorem aq21 (k : q) (h : W1 q → p := by (intro k_; (first | refine oFb ?_ | refine oFd ?_ | refine sp (fdo rfl) ?_); (first | refine oLb ?_ | refine oLd ?_ | refine sp (ldo rfl) ?_); refine oN ?_; exact k_.p)) : p := h ⟨k⟩
theorem aq22 (k : q) (h : W1 q → p := by (intro k_; refine oFb ?_; refine oLb ?_; refine oLb ?_; exact k_.p)) : p := h ⟨k⟩
theorem aq23 (k : q) (h : W1 q → p := by (intro k_; refine oPt ?_; refine oAs ?_; refine oN ?_; exact k_.p)) : p := h ⟨k⟩
theorem aq24 (k : q) (h : W1 q → p := by (intro k_; (first | refine oPt ?_ | refine oPf ?_); refine oAs ?_; refine oN ?_; exact k_.p)) : p := h ⟨k⟩
theorem aq25 (k : q) (h : W1 q → p := by (intro k_; refine oMv ?_; refine oMv ?_; refine oMv ?_; refine sp (ixo rfl) ?_; exact k_.p)) : p := h ⟨k⟩
theorem aq26 (k : q) (h : W1 q → p := by (intro k_; refine sbx ?_; refine sbx ?_; refine oAs ?_; refine oN ?_; exact k_.p)) : p := h ⟨k⟩
theorem aq27 (k : q) (h : W1 q → p := by (intro k_; refine oFb ?_; refine sp (po_load_bx_agg rfl rfl (tyT rfl) rfl (vc (vc (vc .nil))) rfl) ?_; refine sp (po_load_bx_agg rfl rfl (tyT rfl) rfl (vc (vc (vc .nil))) rfl) ?_; exact k_.p)) : p := h ⟨k⟩
theorem aq28 (k : q) (h : W1 q → p := by (intro k_; refine oFb ?_; refine oLb ?_; (first | refine sp (po_func rfl (ac .nil)) ?_ | refine sp (po_func_cl rfl (.cons rfl rfl .nil)) ?_); exact k_.p)) : p := h ⟨k⟩
theorem aq29 (k : q) (h : W1 q → p := by (intro k_; refine oMv ?_; (first | refine oFb ?_ | refine oFd ?_ | refine sp (fdo rfl) ?_ | refine oK ?_); (first | refine oLb ?_ | refine oLd ?_ | refine sp (ldo rfl) ?_ | refine oK ?_); (first | refine oLb ?_ | refine oLd ?_ | refine sp (ldo rfl) ?_ | refine oK ?_); exact k_.p)) : p := h ⟨k⟩
theorem aq30 (k : q) (h : W1 q → p := by (intro k_; refine oMv ?_; refine oFb ?_; refine oLb ?_; refine oLb ?_; exact k_.p)) : p := h ⟨k⟩
theorem aq31 (k : q) (h : W1 q → p := by (intro k_; refine oMv ?_; refine oMv ?_; refine sp (po_load_bx_agg rfl rfl (tyT rfl) rfl (vc (vc (vc .nil))) rfl) ?_; exact k_.p)) : p := h ⟨k⟩
theorem aq32 (k : q) (h : W1 q → p := by (intro k_; refine oMv ?_; refine oCm ?_; refine oN ?_; exact k_.p)) : p := h ⟨k⟩
theorem aq33 (k : q) (h : W1 q → p := by (intro k_; refine oMv ?_; refine oCm ?_; refine oMv ?_; (first | refine oMv ?_ | refine oK ?_); exact k_.p)) : p := h ⟨k⟩
theorem aq34 (k : q) (h : W1 q → p := by (intro k_; (first | refine oFb ?_ | refine oFd ?_ | refine sp (fdo rfl) ?_ | refine oK ?_); (first | refine oFb ?_ | refine oFd ?_ | refine sp (fdo rfl) ?_ | refine oK ?_); (first | refine oLb ?_ | refine oLd ?_ | refine sp (ldo rfl) ?_ | refine oK ?_); (first | refine oMv ?_ | refine oK ?_); (first | refine sp (ixo rfl) ?_ | refine sp (pix rfl (tyS rfl)) ?_ | refine oK ?_); (first | refine oFb ?_ | refine oFd ?_ | refine sp (fdo rfl) ?_ | refine oK ?_); (first | refine oLb ?_ | refine oLd ?_ | refine sp (ldo rfl) ?_ | refine oK ?_); (first | refine oCm ?_ | refine oK ?_); (first | refine oPt ?_ | refine oPf ?_); refine oN ?_; exact k_.p)) : p := h ⟨k⟩
theorem aq35 (k : q) (h : W1 q → p := by (intro k_; refine oMv ?_; refine oCm ?_; refine oMv ?_; refine oMv ?_; refine sp (po_nilcheck rfl rfl) ?_; refine oFb ?_; refine oFb ?_; refine oLb ?_; refine oMv ?_; refine sp (ixo rfl) ?_; (first | refine oFb ?_ | refine oFd ?_ | refine sp (fdo rfl) ?_); (first | refine oLb ?_ | refine oLd ?_ | refine sp (ldo rfl) ?_); refine oCm ?_; refine oPt ?_; refine oN ?_; exact k_.p)) : p := h ⟨k⟩
theorem aq36 (k : q) (h : W1 q → p := by (intro k_; refine oMv ?_; refine oCm ?_; refine oMv ?_; (first | refine oLb ?_ | refine oLd ?_ | refine sp (ldo rfl) ?_ | refine oK ?_); (first | refine oCm ?_ | refine oK ?_); refine oPt ?_; refine oN ?_; exact k_.p)) : p := h ⟨k⟩
theorem aq37 (k : q) (h : W1 q → p := by (intro k_; refine oMv ?_; refine sp (po_nilcheck rfl rfl) ?_; refine oFb ?_; refine sp (po_load_bx_agg rfl rfl (tyT rfl) rfl (vc (vc (vc (vc .nil)))) rfl) ?_; refine oS ?_; refine oAs ?_; refine oAs ?_; refine oN ?_; exact k_.p)) : p := h ⟨k⟩
theorem aq38 (k : q) (h : W1 q → p := by (intro k_; refine oMv ?_; refine oCm ?_; refine oMv ?_; refine oLb ?_; refine oCm ?_; (first | refine oPt ?_ | refine oPf ?_); refine oN ?_; exact k_.p)) : p := h ⟨k⟩
theorem aq39 (k : q) (h : W1 q → p := by (intro k_; refine oS ?_; refine oAs ?_; refine oN ?_; exact k_.p)) : p := h ⟨k⟩
theorem aq40 (k : q) (h : W1 q → p := by (intro k_; refine oFb ?_; refine oLb ?_; refine oMv ?_; refine sp (ixo rfl) ?_; refine oAs ?_; refine oN ?_; exact k_.p)) : p := h ⟨k⟩
theorem aq41 (k : q) (h : W1 q → p := by (intro k_; refine dN ?_; refine oN ?_; exact k_.p)) : p := h ⟨k⟩
theorem aq42 (k : q) (h : W1 q → p := by (intro k_; refine oMv ?_; refine oMv ?_; refine oCm ?_; refine oN ?_; exact k_.p)) : p := h ⟨k⟩
theorem aq43 (k : q) (h : W1 q → p := by (intro k_; refine rd 4 ?_; refine dMv ?_; refine dMv ?_; refine dCm ?_; refine dMv ?_; refine dMv ?_; refine dMv ?_; refine dMv ?_; exact k_.p)) : p := h ⟨k⟩
theorem aq44 (k : q) (h : W1 q → p := by (intro k_; refine oMv ?_; refine sp (po_dec rfl rfl rfl (by omega)) ?_; refine oAs ?_; refine oN ?_; exact k_.p)) : p := h ⟨k⟩
theorem aq45 (k : q) (h : W1 q → p := by (intro k_; refine oMv ?_; refine oMv ?_; refine sp (pln rfl (tyS rfl)) ?_; refine oCm ?_; refine oN ?_; exact k_.p)) : p := h ⟨k⟩
theorem aq46 (k : q) (h : W1 q → p := by (intro k_; refine rd 7 ?_; refine dMv ?_; refine dMv ?_; refine dMv ?_; refine dp (pix rfl (tyS rfl)) ?_; (first | refine dp (po_load_bx_agg rfl rfl (tyT rfl) rfl (vc (vc (vc (vc .nil)))) rfl) ?_ | refine dp (po_load_agg rfl rfl (tyT rfl) rfl rfl) ?_); refine dp (po_load_bx_agg rfl rfl (tyT rfl) rfl (vc (vc (vc (vc .nil)))) rfl) ?_; exact k_.p)) : p := h ⟨k⟩
theorem aq47 (k : q) (h : W1 q → p := by (intro k_; refine sp (po_load_bx_agg rfl rfl (tyT rfl) rfl (vc .nil) rfl) ?_; refine oS ?_; refine oN ?_; exact k_.p)) : p := h ⟨k⟩
theorem aq49 (k : q) (h : W1 q → p := by (intro k_; (first | refine dFb ?_ | refine dFd ?_ | refine dp (fdo rfl) ?_ | refine dK ?_); (first | refine dFb ?_ | refine dFd ?_ | refine dp (fdo rfl) ?_ | refine dK ?_); exact k_.p)) : p := h ⟨k⟩
theorem aq50 (k : q) (h : W1 q → p := by (intro k_; (first | refine dMv ?_ | refine dK ?_); (first | refine dp (ixo rfl) ?_ | refine dp (pix rfl (tyS rfl)) ?_ | refine dK ?_); (first | refine dFb ?_ | refine dFd ?_ | refine dp (fdo rfl) ?_ | refine dK ?_); exact k_.p)) : p := h ⟨k⟩
theorem aq51 (k : q) (h : W1 q → p := by (intro k_; refine oMv ?_; refine oCm ?_; refine oAs ?_; refine oN ?_; exact k_.p)) : p := h ⟨k⟩
theorem aq52 (k : q) (h : W1 q → p := by (intro k_; refine oMv ?_; (first | refine sp (po_len_own rfl rfl (tyS rfl)) ?_ | refine sp (pln rfl (tyS rfl)) ?_); refine oMv ?_; refine oN ?_; exact k_.p)) : p := h ⟨k⟩
theorem aq53 (k : q) (h : W1 q → p := by (intro k_; refine oMv ?_; refine oMv ?_; refine oMv ?_; (first | refine sp (ixo rfl) ?_ | refine sp (pix rfl (tyS rfl)) ?_); (first | refine sp (po_load_bx_agg rfl rfl (tyT rfl) rfl (vc (vc (vc (vc (vc (vc (vc (vc (vc .nil))))))))) rfl) ?_ | refine sp (po_load_agg rfl rfl (tyT rfl) rfl rfl) ?_); exact k_.p)) : p := h ⟨k⟩
theorem aq54 (k : q) (h : W1 q → p := by (intro k_; refine oMv ?_; refine oMv ?_; refine oMv ?_; (first | refine sp (ixo rfl) ?_ | refine sp (pix rfl (tyS rfl)) ?_); (first | refine sp (po_load_bx_agg rfl rfl (tyT rfl) rfl (vc (vc (vc (vc (vc (vc (vc (vc (vc (vc (vc (vc (vc (vc .nil)))))))))))))) rfl) ?_ | refine sp (po_load_agg rfl rfl (tyT rfl) rfl rfl) ?_); exact k_.p)) : p := h ⟨k⟩
theorem aq55 (k : q) (h : W1 q → p := by (intro k_; refine oMv ?_; refine oCm ?_; refine oMv ?_; refine oMv ?_; refine sp (po_nilcheck rfl rfl) ?_; refine oFb ?_; refine oFb ?_; refine oLb ?_; refine oMv ?_; refine sp (ixo rfl) ?_; (first | refine oFb ?_ | refine oFd ?_ | refine sp (fdo rfl) ?_); (first | refine oLb ?_ | refine oLd ?_ | refine sp (ldo rfl) ?_); exact k_.p)) : p := h ⟨k⟩
theorem aq56 (k : q) (h : W1 q → p := by (intro k_; refine oS ?_; refine oAs ?_; refine oAs ?_; refine oN ?_; exact k_.p)) : p := h ⟨k⟩
theorem aq57 (k : q) (h : W1 q → p := by (intro k_; (first | refine oFb ?_ | refine oFd ?_ | refine sp (fdo rfl) ?_ | refine oK ?_); (first | refine oFb ?_ | refine oFd ?_ | refine sp (fdo rfl) ?_ | refine oK ?_); (first | refine oLb ?_ | refine oLd ?_ | refine sp (ldo rfl) ?_ | refine oK ?_); (first | refine oMv ?_ | refine oK ?_); (first | refine sp (ixo rfl) ?_ | refine sp (pix rfl (tyS rfl)) ?_ | refine oK ?_); (first | refine oFb ?_ | refine oFd ?_ | refine sp (fdo rfl) ?_ | refine oK ?_); (first | refine oLb ?_ | refine oLd ?_ | refine sp (ldo rfl) ?_ | refine oK ?_); (first | refine sp (po_len_own rfl rfl (tyS rfl)) ?_ | refine sp (pln rfl (tyS rfl)) ?_ | refine oK ?_); (first | refine oCm ?_ | refine oK ?_); (first | refine oPt ?_ | refine oPf ?_); refine oAs ?_; refine oN ?_; exact k_.p)) : p := h ⟨k⟩
theorem aq58 (k : q) (h : W1 q → p := by (intro k_; refine oMv ?_; refine oCm ?_; refine oMv ?_; refine oMv ?_; refine sp (po_nilcheck rfl rfl) ?_; refine oFb ?_; refine oFb ?_; refine oLb ?_; refine sp (po_len_own rfl rfl (tyS rfl)) ?_; refine oCm ?_; refine oPt ?_; refine oMv ?_; refine oMv ?_; exact k_.p)) : p := h ⟨k⟩
theorem aq59 (k : q) (h : W1 q → p := by (intro k_; refine oLb ?_; refine oFb ?_; refine oLb ?_; refine oCm ?_; refine oMv ?_; refine oLb ?_; refine oCm ?_; (first | refine oPt ?_ | refine oPf ?_); refine oMv ?_; refine oLb ?_; refine oCm ?_; (first | refine oPt ?_ | refine oPf ?_); refine oMv ?_; refine oFb ?_; refine oLb ?_; refine oCm ?_; (first | refine oPt ?_ | refine oPf ?_); refine oMv ?_; refine oMv ?_; (first | refine oPt ?_ | refine oPf ?_); refine oAs ?_; refine oN ?_; exact k_.p)) : p := h ⟨k⟩
theorem aq60 (k : q) (h : W1 q → p := by (intro k_; refine oFb ?_; refine oLb ?_; (first | refine sp (po_len_own rfl rfl (tyS rfl)) ?_ | refine sp (pln rfl (tyS rfl)) ?_); refine oCm ?_; refine oAs ?_; refine oN ?_; exact k_.p)) : p := h ⟨k⟩
theorem aq61 (k : q) (h : W1 q → p := by (intro k_; refine oMv ?_; refine oMv ?_; refine oCm ?_; refine oMv ?_; refine oMv ?_; refine oMv ?_; refine oCm ?_; refine oPt ?_; refine oN ?_; exact k_.p)) : p := h ⟨k⟩
theorem aq62 (k : q) (h : W1 q → p := by (intro k_; refine oMv ?_; refine oMv ?_; refine oMv ?_; refine oMv ?_; refine oMv ?_; exact k_.p)) : p := h ⟨k⟩
theorem aq63 (k : q) (h : W1 q → p := by (intro k_; refine oMv ?_; refine oMv ?_; refine oCm ?_; refine oMv ?_; (first | refine oMv ?_ | refine oK ?_); (first | refine oMv ?_ | refine oK ?_); (first | refine oCm ?_ | refine oK ?_); (first | refine oPt ?_ | refine oPf ?_); refine oN ?_; exact k_.p)) : p := h ⟨k⟩
theorem aq64 (k : q) (h : W1 q → p := by (intro k_; refine sp (po_load_bx_agg rfl rfl (tyT rfl) rfl (vc .nil) rfl) ?_; exact k_.p)) : p := h ⟨k⟩
theorem aq65 (k : q) (h : W1 q → p := by (intro k_; refine oS ?_; refine oAs ?_; refine oS ?_; refine oN ?_; exact k_.p)) : p := h ⟨k⟩
theorem aq66 (k : q) (h : W1 q → p := by (intro k_; (first | refine sp (po_load_bx_agg rfl rfl (tyT rfl) rfl (vc .nil) rfl) ?_ | refine sp (po_load_agg rfl rfl (tyT rfl) rfl rfl) ?_ | refine sp (lda rfl) ?_ | refine sp (po_load_bx_ag rfl rfl (tyT rfl) rfl rfl rfl rfl) ?_); refine oMv ?_; refine sp (po_load_bx_agg rfl rfl (tyT rfl) rfl (vc (vc (vc .nil))) rfl) ?_; refine oMv ?_; exact k_.p)) : p := h ⟨k⟩
theorem aq73 (k : q) (h : W1 q → p := by (intro k_; refine oFb ?_; refine sp (po_load_bx_agg rfl rfl (tyT rfl) rfl (vc (vc (vc .nil))) rfl) ?_; refine oFb ?_; refine sp (po_load_bx_agg rfl rfl (tyT rfl) rfl (vc (vc (vc .nil))) rfl) ?_; exact k_.p)) : p := h ⟨k⟩
theorem aq84 (k : q) (h : W1 q → p := by (intro k_; refine oMv ?_; refine oCm ?_; refine oMv ?_; refine oMv ?_; refine oCm ?_; (first | refine oPt ?_ | refine oPf ?_); refine oMv ?_; refine oMv ?_; refine oCm ?_; (first | refine oPt ?_ | refine oPf ?_); refine oMv ?_; refine oMv ?_; refine oCm ?_; (first | refine oPt ?_ | refine oPf ?_); refine oN ?_; exact k_.p)) : p := h ⟨k⟩
theorem aq85 (k : q) (h : W1 q → p := by (intro k_; refine sp (po_load_bx_agg rfl rfl (tyT rfl) rfl (vc (vc (vc (vc .nil)))) rfl) ?_; refine sp (po_load_bx_agg rfl rfl (tyT rfl) rfl (vc (vc (vc .nil))) rfl) ?_; exact k_.p)) : p := h ⟨k⟩
theorem aq86 (k : q) (h : W1 q → p := by (intro k_; refine oMv ?_; refine oEx ?_; refine oEx ?_; refine oEx ?_; refine oS ?_; refine oAs ?_; refine oAs ?_; refine oN ?_; exact k_.p)) : p := h ⟨k⟩
theorem aq87 (k : q) (h : W1 q → p := by (intro k_; refine sp (po_load_bx_agg rfl rfl (tyT rfl) rfl (vc (vc (vc (vc .nil)))) rfl) ?_; exact k_.p)) : p := h ⟨k⟩
theorem aq88 (k : q) (h : W1 q → p := by (intro k_; (first | refine oPt ?_ | refine oPf ?_); refine oMv ?_; refine oMv ?_; refine sp (pln rfl (tyS rfl)) ?_; exact k_.p)) : p := h ⟨k⟩
theorem aq89 (k : q) (h : W1 q → p := by (intro k_; refine dPt ?_; refine dMv ?_; refine dMv ?_; refine dp (pix rfl (tyS rfl)) ?_; (first | refine dFb ?_ | refine dFd ?_); (first | refine dLb ?_ | refine dLd ?_); exact k_.p)) : p := h ⟨k⟩
theorem aq90 (k : q) (h : W1 q → p := by (intro k_; refine dPt ?_; refine dMv ?_; refine dMv ?_; refine dp (pix rfl (tyS rfl)) ?_; (first | refine dFb ?_ | refine dFd ?_); (first | refine dFb ?_ | refine dFd ?_); (first | refine dLb ?_ | refine dLd ?_); exact k_.p)) : p := h ⟨k⟩
theorem aq91 (k : q) (h : W1 q → p := by (intro k_; refine sp (po_load_bx_agg rfl rfl (tyT rfl) rfl (vc .nil) rfl) ?_; refine sp (po_load_bx_agg rfl rfl (tyT rfl) rfl (vc (vc (vc .nil))) rfl) ?_; exact k_.p)) : p := h ⟨k⟩
theorem aq92 (k : q) (h : W1 q → p := by (intro k_; refine oMv ?_; refine oEx ?_; refine oEx ?_; refine oEx ?_; exact k_.p)) : p := h ⟨k⟩
theorem aq93 (k : q) (h : W1 q → p := by (intro k_; refine oMv ?_; refine oFb ?_; refine oLb ?_; refine sp (pln rfl (tyS rfl)) ?_; refine oCm ?_; refine oMv ?_; refine oMv ?_; refine oCm ?_; refine oPt ?_; refine oN ?_; exact k_.p)) : p := h ⟨k⟩
theorem aq94 (k : q) (h : W1 q → p := by (intro k_; refine oMv ?_; refine oFb ?_; refine oLb ?_; refine oMv ?_; refine sp (pix rfl (tyS rfl)) ?_; (first | refine oFb ?_ | refine oFd ?_); (first | refine oLb ?_ | refine oLd ?_); refine sp (pln rfl (tyS rfl)) ?_; refine oCm ?_; refine oMv ?_; refine oMv ?_; refine oCm ?_; refine oPt ?_; refine oN ?_; exact k_.p)) : p := h ⟨k⟩
theorem aq95 (k : q) (h : W1 q → p := by (intro k_; refine oMv ?_; refine oFb ?_; refine oLb ?_; refine oMv ?_; refine sp (pix rfl (tyS rfl)) ?_; (first | refine oFb ?_ | refine oFd ?_); (first | refine oLb ?_ | refine oLd ?_); refine sp (pln rfl (tyS rfl)) ?_; refine oCm ?_; refine oMv ?_; (first | refine oMv ?_ | refine oK ?_); (first | refine oCm ?_ | refine oK ?_); (first | refine oPt ?_ | refine oPf ?_); refine oN ?_; exact k_.p)) : p := h ⟨k⟩
theorem aq96 (k : q) (h : W1 q → p := by (intro k_; refine oMv ?_; refine oFb ?_; refine oLb ?_; refine sp (pln rfl (tyS rfl)) ?_; refine oCm ?_; refine oMv ?_; (first | refine oMv ?_ | refine oK ?_); (first | refine oCm ?_ | refine oK ?_); (first | refine oPt ?_ | refine oPf ?_); refine oN ?_; exact k_.p)) : p := h ⟨k⟩
theorem aq97 (k : q) (h : W1 q → p := by (intro k_; refine sp (po_load_bx_agg rfl rfl (tyT rfl) rfl (vc .nil) rfl) ?_; refine oFb ?_; refine oLb ?_; refine oFb ?_; refine sp (po_load_bx_agg rfl rfl (tyT rfl) rfl (vc (vc (vc .nil))) rfl) ?_; refine oFb ?_; refine oLb ?_; refine oMv ?_; exact k_.p)) : p := h ⟨k⟩
theorem sc {P : Program} {N : Nat} {Q : Exit → St → Prop} {tm : List (Nat × A)} {bx : List (Nat × List A)} {ow : List (Nat × Own)} {c : Operand} {x y : Code} {b : Bool} (h1 : b = true → SWp P N x Q ⟨tm, bx, ow⟩) (h0 : b = false → SWp P N y Q ⟨tm, bx, ow⟩) (hc : evA tm c = some (.t (.v (.bool b))) := by exact rfl) : SWp P N (.cond c x y) Q ⟨tm, bx, ow⟩ := swp_cond hc h1 h0
end
end Go.Proofs.Ytabejnjnkpdjbaa.Sim

/- Rows of their own: slices.Clone, ownQuery, own of queries, ownTunnel. -/
namespace Go.Proofs.Ytabejnjnkpdjbaa.Sim
set_option linter.unusedVariables false
set_option linter.unusedSimpArgs false
open Go.RowKit Mem
set_option maxRecDepth 100000 in
theorem clone_ (l : List UInt8) (hl : l.length ≤ 140737488355328) : PCalls Try.prog 60 [bysT l] (bysT l) := by
  have hm : (l.map byteT).length = l.length := List.length_map _
  refine pcalls_of Try.func60 rfl rfl Try.ntmps60 rfl ?_
  unfold bysT
  repeat' (first | refine rg 0 (aq0 ?_) | (refine rg 1 ?_; refine oMv ?_; refine sops_isnil (.free rfl rfl) rfl rfl rfl rfl (.t _) (tyS rfl) (fun b hnil => ?_); refine oN ?_) | refine gc ?_ | refine ct ?_ | refine cf ?_ | refine sc ?_ ?_ <;> intro hc | refine rq rfl (rt .nil) ?_)
  · have hn := hnil hc
    rw [hn]
    repeat' (first | refine rg 2 (aq0 ?_) | refine gc ?_ | refine ct ?_ | refine cf ?_ | refine sc ?_ ?_ <;> intro hc | exact rq1 rfl (rt .nil))
  · repeat' (first | (refine rg 3 ?_; refine sops_build0 (.free rfl rfl) rfl rfl rfl (tyE rfl) rfl ?_; refine oMv ?_; refine sap rfl (tyE rfl) ?_; refine oAs ?_; refine oN ?_) | refine gc ?_ | refine ct ?_ | refine cf ?_ | refine sc ?_ ?_ <;> intro hc | refine rq rfl (rt .nil) ?_)
    rfl
set_option maxRecDepth 100000 in
theorem cloneQ (rows : List (List T)) (hbd : rows.length * 104 ≤ 140737488355328) (hmx : rows.length ≤ maxLen) : LCalls Try.prog 129 [.t (.sl 9 rows)] [] [] (.own 1000 rows.length) [] [(1000, ⟨70, 9, rows⟩)] := by
  have hbd' : 0 + rows.length * 104 ≤ 140737488355328 := by omega
  refine lcalls_of Try.func129 rfl rfl Try.ntmps129 rfl ?_
  repeat' (first | refine rg 0 (aq0 ?_) | (refine rg 1 ?_; refine oMv ?_; refine sops_isnil (.free rfl rfl) rfl rfl rfl rfl (.t _) (tyS rfl) (fun b hnil => ?_); refine oN ?_) | refine gc ?_ | refine ct ?_ | refine cf ?_ | refine sc ?_ ?_ <;> intro hc | refine rq rfl (rt .nil) ?_)
  · obtain rfl := hnil hc
    repeat' (first | refine then_go ?_ | refine swp_seq ?_ | refine swp_ret_weak (weak_own0 (i := 1000) 70 9 (s := 2) rfl rfl) ?_ | refine rg 2 (aq0 ?_) | refine swp_ret ?_ | refine swp_skip ?_ | refine swp_block ?_ | refine swp_exit ?_ | refine block_go ?_ | refine block_exit ?_ | refine block_far rfl ?_ | refine block_ret ?_ | refine then_ret ?_ | refine then_exit ?_ | refine for_ret ?_ | refine for_exit ?_ | refine ct ?_ | refine cf ?_ | refine sc ?_ ?_ <;> intro hc | exact retl1 (by exact .inr rfl) rfl (.tmp rfl rfl .nil) rfl .nil (.cons rfl (by rfl) .nil))
  · repeat' (first | refine rg 3 (aq1 ?_) | refine gc ?_ | refine ct ?_ | refine cf ?_ | refine sc ?_ ?_ <;> intro hc | refine retl (by exact .inr rfl) rfl (.tmp rfl rfl .nil) ?_ rfl .nil (.cons rfl (by rfl) .nil))
    rfl
set_option maxRecDepth 100000 in
theorem cloneTun (rows : List (List T)) (hbd : rows.length * 128 ≤ 140737488355328) (hmx : rows.length ≤ maxLen) : LCalls Try.prog 125 [.t (.sl 14 rows)] [] [] (.own 1000 rows.length) [] [(1000, ⟨118, 14, rows⟩)] := by
  have hbd' : 0 + rows.length * 128 ≤ 140737488355328 := by omega
  refine lcalls_of Try.func125 rfl rfl Try.ntmps125 rfl ?_
  repeat' (first | refine rg 0 (aq0 ?_) | (refine rg 1 ?_; refine oMv ?_; refine sops_isnil (.free rfl rfl) rfl rfl rfl rfl (.t _) (tyS rfl) (fun b hnil => ?_); refine oN ?_) | refine gc ?_ | refine ct ?_ | refine cf ?_ | refine sc ?_ ?_ <;> intro hc | refine rq rfl (rt .nil) ?_)
  · obtain rfl := hnil hc
    repeat' (first | refine then_go ?_ | refine swp_seq ?_ | refine swp_ret_weak (weak_own0 (i := 1000) 118 14 (s := 2) rfl rfl) ?_ | refine rg 2 (aq0 ?_) | refine swp_ret ?_ | refine swp_skip ?_ | refine swp_block ?_ | refine swp_exit ?_ | refine block_go ?_ | refine block_exit ?_ | refine block_far rfl ?_ | refine block_ret ?_ | refine then_ret ?_ | refine then_exit ?_ | refine for_ret ?_ | refine for_exit ?_ | refine ct ?_ | refine cf ?_ | refine sc ?_ ?_ <;> intro hc | exact retl1 (by exact .inr rfl) rfl (.tmp rfl rfl .nil) rfl .nil (.cons rfl (by rfl) .nil))
  · repeat' (first | refine rg 3 (aq1 ?_) | refine gc ?_ | refine ct ?_ | refine cf ?_ | refine sc ?_ ?_ <;> intro hc | refine retl (by exact .inr rfl) rfl (.tmp rfl rfl .nil) ?_ rfl .nil (.cons rfl (by rfl) .nil))
    rfl
set_option maxRecDepth 100000 in
theorem ownQuery_ (q : PQ) (h : FewQ q) : PCalls Try.prog 69 [.agg (askR q)] (.agg (askR q)) := by
  have c1 := clone_ q.bytes (by have := h.bytes; omega)
  refine pcalls_of Try.func69 rfl rfl Try.ntmps69 rfl ?_
  unfold askR
  repeat' (first | (refine rg 0 ?_; refine sbx ?_; refine sal str70 ?_; refine oN ?_) | (refine rg 1 ?_; refine oFb ?_; refine oLb ?_; refine oC (c1) rfl (ac .nil) ?_; refine oFb ?_; refine oS ?_; refine oN ?_) | (refine rg 2 ?_; (refine sp (po_load_bx_agg rfl rfl (tyT rfl) rfl (vc (vc (vc (vc (vc (vc (vc (vc (vc .nil))))))))) rfl) ?_); refine oS ?_; refine oN ?_) | refine gc ?_ | refine ct ?_ | refine cf ?_ | refine sc ?_ ?_ <;> intro hc | refine rq rfl (.cell rfl rfl (tyT rfl) (vc (vc (vc (vc (vc (vc (vc (vc (vc .nil))))))))) rfl .nil) ?_)
  all_goals rfl
def SOq (l : List PQ) (k : Nat) : St := ⟨[(0, .own 1000 (l.map askR).length), (1, .t (.clo 69 [])), (9, .own 1000 (l.map askR).length), (10, .t (.v (.int .i64 ((l.map askR).length : Int)))), (11, .t (.v (.int .i64 (k : Int))))], [], [(1000, ⟨70, 9, l.map askR⟩)]⟩
set_option maxRecDepth 100000 in
set_option maxHeartbeats 1000000 in
theorem ownQs (l : List PQ) (hn : l.length ≤ 1000) (hq : ∀ q ∈ l, FewQ q) : LCalls Try.prog 126 [.t (.sl 9 (l.map askR)), .t (.clo 69 [])] [] [] (.own 1000 (l.map askR).length) [] [(1000, ⟨70, 9, l.map askR⟩)] := by
  have hm : (l.map askR).length = l.length := List.length_map _
  have c1 := cloneQ (l.map askR) (by rw [hm]; omega) (by rw [hm]; unfold maxLen; omega)
  refine lcalls_of Try.func126 rfl rfl Try.ntmps126 rfl ?_
  repeat' (first | refine rg 0 (aq0 ?_) | (refine rg 1 ?_; refine oMv ?_; refine sops_lcall (c1) (fun i => i) (fun i => i) (fun _ => false) (.free rfl rfl) rfl rfl rfl (by ((repeat' (first | exact .nil | refine .cons rfl rfl rfl ?_)) <;> fail)) .nil .nil rfl rfl (fun _ h => Bool.noConfusion h) ?_; refine aq0 ?_) | refine rg 2 (aq2 ?_) | refine gc ?_ | refine ct ?_ | refine cf ?_ | refine sc ?_ ?_ <;> intro hc | refine rq rfl (rt .nil) ?_)
  refine swp_for (SOq l) (fun _ => True) l.length ?_ trivial ?_
  · exact (weak_sub (.cons rfl rfl rfl (.cons rfl rfl rfl (.cons rfl rfl rfl (.cons rfl rfl rfl (.cons rfl rfl rfl .nil))))) .nil (.cons rfl rfl .nil))
  intro k hk _
  unfold SOq
  by_cases hlt : k < l.length
  · have hlt' : (k : Int) < l.length := by omega
    have hat : (l.map askR)[k]? = some (askR l[k]) := map_at_some hlt
    have c2 := ownQuery_ l[k] (hq _ (List.getElem_mem hlt))
    have hset := set_same hat
    generalize l[k] = q at *
    repeat' (first | refine for_next hlt (weak_sub (.cons rfl (by rfl) rfl (.cons rfl (by rfl) rfl (.cons rfl (by rfl) rfl (.cons rfl (by rfl) rfl (.cons rfl (by rfl) rfl .nil))))) .nil (.cons rfl (by first | rfl | (first | (rw [hset]; try rfl) | (exact congrArg _ hset))) .nil)) trivial | refine rg 3 (aq3 ?_) | (refine rg 4 (aq4 ?_); refine sp (po_load_own_agg (ts := askR q) rfl rfl rfl rfl (tyT rfl) hat rfl rfl) ?_; refine sal str70 ?_; refine aq5 ?_) | (refine rg 5 (aq6 ?_); (first | refine sp (po_load_own_agg (ts := askR q) rfl rfl rfl rfl (tyT rfl) hat rfl rfl) ?_ | refine sp (po_load_bx_agg rfl rfl (tyT rfl) rfl (vc (vc (vc (vc (vc (vc (vc (vc (vc .nil))))))))) rfl) ?_); refine sp (po_call_clo rfl rfl (ac .nil) (c2)) ?_; refine sp (ixo rfl) ?_; (first | refine oS ?_ | refine sso ?_); refine oN ?_) | refine rg 6 (aq7 ?_) | refine gc ?_ | refine ct ?_)
  · obtain rfl : k = l.length := by omega
    repeat' (first | refine rg 3 (aq3 ?_) | refine rg 7 (aq8 ?_) | refine gc ?_ | refine ct ?_ | refine cf ?_ | refine sc ?_ ?_ <;> intro hc | exact retl1 (by exact .inr rfl) rfl (.tmp rfl rfl .nil) rfl .nil (.cons rfl (by rfl) .nil))
set_option maxRecDepth 100000 in
theorem ownTun_ (t : PTun) (h : FewTun t) : LCalls Try.prog 114 [.t (.agg (tunT t))] [] [] (.ag ((tunS t).map .t ++ [.own 1000 (t.asks.map askR).length])) [] [(1000, askO t)] := by
  have c1 := ownQs t.asks h.asks h.each
  refine lcalls_of Try.func114 rfl rfl Try.ntmps114 rfl ?_
  unfold tunT tunC
  repeat' (first | (refine rg 0 ?_; refine sbx ?_; refine sal str118 ?_; refine oN ?_) | (refine rg 1 ?_; refine oFb ?_; refine oLb ?_; refine sops_lcall (c1) (fun i => i) (fun i => i) (fun _ => false) (.free rfl rfl) rfl rfl rfl (by ((repeat' (first | exact .nil | refine .cons rfl rfl rfl ?_ | refine .vw rfl (by first | exact .t _ | exact .own rfl (by rfl) | exact .nil _ | exact .emp _ | exact .fn _) ?_)) <;> fail)) .nil .nil rfl rfl (fun _ h => Bool.noConfusion h) ?_; refine oFb ?_; refine oS ?_; refine oN ?_) | refine rg 2 (aq9 ?_) | refine gc ?_ | refine ct ?_ | refine cf ?_ | refine sc ?_ ?_ <;> intro hc | refine retl (by exact .inr rfl) rfl (.cell rfl rfl (tyT rfl) rfl rfl .nil) ?_ rfl .nil (.cons rfl (by rfl) .nil))
  all_goals rfl
end Go.Proofs.Ytabejnjnkpdjbaa.Sim
