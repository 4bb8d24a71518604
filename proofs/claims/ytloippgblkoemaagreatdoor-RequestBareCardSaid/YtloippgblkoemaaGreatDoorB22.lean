/- Merged by bundles.py: SimRf. -/
import Derived.Test.YtloippgblkoemaaGreatDoorB12
import Derived.RangeFuncIn
import Derived.RangeFuncRecord
import Derived.RangeFuncLeaves
import Derived.TacticsIn
/- A logic of states: code in a round of a range over a function, and behind one: states with a phase (a context, the calls that wait). -/
namespace Go.Proofs.YtloippgblkoemaaGreatDoor.Sim
set_option linter.unusedVariables false
set_option linter.unusedSimpArgs false
open Go.RowKit Mem

def WF (ro : Option Nat) : Fence := { Fence.wide with round := ro }
theorem callsIn_wf {ro : Option Nat} {n : Nat} {P : Program} {f : FuncId} {args : Array Value} {w : World} {R : Ending → World → Prop} (h : Calls P f args w R) : CallsIn (WF ro) n P f args w R := callsIn_wide.2 h
theorem rowsIn_wf {ro : Option Nat} {n : Nat} {P : Program} {row : String} {args : Array Value} {w : World} {R : Value → World → Prop} (h : Rows P row args w R) : RowsIn (WF ro) n P row args w R := fun c cs _ => by
  obtain ⟨v, w', r, s⟩ := h c cs
  exact ⟨v, w', r, stepsIn_wide.2 s⟩
theorem wf_depth {ro : Option Nat} {n : Nat} : (WF ro).depth.isSome = true → 1 ≤ n := fun h => by cases h

def noDefer (l : List Oper) : Bool := l.all fun o => match o.op with | .defer _ => false | _ => true
theorem noDefer_spec {l : List Oper} (h : noDefer l = true) {o : Oper} (ho : o ∈ l) (c : Call) : o.op ≠ .defer c := by
  have := (List.all_eq_true.1 h) o ho
  intro e; rw [e] at this; cases this
def wd (d : List Deferred) (a : Act) : Act := { a with defers := a.defers ++ d }
theorem list_in {ro : Option Nat} {n : Nat} {P : Program} {ops : Array Oper} {d : List Deferred} {Q Q' : Exit → Act → World → Prop} (hq : ∀ a w, ¬ Q .outgrown a w) (hp : ∀ ch a w, ¬ Q (.panic ch) a w) (tail : List Oper) (hk : ∀ a w, Q .normal a w → wpListIn (WF ro) n P ops Q' tail (wd d a) w) :
    ∀ (l : List Oper), noDefer l = true → ∀ (a : Act) (w : World), wpList P ops Q l a w → wpListIn (WF ro) n P ops Q' (l ++ tail) (wd d a) w := by
  intro l
  induction l with
  | nil => exact fun _ a w h => hk a w h
  | cons o l ih =>
    intro hn a w h
    have hno := noDefer_spec hn (o := o) (by simp)
    have hnl : noDefer l = true := by unfold noDefer at hn ⊢; rw [List.all_cons, Bool.and_eq_true] at hn; exact hn.2
    have put : ∀ v, (wd d a).put o.dst v = wd d (a.put o.dst v) := fun v => by cases o.dst <;> rfl
    have ev : (wd d a).eval = a.eval := rfl
    unfold wpList at h
    show wpListIn (WF ro) n P ops Q' (o :: (l ++ tail)) (wd d a) w
    unfold wpListIn
    have ey : yielded ops (wd d a).tmps = yielded ops a.tmps := rfl
    rw [ey]
    split at h
    · rename_i hw
      rw [if_pos hw]
      rcases h with h | ⟨_, a', w', h⟩
      · refine ⟨fun f _ => trivial, ?_⟩
        rw [Oper.semAt_eq _ _ _ hno, ev]
        unfold Oper.wp at h
        cases hr : (execOp a.eval o).run P w with
        | ok nx w' =>
          rw [hr] at h
          cases nx with
          | value v => exact (congrArg (fun a => wpListIn (WF ro) n P ops Q' (l ++ tail) a w') (put v)).mpr (ih hnl _ _ h)
          | skip => exact (congrArg (fun a => wpListIn (WF ro) n P ops Q' (l ++ tail) a w') (put undef)).mpr (ih hnl _ _ h)
          | defer c =>
            have h' := ih hnl _ _ h
            have e : wd d (({ a with defers := c :: a.defers } : Act).put o.dst undef) = ({ wd d a with defers := c :: (wd d a).defers } : Act).put o.dst undef := by cases o.dst <;> rfl
            rw [e] at h'; exact h'
          | enter f args =>
            refine ⟨wf_depth, callsIn_wf (Calls.mono h ?_)⟩
            intro e w'' hx
            cases e with
            | returned v => exact (congrArg (fun a => wpListIn (WF ro) n P ops Q' (l ++ tail) a w'') (put v)).mpr (ih hnl _ _ hx)
            | panicked ch => exact absurd hx (hp _ _ _)
            | outgrown => obtain ⟨a', w', hx⟩ := hx; exact absurd hx (hq _ _)
          | row r args => exact ⟨wf_depth, (rowsIn_wf h).mono fun v w'' hv => (congrArg (fun a => wpListIn (WF ro) n P ops Q' (l ++ tail) a w'') (put v)).mpr (ih hnl _ _ hv)⟩
          | _ => exact h.elim
        | halt x w' =>
          rw [hr] at h
          cases x with
          | panic v => exact absurd h (hp _ _ _)
          | _ => exact h.elim
      · exact absurd h (hq a' w')
    · rename_i hw
      rw [if_neg hw]
      exact ⟨fun f _ => trivial, (congrArg (fun a => wpListIn (WF ro) n P ops Q' (l ++ tail) a w) (put undef)).mpr (ih hnl _ _ h)⟩

structure Ph where
  C : Ctx
  d : List Deferred
def RelP (p : Ph) (N : Nat) (st : St) (a : Act) (w : World) : Prop := ∃ a0, a = wd p.d a0 ∧ Rel p.C N st a0 w
def GoodX (N : Nat) (Q : Exit → Ph → St → Prop) : Exit → Act → World → Prop := fun e a w => ∃ p st, RelP p N st a w ∧ Q e p st
structure XWp (P : Program) (ro : Option Nat) (N : Nat) (c : Code) (Q : Exit → Ph → St → Prop) (p : Ph) (st : St) : Prop where
  go : ∀ n a w, RelP p N st a w → c.wpIn (WF ro) n P (GoodX N Q) a w
structure XOps (P : Program) (ro : Option Nat) (N : Nat) (ops : Array Oper) (Q : Exit → Ph → St → Prop) (l : List Oper) (p : Ph) (st : St) : Prop where
  go : ∀ n a w, RelP p N st a w → wpListIn (WF ro) n P ops (GoodX N Q) l a w
def xthenF (P : Program) (ro : Option Nat) (N : Nat) (c : Code) (Q : Exit → Ph → St → Prop) : Exit → Ph → St → Prop
  | .normal, p, st => XWp P ro N c Q p st
  | e, p, st => Q e p st
structure XThen (P : Program) (ro : Option Nat) (N : Nat) (c : Code) (Q : Exit → Ph → St → Prop) (e : Exit) (p : Ph) (st : St) : Prop where
  go : xthenF P ro N c Q e p st
def xblockF (id : Nat) (Q : Exit → Ph → St → Prop) : Exit → Ph → St → Prop
  | .exit id', p, st => if id' = id then Q .normal p st else Q (.exit id') p st
  | e, p, st => Q e p st
structure XBlock (id : Nat) (Q : Exit → Ph → St → Prop) (e : Exit) (p : Ph) (st : St) : Prop where
  go : xblockF id Q e p st
structure XNorm (Q : Exit → Ph → St → Prop) (p : Ph) (e : Exit) (st : St) : Prop where
  e : e = .normal
  go : Q .normal p st
section
variable {P : Program} {ro : Option Nat} {N : Nat} {Q : Exit → Ph → St → Prop} {p : Ph} {st : St}
theorem x_skip (h : Q .normal p st) : XWp P ro N .skip Q p st := ⟨fun n a w hr => wpIn_skip ⟨p, st, hr, h⟩⟩
theorem x_ret (h : Q .ret p st) : XWp P ro N .ret Q p st := ⟨fun n a w hr => wpIn_ret ⟨p, st, hr, h⟩⟩
theorem x_exit {id : Nat} (h : Q (.exit id) p st) : XWp P ro N (.exit id) Q p st := ⟨fun n a w hr => wpIn_exit ⟨p, st, hr, h⟩⟩
theorem x_seq {x y : Code} (h : XWp P ro N x (XThen P ro N y Q) p st) : XWp P ro N (.seq x y) Q p st := ⟨fun n a w hr => wpIn_seq (wpIn_mono (h.go n a w hr) fun e a' w' hq => by
  obtain ⟨p', st', hr', hq⟩ := hq
  cases e with
  | normal => exact (show XWp P ro N y Q p' st' from hq.go).go n a' w' hr'
  | _ => exact ⟨p', st', hr', hq.go⟩)⟩
theorem x_block {id : Nat} {c : Code} (h : XWp P ro N c (XBlock id Q) p st) : XWp P ro N (.block id c) Q p st := ⟨fun n a w hr => wpIn_block (wpIn_mono (h.go n a w hr) fun e a' w' hq => by
  obtain ⟨p', st', hr', hq⟩ := hq
  cases e with
  | exit id' =>
    have hq' : (if id' = id then Q .normal p' st' else Q (.exit id') p' st') := hq.go
    show if id' = id then _ else _
    by_cases hid : id' = id
    · rw [if_pos hid] at hq' ⊢; exact ⟨p', st', hr', hq'⟩
    · rw [if_neg hid] at hq' ⊢; exact ⟨p', st', hr', hq'⟩
  | _ => exact ⟨p', st', hr', hq.go⟩)⟩
theorem x_weak {c : Code} {st' : St} (hw : Weak N st st') (h : XWp P ro N c Q p st') : XWp P ro N c Q p st := ⟨fun n a w hr => by
  obtain ⟨a0, ha, hr⟩ := hr
  exact h.go n a w ⟨a0, ha, hw.go _ _ _ hr⟩⟩
theorem x_ct {c : Operand} {x y : Code} {b : Bool} (h : XWp P ro N x Q p st) (hc : evA st.tm c = some (.t (.v (.bool b))) := by exact rfl) (hb : b = true := by first | assumption | with_reducible rfl | decide | (simp only [decide_eq_true_eq, Bool.not_eq_true', decide_eq_false_iff_not]; omega)) : XWp P ro N (.cond c x y) Q p st := ⟨fun n a w hr => by
  have hr' := hr
  obtain ⟨a0, rfl, m, g, hg⟩ := hr
  have := tr_v (hg.ev hc)
  subst hb
  exact wpIn_cond_true this (h.go n _ w hr')⟩
theorem x_cf {c : Operand} {x y : Code} {b : Bool} (h : XWp P ro N y Q p st) (hc : evA st.tm c = some (.t (.v (.bool b))) := by exact rfl) (hb : b = false := by first | assumption | with_reducible rfl | decide | (simp only [decide_eq_false_iff_not, Bool.not_eq_false', decide_eq_true_eq]; omega)) : XWp P ro N (.cond c x y) Q p st := ⟨fun n a w hr => by
  have hr' := hr
  obtain ⟨a0, rfl, m, g, hg⟩ := hr
  have := tr_v (hg.ev hc)
  subst hb
  exact wpIn_cond_false this (h.go n _ w hr')⟩
theorem x_cond {c : Operand} {x y : Code} {b : Bool} (hc : evA st.tm c = some (.t (.v (.bool b)))) (h1 : b = true → XWp P ro N x Q p st) (h0 : b = false → XWp P ro N y Q p st) : XWp P ro N (.cond c x y) Q p st := by
  cases b with
  | true => exact x_ct (h1 rfl) hc rfl
  | false => exact x_cf (h0 rfl) hc rfl
theorem xthen_go {c : Code} (h : XWp P ro N c Q p st) : XThen P ro N c Q .normal p st := ⟨h⟩
theorem xthen_ret {c : Code} (h : Q .ret p st) : XThen P ro N c Q .ret p st := ⟨h⟩
theorem xthen_exit {c : Code} {id : Nat} (h : Q (.exit id) p st) : XThen P ro N c Q (.exit id) p st := ⟨h⟩
theorem xblock_go {id : Nat} (h : Q .normal p st) : XBlock id Q .normal p st := ⟨h⟩
theorem xblock_ret {id : Nat} (h : Q .ret p st) : XBlock id Q .ret p st := ⟨h⟩
theorem xblock_exit {id : Nat} (h : Q .normal p st) : XBlock id Q (.exit id) p st := ⟨by show (if id = id then _ else _); rw [if_pos rfl]; exact h⟩
theorem xblock_far {id id' : Nat} (hn : Nat.beq id' id = false) (h : Q (.exit id') p st) : XBlock id Q (.exit id') p st := ⟨by show (if id' = id then _ else _); rw [if_neg (Nat.ne_of_beq_eq_false hn)]; exact h⟩
theorem norm_no {C : Ctx} {a : Act} {w : World} : ¬ Good C N (XNorm Q p) .outgrown a w := fun ⟨_, _, h⟩ => by cases h.e
theorem norm_np {C : Ctx} {ch : List PanicEntry} {a : Act} {w : World} : ¬ Good C N (XNorm Q p) (.panic ch) a w := fun ⟨_, _, h⟩ => by cases h.e
structure XTail (P : Program) (ro : Option Nat) (N : Nat) (ops : Array Oper) (Q : Exit → Ph → St → Prop) (l : List Oper) (p : Ph) (e : Exit) (st : St) : Prop where
  e : e = .normal
  go : XOps P ro N ops Q l p st
theorem x_nil {ops : Array Oper} (h : Q .normal p st) : XOps P ro N ops Q [] p st := ⟨fun n a w hr => ⟨p, st, hr, h⟩⟩
theorem x_one {ops : Array Oper} {o : Oper} {l : List Oper} (h : SOps P N ops (XTail P ro N ops Q l p) [o] st) (hn : noDefer [o] = true := by rfl) : XOps P ro N ops Q (o :: l) p st := ⟨fun n a w hr => by
  obtain ⟨a0, rfl, hr⟩ := hr
  refine list_in (Q := Good p.C N (XTail P ro N ops Q l p)) (fun a w => ?_) (fun ch a w => ?_) l (fun a w h => ?_) [o] hn a0 w (h.go p.C a0 w hr)
  · rintro ⟨_, _, h⟩; cases h.e
  · rintro ⟨_, _, h⟩; cases h.e
  · obtain ⟨s, h1, h2⟩ := h
    exact h2.go.go n _ w ⟨a, rfl, h1⟩⟩
theorem x_region {id : Nat} {l : List Oper} (h : SOps P N l.toArray (XNorm Q p) l st) (hn : noDefer l = true := by rfl) : XWp P ro N (.region id l.toArray false) Q p st := ⟨fun n a w hr => by
  obtain ⟨a0, rfl, hr⟩ := hr
  refine wpIn_region_lit ?_
  have := list_in (ro := ro) (n := n) (d := p.d) (Q := Good p.C N (XNorm Q p)) (Q' := GoodX N Q) (fun _ _ => norm_no) (fun _ _ _ => norm_np) [] (fun a w h => ?_) l hn a0 w (h.go p.C a0 w hr)
  · rwa [List.append_nil] at this
  · obtain ⟨s, h1, h2⟩ := h
    exact ⟨p, s, ⟨a, rfl, h1⟩, h2.go⟩⟩
theorem x_ops {id : Nat} {l : List Oper} (h : XOps P ro N l.toArray Q l p st) : XWp P ro N (.region id l.toArray false) Q p st := ⟨fun n a w hr => wpIn_region_lit (h.go n a w hr)⟩
def xfamF {α : Type} (N : Nat) (S : α → St) (I : α → Prop) (μ : α → Nat) (x : α) (p : Ph) (Q : Exit → Ph → St → Prop) : Exit → Ph → St → Prop
  | .normal, p', s' => p' = p ∧ ∃ y, μ y < μ x ∧ I y ∧ Weak N s' (S y)
  | e, p', s' => Q e p' s'
structure XFam {α : Type} (N : Nat) (S : α → St) (I : α → Prop) (μ : α → Nat) (x : α) (p : Ph) (Q : Exit → Ph → St → Prop) (e : Exit) (p' : Ph) (s' : St) : Prop where
  go : xfamF N S I μ x p Q e p' s'
theorem xfam_next {α : Type} {S : α → St} {I : α → Prop} {μ : α → Nat} {x : α} {s' : St} (y : α) (hm : μ y < μ x) (hw : Weak N s' (S y)) (hI : I y) : XFam N S I μ x p Q .normal p s' := ⟨⟨rfl, y, hm, hI, hw⟩⟩
theorem xfam_ret {α : Type} {S : α → St} {I : α → Prop} {μ : α → Nat} {x : α} {p' : Ph} {s' : St} (h : Q .ret p' s') : XFam N S I μ x p Q .ret p' s' := ⟨h⟩
theorem xfam_exit {α : Type} {S : α → St} {I : α → Prop} {μ : α → Nat} {x : α} {p' : Ph} {s' : St} {id : Nat} (h : Q (.exit id) p' s') : XFam N S I μ x p Q (.exit id) p' s' := ⟨h⟩
theorem x_fam {α : Type} {c : Code} (S : α → St) (I : α → Prop) (μ : α → Nat) (x0 : α) (h0 : Weak N st (S x0)) (hI : I x0) (hround : ∀ x, I x → XWp P ro N c (XFam N S I μ x p Q) p (S x)) : XWp P ro N (.loop c) Q p st := by
  refine ⟨fun n a w hr => ?_⟩
  intro b k cs hro hb hroom
  have key : ∀ j x a w, μ x = j → I x → RelP p N (S x) a w → ∃ e a' w', GoodX N Q e a' w' ∧ ArrivesIn (Machine.fenced P (WF ro)) P (lone (b.atR a (.code c :: .inLoop c :: k)) cs w) b k cs e a' w' := by
    intro j
    induction j using Nat.strongRecOn with
    | _ j ih =>
      intro x a w hj hi hr
      obtain ⟨e, a1, w1, ⟨p1, s1, hr1, hq⟩, harr⟩ := (hround x hi).go n a w hr b (.inLoop c :: k) cs hro hb hroom
      cases e with
      | normal =>
        obtain ⟨rfl, y, hm, hi', hw⟩ := hq.go
        obtain ⟨a0, ha, hr1⟩ := hr1
        obtain ⟨e2, a2, w2, hq2, harr2⟩ := ih (μ y) (by omega) y a1 w1 rfl hi' ⟨a0, ha, hw.go _ _ _ hr1⟩
        exact ⟨e2, a2, w2, hq2, .of_steps (StepsIn.trans harr (.one (fenced_calm hb hroom rfl) stepR_inLoop)) harr2⟩
      | exit id => exact ⟨_, a1, w1, ⟨p1, s1, hr1, hq.go⟩, .pass (x := .inLoop c) rfl (fun _ _ => .inl (by simp)) harr⟩
      | goto l => exact ⟨_, a1, w1, ⟨p1, s1, hr1, hq.go⟩, .pass (x := .inLoop c) rfl (fun _ _ => .inl (by simp)) harr⟩
      | ret => exact ⟨_, a1, w1, ⟨p1, s1, hr1, hq.go⟩, .pass (x := .inLoop c) rfl (fun _ _ => .inl (by simp)) harr⟩
      | panic ch => exact ⟨_, a1, w1, ⟨p1, s1, hr1, hq.go⟩, .pass (x := .inLoop c) rfl (fun _ _ => .inl (by simp)) harr⟩
      | outgrown => exact ⟨_, a1, w1, ⟨p1, s1, hr1, hq.go⟩, .pass (x := .inLoop c) rfl (fun _ _ => .inl (by simp)) harr⟩
  obtain ⟨a0, ha, hr⟩ := hr
  obtain ⟨e, a', w', hq, harr⟩ := key _ x0 a w rfl hI ⟨a0, ha, h0.go _ _ _ hr⟩
  exact ⟨e, a', w', hq, .of_steps (.one (fenced_calm hb hroom rfl) stepR_loop) harr⟩
end
def recC (C : Ctx) (l : Nat) (o : Obj) : Ctx := { C with w0 := C.w0.putObj l o }
def nc : Obj → Bool
  | .loop _ => true
  | .deferred _ => true
  | _ => false
theorem nc_ob (i : Nat) (vs : Array Value) (ty : Tag) : nc (obOf i vs ty) = false := by
  unfold obOf
  cases itB i with
  | true =>
    show nc (itOf vs.toList ty) = false
    unfold itOf
    split <;> rfl
  | false => cases chB i <;> rfl
theorem EnvG.turn {C : Ctx} {bx : List (Nat × List A)} {ow : List (Nat × Own)} {w : World} {m : Mm} {g : Gh} (he : EnvG C bx ow w m g) {l : Nat} {o0 : Obj} (h0 : C.w0.heap[l]? = some o0) (hn0 : nc o0 = true) (hg : C.gv l = false) (o1 : Obj) :
    EnvG (recC C l o1) bx ow (w.putObj l o1) m g := by
  have hl : l < C.w0.heap.size := (Array.getElem?_eq_some_iff.1 h0).1
  have hw : w.heap[l]? = some o0 := (he.lo.block l hl hg).trans h0
  have hlw : l < w.heap.size := (Array.getElem?_eq_some_iff.1 hw).1
  have oth : ∀ {k : Nat} {o : Obj}, w.heap[k]? = some o → nc o = false → (w.putObj l o1).heap[k]? = some o := fun {k o} hk hn => by
    refine (World.putObj_heap_other fun e => ?_).trans hk
    subst e; rw [hw] at hk; injection hk with hk; rw [← hk, hn0] at hn; cases hn
  refine { lo := ⟨he.lo.os, he.lo.tape, he.lo.output, by simpa [recC] using he.lo.size, fun i hi hgi => ?_⟩, gm := he.gm, sub := ?_, gt := he.gt, ext := ?_, lb := he.lb, lw := he.lw, ln := he.ln, boxes := ?_, inj := he.inj, owns := ?_, apart := he.apart, pin := he.pin, pinb := he.pinb }
  · show (w.putObj l o1).heap[i]? = (C.w0.putObj l o1).heap[i]?
    by_cases e : i = l
    · subst e; rw [World.putObj_heap_same hlw, World.putObj_heap_same hl]
    · rw [World.putObj_heap_other e, World.putObj_heap_other e]
      exact he.lo.block i (by simpa [recC] using hi) hgi
  · intro b o v hm
    have h1 := he.sub b o v hm
    by_cases e : b = l
    · subst e
      unfold World.cell? at h1
      cases o0 <;> first | (simp [hw] at h1; done) | cases hn0
    · unfold World.cell? at h1 ⊢
      rw [World.putObj_heap_other e]; exact h1
  · have := he.ext; simpa [recC] using this
  · intro i cs hi
    obtain ⟨vs, ty, h1, h2, h3, h4, h5⟩ := he.boxes i cs hi
    refine ⟨vs, ty, oth h1 (nc_ob i vs ty), h2, h3, ?_, h5⟩
    simpa [Ctx.mine, recC] using h4
  · intro i o hi
    obtain ⟨vs, h1, h2, h3, h4⟩ := he.owns i o hi
    refine ⟨vs, owns_block h1 fun b hb => World.putObj_heap_other fun e => ?_, h2, h3, fun b hb => ?_⟩
    · subst e
      rcases h1.2 with ⟨e, _⟩ | ⟨b', cap, cur, e, _, ⟨fz, h5, _⟩, _⟩
      · rw [e] at hb; cases hb
      · rw [e] at hb; simp [Value.ownBlock] at hb; subst hb; rw [hw] at h5; injection h5 with h5; rw [h5] at hn0; cases hn0
    · obtain ⟨h5, h6, h7⟩ := h4 b hb
      exact ⟨h5, h6, by simpa [Ctx.mine, recC] using h7⟩
theorem EnvG.record {C : Ctx} {bx : List (Nat × List A)} {ow : List (Nat × Own)} {w : World} {m : Mm} {g : Gh} (he : EnvG C bx ow w m g) {l : Nat} {r : Loop} (h0 : C.w0.heap[l]? = some (.loop r)) (hg : C.gv l = false) (r' : Loop) :
    EnvG (recC C l (.loop r')) bx ow (w.putObj l (.loop r')) m g := he.turn h0 rfl hg _
theorem EnvG.lent_mine {C : Ctx} {bx : List (Nat × List A)} {ow : List (Nat × Own)} {w : World} {m : Mm} {g : Gh} (he : EnvG C bx ow w m g) {b : Nat} (h : lentB g bx ow b = true) : C.mine b := by
  rcases lent_spec h with ⟨i, cs, h1, h2⟩ | ⟨i, o, h1, h2⟩
  · obtain ⟨_, _, _, _, _, h3, _⟩ := he.boxes _ _ h1
    subst h2; exact h3
  · obtain ⟨_, _, _, _, h4⟩ := he.owns _ _ h1
    exact (h4 b h2).2.2
theorem EnvG.self {C : Ctx} {bx : List (Nat × List A)} {ow : List (Nat × Own)} {w : World} {m : Mm} {g : Gh} (he : EnvG C bx ow w m g) (hh : ∀ i o, get ow i = some o → hid i = true) : EnvG (lentC w m g bx ow) bx ow w m g where
  lo := .of_lo (Lo.refl _)
  gm := fun b o hb => by
    rcases lent_spec hb with ⟨i, cs, h1, h2⟩ | ⟨i, o', h1, h2⟩
    · obtain ⟨_, _, _, _, _, _, h3⟩ := he.boxes _ _ h1
      subst h2; exact h3 o
    · obtain ⟨vs, _, _, _, h4⟩ := he.owns _ _ h1
      have h5 := (h4 b h2).1 o
      show m b o = none
      rw [h5]; unfold vis; rw [hh _ _ h1]; rfl
  sub := he.sub
  ext := ExtX.refl _ _ _
  gt := he.gt
  lb := he.lb
  lw := he.lw
  ln := he.ln
  boxes := fun i cs hi => by
    obtain ⟨vs, ty, h1, h2, h3, h4, h5⟩ := he.boxes i cs hi
    exact ⟨vs, ty, h1, h2, h3, .inr (lent_bx hi), h5⟩
  inj := he.inj
  owns := fun i o hi => by
    obtain ⟨vs, h1, h2, h3, h4⟩ := he.owns i o hi
    exact ⟨vs, h1, h2, h3, fun b hb => ⟨(h4 b hb).1, (h4 b hb).2.1, .inr (lent_ow hi hb)⟩⟩
  apart := he.apart
  pin := fun _ _ _ _ => rfl
  pinb := fun _ _ _ _ => rfl
theorem EnvG.back {C : Ctx} {bx bx1 : List (Nat × List A)} {ow ow1 : List (Nat × Own)} {w w' : World} {m m' : Mm} {g g' : Gh} (he : EnvG C bx ow w m g) (hc : EnvG (lentC w m g bx ow) bx1 ow1 w' m' g')
    (hb : ∀ i cs, get bx1 i = some cs → Nat.ble 2000 i = true → ∃ cs', get bx i = some cs') (hw : ∀ i o, get ow1 i = some o → Nat.ble 2000 i = true → ∃ o', get ow i = some o') : EnvG C bx1 ow1 w' m' g' := by
  have hm : ∀ b, (lentC w m g bx ow).mine b → C.mine b := fun b h => by
    rcases h with h | h
    · exact .inl (Nat.le_trans he.lo.size h)
    · exact he.lent_mine h
  have hn : ∀ b, b < C.w0.heap.size → C.gv b = false → lentB g bx ow b = false := fun b h1 h2 => by
    cases h : lentB g bx ow b with
    | false => rfl
    | true =>
      rcases he.lent_mine h with h3 | h3
      · omega
      · rw [h2] at h3; cases h3
  exact {
    lo := ⟨hc.lo.os.trans he.lo.os, hc.lo.tape.trans he.lo.tape, hc.lo.output.trans he.lo.output, Nat.le_trans he.lo.size hc.lo.size, fun i hi hgi => (hc.lo.block i (Nat.lt_of_lt_of_le hi he.lo.size) (hn i hi hgi)).trans (he.lo.block i hi hgi)⟩
    gm := he.gm
    sub := hc.sub
    gt := hc.gt
    ext := ⟨fun b o v h => hc.ext.keep b o v (he.ext.keep b o v h), fun b o h1 h2 => (hc.ext.old b o (Nat.lt_of_lt_of_le h1 he.lo.size) (hn b h1 h2)).trans (he.ext.old b o h1 h2)⟩
    lb := hc.lb
    lw := hc.lw
    ln := hc.ln
    boxes := fun i cs hi => by
      obtain ⟨vs, ty, h1, h2, h3, h4, h5⟩ := hc.boxes i cs hi
      exact ⟨vs, ty, h1, h2, h3, hm _ h4, h5⟩
    inj := hc.inj
    owns := fun i o hi => by
      obtain ⟨vs, h1, h2, h3, h4⟩ := hc.owns i o hi
      exact ⟨vs, h1, h2, h3, fun b hb => ⟨(h4 b hb).1, (h4 b hb).2.1, hm _ (h4 b hb).2.2⟩⟩
    apart := hc.apart
    pin := fun i o hi h2 => by
      obtain ⟨o', ho⟩ := hw i o hi h2
      exact (hc.pin i o hi h2).trans (he.pin i o' ho h2)
    pinb := fun i cs hi h2 => by
      obtain ⟨o', ho⟩ := hb i cs hi h2
      exact (hc.pinb i cs hi h2).trans (he.pinb i o' ho h2) }
def tmB (bx : List (Nat × List A)) (tm : List (Nat × A)) : Bool := tm.all fun p => match p.2 with
  | .t _ => true
  | .bp i _ => Nat.ble 2000 i && (get bx i).isSome
  | _ => false
theorem putObj_self {w : World} {l : Nat} {o : Obj} (h : w.heap[l]? = some o) : w.putObj l o = w := by
  unfold World.putObj
  have : w.heap.setIfInBounds l o = w.heap := by
    apply Array.ext_getElem?
    intro i
    by_cases e : i = l
    · subst e; rw [Array.getElem?_setIfInBounds_self_of_lt (Array.getElem?_eq_some_iff.1 h).1]; exact h.symm
    · rw [Array.getElem?_setIfInBounds_ne (Ne.symm e)]
  rw [this]
theorem recC_self {C : Ctx} {l : Nat} {o : Obj} (h : C.w0.heap[l]? = some o) : recC C l o = C := by
  unfold recC; rw [putObj_self h]
def bodyR (R : Option Code → List (Nat × List A) → List (Nat × Own) → Prop) : Exit → List (Nat × List A) → List (Nat × Own) → Prop
  | .normal, bx, ow => R none bx ow
  | .ret, bx, ow => R (some .ret) bx ow
  | .exit id, bx, ow => R (some (.exit id)) bx ow
  | _, _, _ => False
structure BodyQ (R : Option Code → List (Nat × List A) → List (Nat × Own) → Prop) (p : Ph) (e : Exit) (p' : Ph) (s : St) : Prop where
  p : p' = p
  go : ∃ bx1 ow1, SubX s.bx bx1 ow1 bx1 ∧ SubW s.ow ow1 ∧ bodyR R e bx1 ow1
structure AsgQ (s1 : St) (p : Ph) (e : Exit) (p' : Ph) (s : St) : Prop where
  e : e = .normal
  p : p' = p
  s : s = s1
section
variable {P : Program} {N : Nat} {Q : Exit → Ph → St → Prop} {p : Ph} {ops : Array Oper} {rest : List Oper} {o : Oper} {tm : List (Nat × A)} {bx : List (Nat × List A)} {ow : List (Nat × Own)}
theorem x_yield {xz x : Operand} {at_ : Array TypeId} {d l Nb : Nat} {t : T} {r : Loop} {tmb : List (Nat × A)} {s1 : St} (R : Option Code → List (Nat × List A) → List (Nat × Own) → Prop)
    (ho : o.op = .call { callee := .value xz, args := #[x], argTypes := at_ }) (hgd : o.guard = none) (hd : o.dst = some d) (hN : Nat.blt d N = true)
    (hz : evA tm xz = some (.t (.v (.func (.yield l) #[] #[])))) (hx : evA tm x = some (.t t)) (htm : tmB bx tm = true) (hh : ∀ i o, get ow i = some o → hid i = true)
    (hl : p.C.w0.heap[l]? = some (.loop r)) (hgv : p.C.gv l = false) (hrs : r.state = .ready) (hrp : r.pending = none) (hps : r.params.size = 1)
    (hrt : ∀ W m g v, EnvG (lentC W m g bx ow) bx ow W m g → (∀ i cs, get bx i = some cs → Nat.ble 2000 i = true → g.gb i = p.C.pinb i) → TR m t v → RelG (lentC W m g bx ow) Nb ⟨tmb, bx, ow⟩ { tmps := (r.params.zip #[v]).foldl (fun tmps (t, a) => tmps.setIfInBounds t a) r.tmps, defers := [] } W m g)
    (hA : ∀ p, XWp P (some l) Nb r.assign (AsgQ s1 p) p ⟨tmb, bx, ow⟩) (hs1 : s1.bx = bx ∧ s1.ow = ow) (hB : ∀ p, XWp P (some l) Nb r.body (BodyQ R p) p s1)
    (hdom : ∀ c bx1 ow1, R c bx1 ow1 → (∀ i, (get bx i).isSome = (get bx1 i).isSome) ∧ ∀ i o, get ow1 i = some o → Nat.ble 2000 i = true → ∃ o', get ow i = some o')
    (hgo : ∀ bx1 ow1, R none bx1 ow1 → XOps P none N ops Q rest p ⟨(d, .t (.v (.bool true))) :: tm, bx1, ow1⟩)
    (hstop : ∀ c bx1 ow1, R (some c) bx1 ow1 → XOps P none N ops Q rest ⟨recC p.C l (.loop { r with state := .done, pending := some c }), p.d⟩ ⟨(d, .t (.v (.bool false))) :: tm, bx1, ow1⟩) :
    XOps P none N ops Q (o :: rest) p ⟨tm, bx, ow⟩ := by
  refine ⟨fun n a w hr => ?_⟩
  obtain ⟨a0, rfl, m, g, hg⟩ := hr
  have he := hg.env
  have hvz : (wd p.d a0).eval xz = .func (.yield l) #[] #[] := tr_v (hg.ev hz)
  have hvx : TR m t ((wd p.d a0).eval x) := hg.ev hx
  have hll : l < p.C.w0.heap.size := (Array.getElem?_eq_some_iff.1 hl).1
  have hw : w.heap[l]? = some (.loop r) := (he.lo.block l hll hgv).trans hl
  have hself := he.self hh
  have hgl : lentB g bx ow l = false := by
    cases h : lentB g bx ow l with
    | false => rfl
    | true =>
      rcases he.lent_mine h with h3 | h3
      · omega
      · rw [hgv] at h3; cases h3
  have hrun : (execOp (wd p.d a0).eval o).run P w = .ok (.round l r.fn ((r.params.zip #[(wd p.d a0).eval x]).foldl (fun tmps (t, a) => tmps.setIfInBounds t a) r.tmps) r.assign r.body) w := by
    have := run_yield (P := P) (args := #[(wd p.d a0).eval x]) hw (by simp [hps])
    simp only [execOp, ho, resolve, Deferred.ofValue, hvz, invoke, Sem.run_bind, Sem.run_pure, Result.andThen_ok, List.map_toArray, Array.append_empty, Array.empty_append] at this ⊢
    simpa using this
  refine wpListIn_plain hgd fun K hK => ⟨fun _ _ => trivial, ?_⟩
  rw [show Oper.semAt (WF none).round (wd p.d a0).eval o = execOp (wd p.d a0).eval o from rfl, hrun]
  refine ⟨wf_depth, roundIn_of_wpIn (F := WF none) trivial ?_⟩
  have hb1 := hrt w m g _ hself (fun i cs hi h2 => he.pinb i cs hi h2) hvx
  refine wpIn_mono ((hA ⟨lentC w m g bx ow, []⟩).go _ _ w ⟨_, by unfold wd; simp, m, g, hb1⟩) ?_
  rintro e a1 w1 ⟨p1, st1, ⟨a1', ha1, m1, g1, hr1⟩, rfl, rfl, rfl⟩
  have hlw : l < w.heap.size := (Array.getElem?_eq_some_iff.1 hw).1
  have hw1 : w1.heap[l]? = some (.loop r) := (hr1.env.lo.block l hlw hgl).trans hw
  obtain ⟨rb, hrb⟩ : ∃ rb : Loop, rb = { r with state := .busy } := ⟨_, rfl⟩
  refine ⟨_, run_beginRound hw1 hrs, ?_⟩
  rw [← hrb]
  have E2 := hr1.env.record (l := l) (r := r) hw hgl rb
  refine wpIn_mono ((hB ⟨recC (lentC w m g bx ow) l (.loop rb), []⟩).go _ _ _ ⟨a1', ha1, m1, g1, E2, hr1.size, hr1.defers, hr1.tmps⟩) ?_
  rintro e a3 w3 ⟨p3, st3, ⟨a3', ha3, m3, g3, hr3⟩, rfl, bx1, ow1, hx1, hx2, hR⟩
  obtain ⟨E3, -⟩ := envg_sub hr3.env hx1 hx2
  have hwb : (w.putObj l (.loop rb)).heap[l]? = some (.loop rb) := World.putObj_heap_same hlw
  have hw3 : w3.heap[l]? = some (.loop rb) := (hr3.env.lo.block l (by simpa [recC, lentC] using hlw) hgl).trans hwb
  have fin : ∀ (c : Option Code) (rec' : Loop) (v : Value), R c bx1 ow1 → RelG (recC p.C l (.loop rec')) N ⟨(d, .t (.v v)) :: tm, bx1, ow1⟩ (a0.put (some d) v) (w3.putObj l (.loop rec')) m3 { g3 with lb := fun i => (get bx1 i).isSome, lw := fun i => (get ow1 i).isSome } := fun c rec' v hc => by
    obtain ⟨hd1, hd2⟩ := hdom c bx1 ow1 hc
    have E4 := E3.record (l := l) (r := rb) hwb hgl rec'
    rw [show recC (recC (lentC w m g bx ow) l (.loop rb)) l (.loop rec') = lentC (w.putObj l (.loop rec')) m g bx ow by
      unfold recC lentC World.putObj; simp] at E4
    have E5 := (he.record hl hgv rec').back E4 (fun i cs hi _ => Option.isSome_iff_exists.1 (by rw [hd1 i, hi]; rfl)) hd2
    have hrel : RelG (recC p.C l (.loop rec')) N ⟨tm, bx1, ow1⟩ a0 (w3.putObj l (.loop rec')) m3 { g3 with lb := fun i => (get bx1 i).isSome, lw := fun i => (get ow1 i).isSome } := by
      refine ⟨E5, hg.size, hg.defers, fun s y hs => ?_⟩
      have h1 := hg.tmps s y hs
      have h2 := (List.all_eq_true.1 htm) _ (get_mem hs)
      cases y with
      | t t => exact TR.mono E3.ext.keep h1
      | bp i off =>
        simp only [Bool.and_eq_true] at h2
        obtain ⟨h3, h4⟩ := h1
        obtain ⟨cs, hcs⟩ := Option.isSome_iff_exists.1 (by rw [← hd1 i]; exact h2.2)
        have h5 : g3.gb i = g.gb i := E3.pinb i cs hcs h2.1
        exact ⟨by show (get bx1 i).isSome = true; rw [hcs]; rfl, by show _ = Value.pointer (some ⟨g3.gb i, off, none⟩); rw [h5]; exact h4⟩
      | _ => cases h2
    exact hrel.put E5 (fun x v h => h) (Nat.lt_of_succ_le (Nat.le_of_ble_eq_true hN)) (.v v)
  have stop : ∀ c, R (some c) bx1 ow1 → ∃ v w', (Instr.endRound l (some c)).run P w3 = .ok v w' ∧ K ((wd p.d a0).put o.dst v) w' := fun c hc => by
    refine ⟨_, _, run_endRound (some c) hw3, hK _ _ ((hstop c bx1 ow1 hc).go n _ _ ⟨a0.put (some d) (.bool false), by rw [hd]; rfl, m3, { g3 with lb := fun i => (get bx1 i).isSome, lw := fun i => (get ow1 i).isSome }, ?_⟩)⟩
    have := fin (some c) { r with state := .done, pending := some c } (.bool false) hc
    rw [hrb]; exact this
  cases e with
  | normal =>
    refine ⟨_, _, run_endRound none hw3, hK _ _ ((hgo bx1 ow1 hR).go n _ _ ⟨a0.put (some d) (.bool true), by rw [hd]; rfl, m3, { g3 with lb := fun i => (get bx1 i).isSome, lw := fun i => (get ow1 i).isSome }, ?_⟩)⟩
    have := fin none r (.bool true) hR
    rw [recC_self hl] at this
    have e : ({ rb with state := (if (none : Option Code).isNone then .ready else .done), pending := none } : Loop) = r := by
      subst hrb; cases r; simp at hrs hrp; subst hrs hrp; rfl
    rw [e]; exact this
  | ret => exact stop _ hR
  | exit id => exact stop _ hR
  | goto l => exact hR.elim
  | panic ch => exact hR.elim
  | outgrown => exact hR.elim
end
def recE (r : Loop) : Option Code → Loop
  | none => r
  | some c => { r with state := .done, pending := some c }
structure IterQ (R : Option Code → List (Nat × List A) → List (Nat × Own) → Prop) (p : Ph) (l : Nat) (r : Loop) (e : Exit) (p' : Ph) (s : St) : Prop where
  e : e = .normal ∨ e = .ret
  go : ∃ c bx1 ow1, p' = ⟨recC p.C l (.loop (recE r c)), []⟩ ∧ SubX s.bx bx1 ow1 bx1 ∧ SubW s.ow ow1 ∧ R c bx1 ow1
theorem iter_of {P : Program} {f : FuncId} {fn : Func} {c : Code} {args : List A} {bx0 : List (Nat × List A)} {ow0 : List (Nat × Own)} {R : Option Code → List (Nat × List A) → List (Nat × Own) → Prop} {N n l : Nat} {r : Loop} {C : Ctx}
    (hf : P.funcs[f]? = some fn) (hb : fn.body = some c) (hres : fn.results = #[]) (hN : fn.ntmps = N) (hargs : Nat.ble args.length N = true)
    (h : XWp P none N c (IterQ R ⟨C, []⟩ l r) ⟨C, []⟩ ⟨argTmA 0 args, bx0, ow0⟩) {w : World} {m : Mm} {g : Gh} {vals : Array Value} (he : EnvG C bx0 ow0 w m g) (hl : vals.size = args.length) (hv : ∀ (i : Nat) x v, args[i]? = some x → vals[i]? = some v → AR m g x v) :
    CallsIn (WF none) n P f vals w fun e w' => ∃ v c bx1 ow1 m' g', e = .returned v ∧ R c bx1 ow1 ∧ EnvG (recC C l (.loop (recE r c))) bx1 ow1 w' m' g' := by
  refine callsIn_of_wp hf hb trivial ?_
  have hal := Nat.le_of_ble_eq_true hargs
  have hrel : Rel C N ⟨argTmA 0 args, bx0, ow0⟩ { tmps := vals ++ Array.replicate (fn.ntmps - vals.size) undef, defers := [] } w := by
    refine ⟨m, g, he, by simp [hN]; omega, rfl, fun s x hx => ?_⟩
    obtain ⟨_, h2⟩ := argTmA_get args 0 s x hx
    rw [Nat.sub_zero] at h2
    have hlt : s < vals.size := by rw [hl]; exact (List.getElem?_eq_some_iff.1 h2).1
    have : (Act.eval { tmps := vals ++ Array.replicate (fn.ntmps - vals.size) undef, defers := [] } (.tmp s)) = vals[s] := by
      show (vals ++ Array.replicate (fn.ntmps - vals.size) undef).getD s undef = _
      rw [Array.getD_eq_getD_getElem?, Array.getElem?_append_left hlt, Array.getElem?_eq_getElem hlt]; rfl
    rw [this]
    exact hv s x _ h2 (Array.getElem?_eq_getElem hlt)
  refine wpIn_mono (h.go n _ w ⟨_, by unfold wd; simp, hrel⟩) ?_
  rintro e a' w' ⟨p', st, ⟨a0, rfl, m', g', hr⟩, hee, c', bx1, ow1, rfl, hx, hw, hR⟩
  obtain ⟨h3, _⟩ := envg_sub hr.env hx hw
  have hd : (wd ([] : List Deferred) a0).defers = [] := by unfold wd; simp [hr.defers]
  rcases hee with rfl | rfl
  · exact ⟨hd, _, by unfold results; simp [hres]; rfl, _, c', bx1, ow1, m', _, rfl, hR, h3⟩
  · exact ⟨hd, _, by unfold results; simp [hres]; rfl, _, c', bx1, ow1, m', _, rfl, hR, h3⟩
structure ItCtx (N : Nat) (tmk : List (Nat × A)) (ps : Array Tmp) (assign body : Code) (C : Ctx) (l : Nat) (r : Loop) : Prop where
  at_ : C.w0.heap[l]? = some (.loop r)
  gv : C.gv l = false
  st : r.state = .ready
  pe : r.pending = none
  ps : r.params = ps
  as_ : r.assign = assign
  bo : r.body = body
  size : r.tmps.size = N
  tm : ∀ s i off, get tmk s = some (.bp i off) → r.tmps.getD s undef = .pointer (some ⟨C.pinb i, off, none⟩)
  tk : ∀ s y, get tmk s = some y → ∃ i off, y = .bp i off ∧ Nat.ble 2000 i = true
theorem ItCtx.round {N : Nat} {tmk : List (Nat × A)} {q : Tmp} {assign body : Code} {C : Ctx} {l : Nat} {r : Loop} (h : ItCtx N tmk #[q] assign body C l r) (hq : q < N) {bx : List (Nat × List A)} {ow : List (Nat × Own)} {t : T} (hk : ∀ s i off, get tmk s = some (.bp i off) → (get bx i).isSome = true) (hqk : get tmk q = none) :
    ∀ W m g v, EnvG (lentC W m g bx ow) bx ow W m g → (∀ i cs, get bx i = some cs → Nat.ble 2000 i = true → g.gb i = C.pinb i) → TR m t v → RelG (lentC W m g bx ow) N ⟨(q, .t t) :: tmk, bx, ow⟩ { tmps := (r.params.zip #[v]).foldl (fun tmps (t, a) => tmps.setIfInBounds t a) r.tmps, defers := [] } W m g := by
  intro W m g v he hp hv
  have e : (r.params.zip #[v]).foldl (fun tmps (t, a) => tmps.setIfInBounds t a) r.tmps = r.tmps.setIfInBounds q v := by rw [h.ps]; simp
  rw [e]
  have h0 : RelG (lentC W m g bx ow) N ⟨tmk, bx, ow⟩ { tmps := r.tmps, defers := [] } W m g := ⟨he, h.size, rfl, fun s y hs => by
    obtain ⟨i, off, rfl, h2⟩ := h.tk s y hs
    obtain ⟨cs, hcs⟩ := Option.isSome_iff_exists.1 (hk s i off hs)
    refine ⟨by rw [he.lb, hcs]; rfl, ?_⟩
    rw [hp i cs hcs h2]
    exact h.tm s i off hs⟩
  exact h0.put he (fun _ _ h => h) hq hv
structure ICalls (P : Program) (f : FuncId) (caps0 : List A) (N : Nat) (tmk : List (Nat × A)) (ps : Array Tmp) (assign body : Code) (bx0 : List (Nat × List A)) (ow0 : List (Nat × Own)) (R : Option Code → List (Nat × List A) → List (Nat × Own) → Prop) : Prop where
  ent : ∀ (args : Array Value) (w : World), (callFunc f args).run P w = .ok (.enter f args) w
  run : ∀ (C : Ctx) (l : Nat) (r : Loop), ItCtx N tmk ps assign body C l r → ∀ (n : Nat) (w : World) (m : Mm) (g : Gh) (vals : Array Value), EnvG C bx0 ow0 w m g → vals.size = caps0.length → (∀ (i : Nat) x v, caps0[i]? = some x → vals[i]? = some v → AR m g x v) →
    CallsIn (WF none) n P f (#[.func (.yield l) #[] #[]] ++ vals) w fun e w' => ∃ v c bx1 ow1 m' g', e = .returned v ∧ R c bx1 ow1 ∧ EnvG (recC C l (.loop (recE r c))) bx1 ow1 w' m' g'
theorem icalls_of {P : Program} {f : FuncId} {fn : Func} {c : Code} {caps0 : List A} {N Nf : Nat} {tmk : List (Nat × A)} {ps : Array Tmp} {assign body : Code} {bx0 : List (Nat × List A)} {ow0 : List (Nat × Own)} {R : Option Code → List (Nat × List A) → List (Nat × Own) → Prop}
    (hf : P.funcs[f]? = some fn) (hb : fn.body = some c) (hname : (fn.name == "runtime.NumGoroutine") = false) (hres : fn.results = #[]) (hN : fn.ntmps = Nf) (hargs : Nat.ble (caps0.length + 1) Nf = true)
    (h : ∀ (C : Ctx) (l : Nat) (r : Loop), ItCtx N tmk ps assign body C l r → XWp P none Nf c (IterQ R ⟨C, []⟩ l r) ⟨C, []⟩ ⟨argTmA 0 (.t (.v (.func (.yield l) #[] #[])) :: caps0), bx0, ow0⟩) : ICalls P f caps0 N tmk ps assign body bx0 ow0 R where
  ent := fun vals w => by
    have hname' : ¬ fn.name = "runtime.NumGoroutine" := by simpa using hname
    simp [callFunc, hf, hname', hb]
  run := fun C l r hc n w m g vals he hl hv => by
    refine iter_of hf hb hres hN (by simpa using hargs) (h C l r hc) he (by simp [hl]; omega) fun i x v h1 h2 => ?_
    cases i with
    | zero =>
      rw [Array.getElem?_append_left (by simp)] at h2
      simp at h1 h2; subst h1 h2; exact .v _
    | succ i => exact hv i x v (by simpa using h1) (by rw [Array.getElem?_append] at h2; simpa using h2)
structure PBack (p p2 : Ph) (D : Nat) (bx : List (Nat × List A)) (ow : List (Nat × Own)) : Prop where
  d : p2.d = { target := .collected D, args := #[] } :: p.d
  at_ : p2.C.w0.heap[D]? = some (.deferred (some []))
  gv : p2.C.gv D = false
  lo : p.C.w0.heap.size ≤ D
  back : ∀ bx1 ow1 w m g, EnvG p2.C bx1 ow1 w m g → (∀ i cs, get bx1 i = some cs → Nat.ble 2000 i = true → ∃ cs', get bx i = some cs') → (∀ i o, get ow1 i = some o → Nat.ble 2000 i = true → ∃ o', get ow i = some o') → EnvG p.C bx1 ow1 w m g
section
variable {P : Program} {N : Nat} {Q : Exit → Ph → St → Prop} {p : Ph} {tm tmk : List (Nat × A)} {bx bx0 : List (Nat × List A)} {ow ow0 : List (Nat × Own)} {fb fw : Nat → Nat}
theorem EnvG.nc_lent {C : Ctx} {w : World} {m : Mm} {g : Gh} (he : EnvG C bx ow w m g) {l : Nat} {o : Obj} (h : w.heap[l]? = some o) (hn : nc o = true) : lentB g bx ow l = false := by
  cases hb : lentB g bx ow l with
  | false => rfl
  | true =>
    rcases lent_spec hb with ⟨i, cs, h1, h2⟩ | ⟨i, o', h1, h2⟩
    · obtain ⟨vs, ty, h3, _⟩ := he.boxes _ _ h1
      rw [h2, h] at h3; injection h3 with h3
      rw [h3, nc_ob] at hn; cases hn
    · obtain ⟨vs, h3, _⟩ := he.owns _ _ h1
      rcases h3.2 with ⟨e, _⟩ | ⟨b', cap, cur, e, _, ⟨fz, h5, _⟩, _⟩
      · rw [e] at h2; cases h2
      · rw [e] at h2; simp [Value.ownBlock] at h2; subst h2; rw [h] at h5; injection h5 with h5; rw [h5] at hn; cases hn
theorem x_range {g0 : Operand} {ps : Array Tmp} {assign body : Code} {gf : FuncId} {caps caps0 : List A} {R : Option Code → List (Nat × List A) → List (Nat × Own) → Prop} (hit : ICalls P gf caps0 N tmk ps assign body bx0 ow0 R)
    (hz : evA tm g0 = some (.cl gf caps)) (hcp : caps = caps0.map (A.ren fb fw)) (hcl : (caps0.all fun x => x.live bx0 ow0 && x.isLf) = true)
    (hx : LentX fb fw bx bx0) (hw : LentW fw ow ow0) (hl : (bx0.all fun p => p.2.all fun x => x.live bx0 ow0) = true) (hB : ∀ c bx1 ow1, R c bx1 ow1 → lendB fb fw bx bx0 bx1 ow ow0 ow1 = true)
    (htk : ∀ s y, get tmk s = some y → ∃ i off, y = .bp i off ∧ Nat.ble 2000 i = true ∧ get tm s = some (.bp (fb i) off))
    (hh : ∀ c bx1 ow1, R c bx1 ow1 → ∀ i o, get (owAft fw ow0 ow1 ow) i = some o → hid i = true)
    (k : ∀ D p2 c bx1 ow1, R c bx1 ow1 → PBack p p2 D (bxAft fb fw (chgOf fw (fun _ => false) ow0) bx1 bx) (owAft fw ow0 ow1 ow) →
      match c with
      | none => Q .normal p2 ⟨tm.map (fun p => (p.1, p.2.clr (chgOf fw (fun _ => false) ow0))), bxAft fb fw (chgOf fw (fun _ => false) ow0) bx1 bx, owAft fw ow0 ow1 ow⟩
      | some c => XWp P none N c Q p2 ⟨tm.map (fun p => (p.1, p.2.clr (chgOf fw (fun _ => false) ow0))), bxAft fb fw (chgOf fw (fun _ => false) ow0) bx1 bx, owAft fw ow0 ow1 ow⟩)
    (hR0 : ∃ c bx1 ow1, R c bx1 ow1) : XWp P none N (.rangeFunc g0 ps assign body) Q p ⟨tm, bx, ow⟩ := by
  refine ⟨fun n a w hr => wpIn_rangeFunc ?_⟩
  obtain ⟨a0, rfl, m, g, hg⟩ := hr
  intro fn _
  have he := hg.env
  obtain ⟨lb, hvz, hvl, hvc⟩ := hg.ev hz
  obtain ⟨rec, hrec⟩ : ∃ rec : Loop, rec = { state := .ready, pending := none, fn, tmps := a0.tmps, params := ps, assign, body, defers := w.heap.size } := ⟨_, rfl⟩
  obtain ⟨W1, hW1⟩ : ∃ W1, (w.alloc (.deferred (some []))).alloc (.loop rec) = W1 := ⟨_, rfl⟩
  have hL1 : W1.heap[w.heap.size + 1]? = some (.loop rec) := by
    rw [← hW1]; have := World.alloc_heap_new (w.alloc (.deferred (some []))) (.loop rec); rwa [World.size_alloc] at this
  have hD1 : W1.heap[w.heap.size]? = some (.deferred (some [])) := by
    rw [← hW1]; exact (Below.heap_alloc _ _ _ (by simp)).trans (World.alloc_heap_new w _)
  have hlo : Lo w W1 := by rw [← hW1]; exact ((Lo.refl w).alloc _).alloc _
  have he1 : EnvG p.C bx ow W1 m g := he.step hlo ⟨fun _ _ _ h => h, fun _ _ _ => rfl⟩ (he.sub.lo hlo)
  refine ⟨w.heap.size + 1, [{ target := .collected w.heap.size, args := #[] }], W1, { target := .fn (.func gf) lb, args := #[.func (.yield (w.heap.size + 1)) #[] #[]] }, W1, gf,
    #[.func (.yield (w.heap.size + 1)) #[] #[]] ++ lb, W1, ?_, ?_, fun _ _ => trivial, ?_, wf_depth, ?_⟩
  · rw [← hW1, hrec]; exact run_enterLoop_outer _ _ _ _ _
  · simp only [resolve, show (wd p.d a0).eval g0 = .func (.func gf) #[] lb from hvz]
    simp [go_sem]
  · simp [invoke, go_sem, hit.ent]
  · have hkp : ∀ i, (fun _ => false) i = true → Nat.ble 2000 i = true ∧ ∃ o0 o1, get ow0 i = some o0 ∧ get ow0 i = some o1 ∧ o1.rows.length = o0.rows.length := fun _ h => by cases h
    obtain ⟨c0, bxq, owq, hq0⟩ := hR0
    have hL0 := lend_of (kp := fun _ => false) hx hw hl (hB _ _ _ hq0) (fun _ h => by cases h)
    have E0 := hL0.env_in he1
    have hgl := E0.nc_lent hL1 rfl
    have hgd := E0.nc_lent hD1 rfl
    have hit0 : ItCtx N tmk ps assign body (lentC W1 m (g.sub fb fw bx0 ow0) bx0 ow0) (w.heap.size + 1) rec := by
      subst hrec
      exact ⟨hL1, hgl, rfl, rfl, rfl, rfl, rfl, hg.size, fun s i off hs => by
        obtain ⟨i', off', e, _, h3⟩ := htk s _ hs
        injection e with e1 e2; subst e1 e2
        exact (hg.tmps s _ h3).2, fun s y hs => by
        obtain ⟨i', off', e, h2, _⟩ := htk s _ hs
        exact ⟨i', off', e, h2⟩⟩
    refine CallsIn.mono (hit.run _ _ _ hit0 (n - 1) W1 m _ lb E0 (by rw [hvl, hcp]; simp) fun i x v h3 h4 => ?_) ?_
    · have h5 := (List.all_eq_true.1 hcl) x (List.mem_of_getElem? h3)
      rw [Bool.and_eq_true] at h5
      subst hcp
      exact hL0.ren_in he1 h5.1 (hvc i (x.ren fb fw) v (by rw [List.getElem?_map, h3]; rfl) h4).two
    · rintro e w' ⟨v, c, bx1, ow1, m', g', rfl, hR, E1⟩
      have hlw : w.heap.size + 1 < W1.heap.size := (Array.getElem?_eq_some_iff.1 hL1).1
      have hat : (W1.putObj (w.heap.size + 1) (.loop (recE rec c))).heap[w.heap.size + 1]? = some (.loop (recE rec c)) := World.putObj_heap_same hlw
      have hwl : w'.heap[w.heap.size + 1]? = some (.loop (recE rec c)) := (E1.lo.block _ (by simpa [recC, lentC] using hlw) hgl).trans hat
      have hwd : w'.heap[w.heap.size]? = some (.deferred (some [])) := (E1.lo.block _ (by simp [recC, lentC]; omega) hgd).trans ((World.putObj_heap_other (by omega)).trans hD1)
      have hbusy : (recE rec c).state ≠ .busy := by subst hrec; cases c <;> simp [recE]
      have hpend : (recE rec c).pending = c := by subst hrec; cases c <;> rfl
      refine ⟨c, _, by rw [← hpend]; exact run_endLoop hwl hbusy, ?_⟩
      obtain ⟨recX, hrX⟩ : ∃ recX : Loop, recX = { recE rec c with state := .exhausted } := ⟨_, rfl⟩
      rw [← hrX]
      have E2 := E1.record (l := w.heap.size + 1) hat hgl recX
      obtain ⟨W4, hW4⟩ : ∃ W4, w'.putObj (w.heap.size + 1) (.loop recX) = W4 := ⟨_, rfl⟩
      rw [hW4] at E2 ⊢
      have hd4 : W4.heap[w.heap.size]? = some (.deferred (some [])) := by rw [← hW4]; exact (World.putObj_heap_other (by omega)).trans hwd
      rw [show recC (recC (lentC W1 m (g.sub fb fw bx0 ow0) bx0 ow0) (w.heap.size + 1) (.loop (recE rec c))) (w.heap.size + 1) (.loop recX) = lentC (W1.putObj (w.heap.size + 1) (.loop recX)) m (g.sub fb fw bx0 ow0) bx0 ow0 by
        unfold recC lentC World.putObj; simp] at E2
      have hloX : Lo w (W1.putObj (w.heap.size + 1) (.loop recX)) := Lo.of_grown ⟨hlo.os, hlo.tape, hlo.output, by simpa using hlo.size, fun i hi _ => (World.putObj_heap_other (by omega)).trans (Below.block hlo i hi)⟩
      have heX : EnvG p.C bx ow (W1.putObj (w.heap.size + 1) (.loop recX)) m g := he.step hloX ⟨fun _ _ _ h => h, fun _ _ _ => rfl⟩ (he.sub.lo hloX)
      have hL := lend_of (kp := fun _ => false) hx hw hl (hB _ _ _ hR) (fun _ h => by cases h)
      obtain ⟨g'', e1, e2, e3⟩ := hL.env_out heX E2
      have hself := e1.self (hh _ _ _ hR)
      have hpb : PBack p ⟨lentC W4 m' g'' (bxAft fb fw (chgOf fw (fun _ => false) ow0) bx1 bx) (owAft fw ow0 ow1 ow), { target := .collected w.heap.size, args := #[] } :: p.d⟩ w.heap.size (bxAft fb fw (chgOf fw (fun _ => false) ow0) bx1 bx) (owAft fw ow0 ow1 ow) :=
        ⟨rfl, hd4, e1.nc_lent hd4 rfl, he.lo.size, fun bx2 ow2 w2 m2 g2 h h1 h2 => e1.back h h1 h2⟩
      have hk := k _ _ c bx1 ow1 hR hpb
      have hrel : RelP ⟨lentC W4 m' g'' (bxAft fb fw (chgOf fw (fun _ => false) ow0) bx1 bx) (owAft fw ow0 ow1 ow), { target := .collected w.heap.size, args := #[] } :: p.d⟩ N ⟨tm.map (fun p => (p.1, p.2.clr (chgOf fw (fun _ => false) ow0))), bxAft fb fw (chgOf fw (fun _ => false) ow0) bx1 bx, owAft fw ow0 ow1 ow⟩ { wd p.d a0 with defers := [{ target := .collected w.heap.size, args := #[] }] ++ (wd p.d a0).defers } W4 := by
        refine ⟨a0, by unfold wd; simp [hg.defers], m', g'', hself, hg.size, hg.defers, fun s x hx => ?_⟩
        rw [show get (tm.map fun p => (p.1, p.2.clr (chgOf fw (fun _ => false) ow0))) s = _ from get_mapv _ _ _] at hx
        cases h5 : get tm s with
        | none => rw [h5] at hx; cases hx
        | some y => rw [h5] at hx; injection hx with hx; subst hx; exact e2 y _ (hg.tmps s y h5)
      cases c with
      | none => exact ⟨_, _, hrel, hk⟩
      | some c => exact hk.go n _ _ hrel
end
structure XRet (P : Program) (fn : Func) (r : T) (p0 : Ph) (e : Exit) (p : Ph) (st : St) : Prop where
  e : e = .normal ∨ e = .ret
  res : ∃ ts, Res P st fn.results.toList ts ∧ r = resT ts
  back : ∃ D bx ow, PBack p0 p D bx ow
theorem xret {P : Program} {fn : Func} {r : T} {p0 p : Ph} {e : Exit} {st : St} {l : List ResultVar} {ts : List T} {D : Nat} {bx : List (Nat × List A)} {ow : List (Nat × Own)} (hb : PBack p0 p D bx ow) (he : e = .normal ∨ e = .ret) (hl : fn.results.toList = l) (h : Res P st l ts) (hr : r = resT ts) : XRet P fn r p0 e p st := ⟨he, ⟨ts, by rw [hl]; exact h, hr⟩, D, bx, ow, hb⟩
theorem pcalls_x {P : Program} {f : FuncId} {fn : Func} {c : Code} {args : List T} {r : T} {N : Nat} (hf : P.funcs[f]? = some fn) (hb : fn.body = some c) (hname : (fn.name == "runtime.NumGoroutine") = false) (hN : fn.ntmps = N) (hargs : Nat.ble args.length N = true)
    (h : ∀ C, XWp P none N c (XRet P fn r ⟨C, []⟩) ⟨C, []⟩ ⟨argTm 0 args, [], []⟩) : PCalls P f args r where
  ent := fun vals w => by
    have hname' : ¬ fn.name = "runtime.NumGoroutine" := by simpa using hname
    simp [callFunc, hf, hname', hb]
  run := fun m w vals hs hl hv hT => by
    refine (callsIn_wide (n := 0)).1 (callsIn_of_wp_marks (F := WF none) hf hb trivial ?_)
    have hal := Nat.le_of_ble_eq_true hargs
    have hrel : Rel ⟨w, m, fun _ => false, fun _ => undef, fun _ => 0⟩ N ⟨argTm 0 args, [], []⟩ { tmps := vals ++ Array.replicate (fn.ntmps - vals.size) undef, defers := [] } w := by
      refine ⟨m, ⟨fun _ => 0, fun _ => undef, fun _ => 0, fun _ => false, fun _ => false, fun _ => (0, 0)⟩, ?_, by simp [hN]; omega, rfl, fun s x hx => ?_⟩
      · exact {
          lo := .of_lo (Lo.refl _), gm := fun b o h => by cases h
          sub := hs, ext := ExtX.refl _ _ _, gt := hT, lb := fun i => rfl, lw := fun i => rfl
          ln := fun i o h => by cases h
          boxes := fun i cs h => by cases h
          inj := fun i j ci cj h => by cases h
          owns := fun i o h => by cases h
          apart := fun i j oi oj h => by cases h
          pin := fun i o h => by cases h
          pinb := fun i o h => by cases h }
      · obtain ⟨t, _, h2, rfl⟩ := argTm_get args 0 s x hx
        rw [Nat.sub_zero] at h2
        have hlt : s < vals.size := by rw [hl]; exact (List.getElem?_eq_some_iff.1 h2).1
        have : (Act.eval { tmps := vals ++ Array.replicate (fn.ntmps - vals.size) undef, defers := [] } (.tmp s)) = vals[s] := by
          show (vals ++ Array.replicate (fn.ntmps - vals.size) undef).getD s undef = _
          rw [Array.getD_eq_getD_getElem?, Array.getElem?_append_left hlt, Array.getElem?_eq_getElem hlt]; rfl
        rw [this]
        exact hv s t _ h2 (Array.getElem?_eq_getElem hlt)
    refine wpIn_mono ((h ⟨w, m, fun _ => false, fun _ => undef, fun _ => 0⟩).go 0 _ w ⟨_, by unfold wd; simp, hrel⟩) ?_
    rintro e a' w' ⟨p, st, ⟨a0, rfl, m', g, hr⟩, he, ⟨ts, hres, rfl⟩, D, bx, ow, hpb⟩
    have hDl : D < p.C.w0.heap.size := (Array.getElem?_eq_some_iff.1 hpb.at_).1
    have hwD : w'.heap[D]? = some (.deferred (some [])) := (hr.env.lo.block D hDl hpb.gv).trans hpb.at_
    have E := hr.env.turn hpb.at_ rfl hpb.gv (.deferred none)
    have hr2 : RelG (recC p.C D (.deferred none)) N st a0 (w'.putObj D (.deferred none)) m' g := ⟨E, hr.size, hr.defers, hr.tmps⟩
    obtain ⟨v, h1, h2⟩ := results_ok hr2 hres
    obtain ⟨E0, -⟩ := envg_sub (bx' := []) (ow' := []) hr.env .nil .nil
    have E1 := hpb.back _ _ _ _ _ E0 (fun i cs h => by cases h) (fun i o h => by cases h)
    have hlo : Lo w w' := E1.lo.lo (fun _ => rfl)
    have hlo2 : Lo w (w'.putObj D (.deferred none)) := Lo.of_grown ⟨hlo.os, hlo.tape, hlo.output, by simpa using hlo.size, fun i hi _ => (World.putObj_heap_other (by have := hpb.lo; simp at this; omega)).trans (Below.block hlo i hi)⟩
    have hd : (wd p.d a0).defers = [{ target := .collected D, args := #[] }] := by unfold wd; rw [hr.defers, hpb.d]; rfl
    have key : LeavesInM (WF none) 0 P fn (wd p.d a0).tmps (fun e w' => ∃ v m', e = .returned v ∧ Lo w w' ∧ Ext m m' w.heap.size ∧ Sub m' w' ∧ TR m' (resT ts) v) (wd p.d a0).defers .returning w' := by
      rw [hd]
      refine ⟨by simp, .inl ⟨D, _, rfl, run_takeDeferred hwD, v, h1, v, m', rfl, hlo2, E1.ext.ext (fun _ => rfl), E.sub, h2⟩⟩
    rcases he with rfl | rfl <;> exact key
end Go.Proofs.YtloippgblkoemaaGreatDoor.Sim
