/- Merged by bundles.py: SimB, SimC. -/
import Derived.Test.YtnclifgiakmmoaaGreatH2
import Derived.Deep.MidRow
/- A logic of states: operations that add and turn nothing, in order and in any order. -/
namespace Go.Proofs.YtnclifgiakmmoaaGreat.Sim
set_option linter.unusedVariables false
set_option linter.unusedSimpArgs false
open Go.RowKit Mem

def evA (tm : List (Nat × A)) : Operand → Option A
  | .tmp s => get tm s
  | .const v => some (.t (.v v))
  | .func f => some (.t (.v (.func (.func f) #[] #[])))
  | .global _ => none
theorem RelG.ev {C : Ctx} {N : Nat} {st : St} {a : Act} {w : World} {m : Mm} {g : Gh} (h : RelG C N st a w m g) {x : Operand} {y : A} (hx : evA st.tm x = some y) : AR m g y (a.eval x) := by
  cases x with
  | tmp s => exact h.tmps s y hx
  | const v => injection hx with hx; subst hx; exact .v v
  | func f => injection hx with hx; subst hx; exact .v _
  | global i => cases hx

/-- the operation hands back r, adds, and turns nothing -/
structure PureOp (P : Program) (bx : List (Nat × List A)) (ow : List (Nat × Own)) (o : Oper) (ρ : Operand → Option A) (r : A) : Prop where
  go : ∀ (C : Ctx) (m : Mm) (g : Gh) (w : World) (a : Act) (Q : Exit → Act → World → Prop), EnvG C bx ow w m g → (∀ x ∈ o.op.operands.toList, ∀ y, ρ x = some y → AR m g y (a.eval x)) →
    o.wp P a w (fun a' w' => ∃ v m', a' = a.put o.dst v ∧ Lo w w' ∧ Ext m m' w.heap.size ∧ Sub m' w' ∧ NFx m m' w' ∧ AR m' g r v) Q

inductive GuardIs (ops : Array Oper) (tm : List (Nat × A)) (o : Oper) (on : Bool) : Prop
  | free (h : o.guard = none) (h1 : on = true) : GuardIs ops tm o on
  | on (j : Nat) (want : Bool) (e : Nat) (b : Bool) (h : o.guard = some (j, want)) (hj : dstOf ops j = some e) (hs : get tm e = some (.t (.v (.bool b)))) (h1 : (b == want) = on) : GuardIs ops tm o on
  | und (j : Nat) (want : Bool) (e : Nat) (h : o.guard = some (j, want)) (hj : dstOf ops j = some e) (hs : get tm e = some (.t (.v undef))) (h1 : on = false) : GuardIs ops tm o on
theorem GuardIs.nou {ops : Array Oper} {tm : List (Nat × A)} {o : Oper} {j e : Nat} {want : Bool} (h : o.guard = some (j, want)) (hj : dstOf ops j = some e) (hs : get tm e = some (.t (.v undef))) : GuardIs ops tm o false := .und j want e h hj hs rfl
theorem tr_undef {m : Mm} {v : Value} (h : TR m (.v undef) v) : v = undef := by cases h; rfl
theorem wanted_und {ops : Array Oper} {o : Oper} {a : Act} {j d : Nat} {want : Bool} (hg : o.guard = some (j, want)) (hd : dstOf ops j = some d) (hv : a.eval (.tmp d) = undef) : Region.wanted o (yielded ops a.tmps) = false := by
  have hv' : a.tmps.getD d undef = undef := hv
  unfold Region.wanted
  rw [hg]
  simp only
  have : yielded ops a.tmps j = none := by
    unfold yielded
    unfold dstOf at hd
    rw [hd]
    simp only [Option.bind_some]
    rw [Array.getD_eq_getD_getElem?] at hv'
    cases h : a.tmps[d]? with
    | none => rfl
    | some x => rw [h] at hv'; simp only [Option.getD_some] at hv'; rw [hv']; rfl
  rw [this]
  cases want <;> rfl
theorem GuardIs.yes {ops : Array Oper} {tm : List (Nat × A)} {o : Oper} {j e : Nat} {want b : Bool} (h : o.guard = some (j, want)) (hj : dstOf ops j = some e) (hs : get tm e = some (.t (.v (.bool b)))) (h1 : b = want) : GuardIs ops tm o true := .on j want e b h hj hs (by simp [h1])
theorem GuardIs.no {ops : Array Oper} {tm : List (Nat × A)} {o : Oper} {j e : Nat} {want b : Bool} (h : o.guard = some (j, want)) (hj : dstOf ops j = some e) (hs : get tm e = some (.t (.v (.bool b)))) (h1 : b = !want) : GuardIs ops tm o false := .on j want e b h hj hs (by subst h1; cases want <;> rfl)
theorem GuardIs.no1 {ops : Array Oper} {tm : List (Nat × A)} {o : Oper} {j e : Nat} {b : Bool} (h : o.guard = some (j, true)) (hj : dstOf ops j = some e) (hs : get tm e = some (.t (.v (.bool b)))) (h1 : b = false) : GuardIs ops tm o false := .no h hj hs h1
theorem GuardIs.no0 {ops : Array Oper} {tm : List (Nat × A)} {o : Oper} {j e : Nat} {b : Bool} (h : o.guard = some (j, false)) (hj : dstOf ops j = some e) (hs : get tm e = some (.t (.v (.bool b)))) (h1 : b = true) : GuardIs ops tm o false := .no h hj hs h1
theorem tr_bool {m : Mm} {b : Bool} {v : Value} (h : TR m (.v (.bool b)) v) : v = .bool b := by cases h; rfl
theorem GuardIs.wanted {ops : Array Oper} {tm : List (Nat × A)} {o : Oper} {on : Bool} (h : GuardIs ops tm o on) {a : Act} {m : Mm} {g : Gh} (ha : ∀ j want e, o.guard = some (j, want) → dstOf ops j = some e → ∀ y, get tm e = some y → AR m g y (a.eval (.tmp e))) : Region.wanted o (yielded ops a.tmps) = on := by
  cases h with
  | free h h1 => rw [wanted_free h, h1]
  | on j want e b h hj hs h1 => rw [wanted_at h hj (tr_bool (ha j want e h hj _ hs)), h1]
  | und j want e h hj hs h1 => rw [wanted_und h hj (tr_undef (ha j want e h hj _ hs)), h1]

section
variable {ops : Array Oper} {tm : List (Nat × A)} {o : Oper} {j e : Nat} {want b : Bool}
theorem gy (h : o.guard = some (j, want) := by exact rfl) (hj : dstOf ops j = some e := by exact rfl) (hs : get tm e = some (.t (.v (.bool b))) := by exact rfl) (h1 : b = want := by first | assumption | with_reducible rfl | decide | (simp only [decide_eq_true_eq, decide_eq_false_iff_not]; omega)) : GuardIs ops tm o true := .yes h hj hs h1
theorem gn1 (h : o.guard = some (j, true) := by exact rfl) (hj : dstOf ops j = some e := by exact rfl) (hs : get tm e = some (.t (.v (.bool b))) := by exact rfl) (h1 : b = false := by first | assumption | with_reducible rfl | decide | (simp only [decide_eq_true_eq, decide_eq_false_iff_not]; omega)) : GuardIs ops tm o false := .no1 h hj hs h1
theorem gn0 (h : o.guard = some (j, false) := by exact rfl) (hj : dstOf ops j = some e := by exact rfl) (hs : get tm e = some (.t (.v (.bool b))) := by exact rfl) (h1 : b = true := by first | assumption | with_reducible rfl | decide | (simp only [decide_eq_true_eq, decide_eq_false_iff_not]; omega)) : GuardIs ops tm o false := .no0 h hj hs h1
end
section
variable {P : Program} {N : Nat} {Q : Exit → St → Prop} {ops : Array Oper} {rest : List Oper} {o : Oper} {tm : List (Nat × A)} {bx : List (Nat × List A)} {ow : List (Nat × Own)}
theorem sops_nil {st : St} (h : Q .normal st) : SOps P N ops Q [] st := .mk fun C a w hr => ⟨st, hr, h⟩
theorem swp_region {id : Nat} {l : List Oper} {st : St} (h : SOps P N l.toArray Q l st) : SWp P N (.region id l.toArray false) Q st := .mk fun C a w hr => wk_of (wp_region_lit (h.go C a w hr))
theorem swp_cond_t {c : Operand} {x y : Code} {b : Bool} (hc : evA tm c = some (.t (.v (.bool b)))) (hb : b = true) (h : SWp P N x Q ⟨tm, bx, ow⟩) : SWp P N (.cond c x y) Q ⟨tm, bx, ow⟩ := .mk fun C a w ⟨m, g, hr⟩ => by
  subst hb; exact wk_cond (tr_bool (hr.ev hc)) (h.go C a w ⟨m, g, hr⟩)
theorem swp_cond_f {c : Operand} {x y : Code} {b : Bool} (hc : evA tm c = some (.t (.v (.bool b)))) (hb : b = false) (h : SWp P N y Q ⟨tm, bx, ow⟩) : SWp P N (.cond c x y) Q ⟨tm, bx, ow⟩ := .mk fun C a w ⟨m, g, hr⟩ => by
  subst hb; exact wk_cond (tr_bool (hr.ev hc)) (h.go C a w ⟨m, g, hr⟩)
theorem ct {c : Operand} {x y : Code} {b : Bool} (h : SWp P N x Q ⟨tm, bx, ow⟩) (hc : evA tm c = some (.t (.v (.bool b))) := by exact rfl) (hb : b = true := by first | assumption | with_reducible rfl | decide | (simp only [decide_eq_true_eq, Bool.not_eq_true', decide_eq_false_iff_not]; omega)) : SWp P N (.cond c x y) Q ⟨tm, bx, ow⟩ := swp_cond_t hc hb h
theorem cf {c : Operand} {x y : Code} {b : Bool} (h : SWp P N y Q ⟨tm, bx, ow⟩) (hc : evA tm c = some (.t (.v (.bool b))) := by exact rfl) (hb : b = false := by first | assumption | with_reducible rfl | decide | (simp only [decide_eq_false_iff_not, Bool.not_eq_false', decide_eq_true_eq]; omega)) : SWp P N (.cond c x y) Q ⟨tm, bx, ow⟩ := swp_cond_f hc hb h
theorem swp_cond {c : Operand} {x y : Code} {b : Bool} (hc : evA tm c = some (.t (.v (.bool b)))) (h1 : b = true → SWp P N x Q ⟨tm, bx, ow⟩) (h0 : b = false → SWp P N y Q ⟨tm, bx, ow⟩) : SWp P N (.cond c x y) Q ⟨tm, bx, ow⟩ := by
  cases b
  · exact swp_cond_f hc rfl (h0 rfl)
  · exact swp_cond_t hc rfl (h1 rfl)
theorem sops_pure {d : Nat} {r : A} (hg : GuardIs ops tm o true) (hd : o.dst = some d) (hN : Nat.blt d N = true) (hp : PureOp P bx ow o (evA tm) r) (h : SOps P N ops Q rest ⟨(d, r) :: tm, bx, ow⟩) : SOps P N ops Q (o :: rest) ⟨tm, bx, ow⟩ := by
  refine .mk fun C a w ⟨m, g, hr⟩ => ?_
  refine wpList_step fun K hK => ?_
  rw [if_pos (hg.wanted (m := m) (g := g) fun j want e _ _ y hy => hr.tmps e y hy)]
  refine Oper.wp_mono ?_ (hp.go C m g w a _ hr.env fun x _ y hy => hr.ev hy)
  rintro a' w' ⟨v, m', rfl, hl, he, hs, hn, hv⟩
  refine hK _ _ (h.go C _ _ ⟨m', g, ?_⟩)
  rw [hd]
  exact hr.put (hr.env.step hl he hs hn) (fun x v h => h.mono he.1) (Nat.lt_of_succ_le (Nat.le_of_ble_eq_true hN)) hv
theorem sops_skip {d : Nat} (hg : GuardIs ops tm o false) (hd : o.dst = some d) (hN : Nat.blt d N = true) (h : SOps P N ops Q rest ⟨(d, .t (.v undef)) :: tm, bx, ow⟩) : SOps P N ops Q (o :: rest) ⟨tm, bx, ow⟩ := by
  refine .mk fun C a w ⟨m, g, hr⟩ => ?_
  refine wpList_step fun K hK => ?_
  rw [if_neg (by rw [hg.wanted (m := m) (g := g) fun j want e _ _ y hy => hr.tmps e y hy]; simp)]
  refine hK _ _ (h.go C _ _ ⟨m, g, ?_⟩)
  rw [hd]
  exact hr.put hr.env (fun x v h => h) (Nat.lt_of_succ_le (Nat.le_of_ble_eq_true hN)) (.v _)
theorem sops_split {j e : Nat} {want b : Bool} (hg : o.guard = some (j, want)) (hj : dstOf ops j = some e) (hs : get tm e = some (.t (.v (.bool b)))) (h1 : b = true → SOps P N ops Q (o :: rest) ⟨tm, bx, ow⟩) (h0 : b = false → SOps P N ops Q (o :: rest) ⟨tm, bx, ow⟩) : SOps P N ops Q (o :: rest) ⟨tm, bx, ow⟩ := by
  cases b
  · exact h0 rfl
  · exact h1 rfl
end

/-- operations, each once, in the text's order: what they leave in the slots -/
inductive PRun (P : Program) (bx : List (Nat × List A)) (ow : List (Nat × Own)) (ops : Array Oper) : List Oper → List (Nat × A) → List (Nat × A) → Prop
  | nil (tm : List (Nat × A)) : PRun P bx ow ops [] tm tm
  | on {o : Oper} {rest : List Oper} {tm tm' : List (Nat × A)} {d : Nat} {r : A} (hg : GuardIs ops tm o true) (hd : o.dst = some d) (hp : PureOp P bx ow o (evA tm) r) (h : PRun P bx ow ops rest ((d, r) :: tm) tm') : PRun P bx ow ops (o :: rest) tm tm'
  | off {o : Oper} {rest : List Oper} {tm tm' : List (Nat × A)} {d : Nat} (hg : GuardIs ops tm o false) (hd : o.dst = some d) (h : PRun P bx ow ops rest ((d, .t (.v undef)) :: tm) tm') : PRun P bx ow ops (o :: rest) tm tm'
structure SDraw (P : Program) (N : Nat) (bx : List (Nat × List A)) (ow : List (Nat × Own)) (ops : Array Oper) (Q : Exit → St → Prop) (tail l : List Oper) (tm : List (Nat × A)) : Prop where
  go : ∃ tm', PRun P bx ow ops l tm tm' ∧ SOps P N ops Q tail ⟨tm', bx, ow⟩
section
variable {P : Program} {N : Nat} {Q : Exit → St → Prop} {ops : Array Oper} {rest tail : List Oper} {o : Oper} {tm : List (Nat × A)} {bx : List (Nat × List A)} {ow : List (Nat × Own)}
theorem sdraw_nil (h : SOps P N ops Q tail ⟨tm, bx, ow⟩) : SDraw P N bx ow ops Q tail [] tm := ⟨⟨tm, .nil tm, h⟩⟩
theorem sdraw_pure {d : Nat} {r : A} (hg : GuardIs ops tm o true) (hd : o.dst = some d) (hp : PureOp P bx ow o (evA tm) r) (h : SDraw P N bx ow ops Q tail rest ((d, r) :: tm)) : SDraw P N bx ow ops Q tail (o :: rest) tm := by
  obtain ⟨tm', h1, h2⟩ := h; exact ⟨⟨tm', .on hg hd hp h1, h2⟩⟩
theorem sdraw_skip {d : Nat} (hg : GuardIs ops tm o false) (hd : o.dst = some d) (h : SDraw P N bx ow ops Q tail rest ((d, .t (.v undef)) :: tm)) : SDraw P N bx ow ops Q tail (o :: rest) tm := by
  obtain ⟨tm', h1, h2⟩ := h; exact ⟨⟨tm', .off hg hd h1, h2⟩⟩
theorem sdraw_split {j e : Nat} {want b : Bool} (hg : o.guard = some (j, want)) (hj : dstOf ops j = some e) (hs : get tm e = some (.t (.v (.bool b)))) (h1 : b = true → SDraw P N bx ow ops Q tail (o :: rest) tm) (h0 : b = false → SDraw P N bx ow ops Q tail (o :: rest) tm) : SDraw P N bx ow ops Q tail (o :: rest) tm := by
  cases b
  · exact h0 rfl
  · exact h1 rfl
end

def slotsOf (o : Oper) : List Nat := o.op.operands.toList.filterMap fun x => match x with | .tmp s => some s | _ => none
def depsB (ops : Array Oper) (n : Nat) : Bool := (List.range n).all fun i => match ops[i]? with
  | none => false
  | some o => ((slotsOf o).all fun s => match writer ops s with | none => true | some j => (decide (j < i) && (deps ops i).contains j) || decide (n ≤ j)) &&
    (match o.guard with | none => true | some (j, _) => decide (j < i) && (deps ops i).contains j)

theorem prun_at {P : Program} {bx : List (Nat × List A)} {ow : List (Nat × Own)} {ops : Array Oper} {l : List Oper} {tm tm' : List (Nat × A)} (h : PRun P bx ow ops l tm tm') : ∃ (val : Nat → A) (tms : Nat → List (Nat × A)), tms 0 = tm ∧ tms l.length = tm' ∧
    ∀ (i : Nat) o, l[i]? = some o → ∃ d, o.dst = some d ∧ tms (i + 1) = (d, val i) :: tms i ∧ ((GuardIs ops (tms i) o true ∧ PureOp P bx ow o (evA (tms i)) (val i)) ∨ (GuardIs ops (tms i) o false ∧ val i = .t (.v undef))) := by
  induction h with
  | nil tm => exact ⟨fun _ => default, fun _ => tm, rfl, rfl, fun i o h => by simp at h⟩
  | @on o rest tm tm' d r hg hd hp _ ih =>
    obtain ⟨val, tms, h0, h1, h2⟩ := ih
    refine ⟨fun i => match i with | 0 => r | i + 1 => val i, fun i => match i with | 0 => tm | i + 1 => tms i, rfl, h1, ?_⟩
    intro i o' ho
    cases i with
    | zero => simp at ho; subst ho; exact ⟨d, hd, h0, .inl ⟨hg, hp⟩⟩
    | succ i => simp at ho; exact h2 i o' ho
  | @off o rest tm tm' d hg hd _ ih =>
    obtain ⟨val, tms, h0, h1, h2⟩ := ih
    refine ⟨fun i => match i with | 0 => .t (.v undef) | i + 1 => val i, fun i => match i with | 0 => tm | i + 1 => tms i, rfl, h1, ?_⟩
    intro i o' ho
    cases i with
    | zero => simp at ho; subst ho; exact ⟨d, hd, h0, .inr ⟨hg, rfl⟩⟩
    | succ i => simp at ho; exact h2 i o' ho
theorem tms_get {ops : Array Oper} {val : Nat → A} {tms : Nat → List (Nat × A)} {n : Nat} (h : ∀ i, i < n → ∃ d, dstOf ops i = some d ∧ tms (i + 1) = (d, val i) :: tms i) : ∀ i, i ≤ n → ∀ s x, get (tms i) s = some x → (∃ j, j < i ∧ dstOf ops j = some s ∧ x = val j) ∨ (get (tms 0) s = some x ∧ ∀ j, j < i → dstOf ops j ≠ some s)
  | 0, _, s, x, hx => .inr ⟨hx, fun j hj => by omega⟩
  | i + 1, hi, s, x, hx => by
    obtain ⟨d, hd, ht⟩ := h i (by omega)
    rw [ht, get_cons] at hx
    by_cases hds : d = s
    · rw [if_pos hds] at hx
      injection hx with hx
      subst hds
      exact .inl ⟨i, by omega, hd, hx.symm⟩
    · rw [if_neg hds] at hx
      rcases tms_get h i (by omega) s x hx with ⟨j, h1, h2, h3⟩ | ⟨h1, h2⟩
      · exact .inl ⟨j, by omega, h2, h3⟩
      · refine .inr ⟨h1, fun j hj => ?_⟩
        rcases Nat.lt_or_ge j i with h3 | h3
        · exact h2 j h3
        · obtain rfl : j = i := by omega
          rw [hd]; simp [hds]

/-- what stays, of old memory as it was, and of new memory all -/
def upm (m : Mm) (w w' : World) : Mm := fun b o => if b < w.heap.size then m b o else if nfB w' b o = true then w'.cell? ⟨b, o, none⟩ else none
theorem upm_new {m : Mm} {w w' : World} {b o : Nat} (hb : ¬ b < w.heap.size) (hn : nfB w' b o = true) : upm m w w' b o = w'.cell? ⟨b, o, none⟩ := by unfold upm; rw [if_neg hb, if_pos hn]
theorem upm_ext {m m' : Mm} {w w' : World} (hm : Sub m w) (he : Ext m m' w.heap.size) (hs : Sub m' w') (hn : NFx m m' w') : ∀ b o v, m' b o = some v → upm m w w' b o = some v := by
  intro b o v hv
  by_cases hb : b < w.heap.size
  · unfold upm; rw [if_pos hb, ← he.2 b o hb]; exact hv
  · rcases hn b o v hv with h | h
    · exact absurd (hm.lt h) hb
    · rw [upm_new hb h]; exact hs b o v hv
theorem upm_sub {m : Mm} {w w' : World} (h : Sub m w) (hl : Lo w w') : Sub (upm m w w') w' := by
  intro b o v hv
  unfold upm at hv
  split at hv
  · exact lo_keep hl (h b o v hv)
  · split at hv
    · exact hv
    · cases hv
theorem upm_nf {m : Mm} {w w' : World} : NFx m (upm m w w') w' := by
  intro b o v hv
  unfold upm at hv
  split at hv
  · exact .inl hv
  · split at hv
    · rename_i h; exact .inr h
    · cases hv
theorem ext_upm {m : Mm} {w w' : World} (h : Sub m w) : Ext m (upm m w w') w.heap.size := by
  refine ⟨fun b o v hv => ?_, fun b o hb => ?_⟩
  · unfold upm; rw [if_pos (h.lt hv)]; exact hv
  · unfold upm; rw [if_pos hb]

theorem mem_slots {o : Oper} {s : Nat} (h : Operand.tmp s ∈ o.op.operands.toList) : s ∈ slotsOf o := by
  unfold slotsOf
  rw [List.mem_filterMap]
  exact ⟨_, h, rfl⟩
theorem writer_of {ops : Array Oper} {n M i d : Nat} (hB : regionB3 ops n M = true) (hi : i < ops.size) (hd : dstOf ops i = some d) : writer ops d = some i ∧ d < M := by
  unfold regionB3 at hB
  simp only [Bool.and_eq_true, decide_eq_true_eq] at hB
  have h1 := (List.all_eq_true.1 hB.2) i (by simpa using hi)
  rw [hd] at h1
  simpa only [Bool.and_eq_true, decide_eq_true_eq] using h1
/-- a region that draws its order: each operation ahead of n once, in the text's order -/
theorem swp_draw {P : Program} {N : Nat} {Q : Exit → St → Prop} {id : Nat} {l : List Oper} {tm : List (Nat × A)} {bx : List (Nat × List A)} {ow : List (Nat × Own)} (n : Nat) (hm : P.follows .mixedOrders = true) (hB : regionB3 l.toArray n N = true) (hD : depsB l.toArray n = true)
    (h : SDraw P N bx ow l.toArray Q (l.drop n) (l.take n) tm) : SWp P N (.region id l.toArray true) Q ⟨tm, bx, ow⟩ := by
  obtain ⟨tm', hrun, htail⟩ := h
  obtain ⟨val, tms, ht0, htn, hstep⟩ := prun_at hrun
  have hn : n ≤ l.toArray.size := by
    unfold regionB3 at hB
    simp only [Bool.and_eq_true, decide_eq_true_eq] at hB
    exact hB.1.1
  have hn' : n ≤ l.length := by simpa using hn
  have hlen : (l.take n).length = n := by simp; omega
  rw [hlen] at htn
  have hops : ∀ i, i < n → ∃ o, l.toArray[i]? = some o ∧ (l.take n)[i]? = some o := by
    intro i hi
    refine ⟨l[i]'(by omega), ?_, ?_⟩
    · simp [List.getElem?_eq_getElem (show i < l.length by omega)]
    · rw [List.getElem?_take_of_lt hi]; exact List.getElem?_eq_getElem (show i < l.length by omega)
  have hdst : ∀ i, i < n → ∃ d, dstOf l.toArray i = some d ∧ tms (i + 1) = (d, val i) :: tms i := by
    intro i hi
    obtain ⟨o, h1, h2⟩ := hops i hi
    obtain ⟨d, h3, h4, _⟩ := hstep i o h2
    exact ⟨d, by unfold dstOf; rw [h1]; exact h3, h4⟩
  refine .mk fun C a w ⟨m, g, hr⟩ => ?_
  have hput : ∀ (v : Nat → Value) (w' : World) (m' : Mm), Lo w w' → Ext m m' w.heap.size → Sub m' w' → NFx m m' w' → ∀ k, k ≤ n → (∀ i, i < k → AR m' g (val i) (v i)) → RelG C N ⟨tms k, bx, ow⟩ ((List.range k).foldl (fun a i => a.put (dstOf l.toArray i) (v i)) a) w' m' g := by
    intro v w' m' hl he hs hnf k
    induction k with
    | zero => intro _ _; rw [ht0]; exact ⟨hr.env.step hl he hs hnf, hr.size, hr.defers, fun s x hx => (hr.tmps s x hx).mono he.1⟩
    | succ k ih =>
      intro hk hv
      have h1 := ih (by omega) fun i hi => hv i (by omega)
      obtain ⟨d, hd, ht⟩ := hdst k (by omega)
      rw [List.range_succ, List.foldl_append, ht]
      simp only [List.foldl_cons, List.foldl_nil, hd]
      exact h1.put h1.env (fun x v h => h) (writer_of hB (by omega) hd).2 (hv k (by omega))
  refine wk_of <| wp_region_mix (P := P) n N (fun i v w' => ∃ m', Ext m m' w.heap.size ∧ Sub m' w' ∧ NFx m m' w' ∧ AR m' g (val i) v) hm hr.size hB ?_ ?_ ?_
  · rintro i v w1 w2 ⟨m', h1, h2, h4, h3⟩ hl
    exact ⟨m', h1, h2.lo hl, h4.lo h2 hl, h3⟩
  · intro i o hi ho a' w' hl hdep hkeep
    obtain ⟨o', h1, h2⟩ := hops i hi
    rw [h1] at ho; injection ho with ho; subst ho
    have hD' := (List.all_eq_true.1 hD) i (by simpa using hi)
    rw [h1] at hD'
    simp only [Bool.and_eq_true] at hD'
    have henv := hr.env.step hl (ext_upm (w' := w') hr.env.sub) (upm_sub hr.env.sub hl) upm_nf
    have hslot : ∀ s, (match writer l.toArray s with | none => true | some j => (decide (j < i) && (deps l.toArray i).contains j) || decide (n ≤ j)) = true → ∀ y, get (tms i) s = some y → AR (upm m w w') g y (a'.eval (.tmp s)) := by
      intro s hs y hy
      rcases tms_get hdst i (by omega) s y hy with ⟨j, hj1, hj2, rfl⟩ | ⟨hg0, hnone⟩
      · have hw := (writer_of hB (show j < l.toArray.size by omega) hj2).1
        rw [hw] at hs
        simp only [Bool.or_eq_true, Bool.and_eq_true, decide_eq_true_eq] at hs
        rcases hs with ⟨_, hdj⟩ | hs
        · obtain ⟨m', he, hsb, hnf, hv⟩ := hdep j hdj s hj2
          exact hv.mono (upm_ext hr.env.sub he hsb hnf)
        · omega
      · rw [ht0] at hg0
        have hkeep' : a'.eval (.tmp s) = a.eval (.tmp s) := by
          refine hkeep s ?_
          cases hw : writer l.toArray s with
          | none => rfl
          | some j =>
            rw [hw] at hs
            simp only [Bool.or_eq_true, Bool.and_eq_true, decide_eq_true_eq] at hs
            rcases hs with ⟨hji, _⟩ | hs
            · exact absurd (writer_spec hw) (hnone j hji)
            · simpa using hs
        rw [hkeep']
        exact (hr.tmps s y hg0).mono (ext_upm (w' := w') hr.env.sub).1
    have hgd : ∀ j want e, o'.guard = some (j, want) → dstOf l.toArray j = some e → ∀ y, get (tms i) e = some y → AR (upm m w w') g y (a'.eval (.tmp e)) := by
      intro j want e hg he y hy
      have h3 := hD'.2
      rw [hg] at h3
      simp only [Bool.and_eq_true, decide_eq_true_eq] at h3
      refine hslot e ?_ y hy
      rw [(writer_of hB (show j < l.toArray.size by omega) he).1]
      simp only [Bool.or_eq_true, Bool.and_eq_true, decide_eq_true_eq]
      exact .inl h3
    obtain ⟨d, hd, htm, hcase⟩ := hstep i o' h2
    rcases hcase with ⟨hg, hp⟩ | ⟨hg, hv⟩
    · have hw := hg.wanted hgd
      refine ⟨fun _ => ?_, fun hf => by rw [hw] at hf; cases hf⟩
      refine Oper.wp_mono ?_ (hp.go C (upm m w w') g w' a' _ henv ?_)
      · rintro a2 w2 ⟨v, m2, rfl, hl2, he2, hs2, hn2, hv2⟩
        exact ⟨v, rfl, hl2, m2, (ext_upm hr.env.sub).trans he2 hl.size, hs2, upm_nf.trans hn2 (upm_sub hr.env.sub hl) hl2, hv2⟩
      · intro x hx y hy
        cases x with
        | tmp s => exact hslot s ((List.all_eq_true.1 hD'.1) s (mem_slots hx)) y hy
        | const v => injection hy with hy; subst hy; exact .v v
        | func f => injection hy with hy; subst hy; exact .v _
        | global i => cases hy
    · have hw := hg.wanted hgd
      refine ⟨fun hf => (by rw [hw] at hf; cases hf), fun _ => ⟨upm m w w', ext_upm hr.env.sub, upm_sub hr.env.sub hl, upm_nf, ?_⟩⟩
      rw [hv]; exact .v _
  · intro v w' hl hv
    have hall : ∀ i, i < n → AR (upm m w w') g (val i) (v i) := fun i hi => by
      obtain ⟨m', he, hs, hnf, h1⟩ := hv i hi
      exact h1.mono (upm_ext hr.env.sub he hs hnf)
    have := hput v w' _ hl (ext_upm hr.env.sub) (upm_sub hr.env.sub hl) upm_nf n (Nat.le_refl _) hall
    rw [htn] at this
    exact htail.go C _ _ ⟨_, g, this⟩
end Go.Proofs.YtnclifgiakmmoaaGreat.Sim

/- A logic of states: what single operations hand back. -/
namespace Go.Proofs.YtnclifgiakmmoaaGreat.Sim
set_option linter.unusedVariables false
set_option linter.unusedSimpArgs false
open Go.RowKit Mem

/-- of a type: is it a struct or an array? how many cells? -/
def tyI (P : Program) (ty : TypeId) : Option (Bool × Nat) := (P.underlying ty).bind fun d => (P.info? ty).map fun i => (d.isRow, i.size)
def fieldOff (P : Program) (s : TypeId) (f : Nat) : Option Nat := match P.underlying s with
  | some (.struct fs) => match fs[f]? with
    | some fd => match P.info? fd.type with
      | some i => if i.size = 0 then none else some fd.offset
      | none => none
    | none => none
  | _ => none
def sliceSz (P : Program) (t : TypeId) : Option Nat := match P.underlying t with
  | some (.slice e) => (P.info? e).map (·.size)
  | _ => none
theorem tyI_spec {P : Program} {ty : TypeId} {b : Bool} {n : Nat} (h : tyI P ty = some (b, n)) : ∃ d i, P.underlying ty = some d ∧ P.info? ty = some i ∧ d.isRow = b ∧ i.size = n := by
  unfold tyI at h
  cases hu : P.underlying ty with
  | none => rw [hu] at h; cases h
  | some d =>
    rw [hu] at h
    cases hi : P.info? ty with
    | none => rw [hi] at h; cases h
    | some i =>
      rw [hi] at h
      simp at h
      exact ⟨d, i, rfl, rfl, h.1, h.2⟩

section
variable {P : Program} {bx : List (Nat × List A)} {ow : List (Nat × Own)} {o : Oper} {ρ : Operand → Option A} {r : A}
theorem pure_run (h : ∀ (C : Ctx) (m : Mm) (g : Gh) (w : World) (a : Act), EnvG C bx ow w m g → (∀ x ∈ o.op.operands.toList, ∀ y, ρ x = some y → AR m g y (a.eval x)) → ∃ v, (execOp a.eval o).run P w = .ok (.value v) w ∧ AR m g r v) : PureOp P bx ow o ρ r := by
  refine .mk fun C m g w a Q he ho => ?_
  obtain ⟨v, h1, h2⟩ := h C m g w a he ho
  exact wp_of_run h1 ⟨v, m, rfl, Lo.refl _, Ext.refl _ _, he.sub, NFx.refl _ _, h2⟩
theorem tr_v {m : Mm} {x v : Value} (h : TR m (.v x) v) : v = x := by cases h; rfl
theorem po_move {x : Operand} (ho : o.op = .move x) (hx : ρ x = some r) : PureOp P bx ow o ρ r := pure_run fun C m g w a he h =>
  ⟨a.eval x, by simp [execOp, ho], h x (by simp [ho, Op.operands]) r hx⟩
theorem po_assign {x : Operand} (ho : o.op = .assign x) (hx : ρ x = some r) : PureOp P bx ow o ρ r := pure_run fun C m g w a he h =>
  ⟨a.eval x, by simp [execOp, ho], h x (by simp [ho, Op.operands]) r hx⟩
theorem po_pick_t {c x y : Operand} {b : Bool} (ho : o.op = .pick c x y) (hc : ρ c = some (.t (.v (.bool b)))) (hb : b = true) (hx : ρ x = some r) : PureOp P bx ow o ρ r := pure_run fun C m g w a he h => by
  have h1 := tr_v (h c (by simp [ho, Op.operands]) _ hc)
  subst hb
  exact ⟨a.eval x, by simp only [execOp, ho, h1, asBool, Sem.run_bind, Sem.run_pure, Result.andThen_ok, if_true], h x (by simp [ho, Op.operands]) r hx⟩
theorem po_pick_f {c x y : Operand} {b : Bool} (ho : o.op = .pick c x y) (hc : ρ c = some (.t (.v (.bool b)))) (hb : b = false) (hx : ρ y = some r) : PureOp P bx ow o ρ r := pure_run fun C m g w a he h => by
  have h1 := tr_v (h c (by simp [ho, Op.operands]) _ hc)
  subst hb
  exact ⟨a.eval y, by simp only [execOp, ho, h1, asBool, Sem.run_bind, Sem.run_pure, Result.andThen_ok, Bool.false_eq_true, if_false], h y (by simp [ho, Op.operands]) r hx⟩

theorem flat_len {sz : Nat} {rows : List (List T)} (hr : ∀ r ∈ rows, r.length = sz) : rows.flatten.length = rows.length * sz := by
  induction rows with
  | nil => simp
  | cons r rs ih =>
    rw [List.flatten_cons, List.length_append, ih fun x hx => hr x (by simp [hx]), hr r (by simp), List.length_cons, Nat.succ_mul]; omega
theorem flat_get {sz : Nat} {rows : List (List T)} (hr : ∀ r ∈ rows, r.length = sz) {k j : Nat} {r : List T} {t : T} (hk : rows[k]? = some r) (hj : r[j]? = some t) : rows.flatten[k * sz + j]? = some t := by
  induction rows generalizing k with
  | nil => simp at hk
  | cons q rs ih =>
    have hq := hr q (by simp)
    have hjl : j < r.length := (List.getElem?_eq_some_iff.1 hj).1
    rw [List.flatten_cons]
    cases k with
    | zero =>
      simp at hk; subst hk
      rw [Nat.zero_mul, Nat.zero_add, List.getElem?_append_left hjl]; exact hj
    | succ k =>
      simp at hk
      rw [List.getElem?_append_right (by rw [hq, Nat.succ_mul]; omega), hq, show (k + 1) * sz + j - sz = k * sz + j by rw [Nat.succ_mul]; omega]
      exact ih (fun x hx => hr x (by simp [hx])) hk
theorem tr_nil (m : Mm) (sz : Nat) {A : Option Addr} {cap : Nat} (hm : cap ≤ maxLen) : TR m (.sl sz []) (.slice A 0 cap) := .sl sz [] A 0 0 cap (fun _ _ => undef) (Nat.zero_le _) hm (fun h => absurd rfl h) (fun r h => by cases h) (fun k j r t h => by simp at h) (fun k j r t h => by simp at h)
/-- a row of the call's own reads as its rows -/
theorem tr_owns {w : World} {m : Mm} {base : Nat} {e : TypeId} {sz : Nat} {v : Value} {rows : List (List T)} {vs : List Value} (ho : RowM w base e sz v rows.length vs) (hr : ∀ r ∈ rows, r.length = sz) (hc : CellsAre m rows.flatten vs)
    (hb : ∀ b, v.ownBlock = some b → ∀ k u, vs[k]? = some u → m b k = some u) : TR m (.sl sz rows) v := by
  obtain ⟨hl, hcase⟩ := ho
  rcases hcase with ⟨hg, h0⟩ | ⟨b, cap, cur, hg, _, hh, hnc, hcm, hcs, htk⟩
  · have hrows : rows = [] := List.eq_nil_of_length_eq_zero h0
    subst hrows
    rw [hg]; exact tr_nil m sz (Nat.zero_le _)
  · have hm := hb b (by rw [hg]; rfl)
    rw [hg]
    have hat : ∀ {k j : Nat} {r : List T} {t : T}, rows[k]? = some r → r[j]? = some t → ∃ u, vs[k * sz + j]? = some u ∧ TR m t u ∧ u.oneCell' = true := fun {k j r t} hk hj => by
      have h1 := flat_get hr hk hj
      have h2 : k * sz + j < vs.length := by rw [hc.1]; exact (List.getElem?_eq_some_iff.1 h1).1
      exact ⟨_, List.getElem?_eq_getElem h2, hc.2 _ t _ h1 (List.getElem?_eq_getElem h2)⟩
    refine .sl sz rows (some ⟨b, 0, none⟩) b 0 cap (fun k j => vs.getD (k * sz + j) undef) hnc hcm (fun _ => rfl) hr ?_ ?_
    · intro k j r t hk hj
      obtain ⟨u, h1, h2, h3⟩ := hat hk hj
      rw [Nat.zero_add, List.getD_eq_getElem?_getD, h1]
      exact ⟨hm _ _ h1, h3⟩
    · intro k j r t hk hj
      obtain ⟨u, h1, h2, h3⟩ := hat hk hj
      rw [List.getD_eq_getElem?_getD, h1]
      exact h2

/-- what a slot's row reads as -/
inductive Vw (ow : List (Nat × Own)) : A → T → Prop
  | t (x : T) : Vw ow (.t x) x
  | nil (sz : Nat) : Vw ow (.t (.v (.slice none 0 0))) (.sl sz [])
  | emp (sz : Nat) : Vw ow .emp (.sl sz [])
  | own {i n : Nat} {e : TypeId} {sz : Nat} {rows : List (List T)} (h : get ow i = some ⟨e, sz, rows⟩) (hn : n = rows.length) (hv : hid i = false := by rfl) : Vw ow (.own i n) (.sl sz rows)
  | le {t t' : T} (h : ∀ m v, TR m t v → TR m t' v) : Vw ow (.t t) t'
  | fn (f : FuncId) : Vw ow (.t (.v (.func (.func f) #[] #[]))) (.clo f [])
  | agn : Vw ow (.ag []) (.agg [])
  | agc {x : A} {t : T} {cs : List A} {ts : List T} (h : Vw ow x t) (hl : Vw ow (.ag cs) (.agg ts)) : Vw ow (.ag (x :: cs)) (.agg (t :: ts))
theorem Vw.fr {ow : List (Nat × Own)} (n : Nat) (t : T) : Vw ow (.t (.fr n t)) t := .le fun m v h => by cases h with | fr _ _ _ h1 _ => exact h1
/-- a struct's cells, the first one apart -/
theorem ag_cons {m : Mm} {g : Gh} {x : A} {cs : List A} {v : Value} (h : AR m g (.ag (x :: cs)) v) : ∃ (u : Value) (us : List Value), v = .agg (u :: us).toArray ∧ AR0 m g x u ∧ u.oneCell' = true ∧ AR m g (.ag cs) (.agg us.toArray) := by
  obtain ⟨vs, rfl, h1, h2⟩ := h
  obtain ⟨l⟩ := vs
  cases l with
  | nil => simp at h1
  | cons u us =>
    have h3 := h2 0 x u rfl (by simp)
    refine ⟨u, us, rfl, h3.1, h3.2, us.toArray, rfl, by simpa using h1, fun j y v h4 h5 => ?_⟩
    exact h2 (j + 1) y v (by simpa using h4) (by simpa using h5)
theorem tr_agg_cons {m : Mm} {t : T} {ts : List T} {u : Value} {us : List Value} (h : TR m t u) (h1 : u.oneCell' = true) (hl : TR m (.agg ts) (.agg us.toArray)) : TR m (.agg (t :: ts)) (.agg (u :: us).toArray) := by
  cases hl with
  | agg _ _ h2 h3 h4 =>
    refine .agg _ _ (by simpa using h2) (fun v hv => ?_) (fun j t' v h5 h6 => ?_)
    · rcases List.mem_cons.1 (by simpa using hv) with rfl | hv
      · exact h1
      · exact h3 v (by simpa using hv)
    · cases j with
      | zero => simp at h5 h6; subst h5 h6; exact h
      | succ j => exact h4 j t' v (by simpa using h5) (by simpa using h6)
theorem Vw.ok {C : Ctx} {w : World} {m : Mm} {g : Gh} {x : A} {t : T} {v : Value} (h : Vw ow x t) (he : EnvG C bx ow w m g) (hx : AR m g x v) : TR m t v := by
  induction h generalizing v with
  | t x => exact hx
  | nil sz =>
    have hx' : TR m (.v (.slice none 0 0)) v := hx
    cases hx'
    exact tr_nil m sz (Nat.zero_le _)
  | emp sz =>
    obtain ⟨A, rfl⟩ := hx
    exact tr_nil m sz (Nat.zero_le _)
  | @own i n e sz rows h hn hv =>
    obtain ⟨_, _, _, hvg⟩ := hx
    obtain rfl := hvg (by rw [he.ln i _ h]; exact hn)
    obtain ⟨vs, ho, hr, hc, hb⟩ := he.owns i _ h
    exact tr_owns ho hr hc fun b hb' k u hu => by rw [(hb b hb').1 k, vis_see hv]; exact hu
  | le h => exact h m v hx
  | fn f =>
    have hx' : TR m (.v (.func (.func f) #[] #[])) v := hx
    cases hx'
    exact .clo f [] #[] rfl (fun j t v h => by simp at h)
  | agn =>
    obtain ⟨vs, rfl, h1, _⟩ := hx
    have : vs = #[] := Array.eq_empty_of_size_eq_zero (by simpa using h1)
    subst this
    exact .agg [] #[] rfl (fun v hv => by simp at hv) (fun j t v h => by simp at h)
  | @agc x t cs ts h hl ih1 ih2 =>
    obtain ⟨u, us, rfl, h1, h2, h3⟩ := ag_cons hx
    exact tr_agg_cons (ih1 h1.two) h2 (ih2 h3)
inductive VwL (ow : List (Nat × Own)) : List A → List T → Prop
  | nil : VwL ow [] []
  | cons {x : A} {t : T} {l : List A} {ts : List T} (h : Vw ow x t) (hl : VwL ow l ts) : VwL ow (x :: l) (t :: ts)
theorem vc {ow : List (Nat × Own)} {x : A} {t : T} {l : List A} {ts : List T} (hl : VwL ow l ts) (h : Vw ow x t := by first | exact .t _ | exact .own rfl (by first | rfl | assumption | (simp; done) | (simp; omega)) | exact .nil _ | exact .emp _ | exact .fn _ | exact .fr _ _) : VwL ow (x :: l) (t :: ts) := .cons h hl
theorem VwL.at {l : List A} {ts : List T} (h : VwL ow l ts) : l.length = ts.length ∧ ∀ (j : Nat) t, ts[j]? = some t → ∃ x, l[j]? = some x ∧ Vw ow x t := by
  induction h with
  | nil => exact ⟨rfl, fun j t h => by simp at h⟩
  | cons h hl ih =>
    refine ⟨by simp [ih.1], fun j t ht => ?_⟩
    cases j with
    | zero => simp at ht; subst ht; exact ⟨_, rfl, h⟩
    | succ j => simp at ht; simpa using ih.2 j t ht

theorem add_mid (b o j : Nat) : (⟨b, o, none⟩ : Addr).add j = ⟨b, o + j, none⟩ := Addr.add_mid b o j
theorem run_load_scalar {ty : TypeId} {n : Nat} (hT : tyI P ty = some (false, n)) {w : World} {b off : Nat} {v : Value} (hc : w.cell? ⟨b, off, none⟩ = some v) : (Instr.loadAt ty (.pointer (some ⟨b, off, none⟩))).run P w = .ok v w := by
  obtain ⟨d, i, hu, hi, hd, hs⟩ := tyI_spec hT
  have hagg : (isAgg ty).run P w = .ok false w := by
    unfold isAgg
    rw [Sem.run_bind, run_underlying hu w]
    cases d <;> simp_all
  simp [Instr.loadAt, Instr.sureAddr, loadVar, Sem.run_bind, hagg, hc]
theorem run_load_agg {ty : TypeId} {n : Nat} (hT : tyI P ty = some (true, n)) {w : World} {b off : Nat} {cs : List Value} (hn : cs.length = n) (hc : ∀ (j : Nat) v, cs[j]? = some v → w.cell? ⟨b, off + j, none⟩ = some v) : (Instr.loadAt ty (.pointer (some ⟨b, off, none⟩))).run P w = .ok (.agg cs.toArray) w := by
  obtain ⟨d, i, hu, hi, hd, hs⟩ := tyI_spec hT
  exact run_loadAt_mid w b off ty cs d hc hu hd (by rw [hi]; simp [hs, hn])
theorem po_load {ty : TypeId} {x : Operand} {cs : List T} {t : T} {n : Nat} (ho : o.op = .load ty x) (hx : ρ x = some (.t (.tp cs))) (hT : tyI P ty = some (false, n)) (ht : cs[0]? = some t) : PureOp P bx ow o ρ (.t t) := pure_run fun C m g w a he h => by
  have h1 : TR m (.tp cs) (a.eval x) := h x (by simp [ho, Op.operands]) _ hx
  generalize hv : a.eval x = v at h1
  cases h1 with
  | tp cs b off u hu hr =>
    have hc := he.sub _ _ _ (hu 0 t ht).1
    rw [Nat.add_zero] at hc
    exact ⟨u 0, by simp [execOp, ho, hv, run_load_scalar hT hc], hr 0 t ht⟩
theorem po_load_agg {ty : TypeId} {x : Operand} {cs ts : List T} {n : Nat} (ho : o.op = .load ty x) (hx : ρ x = some (.t (.tp cs))) (hT : tyI P ty = some (true, n)) (hn : ts.length = n) (ht : cs.take n = ts) : PureOp P bx ow o ρ (.t (.agg ts)) := pure_run fun C m g w a he h => by
  have h1 : TR m (.tp cs) (a.eval x) := h x (by simp [ho, Op.operands]) _ hx
  generalize hv : a.eval x = v at h1
  cases h1 with
  | tp cs b off u hu hr =>
    have hts : ∀ (j : Nat) t, ts[j]? = some t → cs[j]? = some t := fun j t hj => by
      have hjn : j < n := by rw [← hn]; exact (List.getElem?_eq_some_iff.1 hj).1
      rw [← ht, List.getElem?_take_of_lt hjn] at hj; exact hj
    have hl : ∀ (j : Nat) v, ((List.range n).map u)[j]? = some v → j < n ∧ v = u j := fun j v hj => by
      have hjn : j < n := by have := (List.getElem?_eq_some_iff.1 hj).1; simpa using this
      rw [List.getElem?_map, List.getElem?_range hjn] at hj
      exact ⟨hjn, by simpa using hj.symm⟩
    have hget : ∀ j, j < n → ∃ t, ts[j]? = some t := fun j hj => ⟨_, List.getElem?_eq_getElem (by omega)⟩
    have hc : ∀ (j : Nat) v, ((List.range n).map u)[j]? = some v → w.cell? ⟨b, off + j, none⟩ = some v := fun j v hj => by
      obtain ⟨hjn, rfl⟩ := hl j v hj
      obtain ⟨t, h3⟩ := hget j hjn
      exact he.sub _ _ _ (hu j t (hts j t h3)).1
    refine ⟨.agg ((List.range n).map u).toArray, by simp only [execOp, ho, hv, Sem.run_bind, run_load_agg hT (show ((List.range n).map u).length = n by simp) hc]; rfl, .agg ts _ (by simp [hn]) ?_ ?_⟩
    · intro v hv'
      obtain ⟨j, hj⟩ := List.getElem?_of_mem hv'
      obtain ⟨hjn, rfl⟩ := hl j v (by simpa using hj)
      obtain ⟨t, h3⟩ := hget j hjn
      exact (hu j t (hts j t h3)).2
    · intro j t v h3 h4
      obtain ⟨_, rfl⟩ := hl j v (by simpa using h4)
      exact hr j t (hts j t h3)
theorem po_load_bx {ty : TypeId} {x : Operand} {i off n : Nat} {cs : List A} (ho : o.op = .load ty x) (hx : ρ x = some (.bp i off)) (hT : tyI P ty = some (false, n)) (hb : get bx i = some cs) (ht : cs[off]? = some r) (hq : cellB i = true := by rfl) : PureOp P bx ow o ρ r := pure_run fun C m g w a he h => by
  obtain ⟨_, h1⟩ := h x (by simp [ho, Op.operands]) _ hx
  obtain ⟨vs, ty', hh, hs, hc, _, _⟩ := he.boxes i cs hb (cell_ch hq)
  rw [ob_cells hq] at hh
  replace hs := hs.cell hq
  have hlt : off < vs.size := by rw [hs]; exact (List.getElem?_eq_some_iff.1 ht).1
  have hcell : w.cell? ⟨g.gb i, off, none⟩ = some vs[off] := by simp [World.cell?, hh, hlt]
  exact ⟨vs[off], by simp [execOp, ho, h1, run_load_scalar hT hcell], (hc off r _ ht (by simp [hlt])).1⟩
theorem po_load_bx_agg {ty : TypeId} {x : Operand} {i off n : Nat} {cs : List A} {ts : List T} (ho : o.op = .load ty x) (hx : ρ x = some (.bp i off)) (hT : tyI P ty = some (true, n)) (hb : get bx i = some cs) (hv : VwL ow ((cs.drop off).take n) ts) (hn : ts.length = n) (hq : cellB i = true := by rfl) : PureOp P bx ow o ρ (.t (.agg ts)) := pure_run fun C m g w a he h => by
  obtain ⟨_, h1⟩ := h x (by simp [ho, Op.operands]) _ hx
  obtain ⟨vs, ty', hh, hs, hc, _, _⟩ := he.boxes i cs hb (cell_ch hq)
  rw [ob_cells hq] at hh
  replace hs := hs.cell hq
  obtain ⟨hvl, hva⟩ := hv.at
  have hlen : off + n ≤ vs.size ∨ n = 0 := by
    rw [hs]; simp at hvl; omega
  have hat : ∀ (j : Nat) v, ((vs.toList.drop off).take n)[j]? = some v → j < n ∧ vs[off + j]? = some v := fun j v hj => by
    have hjn : j < n := by have := (List.getElem?_eq_some_iff.1 hj).1; simp at this; omega
    rw [List.getElem?_take_of_lt hjn, List.getElem?_drop] at hj
    exact ⟨hjn, by simpa using hj⟩
  have hcell : ∀ (j : Nat) v, ((vs.toList.drop off).take n)[j]? = some v → w.cell? ⟨g.gb i, off + j, none⟩ = some v := fun j v hj => by
    simp [World.cell?, hh, (hat j v hj).2]
  have hrd : ∀ (j : Nat) v, ((vs.toList.drop off).take n)[j]? = some v → ∃ x, cs[off + j]? = some x ∧ AR m g x v ∧ v.oneCell' = true := fun j v hj => by
    obtain ⟨hjn, h3⟩ := hat j v hj
    have hlt : off + j < cs.length := by rw [← hs]; exact (Array.getElem?_eq_some_iff.1 h3).1
    exact ⟨_, List.getElem?_eq_getElem hlt, hc _ _ _ (List.getElem?_eq_getElem hlt) h3⟩
  refine ⟨_, by simp only [execOp, ho, h1, Sem.run_bind, run_load_agg hT (show ((vs.toList.drop off).take n).length = n by simp; omega) hcell]; rfl, .agg ts _ (by simp [hn]; omega) ?_ ?_⟩
  · intro v hv'
    obtain ⟨j, hj⟩ := List.getElem?_of_mem hv'
    obtain ⟨x, _, _, h3⟩ := hrd j v (by simpa using hj)
    exact h3
  · intro j t v h3 h4
    obtain ⟨x, h5, h6⟩ := hva j t h3
    obtain ⟨x', h7, h8, _⟩ := hrd j v (by simpa using h4)
    have hjn : j < n := by rw [← hn]; exact (List.getElem?_eq_some_iff.1 h3).1
    rw [List.getElem?_take_of_lt hjn, List.getElem?_drop, h7] at h5
    injection h5 with h5; subst h5
    exact h6.ok he h8
theorem fieldOff_spec {s : TypeId} {f k : Nat} (h : fieldOff P s f = some k) : ∃ fs fd i, P.underlying s = some (.struct fs) ∧ fs[f]? = some fd ∧ P.info? fd.type = some i ∧ i.size ≠ 0 ∧ fd.offset = k := by
  unfold fieldOff at h
  split at h
  · rename_i fs hu
    split at h
    · rename_i fd hf
      split at h
      · rename_i i hi
        split at h
        · cases h
        · rename_i hs; injection h with h; exact ⟨fs, fd, i, hu, hf, hi, hs, h⟩
      · cases h
    · cases h
  · cases h
theorem run_field {s : TypeId} {f k : Nat} (h : fieldOff P s f = some k) (w : World) (b off : Nat) : (Instr.fieldAt s (.pointer (some ⟨b, off, none⟩)) f).run P w = .ok (.pointer (some ⟨b, off + k, none⟩)) w := by
  obtain ⟨fs, fd, i, hu, hf, hi, hs, hk⟩ := fieldOff_spec h
  simp [Instr.fieldAt, run_underlying hu, hf, Instr.sureAddr, fieldPlace, sizeOf, typeInfo, hi, hs, hk, add_mid]
theorem po_field {s : TypeId} {x : Operand} {f k : Nat} {cs : List T} (ho : o.op = .fieldAddr s x f) (hx : ρ x = some (.t (.tp cs))) (hk : fieldOff P s f = some k) : PureOp P bx ow o ρ (.t (.tp (cs.drop k))) := pure_run fun C m g w a he h => by
  have h1 : TR m (.tp cs) (a.eval x) := h x (by simp [ho, Op.operands]) _ hx
  generalize hv : a.eval x = v at h1
  cases h1 with
  | tp cs b off u hu hr =>
    refine ⟨_, by simp only [execOp, ho, hv, Sem.run_bind, run_field hk]; rfl, .tp _ b (off + k) (fun j => u (k + j)) ?_ ?_⟩
    · intro j t hj
      rw [List.getElem?_drop] at hj
      have := hu (k + j) t hj
      rw [Nat.add_assoc]; exact this
    · intro j t hj
      rw [List.getElem?_drop] at hj
      exact hr (k + j) t hj
theorem po_field_bx {s : TypeId} {x : Operand} {f k i off : Nat} (ho : o.op = .fieldAddr s x f) (hx : ρ x = some (.bp i off)) (hk : fieldOff P s f = some k) : PureOp P bx ow o ρ (.bp i (off + k)) := pure_run fun C m g w a he h => by
  obtain ⟨h0, h1⟩ := h x (by simp [ho, Op.operands]) _ hx
  exact ⟨_, by simp only [execOp, ho, h1, Sem.run_bind, run_field hk]; rfl, h0, rfl⟩
theorem sliceSz_spec {t : TypeId} {sz : Nat} (h : sliceSz P t = some sz) : ∃ e i, P.underlying t = some (.slice e) ∧ P.info? e = some i ∧ i.size = sz := by
  unfold sliceSz at h
  split at h
  · rename_i e hu
    cases hi : P.info? e with
    | none => rw [hi] at h; cases h
    | some i => rw [hi] at h; simp at h; exact ⟨e, i, hu, hi, h⟩
  · cases h
theorem po_index {t : TypeId} {x ix : Operand} {y : A} {sz k : Nat} {rows : List (List T)} {row : List T} {n : Int} {ik : IntKind} (ho : o.op = .indexAddr t x ix) (hx : ρ x = some y) (hy : Vw ow y (.sl sz rows)) (hi : ρ ix = some (.t (.v (.int ik n)))) (hT : sliceSz P t = some sz) (hn : n = (k : Int)) (hk : rows[k]? = some row) : PureOp P bx ow o ρ (.t (.tp row)) := pure_run fun C m g w a he h => by
  have h1 : TR m (.sl sz rows) (a.eval x) := hy.ok he (h x (by simp [ho, Op.operands]) _ hx)
  have h2 := tr_v (h ix (by simp [ho, Op.operands]) _ hi)
  obtain ⟨e, i, hu, hie, hs⟩ := sliceSz_spec hT
  generalize hv : a.eval x = v at h1
  have hkl : k < rows.length := (List.getElem?_eq_some_iff.1 hk).1
  cases h1 with
  | sl sz rows A b off cap u hc hm hA hr hu' ht =>
    have hA' := hA (by intro e; subst e; simp at hk)
    subst hA' hn
    have hlt : (k : Int) < (rows.length : Int) := by omega
    refine ⟨.pointer (some ⟨b, off + k * sz, none⟩), ?_, .tp row b (off + k * sz) (fun j => u k j) ?_ ?_⟩
    · simp [execOp, ho, hv, h2, Instr.indexAt, asIntOf, run_underlying hu, sizeOf, typeInfo, hie, hs, hkl, add_mid]
    · intro j t hj
      have := hu' k j row t hk hj
      rw [Nat.add_assoc]; exact this
    · intro j t hj
      exact ht k j row t hk hj
end
end Go.Proofs.YtnclifgiakmmoaaGreat.Sim
