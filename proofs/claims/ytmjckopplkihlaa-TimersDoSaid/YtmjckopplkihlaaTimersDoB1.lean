/- Merged by bundle.py: SimQ, SimR, SimS, SimU, SimV, SimX, SimY, SimW, SimZ, SimDue, SimR24. -/
import Derived.Test.YtmjckopplkihlaaTimersDoB0
import Derived.Test.YtmjckopplkihlaaOwn
import Derived.Lib.SliceRun
import Derived.Test.YtmjckopplkihlaaWAwake24
import Derived.Test.YtmjckopplkihlaaPlDue3
import Derived.Test.YtmjckopplkihlaaPlDue5
/- A logic of states: calls that are lent rows and boxes, or hand back rows of the caller's own: at their places. -/
namespace Go.Proofs.Ytmjckopplkihlaa.Sim
set_option linter.unusedVariables false
set_option linter.unusedSimpArgs false
open Go.RowKit Mem

def chgOf (fw : Nat → Nat) (kp : Nat → Bool) (ow0 : List (Nat × Own)) (j : Nat) : Bool := ow0.any fun r => Nat.beq (fw r.1) j && !(kp r.1)
def bxAft (fb fw : Nat → Nat) (q : Nat → Bool) (bx1 bx : List (Nat × List A)) : List (Nat × List A) := bx1.map (fun p => (fb p.1, p.2.map (A.ren fb fw))) ++ bx.map (fun p => (p.1, p.2.map (A.clr q)))
def owAft (fw : Nat → Nat) (ow0 ow1 ow : List (Nat × Own)) : List (Nat × Own) := ow1.map (fun p => (fw p.1, p.2)) ++ ow.filter (fun p => !(ow0.any fun r => Nat.beq (fw r.1) p.1))
theorem get_append {β : Type} (l1 l2 : List (Nat × β)) (i : Nat) : get (l1 ++ l2) i = match get l1 i with | some x => some x | none => get l2 i := by
  induction l1 with
  | nil => rfl
  | cons p l1 ih =>
    obtain ⟨k, x⟩ := p
    rw [List.cons_append, get_cons, get_cons]
    split
    · rfl
    · exact ih
theorem get_mapv {β γ : Type} (f : β → γ) (l : List (Nat × β)) (i : Nat) : get (l.map fun p => (p.1, f p.2)) i = (get l i).map f := by
  induction l with
  | nil => rfl
  | cons p l ih =>
    obtain ⟨k, x⟩ := p
    rw [List.map_cons, get_cons, get_cons]
    split
    · rfl
    · exact ih
theorem get_filter {β : Type} (f : Nat → Bool) (l : List (Nat × β)) (i : Nat) : get (l.filter fun p => f p.1) i = if f i then get l i else none := by
  induction l with
  | nil => simp [get]
  | cons p l ih =>
    obtain ⟨k, x⟩ := p
    rw [List.filter_cons]
    by_cases hk : k = i
    · subst hk
      cases hf : f k with
      | true => simp [get_cons]
      | false => simp only [hf, Bool.false_eq_true, if_false]; rw [ih, hf]; rfl
    · split
      · rw [get_cons, get_cons, if_neg hk, if_neg hk, ih]
      · rw [get_cons, if_neg hk, ih]
theorem get_ren {β γ : Type} {f : Nat → Nat} (g : β → γ) {l : List (Nat × β)} (hf : ∀ p ∈ l, ∀ r ∈ l, f p.1 = f r.1 → p.1 = r.1) {i : Nat} {x : β} (hi : get l i = some x) : get (l.map fun p => (f p.1, g p.2)) (f i) = some (g x) := by
  induction l with
  | nil => cases hi
  | cons p l ih =>
    obtain ⟨k, y⟩ := p
    rw [get_cons] at hi
    rw [List.map_cons, get_cons]
    by_cases hk : k = i
    · subst hk; rw [if_pos rfl] at hi ⊢; injection hi with hi; rw [hi]
    · rw [if_neg hk] at hi
      rw [if_neg fun e => hk (hf (k, y) (by simp) (i, x) (List.mem_cons_of_mem _ (get_mem hi)) e)]
      exact ih (fun p hp r hr => hf p (List.mem_cons_of_mem _ hp) r (List.mem_cons_of_mem _ hr)) hi
theorem get_ren_none {β γ : Type} {f : Nat → Nat} (g : β → γ) {l : List (Nat × β)} {j : Nat} (h : ∀ i x, get l i = some x → f i ≠ j) : get (l.map fun p => (f p.1, g p.2)) j = none := by
  cases hg : get (l.map fun p => (f p.1, g p.2)) j with
  | none => rfl
  | some y =>
    obtain ⟨p, hp, he⟩ := List.mem_map.1 (get_mem hg)
    obtain ⟨x, hx⟩ := mem_get hp
    injection he with e1 _
    exact absurd e1 (h p.1 x hx)
def injB (f : Nat → Nat) (l : List Nat) : Bool := l.all fun a => l.all fun b => Nat.beq a b || !(Nat.beq (f a) (f b))
theorem injB_spec {f : Nat → Nat} {l : List Nat} (h : injB f l = true) {a b : Nat} (ha : a ∈ l) (hb : b ∈ l) (e : f a = f b) : a = b := by
  have := (List.all_eq_true.1 ((List.all_eq_true.1 h) a ha)) b hb
  rw [Bool.or_eq_true] at this
  rcases this with h1 | h1
  · exact Nat.eq_of_beq_eq_true h1
  · rw [e, show Nat.beq (f b) (f b) = true from Nat.beq_refl _] at h1; cases h1
inductive LentX (fb fw : Nat → Nat) (bx : List (Nat × List A)) : List (Nat × List A) → Prop
  | nil : LentX fb fw bx []
  | cons {i : Nat} {cs cs' : List A} {l : List (Nat × List A)} (h : get bx (fb i) = some cs') (he : cs' = cs.map (A.ren fb fw)) (hl : LentX fb fw bx l) : LentX fb fw bx ((i, cs) :: l)
inductive LentW (fw : Nat → Nat) (ow : List (Nat × Own)) : List (Nat × Own) → Prop
  | nil : LentW fw ow []
  | cons {i : Nat} {o o' : Own} {l : List (Nat × Own)} (h : get ow (fw i) = some o') (he : o' = o) (hl : LentW fw ow l) : LentW fw ow ((i, o) :: l)
theorem LentX.get {fb fw : Nat → Nat} {bx l : List (Nat × List A)} (h : LentX fb fw bx l) {i : Nat} {cs : List A} (hi : get l i = some cs) : get bx (fb i) = some (cs.map (A.ren fb fw)) := by
  induction h with
  | nil => cases hi
  | cons h he _ ih =>
    rw [get_cons] at hi
    split at hi
    · rename_i e; subst e; injection hi with hi; subst hi he; exact h
    · exact ih hi
theorem LentW.get {fw : Nat → Nat} {ow l : List (Nat × Own)} (h : LentW fw ow l) {i : Nat} {o : Own} (hi : get l i = some o) : get ow (fw i) = some o := by
  induction h with
  | nil => cases hi
  | cons h he _ ih =>
    rw [get_cons] at hi
    split at hi
    · rename_i e; subst e; injection hi with hi; subst hi he; exact h
    · exact ih hi
def bnone {β : Type} : Option β → Bool
  | none => true
  | some _ => false
def lendB (fb fw : Nat → Nat) (bx bx0 bx1 : List (Nat × List A)) (ow ow0 ow1 : List (Nat × Own)) : Bool :=
  (bx0.all fun p => Nat.ble 2000 p.1 && (get bx1 p.1).isSome) && (bx1.all fun p => (get bx0 p.1).isSome || (bnone (get bx (fb p.1)) && !(Nat.ble 2000 (fb p.1)))) &&
  (ow1.all fun p => (get ow0 p.1).isSome || (bnone (get ow (fw p.1)) && !(Nat.ble 2000 (fw p.1)))) && (ow1.all fun p => (hid (fw p.1) == hid p.1) && (!(Nat.ble 2000 (fw p.1)) || Nat.ble 2000 p.1)) &&
  (ow0.all fun p => hid p.1 && hid (fw p.1)) && injB fb (bx1.map (·.1)) && injB fw (ow0.map (·.1) ++ ow1.map (·.1))
theorem bnone_spec {β : Type} {x : Option β} (h : bnone x = true) : x = none := by cases x with | none => rfl | some y => cases h
theorem lend_of {fb fw : Nat → Nat} {kp : Nat → Bool} {bx bx0 bx1 : List (Nat × List A)} {ow ow0 ow1 : List (Nat × Own)} (hx : LentX fb fw bx bx0) (hw : LentW fw ow ow0) (hl : (bx0.all fun p => p.2.all fun x => x.live bx0 ow0) = true) (hB : lendB fb fw bx bx0 bx1 ow ow0 ow1 = true)
    (hkp : ∀ i, kp i = true → Nat.ble 2000 i = true ∧ ∃ o0 o1, get ow0 i = some o0 ∧ get ow1 i = some o1 ∧ o1.rows.length = o0.rows.length) : Lend fb fw kp (chgOf fw kp ow0) bx ow bx0 ow0 bx1 ow1 (bxAft fb fw (chgOf fw kp ow0) bx1 bx) (owAft fw ow0 ow1 ow) := by
  unfold lendB at hB
  simp only [Bool.and_eq_true] at hB
  obtain ⟨⟨⟨⟨⟨⟨h1, h2⟩, h3⟩, h4⟩, h5⟩, h6⟩, h7⟩ := hB
  have inB : ∀ p ∈ bx1, ∀ r ∈ bx1, fb p.1 = fb r.1 → p.1 = r.1 := fun p hp r hr e => injB_spec h6 (List.mem_map.2 ⟨p, hp, rfl⟩) (List.mem_map.2 ⟨r, hr, rfl⟩) e
  have inO : ∀ p ∈ ow1, ∀ r ∈ ow1, fw p.1 = fw r.1 → p.1 = r.1 := fun p hp r hr e => injB_spec h7 (List.mem_append.2 (.inr (List.mem_map.2 ⟨p, hp, rfl⟩))) (List.mem_append.2 (.inr (List.mem_map.2 ⟨r, hr, rfl⟩))) e
  have hin : ∀ i o, (get ow0 i = some o ∨ get ow1 i = some o) → i ∈ ow0.map (·.1) ++ ow1.map (·.1) := fun i o h => by
    rcases h with h | h
    · exact List.mem_append.2 (.inl (List.mem_map.2 ⟨_, get_mem h, rfl⟩))
    · exact List.mem_append.2 (.inr (List.mem_map.2 ⟨_, get_mem h, rfl⟩))
  exact {
    hx0 := fun i cs hi => hx.get hi
    hw0 := fun i o hi => by
      have := (List.all_eq_true.1 h5) _ (get_mem hi)
      rw [Bool.and_eq_true] at this
      exact ⟨hw.get hi, this.1, this.2⟩
    hl0 := fun i cs hi x hx => (List.all_eq_true.1 ((List.all_eq_true.1 hl) _ (get_mem hi))) x hx
    hx1 := fun i cs hi => by
      have := (List.all_eq_true.1 h1) _ (get_mem hi)
      rw [Bool.and_eq_true] at this
      exact ⟨this.1, Option.isSome_iff_exists.1 this.2⟩
    hxn := fun i cs hi h0 => by
      have := (List.all_eq_true.1 h2) _ (get_mem hi)
      rw [Bool.or_eq_true, Bool.and_eq_true] at this
      rcases this with h8 | ⟨h8, h9⟩
      · dsimp only at h8; rw [h0] at h8; cases h8
      · exact ⟨bnone_spec h8, by simpa using h9⟩
    hwn := fun i cs hi h0 => by
      have := (List.all_eq_true.1 h3) _ (get_mem hi)
      rw [Bool.or_eq_true, Bool.and_eq_true] at this
      rcases this with h8 | ⟨h8, h9⟩
      · dsimp only at h8; rw [h0] at h8; cases h8
      · exact ⟨bnone_spec h8, by simpa using h9⟩
    hwh := fun i o hi => by
      have := (List.all_eq_true.1 h4) _ (get_mem hi)
      rw [Bool.and_eq_true] at this
      exact beq_iff_eq.1 this.1
    hwp := fun i o hi h0 => by
      have := (List.all_eq_true.1 h4) _ (get_mem hi)
      rw [Bool.and_eq_true, Bool.or_eq_true] at this
      rcases this.2 with h8 | h8
      · dsimp only at h8; rw [h0] at h8; cases h8
      · exact h8
    hbi := fun i j ci cj hi hj e => inB _ (get_mem hi) _ (get_mem hj) e
    hwi := fun i j oi oj hi hj e => injB_spec h7 (hin i oi hi) (hin j oj hj) e
    hkp := hkp
    hq := fun i o hi hk => List.any_eq_true.2 ⟨_, get_mem hi, by rw [Bool.and_eq_true]; exact ⟨Nat.beq_refl _, by simp [hk]⟩⟩
    b1 := fun i cs hi => by unfold bxAft; rw [get_append, get_ren (f := fb) (List.map (A.ren fb fw)) inB hi]
    b2 := fun j hj => by unfold bxAft; rw [get_append, get_ren_none (f := fb) (List.map (A.ren fb fw)) hj]; exact get_mapv _ _ _
    o1 := fun i o hi => by
      unfold owAft
      rw [get_append, get_ren (f := fw) (fun x : Own => x) inO hi]
    o2 := fun j hj hn => by
      unfold owAft
      rw [get_append, get_ren_none (f := fw) (fun x : Own => x) hj]
      refine (get_filter (fun k => !(ow0.any fun r => Nat.beq (fw r.1) k)) ow j).trans ?_
      rw [if_pos]
      cases ha : ow0.any fun r => Nat.beq (fw r.1) j with
      | false => rfl
      | true =>
        obtain ⟨p, hp, h8⟩ := List.any_eq_true.1 ha
        obtain ⟨x, hx⟩ := mem_get hp
        exact absurd (Nat.eq_of_beq_eq_true h8) (hn _ _ hx)
    o3 := fun j i o hi he hj => by
      unfold owAft
      rw [get_append, get_ren_none (f := fw) (fun x : Own => x) hj]
      refine (get_filter (fun k => !(ow0.any fun r => Nat.beq (fw r.1) k)) ow j).trans ?_
      rw [if_neg]
      rw [Bool.not_eq_true, Bool.not_eq_false']
      exact List.any_eq_true.2 ⟨_, get_mem hi, by subst he; exact Nat.beq_refl _⟩ }
/-- what operands hold, in the callee's numbers -/
inductive ArgsL (fb fw : Nat → Nat) (ow : List (Nat × Own)) (bx0 : List (Nat × List A)) (ow0 : List (Nat × Own)) (ρ : Operand → Option A) : List Operand → List A → Prop
  | nil : ArgsL fb fw ow bx0 ow0 ρ [] []
  | cons {x : Operand} {y a : A} {xs : List Operand} {zs : List A} (h : ρ x = some y) (he : y = a.ren fb fw) (hv : a.live bx0 ow0 = true) (hl : ArgsL fb fw ow bx0 ow0 ρ xs zs) : ArgsL fb fw ow bx0 ow0 ρ (x :: xs) (a :: zs)
  | vw {x : Operand} {y : A} {t : T} {xs : List Operand} {zs : List A} (h : ρ x = some y) (ht : Vw ow y t) (hl : ArgsL fb fw ow bx0 ow0 ρ xs zs) : ArgsL fb fw ow bx0 ow0 ρ (x :: xs) (.t t :: zs)
section
variable {P : Program} {N : Nat} {Q : Exit → St → Prop} {ops : Array Oper} {rest : List Oper} {o : Oper} {tm : List (Nat × A)} {bx bx0 bx1 : List (Nat × List A)} {ow ow0 ow1 : List (Nat × Own)} {fb fw : Nat → Nat} {kp : Nat → Bool}
theorem ArgsL.ok {C : Ctx} {w : World} {m : Mm} {g : Gh} {q : Nat → Bool} {bx' : List (Nat × List A)} {ow' : List (Nat × Own)} {xs : List Operand} {zs : List A} {ρ : Operand → Option A} (h : ArgsL fb fw ow bx0 ow0 ρ xs zs) (hL : Lend fb fw kp q bx ow bx0 ow0 bx1 ow1 bx' ow') (he : EnvG C bx ow w m g) {a : Act} (ha : ∀ x ∈ xs, ∀ y, ρ x = some y → AR m g y (a.eval x)) :
    xs.length = zs.length ∧ ∀ (i : Nat) x v, zs[i]? = some x → (xs.map a.eval)[i]? = some v → AR m (g.sub fb fw bx0 ow0) x v := by
  induction h with
  | nil => exact ⟨rfl, fun i t v h => by simp at h⟩
  | @cons x y z xs zs h hy hv hl ih =>
    obtain ⟨h1, h2⟩ := ih fun x hx => ha x (by simp [hx])
    refine ⟨by simp [h1], fun i t' v h3 h4 => ?_⟩
    cases i with
    | zero =>
      simp at h3 h4; subst h3 h4
      refine hL.ren_in he hv ?_
      rw [← hy]; exact ha x (by simp) y h
    | succ i => simp at h3; exact h2 i t' v h3 (by simpa using h4)
  | @vw x y t xs zs h ht hl ih =>
    obtain ⟨h1, h2⟩ := ih fun x hx => ha x (by simp [hx])
    refine ⟨by simp [h1], fun i t' v h3 h4 => ?_⟩
    cases i with
    | zero =>
      simp at h3 h4; subst h3 h4
      exact ht.ok he (ha x (by simp) _ h)
    | succ i => simp at h3; exact h2 i t' v h3 (by simpa using h4)
/-- a call with rows and boxes lent -/
theorem sops_lcall {f : FuncId} {xs : List Operand} {at_ : Array TypeId} {args : List A} {r : A} {d : Nat} (hc : LCalls P f args bx0 ow0 r bx1 ow1) (fb fw : Nat → Nat) (kp : Nat → Bool) (hg : GuardIs ops tm o true) (ho : o.op = .call { callee := .value (.func f), args := xs.toArray, argTypes := at_ }) (hd : o.dst = some d) (hN : Nat.blt d N = true)
    (ha : ArgsL fb fw ow bx0 ow0 (evA tm) xs args) (hx : LentX fb fw bx bx0) (hw : LentW fw ow ow0) (hl : (bx0.all fun p => p.2.all fun x => x.live bx0 ow0) = true) (hB : lendB fb fw bx bx0 bx1 ow ow0 ow1 = true)
    (hkp : ∀ i, kp i = true → Nat.ble 2000 i = true ∧ ∃ o0 o1, get ow0 i = some o0 ∧ get ow1 i = some o1 ∧ o1.rows.length = o0.rows.length)
    (h : SOps P N ops Q rest ⟨(d, r.ren fb fw) :: tm.map (fun p => (p.1, p.2.clr (chgOf fw kp ow0))), bxAft fb fw (chgOf fw kp ow0) bx1 bx, owAft fw ow0 ow1 ow⟩) : SOps P N ops Q (o :: rest) ⟨tm, bx, ow⟩ := by
  have hL := lend_of (kp := kp) hx hw hl hB hkp
  refine .mk fun C a w ⟨m, g, hr⟩ => ?_
  obtain ⟨h1, h2⟩ := ha.ok hL hr.env (a := a) (fun x _ y hy => hr.ev hy)
  have hrun : (execOp a.eval o).run P w = .ok (.enter f (xs.map a.eval).toArray) w := by
    have := hc.ent (xs.map a.eval).toArray w
    simp only [execOp, ho, resolve, Deferred.ofValue, Act.eval, invoke, Sem.run_bind, Sem.run_pure, Result.andThen_ok, List.map_toArray, Array.append_empty, Array.empty_append, Array.append_eq_append, List.append_nil, List.nil_append] at this ⊢
    simpa using this
  refine wpList_step fun K hK => ?_
  rw [if_pos (hg.wanted (m := m) (g := g) fun j want e _ _ y hy => hr.tmps e y hy)]
  refine wp_call_of hrun (hc.run m w _ _ (hL.env_in hr.env) (by simp [h1]) (fun i x v h3 h4 => h2 i x v h3 (by simpa using h4))) ?_
  rintro e w' ⟨v, m', g', rfl, henv, hv⟩
  obtain ⟨g'', e1, e2, e3⟩ := hL.env_out hr.env henv
  refine ⟨v, rfl, hK _ _ (h.go C _ _ ⟨m', g'', ?_⟩)⟩
  rw [hd]
  have hrel : RelG C N ⟨tm.map (fun p => (p.1, p.2.clr (chgOf fw kp ow0))), bxAft fb fw (chgOf fw kp ow0) bx1 bx, owAft fw ow0 ow1 ow⟩ a w' m' g'' := ⟨e1, hr.size, hr.defers, fun s x hx => by
    rw [show get (tm.map fun p => (p.1, p.2.clr (chgOf fw kp ow0))) s = _ from get_mapv _ _ _] at hx
    cases h5 : get tm s with
    | none => rw [h5] at hx; cases hx
    | some y => rw [h5] at hx; injection hx with hx; subst hx; exact e2 y _ (hr.tmps s y h5)⟩
  exact hrel.put e1 (fun x v h => h) (Nat.lt_of_succ_le (Nat.le_of_ble_eq_true hN)) (e3 r v hv)
/-- the same, through a value -/
theorem sops_lcall_clo {f : FuncId} {xz : Operand} {caps : List A} {xs : List Operand} {at_ : Array TypeId} {args caps0 : List A} {r : A} {d : Nat} (hc : LCalls P f (args ++ caps0) bx0 ow0 r bx1 ow1) (fb fw : Nat → Nat) (kp : Nat → Bool) (hg : GuardIs ops tm o true) (ho : o.op = .call { callee := .value xz, args := xs.toArray, argTypes := at_ }) (hd : o.dst = some d) (hN : Nat.blt d N = true)
    (hz : evA tm xz = some (.cl f caps)) (hcp : caps = caps0.map (A.ren fb fw)) (hcl : (caps0.all fun x => x.live bx0 ow0 && x.isLf) = true)
    (ha : ArgsL fb fw ow bx0 ow0 (evA tm) xs args) (hx : LentX fb fw bx bx0) (hw : LentW fw ow ow0) (hl : (bx0.all fun p => p.2.all fun x => x.live bx0 ow0) = true) (hB : lendB fb fw bx bx0 bx1 ow ow0 ow1 = true)
    (hkp : ∀ i, kp i = true → Nat.ble 2000 i = true ∧ ∃ o0 o1, get ow0 i = some o0 ∧ get ow1 i = some o1 ∧ o1.rows.length = o0.rows.length)
    (h : SOps P N ops Q rest ⟨(d, r.ren fb fw) :: tm.map (fun p => (p.1, p.2.clr (chgOf fw kp ow0))), bxAft fb fw (chgOf fw kp ow0) bx1 bx, owAft fw ow0 ow1 ow⟩) : SOps P N ops Q (o :: rest) ⟨tm, bx, ow⟩ := by
  have hL := lend_of (kp := kp) hx hw hl hB hkp
  refine .mk fun C a w ⟨m, g, hr⟩ => ?_
  obtain ⟨h1, h2⟩ := ha.ok hL hr.env (a := a) (fun x _ y hy => hr.ev hy)
  obtain ⟨vs, hvz, hvl, hvc⟩ := hr.ev hz
  subst hcp
  have hrun : (execOp a.eval o).run P w = .ok (.enter f ((xs.map a.eval).toArray ++ vs)) w := by
    have := hc.ent ((xs.map a.eval).toArray ++ vs) w
    simp only [execOp, ho, resolve, Deferred.ofValue, hvz, invoke, Sem.run_bind, Sem.run_pure, Result.andThen_ok, List.map_toArray, Array.append_empty, Array.empty_append] at this ⊢
    simpa using this
  refine wpList_step fun K hK => ?_
  rw [if_pos (hg.wanted (m := m) (g := g) fun j want e _ _ y hy => hr.tmps e y hy)]
  refine wp_call_of hrun (hc.run m w _ _ (hL.env_in hr.env) (by simp [h1, hvl]) (fun i x v h3 h4 => ?_)) ?_
  · rw [List.getElem?_append] at h3
    rw [Array.getElem?_append] at h4
    by_cases hi : i < args.length
    · rw [if_pos hi] at h3
      rw [if_pos (by simp; omega)] at h4
      exact h2 i x v h3 (by simpa using h4)
    · rw [if_neg hi] at h3
      rw [if_neg (by simp; omega)] at h4
      have h5 := (List.all_eq_true.1 hcl) x (List.mem_of_getElem? h3)
      rw [Bool.and_eq_true] at h5
      refine hL.ren_in hr.env h5.1 ?_
      have h6 := hvc (i - args.length) (x.ren fb fw) v (by rw [List.getElem?_map, h3]; rfl) (by rw [← h1]; simpa using h4)
      exact h6.two
  rintro e w' ⟨v, m', g', rfl, henv, hv⟩
  obtain ⟨g'', e1, e2, e3⟩ := hL.env_out hr.env henv
  refine ⟨v, rfl, hK _ _ (h.go C _ _ ⟨m', g'', ?_⟩)⟩
  rw [hd]
  have hrel : RelG C N ⟨tm.map (fun p => (p.1, p.2.clr (chgOf fw kp ow0))), bxAft fb fw (chgOf fw kp ow0) bx1 bx, owAft fw ow0 ow1 ow⟩ a w' m' g'' := ⟨e1, hr.size, hr.defers, fun s x hx => by
    rw [show get (tm.map fun p => (p.1, p.2.clr (chgOf fw kp ow0))) s = _ from get_mapv _ _ _] at hx
    cases h5 : get tm s with
    | none => rw [h5] at hx; cases hx
    | some y => rw [h5] at hx; injection hx with hx; subst hx; exact e2 y _ (hr.tmps s y h5)⟩
  exact hrel.put e1 (fun x v h => h) (Nat.lt_of_succ_le (Nat.le_of_ble_eq_true hN)) (e3 r v hv)
end
end Go.Proofs.Ytmjckopplkihlaa.Sim

/- A logic of states: rows that are the call's alone: shown, shortened, cleared, counted. -/
namespace Go.Proofs.Ytmjckopplkihlaa.Sim
set_option linter.unusedVariables false
set_option linter.unusedSimpArgs false
open Go.RowKit Mem

def mv0 (i j : Nat) : A → A
  | .own k n => bif Nat.beq k i then .own j n else .own k n
  | .oe k n sz kk off => bif Nat.beq k i then .oe j n sz kk off else .oe k n sz kk off
  | .sfx k n sz kk => bif Nat.beq k i then .sfx j n sz kk else .sfx k n sz kk
  | x => x
def A.mv (i j : Nat) (x : A) : A := x.mapA (mv0 i j)
theorem get_map2 {l : List (Nat × List A)} (f : A → A) (i : Nat) : get (l.map fun p => (p.1, p.2.map f)) i = (get l i).map (List.map f) := get_mapv _ _ _
theorem allt (x : A) : x.allP (fun _ => true) = true := by
  cases x <;> simp [A.allP, A.all1]
  intro y _; cases y <;> simp [A.all1]
section
variable {C : Ctx} {bx : List (Nat × List A)} {ow : List (Nat × Own)} {w : World} {m : Mm} {g : Gh}
/-- a row under another number, seen from now on -/
theorem EnvG.show_ (he : EnvG C bx ow w m g) {i j : Nat} {o : Own} (hi : get ow i = some o) (hh : hid i = true) (h2 : Nat.ble 2000 j = false) (hj : get ow j = none) :
    ∃ m' g', EnvG C (bx.map fun p => (p.1, p.2.map (A.mv i j))) ((j, o) :: ow.filter (fun p => !(Nat.beq p.1 i))) w m' g' ∧ ∀ x v, AR m g x v → AR m' g' (x.mv i j) v := by
  obtain ⟨vs, hown, hrl, hca, hbk⟩ := he.owns i o hi
  have hij : j ≠ i := fun e => by subst e; rw [hi] at hj; cases hj
  have hmb : ∀ b, (g.go i).ownBlock = some b → ∀ k, m b k = none := fun b hb k => by rw [(hbk b hb).1 k, vis_hid hh]; rfl
  have hext : ∀ b k v, m b k = some v → rowm m (g.go i) (vis j vs) b k = some v := fun b k v hv => by
    unfold rowm
    split
    · rename_i hb; rw [hmb b hb k] at hv; cases hv
    · exact hv
  let g' : Gh := { g with go := fun k => if k = j then g.go i else g.go k, ln := fun k => if k = j then g.ln i else g.ln k, lw := fun k => if k = j then true else if k = i then false else g.lw k }
  have hgo : ∀ k, k ≠ j → g'.go k = g.go k ∧ g'.ln k = g.ln k := fun k hk => ⟨if_neg hk, if_neg hk⟩
  have hgj : g'.go j = g.go i ∧ g'.ln j = g.ln i := ⟨if_pos rfl, if_pos rfl⟩
  have hget : ∀ k, get ((j, o) :: ow.filter (fun p => !(Nat.beq p.1 i))) k = if j = k then some o else if k = i then none else get ow k := fun k => by
    rw [get_cons]
    split
    · rfl
    · refine (get_filter (fun k => !(Nat.beq k i)) ow k).trans ?_
      by_cases hk : k = i
      · subst hk; rw [if_pos rfl, if_neg]; rw [show Nat.beq k k = true from Nat.beq_refl _]; simp
      · rw [if_neg hk, if_pos]
        cases hb : Nat.beq k i with
        | true => exact absurd (Nat.eq_of_beq_eq_true hb) hk
        | false => rfl
  have hlj : ∀ k, g.lw k = true → k ≠ j := fun k hk e => by subst e; rw [he.lw, hj] at hk; cases hk
  have L0 : ∀ x v, AR0 m g x v → AR0 (rowm m (g.go i) (vis j vs)) g' (mv0 i j x) v := by
    intro x v hx
    cases x with
    | t x => exact TR.mono hext hx
    | own k n =>
      obtain ⟨h1, h2, h3, h4⟩ := hx
      show AR0 _ g' (bif Nat.beq k i then .own j n else .own k n) v
      cases hb : Nat.beq k i with
      | true =>
        obtain rfl := Nat.eq_of_beq_eq_true hb
        exact ⟨if_pos rfl, by rw [hgj.2]; exact h2, h3, by rw [hgj.1, hgj.2]; exact h4⟩
      | false =>
        have hk := hlj k h1
        exact ⟨by show (if k = j then true else if k = i then false else g.lw k) = true; rw [if_neg hk, if_neg (Nat.ne_of_beq_eq_false hb)]; exact h1, by rw [(hgo k hk).2]; exact h2, h3, by rw [(hgo k hk).1, (hgo k hk).2]; exact h4⟩
    | oe k n sz kk off =>
      obtain ⟨h1, h2, h3, h4⟩ := hx
      show AR0 _ g' (bif Nat.beq k i then .oe j n sz kk off else .oe k n sz kk off) v
      cases hb : Nat.beq k i with
      | true =>
        obtain rfl := Nat.eq_of_beq_eq_true hb
        exact ⟨if_pos rfl, by rw [hgj.2]; exact h2, h3, by rw [hgj.1, hgj.2]; exact h4⟩
      | false =>
        have hk := hlj k h1
        exact ⟨by show (if k = j then true else if k = i then false else g.lw k) = true; rw [if_neg hk, if_neg (Nat.ne_of_beq_eq_false hb)]; exact h1, by rw [(hgo k hk).2]; exact h2, h3, by rw [(hgo k hk).1, (hgo k hk).2]; exact h4⟩
    | sfx k n sz kk =>
      obtain ⟨h1, h2, h3, h4⟩ := hx
      show AR0 _ g' (bif Nat.beq k i then .sfx j n sz kk else .sfx k n sz kk) v
      cases hb : Nat.beq k i with
      | true =>
        obtain rfl := Nat.eq_of_beq_eq_true hb
        exact ⟨if_pos rfl, by rw [hgj.2]; exact h2, h3, by rw [hgj.1, hgj.2]; exact h4⟩
      | false =>
        have hk := hlj k h1
        exact ⟨by show (if k = j then true else if k = i then false else g.lw k) = true; rw [if_neg hk, if_neg (Nat.ne_of_beq_eq_false hb)]; exact h1, by rw [(hgo k hk).2]; exact h2, h3, by rw [(hgo k hk).1, (hgo k hk).2]; exact h4⟩
    | _ => exact hx
  have L : ∀ x v, AR m g x v → AR (rowm m (g.go i) (vis j vs)) g' (x.mv i j) v := fun x v hx => hx.mp _ (fun _ => true) (fun x v _ => L0 x v) (allt x)
  have hbx : ∀ k cs, get bx k = some cs → (g.go i).ownBlock ≠ some (g.gb k) := fun k cs hk e => (hbk _ e).2.1 k cs hk rfl
  refine ⟨rowm m (g.go i) (vis j vs), g', {
    lo := he.lo
    gm := he.gm
    sub := fun b k v hv => by
      unfold rowm at hv
      split at hv
      · rename_i hb
        have := hown.cells hb k v (vis_get hv)
        rwa [addr_add, Nat.zero_add] at this
      · exact he.sub b k v hv
    ext := ⟨fun b k v hv => hext b k v (he.ext.keep b k v hv), fun b k hb hg => by
      unfold rowm
      split
      · rename_i hbb
        rcases (hbk b hbb).2.2 with h | h
        · omega
        · rw [hg] at h; cases h
      · exact he.ext.old b k hb hg⟩
    lb := fun k => by rw [get_map2]; rw [show (Option.map (List.map (A.mv i j)) (get bx k)).isSome = (get bx k).isSome by cases get bx k <;> rfl]; exact he.lb k
    lw := fun k => by
      rw [hget]
      show (if k = j then true else if k = i then false else g.lw k) = _
      by_cases hk : k = j
      · subst hk; rw [if_pos rfl, if_pos rfl]; rfl
      · have hk' : ¬ j = k := fun e => hk e.symm
        rw [if_neg hk, if_neg hk']
        split
        · rfl
        · exact he.lw k
    ln := fun k o' hk => by
      rw [hget] at hk
      by_cases hkj : k = j
      · subst hkj; rw [if_pos rfl] at hk; injection hk with hk; subst hk; rw [hgj.2]; exact he.ln i _ hi
      · have hkj' : ¬ j = k := fun e => hkj e.symm
        rw [if_neg hkj'] at hk
        split at hk
        · cases hk
        · rw [(hgo k hkj).2]; exact he.ln k o' hk
    boxes := fun k cs hk => by
      rw [get_map2] at hk
      cases hc : get bx k with
      | none => rw [hc] at hk; cases hk
      | some c0 =>
        rw [hc] at hk; injection hk with hk; subst hk
        obtain ⟨us, ty, h1, h2, h3, h4, h5⟩ := he.boxes k c0 hc
        refine ⟨us, ty, h1, by simpa using h2, fun q x u hx hu => ?_, h4, fun o => ?_⟩
        · rw [List.getElem?_map] at hx
          cases hq : c0[q]? with
          | none => rw [hq] at hx; cases hx
          | some y => rw [hq] at hx; injection hx with hx; subst hx; exact ⟨L y u (h3 q y u hq hu).1, (h3 q y u hq hu).2⟩
        · show rowm m (g.go i) (vis j vs) (g.gb k) o = none
          unfold rowm
          rw [if_neg (hbx k c0 hc)]; exact h5 o
    inj := fun p q cp cq hp hq e => by
      rw [get_map2] at hp hq
      cases hc : get bx p with
      | none => rw [hc] at hp; cases hp
      | some c0 =>
        cases hc2 : get bx q with
        | none => rw [hc2] at hq; cases hq
        | some c2 => exact he.inj p q c0 c2 hc hc2 e
    owns := fun k o' hk => by
      have hbxx : ∀ b : Nat, ∀ q cs, get (bx.map fun p => (p.1, p.2.map (A.mv i j))) q = some cs → ∃ c0, get bx q = some c0 := fun b q cs hq => by
        rw [get_map2] at hq
        cases hc : get bx q with
        | none => rw [hc] at hq; cases hq
        | some c0 => exact ⟨c0, rfl⟩
      rw [hget] at hk
      by_cases hkj : k = j
      · subst hkj
        rw [if_pos rfl] at hk; injection hk with hk; subst hk
        rw [hgj.1]
        refine ⟨vs, hown, hrl, hca.mono hext, fun b hb => ⟨fun q => ?_, fun q cs hq => ?_, (hbk b hb).2.2⟩⟩
        · unfold rowm; rw [if_pos hb]
        · obtain ⟨c0, h1⟩ := hbxx b q cs hq
          exact (hbk b hb).2.1 q c0 h1
      · have hkj' : ¬ j = k := fun e => hkj e.symm
        rw [if_neg hkj'] at hk
        by_cases hki : k = i
        · rw [if_pos hki] at hk; cases hk
        · rw [if_neg hki] at hk
          rw [(hgo k hkj).1]
          obtain ⟨us, h1, h2, h3, h4⟩ := he.owns k o' hk
          refine ⟨us, h1, h2, h3.mono hext, fun b hb => ⟨fun q => ?_, fun q cs hq => ?_, (h4 b hb).2.2⟩⟩
          · unfold rowm
            rw [if_neg (fun e => he.apart i k o o' hi hk (fun e => hki e.symm) b e hb)]; exact (h4 b hb).1 q
          · obtain ⟨c0, h5⟩ := hbxx b q cs hq
            exact (h4 b hb).2.1 q c0 h5
    apart := fun p q op oq hp hq hpq b hb => by
      rw [hget] at hp hq
      by_cases hpj : p = j
      · subst hpj
        rw [hgj.1] at hb
        rw [if_neg hpq] at hq
        split at hq
        · cases hq
        · rename_i hqi
          rw [(hgo q (fun e => hpq e.symm)).1]
          exact he.apart i q o oq hi hq (fun e => hqi e.symm) b hb
      · rw [if_neg (fun e => hpj e.symm)] at hp
        split at hp
        · cases hp
        · rename_i hpi
          rw [(hgo p hpj).1] at hb
          by_cases hqj : q = j
          · subst hqj; rw [hgj.1]; exact he.apart p i op o hp hi hpi b hb
          · rw [if_neg (fun e => hqj e.symm)] at hq
            split at hq
            · cases hq
            · rw [(hgo q hqj).1]; exact he.apart p q op oq hp hq hpq b hb
    pin := fun k o' hk hk2 => by
      rw [hget] at hk
      by_cases hkj : k = j
      · subst hkj; rw [h2] at hk2; cases hk2
      · have hkj' : ¬ j = k := fun e => hkj e.symm
        rw [if_neg hkj'] at hk
        split at hk
        · cases hk
        · rw [(hgo k hkj).1]; exact he.pin k o' hk hk2
    pinb := fun k cs hk hk2 => by
      rw [get_map2] at hk
      cases hc : get bx k with
      | none => rw [hc] at hk; cases hk
      | some c0 => exact he.pinb k c0 hc hk2 }, L⟩
end
theorem weak_show {N : Nat} {tm : List (Nat × A)} {bx : List (Nat × List A)} {ow : List (Nat × Own)} (i j : Nat) {o : Own} (hi : get ow i = some o) (hh : hid i = true) (h2 : Nat.ble 2000 j = false) (hj : get ow j = none) :
    Weak N ⟨tm, bx, ow⟩ ⟨tm.map fun p => (p.1, p.2.mv i j), bx.map fun p => (p.1, p.2.map (A.mv i j)), (j, o) :: ow.filter (fun p => !(Nat.beq p.1 i))⟩ := .mk fun C a w ⟨m, g, hr⟩ => by
  obtain ⟨m', g', h3, h4⟩ := hr.env.show_ hi hh h2 hj
  refine ⟨m', g', h3, hr.size, hr.defers, fun s x hx => ?_⟩
  rw [show get (tm.map fun p => (p.1, p.2.mv i j)) s = _ from get_mapv _ _ _] at hx
  cases h5 : get tm s with
  | none => rw [h5] at hx; cases hx
  | some y => rw [h5] at hx; injection hx with hx; subst hx; exact h4 y _ (hr.tmps s y h5)

section
variable {P : Program} {N : Nat} {Q : Exit → St → Prop} {ops : Array Oper} {rest : List Oper} {o : Oper} {tm : List (Nat × A)} {bx : List (Nat × List A)} {ow : List (Nat × Own)} {ρ : Operand → Option A}
theorem po_len_own {x : Operand} {i n : Nat} {t : TypeId} (ho : o.op = .call { callee := .builtin .len, args := #[x], argTypes := #[t] }) (hx : ρ x = some (.own i n)) {sz : Nat} (hT : sliceSz P t = some sz) : PureOp P bx ow o ρ (.t (.v (.int .i64 (n : Int)))) := pure_run fun C m g w a he h => by
  obtain ⟨_, _, ⟨A, c, h1⟩, _⟩ := h x (by simp [ho, Op.operands, Call.operands]) _ hx
  obtain ⟨e, ii, hu, _⟩ := sliceSz_spec hT
  refine ⟨.int .i64 n, ?_, .v _⟩
  simp [execOp, ho, resolve, invoke, builtin, h1, Builtin.len_, Builtin.lenOf, run_underlying hu, goInt]
/-- what stands behind in a row of the call's own -/
theorem po_slice_sfx {t e sz l : Nat} {x q : Operand} {i n : Nat} {ik : IntKind} {rows : List (List T)} (ho : o.op = .slice t x (some q) none none) (hx : ρ x = some (.own i n)) (hi : get ow i = some ⟨e, sz, rows⟩) (hn : n = rows.length) (hT : sliceSz P t = some sz) (hq : ρ q = some (.t (.v (.int ik l)))) (hl : l ≤ n) (h0 : 0 < n) : PureOp P bx ow o ρ (.sfx i n sz l) := pure_run fun C m g w a he h => by
  obtain ⟨h1, h2, h3, h4⟩ := h x (by simp [ho, Op.operands]) _ hx
  have h5 := tr_v (h q (by simp [ho, Op.operands]) _ hq)
  have hln := he.ln i _ hi
  have hv := h4 (by rw [hln]; exact hn)
  obtain ⟨e', ii, hu, hie, hs⟩ := sliceSz_spec hT
  obtain ⟨vs, hown, _⟩ := he.owns i _ hi
  dsimp only at hown
  obtain ⟨b, cap, cur, e1, _, _, e4, _⟩ := own_form hown (by omega)
  rw [e1] at hv
  have c1 : (l : Int) ≤ (n : Int) := by omega
  have hrun : (execOp a.eval o).run P w = .ok (.value (.slice (if cap = l then some ⟨b, 0, none⟩ else some ⟨b, l * sz, none⟩) (n - l) (cap - l))) w := by
    subst hn
    by_cases hcl : cap = l <;> simp [execOp, ho, hv, h5, Instr.sliceAt, run_underlying hu, Instr.slice, Instr.sliceBounds, Instr.sliceBound, asIntOf, sizeOf, typeInfo, hie, hs, c1, hl, hcl, add_mid]
  exact ⟨_, hrun, h1, h2, ⟨_, _, rfl⟩, fun _ => ⟨b, cap, by rw [e1, hn], rfl⟩⟩
theorem zero_flat (z : Array Value) (n : Nat) (h0 : 0 < z.size) : (Builtin.zeroCells z n).toList = (List.replicate n z.toList).flatten := by
  have hr : ∀ r ∈ List.replicate n z.toList, r.length = z.size := fun r hr => by rw [List.eq_of_mem_replicate hr]; simp
  have key : ∀ (n j : Nat), j < n * z.size → (List.replicate n z.toList).flatten[j]? = z[j % z.size]? := by
    intro n
    induction n with
    | zero => intro j hj; omega
    | succ n ih =>
      intro j hj
      rw [List.replicate_succ, List.flatten_cons]
      by_cases hlt : j < z.size
      · rw [List.getElem?_append_left (by simpa using hlt), Nat.mod_eq_of_lt hlt]; simp
      · rw [List.getElem?_append_right (by simp; omega), show z.toList.length = z.size by simp, ih (j - z.size) (by rw [Nat.succ_mul] at hj; omega), ← Nat.mod_eq_sub_mod (show z.size ≤ j by omega)]
  refine List.ext_getElem? fun j => ?_
  by_cases hj : j < n * z.size
  · rw [key n j hj]
    have hm : j % z.size < z.size := Nat.mod_lt _ h0
    simp [Builtin.zeroCells, hj, hm]
  · have h1 : (Builtin.zeroCells z n).toList.length = n * z.size := by simp [size_zeroCells]
    rw [List.getElem?_eq_none (by omega), List.getElem?_eq_none]
    have : (List.replicate n z.toList).flatten.length = n * z.size := by simp
    omega
theorem flat_take {α : Type} {sz : Nat} {rows : List (List α)} (hr : ∀ r ∈ rows, r.length = sz) (k : Nat) : (rows.take k).flatten = rows.flatten.take (k * sz) := by
  induction rows generalizing k with
  | nil => simp
  | cons r rs ih =>
    cases k with
    | zero => simp
    | succ k =>
      have hq := hr r (by simp)
      rw [List.take_succ_cons, List.flatten_cons, List.flatten_cons, ih (fun x hx => hr x (by simp [hx])), Nat.succ_mul, List.take_append, List.take_of_length_le (show r.length ≤ k * sz + sz by omega)]
      congr 2; omega
/-- a row's end cleared -/
theorem sops_clear {t e sz by_ : Nat} {x : Operand} {i n k : Nat} {rows : List (List T)} {zs : List Value} (hh : hid i = true) (hg : GuardIs ops tm o true) (ho : o.op = .call { callee := .builtin .clear, args := #[x], argTypes := #[t] }) (hd : o.dst = none) (hx : evA tm x = some (.sfx i n sz k)) (hi : get ow i = some ⟨e, sz, rows⟩) (hn : n = rows.length) (hk : k < n)
    (hT : sliceE P t = some (e, sz, by_)) (hz : ((P.info? e).bind (·.zero)).map (fun z => z.cells.toList) = some zs) (h1 : (zs.all fun v => v.oneCell') = true)
    (h : SOps P N ops Q rest ⟨tm, bx, (i, ⟨e, sz, rows.take k ++ List.replicate (rows.length - k) (zs.map T.v)⟩) :: ow⟩) : SOps P N ops Q (o :: rest) ⟨tm, bx, ow⟩ := by
  refine .mk fun C a w ⟨m, g, hr⟩ => ?_
  obtain ⟨_, _, _, h4⟩ := hr.ev hx
  have he := hr.env
  obtain ⟨b, cap, h5, h6⟩ := h4 (by rw [he.ln i _ hi]; exact hn)
  obtain ⟨ii, z, hu, hie, hzz, hsz, _, hzs, hpos⟩ := sliceE_spec hT
  have hzl : z.cells.toList = zs := by rw [hie] at hz; simp [hzz] at hz; exact hz
  obtain ⟨vs, hown, hrr, hc, hbk⟩ := he.owns i _ hi
  dsimp only at hown hrr hc
  obtain ⟨b', cap', cur, e1, e2, e3, e4, e5, e6, e7⟩ := own_form hown (by omega)
  rw [h5] at e1; injection e1 with e1 _ e8; injection e1 with e1; injection e1 with e1; subst e1 e8
  have hkc : cap ≠ k := by omega
  rw [if_neg hkc] at h6
  have hks : k * sz + (n - k) * sz = n * sz := by rw [← Nat.add_mul]; congr 1; omega
  have hns : n * sz ≤ cur.size := by rw [e6]; exact Nat.mul_le_mul_right _ (by omega)
  have hzc : (Builtin.zeroCells z.cells (n - k)).toList = (List.replicate (n - k) zs).flatten := by rw [zero_flat _ _ (by omega), hzl]
  have hone : ∀ u ∈ (Builtin.zeroCells z.cells (n - k)).toList, u.oneCell' = true := fun u hu' => by
    rw [hzc] at hu'
    obtain ⟨r, h7, h8⟩ := List.mem_flatten.1 hu'
    rw [List.eq_of_mem_replicate h7] at h8
    exact (List.all_eq_true.1 h1) u h8
  have hrun := run_clear_row (P := P) (w := w) t e o.type ii z hu hie hzz b (k * sz) (n - k) (cap - k) (by omega) cur e e3 (by rw [hzs]; omega) hone
  have hexec : (execOp a.eval o).run P w = .ok (.value (.tuple #[])) (w.setRow b (cur.toList.take (k * sz) ++ (Builtin.zeroCells z.cells (n - k)).toList ++ cur.toList.drop (k * sz + (Builtin.zeroCells z.cells (n - k)).toList.length)).toArray) := by
    simp only [execOp, ho, resolve, invoke, builtin, Sem.run_bind, Sem.run_pure, Result.andThen_ok, List.map_toArray, List.map_cons, List.map_nil, h6, hrun]
  refine wpList_step fun K hK => ?_
  rw [if_pos (hg.wanted (m := m) (g := g) fun j want e _ _ y hy => hr.tmps e y hy)]
  refine wp_of_run hexec (hK _ _ (h.go C _ _ ⟨m, g, ?_⟩))
  rw [hd]
  have hzll : (Builtin.zeroCells z.cells (n - k)).toList.length = (n - k) * sz := by simp [size_zeroCells, hzs]
  have hzsl : zs.length = sz := by rw [← hzl]; simpa using hzs
  have hrz : ∀ r ∈ List.replicate (rows.length - k) (zs.map T.v), r.length = sz := fun r hr' => by rw [List.eq_of_mem_replicate hr']; simp [hzsl]
  have hpl : (cur.toList.take (k * sz)).length = k * sz := by simp; omega
  have hcell : CellsAre m (rows.take k ++ List.replicate (rows.length - k) (zs.map T.v)).flatten (vs.take (k * sz) ++ (Builtin.zeroCells z.cells (n - k)).toList) := by
    rw [List.flatten_append, flat_take hrr]
    refine (hc.take _).app ?_
    rw [hzc, hn]
    have : (List.replicate (rows.length - k) (zs.map T.v)).flatten = ((List.replicate (rows.length - k) zs).flatten).map T.v := by rw [List.map_flatten, List.map_replicate]
    rw [this]
    refine ⟨by simp, fun j t v h7 h8 => ?_⟩
    rw [List.getElem?_map, h8] at h7
    simp at h7; subst h7
    exact ⟨.v _, hone v (by rw [hzc, hn]; exact List.mem_of_getElem? h8)⟩
  refine hr.put_none (he.setE (b := b) (cap := cap) (cur := cur) hh hi (by simp; omega) (by rw [h5, hn]) e3 (fun r hr' => ?_) hcell ?_ ?_) (fun x v h => h)
  · rcases List.mem_append.1 hr' with hr' | hr'
    · exact hrr r (List.mem_of_mem_take hr')
    · exact hrz r hr'
  · have h9 : cur.toList.length = cur.size := by simp
    simp only [List.size_toArray, List.length_append, List.length_take, List.length_drop, hzll, h9]; omega
  · simp only []
    rw [List.append_assoc, ← hn, List.take_append, hpl, List.take_of_length_le (show (cur.toList.take (k * sz)).length ≤ n * sz by omega), List.take_append, List.take_of_length_le (show (Builtin.zeroCells z.cells (n - k)).toList.length ≤ n * sz - k * sz by omega), hzll, show n * sz - k * sz - (n - k) * sz = 0 by omega, List.take_zero, List.append_nil, ← e7, List.take_take, Nat.min_eq_left (by rw [← hn]; omega)]
end
end Go.Proofs.Ytmjckopplkihlaa.Sim

/- A logic of states: rows that are the call's alone, shortened. -/
namespace Go.Proofs.Ytmjckopplkihlaa.Sim
set_option linter.unusedVariables false
set_option linter.unusedSimpArgs false
open Go.RowKit Mem

section
variable {C : Ctx} {bx : List (Nat × List A)} {ow : List (Nat × Own)} {w : World} {m : Mm} {g : Gh}
theorem EnvG.shrink (he : EnvG C bx ow w m g) {i k cap b : Nat} {e : TypeId} {sz : Nat} {rows : List (List T)} {A0 : Option Addr} (hi : get ow i = some ⟨e, sz, rows⟩) (hh : hid i = true) (h2 : Nat.ble 2000 i = false) (hk : k ≤ rows.length)
    (hgo : (g.go i = .slice none 0 0 ∧ A0 = none ∧ cap = 0) ∨ (g.go i = .slice (some ⟨b, 0, none⟩) rows.length cap ∧ A0 = some ⟨b, 0, none⟩)) :
    EnvG C (bx.map fun p => (p.1, p.2.map (A.clr fun j => Nat.beq j i))) ((i, ⟨e, sz, rows.take k⟩) :: ow) w m (g.setO i (.slice A0 k cap) k) ∧ ∀ x v, AR m g x v → AR m (g.setO i (.slice A0 k cap) k) (x.clr fun j => Nat.beq j i) v := by
  obtain ⟨vs, hown, hrl, hca, hbk⟩ := he.owns i _ hi
  dsimp only at hown hrl hca hbk
  have hgj : ∀ q, q ≠ i → (g.setO i (.slice A0 k cap) k).go q = g.go q ∧ (g.setO i (.slice A0 k cap) k).ln q = g.ln q ∧ (g.setO i (.slice A0 k cap) k).lw q = g.lw q := fun q hq => ⟨if_neg hq, if_neg hq, if_neg hq⟩
  have hgi : (g.setO i (.slice A0 k cap) k).go i = .slice A0 k cap ∧ (g.setO i (.slice A0 k cap) k).ln i = k ∧ (g.setO i (.slice A0 k cap) k).lw i = true := ⟨if_pos rfl, if_pos rfl, if_pos rfl⟩
  have hblk : (Value.slice A0 k cap).ownBlock = (g.go i).ownBlock := by
    rcases hgo with ⟨h1, rfl, _⟩ | ⟨h1, rfl⟩ <;> rw [h1] <;> rfl
  have L0 : ∀ x v, AR0 m g x v → AR0 m (g.setO i (.slice A0 k cap) k) (clr0 (fun j => Nat.beq j i) x) v := by
    intro x v hx
    cases x with
    | own q n =>
      show AR0 m _ (bif Nat.beq q i then .any else .own q n) v
      cases hb : Nat.beq q i with
      | true => trivial
      | false =>
        obtain ⟨e1, e2, e3⟩ := hgj q (Nat.ne_of_beq_eq_false hb)
        exact ⟨e3.trans hx.1, by rw [e2]; exact hx.2.1, hx.2.2.1, by rw [e1, e2]; exact hx.2.2.2⟩
    | oe q n sz kk off =>
      show AR0 m _ (bif Nat.beq q i then .any else .oe q n sz kk off) v
      cases hb : Nat.beq q i with
      | true => trivial
      | false =>
        obtain ⟨e1, e2, e3⟩ := hgj q (Nat.ne_of_beq_eq_false hb)
        exact ⟨e3.trans hx.1, by rw [e2]; exact hx.2.1, hx.2.2.1, by rw [e1, e2]; exact hx.2.2.2⟩
    | sfx q n sz kk =>
      show AR0 m _ (bif Nat.beq q i then .any else .sfx q n sz kk) v
      cases hb : Nat.beq q i with
      | true => trivial
      | false =>
        obtain ⟨e1, e2, e3⟩ := hgj q (Nat.ne_of_beq_eq_false hb)
        exact ⟨e3.trans hx.1, by rw [e2]; exact hx.2.1, hx.2.2.1, by rw [e1, e2]; exact hx.2.2.2⟩
    | _ => exact hx
  have L : ∀ x v, AR m g x v → AR m (g.setO i (.slice A0 k cap) k) (x.clr fun j => Nat.beq j i) v := fun x v hx => hx.mp _ (fun _ => true) (fun x v _ => L0 x v) (allt x)
  have hbx : ∀ q cs, get (bx.map fun p => (p.1, p.2.map (A.clr fun j => Nat.beq j i))) q = some cs → ∃ c0, get bx q = some c0 ∧ cs = c0.map (A.clr fun j => Nat.beq j i) := fun q cs hq => by
    rw [get_map2] at hq
    cases hc : get bx q with
    | none => rw [hc] at hq; cases hq
    | some c0 => rw [hc] at hq; injection hq with hq; exact ⟨c0, rfl, hq.symm⟩
  have hlen : (rows.take k).length = k := by simp; omega
  refine ⟨{
    lo := he.lo, gm := he.gm, sub := he.sub, ext := he.ext
    lb := fun q => by rw [get_map2]; rw [show (Option.map (List.map (A.clr fun j => Nat.beq j i)) (get bx q)).isSome = (get bx q).isSome by cases get bx q <;> rfl]; exact he.lb q
    lw := fun q => by
      rw [get_cons]
      by_cases hq : i = q
      · subst hq; rw [if_pos rfl, hgi.2.2]; rfl
      · rw [if_neg hq, (hgj q (fun e => hq e.symm)).2.2]; exact he.lw q
    ln := fun q o' hq => by
      rw [get_cons] at hq
      by_cases hqi : i = q
      · subst hqi; rw [if_pos rfl] at hq; injection hq with hq; subst hq; rw [hgi.2.1]; exact hlen.symm
      · rw [if_neg hqi] at hq; rw [(hgj q (fun e => hqi e.symm)).2.1]; exact he.ln q o' hq
    boxes := fun q cs hq => by
      obtain ⟨c0, hc, rfl⟩ := hbx q cs hq
      obtain ⟨us, ty, h1, h2, h3, h4, h5⟩ := he.boxes q c0 hc
      refine ⟨us, ty, h1, by simpa using h2, fun p x u hx hu => ?_, h4, h5⟩
      rw [List.getElem?_map] at hx
      cases hp : c0[p]? with
      | none => rw [hp] at hx; cases hx
      | some y => rw [hp] at hx; injection hx with hx; subst hx; exact ⟨L y u (h3 p y u hp hu).1, (h3 p y u hp hu).2⟩
    inj := fun p q cp cq hp hq e => by
      obtain ⟨c0, h1, _⟩ := hbx p cp hp
      obtain ⟨c2, h3, _⟩ := hbx q cq hq
      exact he.inj p q c0 c2 h1 h3 e
    owns := fun q o' hq => by
      rw [get_cons] at hq
      by_cases hqi : i = q
      · subst hqi
        rw [if_pos rfl] at hq; injection hq with hq; subst hq
        rw [hgi.1]
        refine ⟨vs.take (k * sz), ?_, fun r hr => hrl r (List.mem_of_mem_take hr), ?_, fun b' hb' => ?_⟩
        · show w.ownsRow 0 e sz (.slice A0 k cap) (rows.take k).length (vs.take (k * sz))
          rw [hlen]
          obtain ⟨h5, h6⟩ := hown
          have hks : k * sz ≤ rows.length * sz := Nat.mul_le_mul_right _ hk
          refine ⟨by simp; omega, ?_⟩
          rcases hgo with ⟨h1, rfl, rfl⟩ | ⟨h1, rfl⟩
          · rcases h6 with ⟨_, h7⟩ | ⟨b2, cap2, cur, h7, _⟩
            · exact .inl ⟨by rw [show k = 0 by omega], by omega⟩
            · rw [h1] at h7; cases h7
          · rcases h6 with ⟨h7, _⟩ | ⟨b2, cap2, cur, h7, h8, h9, h10, h11, h12, h13⟩
            · rw [h1] at h7; cases h7
            · rw [h1] at h7; injection h7 with h7 _ h14; injection h7 with h7; injection h7 with h7; subst h7 h14
              exact .inr ⟨b, cap, cur, rfl, h8, h9, by omega, h11, h12, by rw [← h13, List.take_take, Nat.min_eq_left hks]⟩
        · show CellsAre m (rows.take k).flatten _
          rw [flat_take hrl]; exact hca.take _
        · rw [hblk] at hb'
          refine ⟨fun p => by rw [(hbk b' hb').1 p, vis_hid hh, vis_hid hh], fun p cp hp => ?_, (hbk b' hb').2.2⟩
          obtain ⟨c0, h1, _⟩ := hbx p cp hp
          exact (hbk b' hb').2.1 p c0 h1
      · rw [if_neg hqi] at hq
        rw [(hgj q (fun e => hqi e.symm)).1]
        obtain ⟨us, h1, h2, h3, h4⟩ := he.owns q o' hq
        refine ⟨us, h1, h2, h3, fun b' hb' => ⟨(h4 b' hb').1, fun p cp hp => ?_, (h4 b' hb').2.2⟩⟩
        obtain ⟨c0, h5, _⟩ := hbx p cp hp
        exact (h4 b' hb').2.1 p c0 h5
    apart := fun p q op oq hp hq hpq b' hb' => by
      rw [get_cons] at hp hq
      by_cases hpi : i = p
      · subst hpi
        rw [hgi.1, hblk] at hb'
        rw [if_neg hpq] at hq
        rw [(hgj q (fun e => hpq e.symm)).1]
        exact he.apart i q _ oq hi hq hpq b' hb'
      · rw [if_neg hpi] at hp
        rw [(hgj p (fun e => hpi e.symm)).1] at hb'
        by_cases hqi : i = q
        · subst hqi; rw [hgi.1, hblk]; exact he.apart p i op _ hp hi hpq b' hb'
        · rw [if_neg hqi] at hq
          rw [(hgj q (fun e => hqi e.symm)).1]; exact he.apart p q op oq hp hq hpq b' hb'
    pin := fun q o' hq hq2 => by
      rw [get_cons] at hq
      by_cases hqi : i = q
      · subst hqi; rw [h2] at hq2; cases hq2
      · rw [if_neg hqi] at hq; rw [(hgj q (fun e => hqi e.symm)).1]; exact he.pin q o' hq hq2
    pinb := fun q cs hq hq2 => by
      obtain ⟨c0, hc, _⟩ := hbx q cs hq
      exact he.pinb q c0 hc hq2 }, L⟩
end
section
variable {P : Program} {N : Nat} {Q : Exit → St → Prop} {ops : Array Oper} {rest : List Oper} {o : Oper} {tm : List (Nat × A)} {bx : List (Nat × List A)} {ow : List (Nat × Own)} {ρ : Operand → Option A}
theorem sops_shrink {t e sz k d : Nat} {x q : Operand} {i n : Nat} {ik : IntKind} {rows : List (List T)} (hh : hid i = true) (h2 : Nat.ble 2000 i = false) (hg : GuardIs ops tm o true) (ho : o.op = .slice t x none (some q) none) (hd : o.dst = some d) (hN : Nat.blt d N = true) (hx : evA tm x = some (.own i n)) (hi : get ow i = some ⟨e, sz, rows⟩) (hn : n = rows.length) (hT : sliceSz P t = some sz) (hq : evA tm q = some (.t (.v (.int ik k)))) (hk : k ≤ n)
    (h : SOps P N ops Q rest ⟨(d, .own i k) :: tm.map (fun p => (p.1, p.2.clr fun j => Nat.beq j i)), bx.map (fun p => (p.1, p.2.map (A.clr fun j => Nat.beq j i))), (i, ⟨e, sz, rows.take k⟩) :: ow⟩) : SOps P N ops Q (o :: rest) ⟨tm, bx, ow⟩ := by
  refine sops_run hg (fun C a w m g hr => ?_) h
  have he := hr.env
  obtain ⟨h1, h3, _, h4⟩ := hr.ev hx
  have h5 := tr_v (show TR m (.v (.int ik k)) (a.eval q) from hr.ev hq)
  have hln := he.ln i _ hi
  have hv := h4 (by rw [hln]; exact hn)
  obtain ⟨e', ii, hu, hie, hs⟩ := sliceSz_spec hT
  obtain ⟨vs, hown, _⟩ := he.owns i _ hi
  dsimp only at hown
  subst hn
  have key : ∃ (A0 : Option Addr) (cap b : Nat), a.eval x = .slice A0 rows.length cap ∧ rows.length ≤ cap ∧ ((g.go i = .slice none 0 0 ∧ A0 = none ∧ cap = 0) ∨ (g.go i = .slice (some ⟨b, 0, none⟩) rows.length cap ∧ A0 = some ⟨b, 0, none⟩)) := by
    obtain ⟨_, ⟨h6, h7⟩ | ⟨b, cap, cur, h6, _, _, h7, _⟩⟩ := hown
    · exact ⟨none, 0, 0, by rw [hv, h6, h7], by omega, .inl ⟨h6, rfl, rfl⟩⟩
    · exact ⟨_, cap, b, by rw [hv, h6], h7, .inr ⟨h6, rfl⟩⟩
  obtain ⟨A0, cap, b, h6, h7, h8⟩ := key
  have c3 : k ≤ cap := by omega
  have hrun : (execOp a.eval o).run P w = .ok (.value (.slice A0 k cap)) w := by
    have hA : (if cap = 0 then A0 else A0.map (·.add (0 * sz))) = A0 := by
      split
      · rfl
      · rcases h8 with ⟨_, rfl, _⟩ | ⟨_, rfl⟩
        · rfl
        · simp [add_mid]
    have hA' : A0.map (fun x => x.add 0) = A0 := by
      rcases h8 with ⟨_, rfl, _⟩ | ⟨_, rfl⟩
      · rfl
      · simp [add_mid]
    simp [execOp, ho, h6, h5, Instr.sliceAt, run_underlying hu, Instr.slice, Instr.sliceBounds, Instr.sliceBound, asIntOf, sizeOf, typeInfo, hie, hs, c3]
    intro _; exact hA'
  obtain ⟨h9, h10⟩ := he.shrink (b := b) hi hh h2 hk h8
  refine ⟨_, w, hrun, ?_⟩
  rw [hd]
  have hrel : RelG C N ⟨tm.map (fun p => (p.1, p.2.clr fun j => Nat.beq j i)), _, _⟩ a w m _ := ⟨h9, hr.size, hr.defers, fun s x hx => by
    rw [show get (tm.map fun p => (p.1, p.2.clr fun j => Nat.beq j i)) s = _ from get_mapv _ _ _] at hx
    cases h5 : get tm s with
    | none => rw [h5] at hx; cases hx
    | some y => rw [h5] at hx; injection hx with hx; subst hx; exact h10 y _ (hr.tmps s y h5)⟩
  exact ⟨m, _, hrel.put h9 (fun x v h => h) (Nat.lt_of_succ_le (Nat.le_of_ble_eq_true hN)) ⟨by simp [Gh.setO], by simp [Gh.setO], ⟨_, _, rfl⟩, fun _ => by simp [Gh.setO]⟩⟩
end
end Go.Proofs.Ytmjckopplkihlaa.Sim
namespace Go.Proofs.Ytmjckopplkihlaa.Sim
set_option linter.unusedVariables false
set_option linter.unusedSimpArgs false
open Go.RowKit Mem
section
variable {P : Program} {N : Nat} {Q : Exit → St → Prop} {ops : Array Oper} {rest : List Oper} {o : Oper} {tm : List (Nat × A)} {bx bx0 bx1 : List (Nat × List A)} {ow ow0 ow1 : List (Nat × Own)}
theorem sops_clearS {t e sz by_ : Nat} {x : Operand} {i n k : Nat} {rows : List (List T)} {pl : List (Nat × Nat)} {zs : List Value} (hS : strI P e = some (pl, zs)) (hh : hid i = true) (hg : GuardIs ops tm o true) (ho : o.op = .call { callee := .builtin .clear, args := #[x], argTypes := #[t] }) (hd : o.dst = none) (hx : evA tm x = some (.sfx i n sz k)) (hi : get ow i = some ⟨e, sz, rows⟩) (hn : n = rows.length) (hk : k < n)
    (hT : sliceE P t = some (e, sz, by_)) (h : SOps P N ops Q rest ⟨tm, bx, (i, ⟨e, sz, rows.take k ++ List.replicate (rows.length - k) (zs.map T.v)⟩) :: ow⟩) : SOps P N ops Q (o :: rest) ⟨tm, bx, ow⟩ := by
  obtain ⟨it, z, h1, h2, h3, h4⟩ := strI_zero hS
  exact sops_clear hh hg ho hd hx hi hn hk hT (by rw [h1]; simp [h2, h3]) (List.all_eq_true.2 h4) h
/-- a call through a function's value that captured data alone -/
theorem sops_lcall_tclo {f : FuncId} {xz : Operand} {caps : List T} {xs : List Operand} {at_ : Array TypeId} {args : List A} {r : A} {d : Nat} (hc : LCalls P f (args ++ caps.map A.t) bx0 ow0 r bx1 ow1) (fb fw : Nat → Nat) (kp : Nat → Bool) (hg : GuardIs ops tm o true) (ho : o.op = .call { callee := .value xz, args := xs.toArray, argTypes := at_ }) (hd : o.dst = some d) (hN : Nat.blt d N = true)
    (hz : evA tm xz = some (.t (.clo f caps))) (ha : ArgsL fb fw ow bx0 ow0 (evA tm) xs args) (hx : LentX fb fw bx bx0) (hw : LentW fw ow ow0) (hl : (bx0.all fun p => p.2.all fun x => x.live bx0 ow0) = true) (hB : lendB fb fw bx bx0 bx1 ow ow0 ow1 = true)
    (hkp : ∀ i, kp i = true → Nat.ble 2000 i = true ∧ ∃ o0 o1, get ow0 i = some o0 ∧ get ow1 i = some o1 ∧ o1.rows.length = o0.rows.length)
    (h : SOps P N ops Q rest ⟨(d, r.ren fb fw) :: tm.map (fun p => (p.1, p.2.clr (chgOf fw kp ow0))), bxAft fb fw (chgOf fw kp ow0) bx1 bx, owAft fw ow0 ow1 ow⟩) : SOps P N ops Q (o :: rest) ⟨tm, bx, ow⟩ := by
  have hL := lend_of (kp := kp) hx hw hl hB hkp
  refine .mk fun C a w ⟨m, g, hr⟩ => ?_
  obtain ⟨h1, h2⟩ := ha.ok hL hr.env (a := a) (fun x _ y hy => hr.ev hy)
  have h0 : TR m (.clo f caps) (a.eval xz) := hr.ev hz
  generalize hvz : a.eval xz = vz at h0
  cases h0 with
  | clo f caps vs hvl hvc =>
    have hrun : (execOp a.eval o).run P w = .ok (.enter f ((xs.map a.eval).toArray ++ vs)) w := by
      have := hc.ent ((xs.map a.eval).toArray ++ vs) w
      simp only [execOp, ho, resolve, Deferred.ofValue, hvz, invoke, Sem.run_bind, Sem.run_pure, Result.andThen_ok, List.map_toArray, Array.append_empty, Array.empty_append] at this ⊢
      simpa using this
    refine wpList_step fun K hK => ?_
    rw [if_pos (hg.wanted (m := m) (g := g) fun j want e _ _ y hy => hr.tmps e y hy)]
    refine wp_call_of hrun (hc.run m w _ _ (hL.env_in hr.env) (by simp [h1, hvl]) (fun i x v h3 h4 => ?_)) ?_
    · rw [List.getElem?_append] at h3
      rw [Array.getElem?_append] at h4
      by_cases hi : i < args.length
      · rw [if_pos hi] at h3
        rw [if_pos (by simp; omega)] at h4
        exact h2 i x v h3 (by simpa using h4)
      · rw [if_neg hi] at h3
        rw [if_neg (by simp; omega)] at h4
        rw [List.getElem?_map] at h3
        cases hc' : caps[i - args.length]? with
        | none => rw [hc'] at h3; cases h3
        | some t =>
          rw [hc'] at h3; injection h3 with h3; subst h3
          exact hvc (i - args.length) t v hc' (by rw [← h1]; simpa using h4)
    rintro e w' ⟨v, m', g', rfl, henv, hv⟩
    obtain ⟨g'', e1, e2, e3⟩ := hL.env_out hr.env henv
    refine ⟨v, rfl, hK _ _ (h.go C _ _ ⟨m', g'', ?_⟩)⟩
    rw [hd]
    have hrel : RelG C N ⟨tm.map (fun p => (p.1, p.2.clr (chgOf fw kp ow0))), bxAft fb fw (chgOf fw kp ow0) bx1 bx, owAft fw ow0 ow1 ow⟩ a w' m' g'' := ⟨e1, hr.size, hr.defers, fun s x hx => by
      rw [show get (tm.map fun p => (p.1, p.2.clr (chgOf fw kp ow0))) s = _ from get_mapv _ _ _] at hx
      cases h5 : get tm s with
      | none => rw [h5] at hx; cases hx
      | some y => rw [h5] at hx; injection hx with hx; subst hx; exact e2 y _ (hr.tmps s y h5)⟩
    exact hrel.put e1 (fun x v h => h) (Nat.lt_of_succ_le (Nat.le_of_ble_eq_true hN)) (e3 r v hv)
end
end Go.Proofs.Ytmjckopplkihlaa.Sim

/- A logic of states: is a slice nil; an empty row of the call's own, under any number. -/
namespace Go.Proofs.Ytmjckopplkihlaa.Sim
set_option linter.unusedVariables false
set_option linter.unusedSimpArgs false
open Go.RowKit Mem
section
variable {P : Program} {N : Nat} {Q : Exit → St → Prop} {ops : Array Oper} {rest : List Oper} {o : Oper} {tm : List (Nat × A)} {bx : List (Nat × List A)} {ow : List (Nat × Own)}
theorem sops_isnil {t t2 sz d : Nat} {x : Operand} {y : A} {rows : List (List T)} (hg : GuardIs ops tm o true) (ho : o.op = .binOp .eql t x (.const (.slice none 0 0)) t2) (hd : o.dst = some d) (hN : Nat.blt d N = true) (hx : evA tm x = some y) (hv : Vw ow y (.sl sz rows)) (hT : sliceSz P t = some sz)
    (h : ∀ b, (b = true → rows = []) → SOps P N ops Q rest ⟨(d, .t (.v (.bool b))) :: tm, bx, ow⟩) : SOps P N ops Q (o :: rest) ⟨tm, bx, ow⟩ := by
  refine .mk fun C a w ⟨m, g, hr⟩ => ?_
  have hvt : TR m (.sl sz rows) (a.eval x) := hv.ok hr.env (hr.ev hx)
  obtain ⟨e, ii, hu, _⟩ := sliceSz_spec hT
  generalize hvx : a.eval x = v at hvt
  cases hvt with
  | sl _ _ A0 b off cap u hc hm hA hrl hu' ht =>
    have hrun : (execOp a.eval o).run P w = .ok (.value (.bool A0.isNone)) w := by
      have := Lib.run_eql_slice_nil (P := P) w t e A0 rows.length cap 0 0 hu
      have hc0 : a.eval (.const (.slice none 0 0)) = .slice none 0 0 := rfl
      have hgd : (eqGuard .eql t x (.const (.slice none 0 0)) (.slice A0 rows.length cap) (.slice none 0 0)).run P w = .ok () w := by simp [eqGuard]
      simp only [execOp, ho, hvx, hc0, Sem.run_bind, Sem.run_pure, Result.andThen_ok, this, hgd]
    have hb : A0.isNone = true → rows = [] := fun hn => by
      cases rows with
      | nil => rfl
      | cons r rs => rw [hA (by simp)] at hn; cases hn
    refine wpList_step fun K hK => ?_
    rw [if_pos (hg.wanted (m := m) (g := g) fun j want e _ _ y hy => hr.tmps e y hy)]
    refine wp_of_run hrun (hK _ _ ((h A0.isNone hb).go C _ _ ⟨m, g, ?_⟩))
    rw [hd]
    exact hr.put hr.env (fun x v h => h) (Nat.lt_of_succ_le (Nat.le_of_ble_eq_true hN)) (TR.v _)
theorem swp_ret_weak {st st' : St} (hw : Weak N st st') (h : Q .ret st') : SWp P N .ret Q st := .mk fun C a w hr => wp_ret ⟨st', hw.go C a w hr, h⟩
/-- a literal of none: a row of the call's own, under a number -/
theorem sops_build0i (i : Nat) {t e sz by_ d : Nat} (hg : GuardIs ops tm o true) (ho : o.op = .buildSlice t 0 #[]) (hd : o.dst = some d) (hN : Nat.blt d N = true) (hT : sliceE P t = some (e, sz, by_)) (hi : get ow i = none)
    (h : SOps P N ops Q rest ⟨(d, .own i 0) :: tm, bx, (i, ⟨e, sz, []⟩) :: ow⟩) (hp : Nat.ble 2000 i = false := by rfl) : SOps P N ops Q (o :: rest) ⟨tm, bx, ow⟩ := by
  refine sops_run hg (fun C a w m g hr => ?_) h
  have he := hr.env
  obtain ⟨i', zv, hu, hi', _⟩ := sliceE_spec hT
  have hlw : g.lw i = false := by rw [he.lw, hi]; rfl
  refine ⟨.slice (some ⟨w.heap.size, 0, none⟩) 0 0, w.alloc (.cells #[] e), ?_, ?_⟩
  · simp [execOp, ho, Instr.buildSlice, run_underlying hu, sizeOf, typeInfo, hi', Instr.fill, newRow]
    congr 2
    exact Array.eq_empty_of_size_eq_zero (by simp)
  · obtain ⟨h8, h9⟩ := he.setO (hp := hp) (w' := w.alloc (.cells #[] e)) (i := i) (v := .slice (some ⟨w.heap.size, 0, none⟩) 0 0) (e := e) (sz := sz) (rows := []) (vs := []) (World.ownsRow_made w #[] 0 (Nat.zero_le _) (Nat.zero_le _) (by simp)) (fun r h => by cases h) ⟨rfl, fun j t v h => by simp at h⟩ (.inr hi) (.inr ⟨fun b hb => by injection hb with hb; subst hb; exact Nat.le_refl _, (Lo.refl w).alloc _⟩)
    rw [hd]
    exact ⟨_, _, hr.put h8 (fun x u h => h.setO h9 (.inl hlw)) (Nat.lt_of_succ_le (Nat.le_of_ble_eq_true hN)) ⟨by simp [Gh.setO], by simp [Gh.setO], ⟨_, _, rfl⟩, fun _ => by simp [Gh.setO]⟩⟩
end
end Go.Proofs.Ytmjckopplkihlaa.Sim

/- A logic of states: a struct value's field. -/
namespace Go.Proofs.Ytmjckopplkihlaa.Sim
set_option linter.unusedVariables false
set_option linter.unusedSimpArgs false
open Go.RowKit Mem
/-- a field of one cell: its place -/
def field1 (P : Program) (s : TypeId) (f : Nat) : Option Nat := match P.underlying s with
  | some (.struct fs) => match fs[f]? with
    | some fd => match tyI P fd.type with
      | some (false, _) => some fd.offset
      | _ => none
    | none => none
  | _ => none
theorem field1_spec {P : Program} {s f k : Nat} (h : field1 P s f = some k) : ∃ fs fd n, P.underlying s = some (.struct fs) ∧ fs[f]? = some fd ∧ tyI P fd.type = some (false, n) ∧ fd.offset = k := by
  unfold field1 at h
  split at h
  · rename_i fs hu
    split at h
    · rename_i fd hf
      split at h
      · rename_i n ht; injection h with h; exact ⟨fs, fd, n, hu, hf, ht, h⟩
      · cases h
    · cases h
  · cases h
section
variable {P : Program} {bx : List (Nat × List A)} {ow : List (Nat × Own)} {o : Oper} {ρ : Operand → Option A} {r : A}
theorem po_fieldv {s f k : Nat} {x : Operand} {cs : List T} {t : T} (ho : o.op = .field s x f) (hx : ρ x = some (.t (.agg cs))) (hk : field1 P s f = some k) (ht : cs[k]? = some t) : PureOp P bx ow o ρ (.t t) := pure_run fun C m g w a he h => by
  have h1 : TR m (.agg cs) (a.eval x) := h x (by simp [ho, Op.operands]) _ hx
  obtain ⟨fs, fd, n, hu, hf, hT, hoff⟩ := field1_spec hk
  obtain ⟨d, i, hu', hi, hd, hs⟩ := tyI_spec hT
  generalize hv : a.eval x = v at h1
  cases h1 with
  | agg _ vs hl h2 h3 =>
    have hlt : k < vs.size := by rw [hl]; exact (List.getElem?_eq_some_iff.1 ht).1
    have hagg : (isAgg fd.type).run P w = .ok false w := by
      unfold isAgg
      rw [Sem.run_bind, run_underlying hu' w]
      cases d <;> simp_all
    refine ⟨vs[k], ?_, h3 k t _ ht (by simp [hlt])⟩
    simp [execOp, ho, hv, Instr.field, run_underlying hu, hf, asAgg, part, hagg, hoff, hlt]
end
end Go.Proofs.Ytmjckopplkihlaa.Sim

/- A logic of states: a region that draws its order, with operations that make and write boxes and rows among its operations. -/
namespace Go.Proofs.Ytmjckopplkihlaa.Sim
set_option linter.unusedVariables false
set_option linter.unusedSimpArgs false
open Go.RowKit Mem

/-- what must have gone before each operation -/
def ancL (ops : Array Oper) : Nat → List (List Nat)
  | 0 => []
  | n + 1 => ancL ops n ++ [(deps ops n).foldl (fun acc j => bif acc.contains j then acc else j :: ((ancL ops n).getD j [] ++ acc)) []]
theorem ancL_len (ops : Array Oper) : ∀ n, (ancL ops n).length = n
  | 0 => rfl
  | n + 1 => by simp [ancL, ancL_len ops n]
theorem anc_fold {l : List (List Nat)} : ∀ (ds acc : List Nat) (x : Nat), x ∈ ds.foldl (fun acc j => bif acc.contains j then acc else j :: (l.getD j [] ++ acc)) acc → x ∈ acc ∨ ∃ j ∈ ds, x = j ∨ x ∈ l.getD j []
  | [], acc, x, h => .inl h
  | d :: ds, acc, x, h => by
    rw [List.foldl_cons] at h
    rcases anc_fold ds _ x h with h1 | ⟨j, h2, h3⟩
    · cases hc : acc.contains d with
      | true => rw [hc] at h1; exact .inl h1
      | false =>
        rw [hc] at h1
        simp only [cond_false, List.mem_cons, List.mem_append] at h1
        rcases h1 with h1 | h1 | h1
        · exact .inr ⟨d, by simp, .inl h1⟩
        · exact .inr ⟨d, by simp, .inr h1⟩
        · exact .inl h1
    · exact .inr ⟨j, by simp [h2], h3⟩
theorem ancL_get (ops : Array Oper) : ∀ (n k : Nat), k < n → (ancL ops n).getD k [] = (deps ops k).foldl (fun acc j => bif acc.contains j then acc else j :: ((ancL ops k).getD j [] ++ acc)) []
  | 0, k, h => by omega
  | n + 1, k, h => by
    rw [ancL]
    by_cases hk : k < n
    · rw [List.getD_eq_getElem?_getD, List.getElem?_append_left (by rw [ancL_len]; exact hk), ← List.getD_eq_getElem?_getD]
      exact ancL_get ops n k hk
    · obtain rfl : k = n := by omega
      rw [List.getD_eq_getElem?_getD, List.getElem?_append_right (by rw [ancL_len]; omega), ancL_len, Nat.sub_self]
      rfl
theorem anc_on {ops : Array Oper} {listed : Array Bool} (hcl : Closed ops listed) (hd : ∀ i, i < ops.size → ∀ j ∈ deps ops i, j < i) : ∀ (k : Nat), k < ops.size → (∀ j ∈ deps ops k, isOn listed j = true) → ∀ n, k < n → ∀ x, x ∈ (ancL ops n).getD k [] → isOn listed x = true ∧ x < k := by
  intro k
  induction k using Nat.strongRecOn with
  | ind k ih =>
    intro hk hon n hn x hx
    rw [ancL_get ops n k hn] at hx
    rcases anc_fold _ _ _ hx with h | ⟨j, h1, h2⟩
    · cases h
    · have hjk := hd k hk j h1
      rcases h2 with rfl | h2
      · exact ⟨hon _ h1, hjk⟩
      · have := ih j hjk (by omega) (fun y hy => hcl j y (hon j h1) hy) k hjk x h2
        exact ⟨this.1, by omega⟩
theorem anc_lt {ops : Array Oper} (hd : ∀ i, i < ops.size → ∀ j ∈ deps ops i, j < i) : ∀ (k : Nat), k < ops.size → ∀ n, k < n → ∀ x, x ∈ (ancL ops n).getD k [] → x < k := by
  intro k
  induction k using Nat.strongRecOn with
  | ind k ih =>
    intro hk n hn x hx
    rw [ancL_get ops n k hn] at hx
    rcases anc_fold _ _ _ hx with h | ⟨j, h1, h2⟩
    · cases h
    · have hjk := hd k hk j h1
      rcases h2 with rfl | h2
      · exact hjk
      · have := ih j hjk (by omega) k hjk x h2; omega
def ordB (A : List (List Nat)) (j k : Nat) : Bool := (A.getD k []).contains j || (A.getD j []).contains k
/-- the checks: of numbers written (W), and not looked at (X) -/
def anyB (ops : Array Oper) (M : Nat) (W X : List (List Nat)) : Bool :=
  ((List.range ops.size).all fun i => ((deps ops i).all fun j => decide (j < i)) && (match dstOf ops i with | some d => decide (writer ops d = some i) && decide (d < M) | none => true)) &&
  ((List.range ops.size).all fun i => match ops[i]? with
    | none => false
    | some o => ((slotsOf o).all fun s => match writer ops s with | none => true | some j => decide (j < i) && (deps ops i).contains j) && (match o.guard with | none => true | some (j, _) => decide (j < i) && (deps ops i).contains j)) &&
  ((List.range ops.size).all fun k => ((W.getD k []).all fun i => !((X.getD k []).contains i)) && (List.range ops.size).all fun j => Nat.beq j k || ordB (ancL ops ops.size) j k || ((W.getD j []).all fun i => (X.getD k []).contains i && !((W.getD k []).contains i)))
def rst {β : Type} (X : List Nat) (l : List (Nat × β)) : List (Nat × β) := l.filter fun p => !(X.contains p.1)
theorem get_rst {β : Type} (X : List Nat) (l : List (Nat × β)) (i : Nat) : get (rst X l) i = if X.contains i then none else get l i := by
  refine (get_filter (fun k => !(X.contains k)) l i).trans ?_
  cases X.contains i <;> rfl
def tput (d : Option Nat) (x : A) (tm : List (Nat × A)) : List (Nat × A) := match d with
  | some d => (d, x) :: tm
  | none => tm
/-- the operation hands back r; it leaves other boxes and rows -/
structure EStep (P : Program) (bx : List (Nat × List A)) (ow : List (Nat × Own)) (o : Oper) (ρ : Operand → Option A) (r : A) (bx' : List (Nat × List A)) (ow' : List (Nat × Own)) : Prop where
  go : ∀ (C : Ctx) (m : Mm) (g : Gh) (w : World) (a : Act) (Q : Exit → Act → World → Prop), EnvG C bx ow w m g → (∀ x ∈ o.op.operands.toList, ∀ y, ρ x = some y → AR m g y (a.eval x)) →
    o.wp P a w (fun a' w' => ∃ v m' g', a' = a.put o.dst v ∧ EnvG C bx' ow' w' m' g' ∧ AR m' g' r v ∧ ∀ x u, AR m g x u → AR m' g' x u) Q
inductive ERun (P : Program) (ops : Array Oper) (W X : List (List Nat)) : Nat → List Oper → List (Nat × A) → List (Nat × List A) → List (Nat × Own) → List (Nat × A) → List (Nat × List A) → List (Nat × Own) → Prop
  | nil (k : Nat) (tm : List (Nat × A)) (bx : List (Nat × List A)) (ow : List (Nat × Own)) : ERun P ops W X k [] tm bx ow tm bx ow
  | on {k : Nat} {o : Oper} {rest : List Oper} {tm tm' : List (Nat × A)} {bx bx' : List (Nat × List A)} {ow ow' : List (Nat × Own)} {r : A} (hg : GuardIs ops tm o true) (hW : W.getD k [] = []) (hp : ∀ bxr owr, PureOp P (rst (X.getD k []) bx ++ bxr) (rst (X.getD k []) ow ++ owr) o (evA tm) r) (h : ERun P ops W X (k + 1) rest (tput o.dst r tm) bx ow tm' bx' ow') : ERun P ops W X k (o :: rest) tm bx ow tm' bx' ow'
  | off {k : Nat} {o : Oper} {rest : List Oper} {tm tm' : List (Nat × A)} {bx bx' : List (Nat × List A)} {ow ow' : List (Nat × Own)} (hg : GuardIs ops tm o false) (hW : W.getD k [] = []) (h : ERun P ops W X (k + 1) rest (tput o.dst (.t (.v undef)) tm) bx ow tm' bx' ow') : ERun P ops W X k (o :: rest) tm bx ow tm' bx' ow'
  | eff {k : Nat} {o : Oper} {rest : List Oper} {tm tm' : List (Nat × A)} {bx bx' : List (Nat × List A)} {ow ow' : List (Nat × Own)} {r : A} (wb : List (Nat × List A)) (wo : List (Nat × Own)) (hg : GuardIs ops tm o true) (hW1 : (wb.all fun p => (W.getD k []).contains p.1) = true) (hW2 : (wo.all fun p => (W.getD k []).contains p.1) = true)
      (he : ∀ bxr owr, (∀ i, (X.getD k []).contains i = false → get bx i = none → get bxr i = none) → (∀ i, (X.getD k []).contains i = false → get ow i = none → get owr i = none) → EStep P (rst (X.getD k []) bx ++ bxr) (rst (X.getD k []) ow ++ owr) o (evA tm) r (wb ++ (rst (X.getD k []) bx ++ bxr)) (wo ++ (rst (X.getD k []) ow ++ owr)))
      (h : ERun P ops W X (k + 1) rest (tput o.dst r tm) (wb ++ bx) (wo ++ ow) tm' bx' ow') : ERun P ops W X k (o :: rest) tm bx ow tm' bx' ow'
/-- what one operation of such a run is -/
structure EAt (P : Program) (ops : Array Oper) (W X : List (List Nat)) (i : Nat) (o : Oper) (tm : List (Nat × A)) (bx bx' : List (Nat × List A)) (ow ow' : List (Nat × Own)) (x : A) : Prop where
  go : (GuardIs ops tm o true ∧ W.getD i [] = [] ∧ bx' = bx ∧ ow' = ow ∧ ∀ bxr owr, PureOp P (rst (X.getD i []) bx ++ bxr) (rst (X.getD i []) ow ++ owr) o (evA tm) x) ∨
    (GuardIs ops tm o false ∧ W.getD i [] = [] ∧ bx' = bx ∧ ow' = ow ∧ x = .t (.v undef)) ∨
    (GuardIs ops tm o true ∧ ∃ wb wo, (wb.all fun p => (W.getD i []).contains p.1) = true ∧ (wo.all fun p => (W.getD i []).contains p.1) = true ∧ bx' = wb ++ bx ∧ ow' = wo ++ ow ∧
      ∀ bxr owr, (∀ j, (X.getD i []).contains j = false → get bx j = none → get bxr j = none) → (∀ j, (X.getD i []).contains j = false → get ow j = none → get owr j = none) → EStep P (rst (X.getD i []) bx ++ bxr) (rst (X.getD i []) ow ++ owr) o (evA tm) x (wb ++ (rst (X.getD i []) bx ++ bxr)) (wo ++ (rst (X.getD i []) ow ++ owr)))
theorem erun_at {P : Program} {ops : Array Oper} {W X : List (List Nat)} {k : Nat} {l : List Oper} {tm tm' : List (Nat × A)} {bx bx' : List (Nat × List A)} {ow ow' : List (Nat × Own)} (h : ERun P ops W X k l tm bx ow tm' bx' ow') :
    ∃ (val : Nat → A) (tms : Nat → List (Nat × A)) (bxs : Nat → List (Nat × List A)) (ows : Nat → List (Nat × Own)), tms k = tm ∧ bxs k = bx ∧ ows k = ow ∧ tms (k + l.length) = tm' ∧ bxs (k + l.length) = bx' ∧ ows (k + l.length) = ow' ∧
      ∀ (i : Nat) o, l[i]? = some o → tms (k + i + 1) = tput o.dst (val (k + i)) (tms (k + i)) ∧ EAt P ops W X (k + i) o (tms (k + i)) (bxs (k + i)) (bxs (k + i + 1)) (ows (k + i)) (ows (k + i + 1)) (val (k + i)) := by
  have glue : ∀ {k : Nat} {o : Oper} {rest : List Oper} {tm tm' : List (Nat × A)} {bx bx1 bx' : List (Nat × List A)} {ow ow1 ow' : List (Nat × Own)} {r : A}, EAt P ops W X k o tm bx bx1 ow ow1 r →
      (∃ (val : Nat → A) (tms : Nat → List (Nat × A)) (bxs : Nat → List (Nat × List A)) (ows : Nat → List (Nat × Own)), tms (k + 1) = tput o.dst r tm ∧ bxs (k + 1) = bx1 ∧ ows (k + 1) = ow1 ∧ tms (k + 1 + rest.length) = tm' ∧ bxs (k + 1 + rest.length) = bx' ∧ ows (k + 1 + rest.length) = ow' ∧
        ∀ (i : Nat) o, rest[i]? = some o → tms (k + 1 + i + 1) = tput o.dst (val (k + 1 + i)) (tms (k + 1 + i)) ∧ EAt P ops W X (k + 1 + i) o (tms (k + 1 + i)) (bxs (k + 1 + i)) (bxs (k + 1 + i + 1)) (ows (k + 1 + i)) (ows (k + 1 + i + 1)) (val (k + 1 + i))) →
      ∃ (val : Nat → A) (tms : Nat → List (Nat × A)) (bxs : Nat → List (Nat × List A)) (ows : Nat → List (Nat × Own)), tms k = tm ∧ bxs k = bx ∧ ows k = ow ∧ tms (k + (o :: rest).length) = tm' ∧ bxs (k + (o :: rest).length) = bx' ∧ ows (k + (o :: rest).length) = ow' ∧
        ∀ (i : Nat) o', (o :: rest)[i]? = some o' → tms (k + i + 1) = tput o'.dst (val (k + i)) (tms (k + i)) ∧ EAt P ops W X (k + i) o' (tms (k + i)) (bxs (k + i)) (bxs (k + i + 1)) (ows (k + i)) (ows (k + i + 1)) (val (k + i)) := by
    rintro k o rest tm tm' bx bx1 bx' ow ow1 ow' r hat ⟨val, tms, bxs, ows, h1, h2, h3, h4, h5, h6, h7⟩
    have ne : ∀ q, k + 1 + q ≠ k := fun q => by omega
    refine ⟨fun j => if j = k then r else val j, fun j => if j = k then tm else tms j, fun j => if j = k then bx else bxs j, fun j => if j = k then ow else ows j, if_pos rfl, if_pos rfl, if_pos rfl, ?_, ?_, ?_, ?_⟩
    · show (if k + (o :: rest).length = k then tm else tms (k + (o :: rest).length)) = _
      rw [if_neg (by rw [List.length_cons]; omega), List.length_cons, show k + (rest.length + 1) = k + 1 + rest.length by omega]; exact h4
    · show (if k + (o :: rest).length = k then bx else bxs (k + (o :: rest).length)) = _
      rw [if_neg (by rw [List.length_cons]; omega), List.length_cons, show k + (rest.length + 1) = k + 1 + rest.length by omega]; exact h5
    · show (if k + (o :: rest).length = k then ow else ows (k + (o :: rest).length)) = _
      rw [if_neg (by rw [List.length_cons]; omega), List.length_cons, show k + (rest.length + 1) = k + 1 + rest.length by omega]; exact h6
    · intro i o' ho
      cases i with
      | zero =>
        simp at ho; subst ho
        simp only [Nat.add_zero, if_pos, if_neg (show ¬ (k + 1 = k) by omega)]
        rw [h1, h2, h3]
        exact ⟨rfl, hat⟩
      | succ i =>
        simp at ho
        have := h7 i o' ho
        rw [show k + (i + 1) = k + 1 + i by omega]
        simp only [if_neg (ne i), if_neg (show ¬ (k + 1 + i + 1 = k) by omega)]
        exact this
  induction h with
  | nil k tm bx ow => exact ⟨fun _ => default, fun _ => tm, fun _ => bx, fun _ => ow, rfl, rfl, rfl, rfl, rfl, rfl, fun i o h => by simp at h⟩
  | on hg hW hp _ ih => exact glue ⟨.inl ⟨hg, hW, rfl, rfl, hp⟩⟩ ih
  | off hg hW _ ih => exact glue ⟨.inr (.inl ⟨hg, hW, rfl, rfl, rfl⟩)⟩ ih
  | eff wb wo hg hW1 hW2 he _ ih => exact glue ⟨.inr (.inr ⟨hg, wb, wo, hW1, hW2, rfl, rfl, he⟩)⟩ ih
theorem tms_getE {ops : Array Oper} {val : Nat → A} {tms : Nat → List (Nat × A)} {n : Nat} (h : ∀ i, i < n → tms (i + 1) = tput (dstOf ops i) (val i) (tms i)) : ∀ i, i ≤ n → ∀ s x, get (tms i) s = some x → (∃ j, j < i ∧ dstOf ops j = some s ∧ x = val j) ∨ (get (tms 0) s = some x ∧ ∀ j, j < i → dstOf ops j ≠ some s)
  | 0, _, s, x, hx => .inr ⟨hx, fun j hj => by omega⟩
  | i + 1, hi, s, x, hx => by
    have ht := h i (by omega)
    have step : ∀ {y}, get (tms i) s = some y → dstOf ops i ≠ some s → (∃ j, j < i + 1 ∧ dstOf ops j = some s ∧ y = val j) ∨ (get (tms 0) s = some y ∧ ∀ j, j < i + 1 → dstOf ops j ≠ some s) := fun hy hn => by
      rcases tms_getE h i (by omega) s _ hy with ⟨j, h1, h2, h3⟩ | ⟨h1, h2⟩
      · exact .inl ⟨j, by omega, h2, h3⟩
      · refine .inr ⟨h1, fun j hj => ?_⟩
        rcases Nat.lt_or_ge j i with h3 | h3
        · exact h2 j h3
        · obtain rfl : j = i := by omega
          exact hn
    cases hd : dstOf ops i with
    | none => rw [ht, hd] at hx; exact step hx (by rw [hd]; simp)
    | some d =>
      rw [ht, hd] at hx
      change get ((d, val i) :: tms i) s = some x at hx
      rw [get_cons] at hx
      by_cases hds : d = s
      · rw [if_pos hds] at hx; injection hx with hx; subst hds
        exact .inl ⟨i, by omega, hd, hx.symm⟩
      · rw [if_neg hds] at hx
        exact step hx (by rw [hd]; simp [hds])
structure SAny (P : Program) (N : Nat) (ops : Array Oper) (W X : List (List Nat)) (Q : Exit → St → Prop) (k : Nat) (l : List Oper) (st : St) : Prop where
  go : ∃ tm' bx' ow', ERun P ops W X k l st.tm st.bx st.ow tm' bx' ow' ∧ Q .normal ⟨tm', bx', ow'⟩
section
variable {P : Program} {N : Nat} {Q : Exit → St → Prop} {ops : Array Oper} {W X : List (List Nat)} {k : Nat} {rest : List Oper} {o : Oper} {tm : List (Nat × A)} {bx : List (Nat × List A)} {ow : List (Nat × Own)}
theorem sany_nil {st : St} (h : Q .normal st) : SAny P N ops W X Q k [] st := ⟨⟨_, _, _, .nil k _ _ _, h⟩⟩
theorem sany_pure {d : Nat} {r : A} (hg : GuardIs ops tm o true) (hd : o.dst = some d) (hW : W.getD k [] = []) (hp : ∀ bxr owr, PureOp P (rst (X.getD k []) bx ++ bxr) (rst (X.getD k []) ow ++ owr) o (evA tm) r) (h : SAny P N ops W X Q (k + 1) rest ⟨(d, r) :: tm, bx, ow⟩) : SAny P N ops W X Q k (o :: rest) ⟨tm, bx, ow⟩ := by
  obtain ⟨tm', bx', ow', h1, h2⟩ := h
  exact ⟨⟨tm', bx', ow', .on hg hW hp (by rw [hd]; exact h1), h2⟩⟩
theorem sany_skip {d : Nat} (hg : GuardIs ops tm o false) (hd : o.dst = some d) (hW : W.getD k [] = []) (h : SAny P N ops W X Q (k + 1) rest ⟨(d, .t (.v undef)) :: tm, bx, ow⟩) : SAny P N ops W X Q k (o :: rest) ⟨tm, bx, ow⟩ := by
  obtain ⟨tm', bx', ow', h1, h2⟩ := h
  exact ⟨⟨tm', bx', ow', .off hg hW (by rw [hd]; exact h1), h2⟩⟩
theorem sany_split {j e : Nat} {want b : Bool} (hg : o.guard = some (j, want)) (hj : dstOf ops j = some e) (hs : get tm e = some (.t (.v (.bool b)))) (h1 : b = true → SAny P N ops W X Q k (o :: rest) ⟨tm, bx, ow⟩) (h0 : b = false → SAny P N ops W X Q k (o :: rest) ⟨tm, bx, ow⟩) : SAny P N ops W X Q k (o :: rest) ⟨tm, bx, ow⟩ := by
  cases b
  · exact h0 rfl
  · exact h1 rfl
theorem sany_eff {r : A} (wb : List (Nat × List A)) (wo : List (Nat × Own)) (hg : GuardIs ops tm o true) (hW1 : (wb.all fun p => (W.getD k []).contains p.1) = true) (hW2 : (wo.all fun p => (W.getD k []).contains p.1) = true)
    (he : ∀ bxr owr, (∀ i, (X.getD k []).contains i = false → get bx i = none → get bxr i = none) → (∀ i, (X.getD k []).contains i = false → get ow i = none → get owr i = none) → EStep P (rst (X.getD k []) bx ++ bxr) (rst (X.getD k []) ow ++ owr) o (evA tm) r (wb ++ (rst (X.getD k []) bx ++ bxr)) (wo ++ (rst (X.getD k []) ow ++ owr)))
    (h : SAny P N ops W X Q (k + 1) rest ⟨tput o.dst r tm, wb ++ bx, wo ++ ow⟩) : SAny P N ops W X Q k (o :: rest) ⟨tm, bx, ow⟩ := by
  obtain ⟨tm', bx', ow', h1, h2⟩ := h
  exact ⟨⟨tm', bx', ow', .eff wb wo hg hW1 hW2 he h1, h2⟩⟩
end
/-- what holds while such a region runs -/
structure AnyI (C : Ctx) (n : Nat) (W : List (List Nat)) (val : Nat → A) (bxs : Nat → List (Nat × List A)) (ows : Nat → List (Nat × Own)) (tm : List (Nat × A)) (a : Act) (vals : Nat → Option Value) (w' : World) (m' : Mm) (g' : Gh) (bxc : List (Nat × List A)) (owc : List (Nat × Own)) : Prop where
  env : EnvG C bxc owc w' m' g'
  vs : ∀ i v, vals i = some v → i < n → AR m' g' (val i) v
  old : ∀ s x, get tm s = some x → AR m' g' x (a.eval (.tmp s))
  pb : ∀ x, ∃ p, p ≤ n ∧ (∀ j, j < n → x ∈ W.getD j [] → ((vals j).isSome = true ↔ j < p)) ∧ get bxc x = get (bxs p) x
  po : ∀ x, ∃ p, p ≤ n ∧ (∀ j, j < n → x ∈ W.getD j [] → ((vals j).isSome = true ↔ j < p)) ∧ get owc x = get (ows p) x
theorem no_write {β : Type} {W : List (List Nat)} {f : Nat → List (Nat × β)} {n : Nat} (h : ∀ i, i < n → ∀ x, x ∉ W.getD i [] → get (f (i + 1)) x = get (f i) x) {x : Nat} : ∀ (d p : Nat), p + d ≤ n → (∀ j, p ≤ j → j < p + d → x ∉ W.getD j []) → get (f (p + d)) x = get (f p) x
  | 0, p, _, _ => rfl
  | d + 1, p, hn, hw => by
    rw [show p + (d + 1) = (p + d) + 1 by omega, h (p + d) (by omega) x (hw _ (by omega) (by omega))]
    exact no_write h d p (by omega) fun j h1 h2 => hw j h1 (by omega)
set_option maxHeartbeats 2000000 in
/-- a region that draws its order: whatever the order, what its operations leave in the text's order -/
theorem swp_any {P : Program} {N : Nat} {Q : Exit → St → Prop} {id : Nat} {l : List Oper} {tm : List (Nat × A)} {bx : List (Nat × List A)} {ow : List (Nat × Own)} (W X : List (List Nat)) (hm : P.follows .mixedOrders = true) (hB : anyB l.toArray N W X = true)
    (h : SAny P N l.toArray W X Q 0 l ⟨tm, bx, ow⟩) : SWp P N (.region id l.toArray true) Q ⟨tm, bx, ow⟩ := by
  obtain ⟨tm', bx', ow', hrun, hQ⟩ := h
  obtain ⟨val, tms, bxs, ows, ht0, hb0, ho0, htn, hbn, hon_, hstep⟩ := erun_at hrun
  rw [Nat.zero_add] at htn hbn hon_
  generalize hops' : l.toArray = ops at *
  have hlsz : l.length = ops.size := by rw [← hops']; simp
  rw [hlsz] at htn hbn hon_
  unfold anyB at hB
  simp only [Bool.and_eq_true] at hB
  obtain ⟨⟨hB1, hB2⟩, hB3⟩ := hB
  rw [List.all_eq_true] at hB1 hB2 hB3
  have hdl : ∀ i, i < ops.size → ∀ j ∈ deps ops i, j < i := fun i hi j hj => by
    have := hB1 i (by simpa using hi)
    simp only [Bool.and_eq_true] at this
    simpa using (List.all_eq_true.1 this.1) j hj
  have hwr : ∀ i d, i < ops.size → dstOf ops i = some d → writer ops d = some i ∧ d < N := fun i d hi hd => by
    have := hB1 i (by simpa using hi)
    simp only [Bool.and_eq_true] at this
    have h2 := this.2
    rw [hd] at h2
    simpa only [Bool.and_eq_true, decide_eq_true_eq] using h2
  have hops : ∀ i, i < ops.size → ∃ o, ops[i]? = some o ∧ l[i]? = some o := by
    intro i hi
    have hil : i < l.length := by omega
    refine ⟨l[i], ?_, List.getElem?_eq_getElem hil⟩
    have h0 : l.toArray[i]? = some l[i] := by simp [List.getElem?_eq_getElem hil]
    rwa [hops'] at h0
  have hat : ∀ i o, ops[i]? = some o → tms (i + 1) = tput o.dst (val i) (tms i) ∧ EAt P ops W X i o (tms i) (bxs i) (bxs (i + 1)) (ows i) (ows (i + 1)) (val i) := fun i o ho => by
    have hi : i < ops.size := by
      rcases Nat.lt_or_ge i ops.size with h | h
      · exact h
      · rw [Array.getElem?_eq_none h] at ho; cases ho
    obtain ⟨o', h1, h2⟩ := hops i hi
    rw [ho] at h1; injection h1 with h1; subst h1
    have := hstep i o h2
    rwa [Nat.zero_add] at this
  have htput : ∀ i, i < ops.size → tms (i + 1) = tput (dstOf ops i) (val i) (tms i) := fun i hi => by
    obtain ⟨o, h1, _⟩ := hops i hi
    have := (hat i o h1).1
    unfold dstOf; rw [h1]; exact this
  have hnwb : ∀ i, i < ops.size → ∀ x, x ∉ W.getD i [] → get (bxs (i + 1)) x = get (bxs i) x := fun i hi x hx => by
    obtain ⟨o, h1, _⟩ := hops i hi
    rcases (hat i o h1).2.go with ⟨_, _, h2, _⟩ | ⟨_, _, h2, _⟩ | ⟨_, wb, wo, h2, _, h3, _⟩
    · rw [h2]
    · rw [h2]
    · rw [h3, get_append]
      cases hg : get wb x with
      | none => rfl
      | some y => exact absurd (by simpa using (List.all_eq_true.1 h2) _ (get_mem hg)) hx
  have hnwo : ∀ i, i < ops.size → ∀ x, x ∉ W.getD i [] → get (ows (i + 1)) x = get (ows i) x := fun i hi x hx => by
    obtain ⟨o, h1, _⟩ := hops i hi
    rcases (hat i o h1).2.go with ⟨_, _, _, h2, _⟩ | ⟨_, _, _, h2, _⟩ | ⟨_, wb, wo, _, h2, _, h3, _⟩
    · rw [h2]
    · rw [h2]
    · rw [h3, get_append]
      cases hg : get wo x with
      | none => rfl
      | some y => exact absurd (by simpa using (List.all_eq_true.1 h2) _ (get_mem hg)) hx
  -- an operation's numbers, and the others'
  have hord : ∀ k j x, k < ops.size → j < ops.size → j ≠ k → x ∈ W.getD j [] → ((X.getD k []).contains x = false ∨ x ∈ W.getD k []) → ordB (ancL ops ops.size) j k = true := by
    intro k j x hk hj hjk hx hor
    have h1 := hB3 k (by simpa using hk)
    simp only [Bool.and_eq_true] at h1
    have h2 := (List.all_eq_true.1 h1.2) j (by simpa using hj)
    simp only [Bool.or_eq_true] at h2
    rcases h2 with (h2 | h2) | h2
    · exact absurd (Nat.eq_of_beq_eq_true h2) hjk
    · exact h2
    · have h3 := (List.all_eq_true.1 h2) x hx
      simp only [Bool.and_eq_true, Bool.not_eq_true'] at h3
      rcases hor with h4 | h4
      · rw [h4] at h3; exact absurd h3.1 (by simp)
      · have h5 : (W.getD k []).contains x = true := by simpa using h4
        rw [h5] at h3; exact absurd h3.2 (by simp)
  have hWX : ∀ k x, k < ops.size → x ∈ W.getD k [] → (X.getD k []).contains x = false := fun k x hk hx => by
    have h1 := hB3 k (by simpa using hk)
    simp only [Bool.and_eq_true] at h1
    simpa using (List.all_eq_true.1 h1.1) x hx
  refine .mk fun C a w ⟨m, g, hr⟩ => ?_
  have hfn := frame_none ops a
  have hev : ∀ {vals : Nat → Option Value} {i d v}, i < ops.size → dstOf ops i = some d → vals i = some v → (frame ops a vals).eval (.tmp d) = v := fun {vals i d v} hi hd hv => by
    obtain ⟨h1, h2⟩ := hwr i d hi hd
    exact frame_eval h1 hv (by rw [hr.size]; exact h2)
  have hslot : ∀ (vals : Nat → Option Value) (w' : World) (m' : Mm) (g' : Gh) (bxc : List (Nat × List A)) (owc : List (Nat × Own)), AnyI C ops.size W val bxs ows tm a vals w' m' g' bxc owc → ∀ i, i ≤ ops.size → ∀ s, (match writer ops s with | none => true | some j => (decide (j < i) && (vals j).isSome)) = true → ∀ y, get (tms i) s = some y → AR m' g' y ((frame ops a vals).eval (.tmp s)) := by
    intro vals w' m' g' bxc owc hI i hi s hs y hy
    rcases tms_getE htput i hi s y hy with ⟨j, hj1, hj2, rfl⟩ | ⟨hg0, hnone⟩
    · have hw := (hwr j s (by omega) hj2).1
      rw [hw] at hs
      simp only [Bool.and_eq_true, decide_eq_true_eq] at hs
      obtain ⟨v, hv⟩ := Option.isSome_iff_exists.1 hs.2
      rw [hev (by omega) hj2 hv]
      exact hI.vs j v hv (by omega)
    · rw [ht0] at hg0
      cases hw : writer ops s with
      | none => rw [frame_old hw]; exact hI.old s y hg0
      | some j =>
        rw [hw] at hs
        simp only [Bool.and_eq_true, decide_eq_true_eq] at hs
        exact absurd (writer_spec hw) (hnone j hs.1)
  have hput : ∀ (vals : Nat → Option Value) (i : Nat) (o : Oper) (v : Value), ops[i]? = some o → (frame ops a vals).put o.dst v = frame ops a (setV vals i v) := by
    intro vals i o v ho
    have hi : i < ops.size := by
      rcases Nat.lt_or_ge i ops.size with h | h
      · exact h
      · rw [Array.getElem?_eq_none h] at ho; cases ho
    cases hd : o.dst with
    | some d => exact frame_put (hwr i d hi (by unfold dstOf; rw [ho]; exact hd)).1 v
    | none =>
      refine frame_put_none (fun s hs => ?_) v v
      have := writer_spec hs
      rw [ho] at this
      simp only [Option.bind_some, hd] at this
      cases this
  have hd0 : Lo w w.drew := (Lo.refl w).drew
  refine wp_region_any hm (wpAny_inv (fun listed a' w' => listed.size = ops.size ∧ Closed ops listed ∧ ∃ vals m' g' bxc owc, a' = frame ops a vals ∧ (∀ i, isOn listed i = (vals i).isSome) ∧ AnyI C ops.size W val bxs ows tm a vals w' m' g' bxc owc) ?_ ?_ _ _ _ _ ⟨by simp, ?_, fun _ => none, m, g, bx, ow, hfn.symm, ?_, ⟨hr.env.step hd0 (Ext.refl _ _) (hr.env.sub.lo hd0), fun i v h => (by cases h), hr.tmps, fun x => ⟨0, Nat.zero_le _, fun j _ _ => by simp, by rw [hb0]⟩, fun x => ⟨0, Nat.zero_le _, fun j _ _ => by simp, by rw [ho0]⟩⟩⟩ (by simp) (by simp [List.countP_replicate]))
  · rintro listed a' w' i ⟨hsz, hcl, vals, m', g', bxc, owc, rfl, hon, hI⟩ _ hrd
    obtain ⟨hlt, hoff, hdeps⟩ := ready_spec hrd
    have hcl' : Closed ops (listed.setIfInBounds i true) := by
      intro x y hx hy
      rw [isOn_set (by omega)] at hx ⊢
      by_cases hxi : x = i
      · subst hxi; rw [hdeps y hy]; simp
      · simp [hxi] at hx
        rw [hcl x y hx hy]; simp
    have hon' : ∀ v x, isOn (listed.setIfInBounds i true) x = (setV vals i v x).isSome := by
      intro v x
      rw [isOn_set (by omega)]
      by_cases hx : x = i
      · subst hx; simp [setV]
      · simp [setV, hx, hon x]
    have hvi : vals i = none := by rw [hon i] at hoff; simpa using hoff
    have hfin : ∀ v w'' m'' g'' bx2 ow2, AnyI C ops.size W val bxs ows tm a (setV vals i v) w'' m'' g'' bx2 ow2 → (listed.setIfInBounds i true).size = ops.size ∧ Closed ops (listed.setIfInBounds i true) ∧ ∃ vals' m' g' bxc owc, frame ops a (setV vals i v) = frame ops a vals' ∧ (∀ x, isOn (listed.setIfInBounds i true) x = (vals' x).isSome) ∧ AnyI C ops.size W val bxs ows tm a vals' w'' m' g' bxc owc :=
      fun v w'' m'' g'' bx2 ow2 h => ⟨by simpa using hsz, hcl', _, m'', g'', bx2, ow2, rfl, hon' v, h⟩
    obtain ⟨o, ho⟩ : ∃ o, ops[i]? = some o := ⟨_, Array.getElem?_eq_getElem hlt⟩
    unfold wpOp
    rw [ho]
    simp only
    -- who writes what this one looks at has gone before, or comes behind
    have hpos : ∀ j x, j < ops.size → j ≠ i → x ∈ W.getD j [] → ((X.getD i []).contains x = false ∨ x ∈ W.getD i []) → ((vals j).isSome = true ↔ j < i) := by
      intro j x hj hji hx hor
      have h1 := hord i j x hlt hj hji hx hor
      unfold ordB at h1
      rw [Bool.or_eq_true] at h1
      rcases h1 with h1 | h1
      · have h2 := anc_on hcl hdl i hlt hdeps ops.size hlt j (by simpa using h1)
        exact ⟨fun _ => h2.2, fun _ => by rw [← hon j]; exact h2.1⟩
      · have h1' : i ∈ (ancL ops ops.size).getD j [] := by simpa using h1
        have h2 := anc_lt hdl j hj ops.size hj i h1'
        refine ⟨fun h3 => ?_, fun h3 => by omega⟩
        rw [← hon j] at h3
        have h4 := (anc_on hcl hdl j hj (fun y hy => hcl j y h3 hy) ops.size hj i h1').1
        rw [hoff] at h4; cases h4
    have hposB : ∀ x, (X.getD i []).contains x = false → get bxc x = get (bxs i) x := by
      intro x hx
      obtain ⟨p, hp, h1, h2⟩ := hI.pb x
      rw [h2]
      have hw : ∀ j, j < ops.size → x ∈ W.getD j [] → (j < p ↔ j < i) ∨ j = i := fun j hj hxj => by
        by_cases hji : j = i
        · exact .inr hji
        · exact .inl ((h1 j hj hxj).symm.trans (hpos j x hj hji hxj (.inl hx)))
      have hwi : x ∈ W.getD i [] → ¬ i < p := fun h3 h4 => by
        have := (h1 i hlt h3).2 h4
        rw [hvi] at this; cases this
      rcases Nat.le_total p i with hpi | hpi
      · obtain ⟨d, rfl⟩ : ∃ d, i = p + d := ⟨i - p, by omega⟩
        exact (no_write hnwb d p (by omega) fun j h3 h4 hxj => by
          rcases hw j (by omega) hxj with h5 | h5
          · have := h5.2 h4; omega
          · omega).symm
      · obtain ⟨d, rfl⟩ : ∃ d, p = i + d := ⟨p - i, by omega⟩
        exact no_write hnwb d i (by omega) fun j h3 h4 hxj => by
          rcases hw j (by omega) hxj with h5 | h5
          · have := h5.1 h4; omega
          · subst h5; exact hwi hxj h4
    have hposO : ∀ x, (X.getD i []).contains x = false → get owc x = get (ows i) x := by
      intro x hx
      obtain ⟨p, hp, h1, h2⟩ := hI.po x
      rw [h2]
      have hw : ∀ j, j < ops.size → x ∈ W.getD j [] → (j < p ↔ j < i) ∨ j = i := fun j hj hxj => by
        by_cases hji : j = i
        · exact .inr hji
        · exact .inl ((h1 j hj hxj).symm.trans (hpos j x hj hji hxj (.inl hx)))
      have hwi : x ∈ W.getD i [] → ¬ i < p := fun h3 h4 => by
        have := (h1 i hlt h3).2 h4
        rw [hvi] at this; cases this
      rcases Nat.le_total p i with hpi | hpi
      · obtain ⟨d, rfl⟩ : ∃ d, i = p + d := ⟨i - p, by omega⟩
        exact (no_write hnwo d p (by omega) fun j h3 h4 hxj => by
          rcases hw j (by omega) hxj with h5 | h5
          · have := h5.2 h4; omega
          · omega).symm
      · obtain ⟨d, rfl⟩ : ∃ d, p = i + d := ⟨p - i, by omega⟩
        exact no_write hnwo d i (by omega) fun j h3 h4 hxj => by
          rcases hw j (by omega) hxj with h5 | h5
          · have := h5.1 h4; omega
          · subst h5; exact hwi hxj h4
    have hgetB : ∀ x, get (rst (X.getD i []) (bxs i) ++ bxc) x = get bxc x := fun x => by
      rw [get_append, get_rst]
      cases hx : (X.getD i []).contains x with
      | true => rfl
      | false =>
        rw [hposB x hx]
        cases get (bxs i) x <;> rfl
    have hgetO : ∀ x, get (rst (X.getD i []) (ows i) ++ owc) x = get owc x := fun x => by
      rw [get_append, get_rst]
      cases hx : (X.getD i []).contains x with
      | true => rfl
      | false =>
        rw [hposO x hx]
        cases get (ows i) x <;> rfl
    have henv : EnvG C (rst (X.getD i []) (bxs i) ++ bxc) (rst (X.getD i []) (ows i) ++ owc) w' m' g' := hI.env.same hgetB hgetO
    have hB2' := hB2 i (by simpa using hlt)
    rw [ho] at hB2'
    simp only [Bool.and_eq_true] at hB2'
    have hdv : ∀ j, (deps ops i).contains j = true → (vals j).isSome = true := fun j hj => by rw [← hon j]; exact hdeps j (by simpa using hj)
    have hs1 : ∀ s, (match writer ops s with | none => true | some j => decide (j < i) && (deps ops i).contains j) = true → ∀ y, get (tms i) s = some y → AR m' g' y ((frame ops a vals).eval (.tmp s)) := by
      intro s hs y hy
      refine hslot vals w' m' g' bxc owc hI i (by omega) s ?_ y hy
      cases hw : writer ops s with
      | none => rfl
      | some j =>
        rw [hw] at hs
        simp only [Bool.and_eq_true] at hs ⊢
        exact ⟨hs.1, hdv j hs.2⟩
    have hgd : ∀ j want e, o.guard = some (j, want) → dstOf ops j = some e → ∀ y, get (tms i) e = some y → AR m' g' y ((frame ops a vals).eval (.tmp e)) := by
      intro j want e hg he y hy
      have h3 := hB2'.2
      rw [hg] at h3
      refine hs1 e ?_ y hy
      have hji : j < i := by simp only [Bool.and_eq_true, decide_eq_true_eq] at h3; exact h3.1
      rw [(hwr j e (by omega) he).1]
      exact h3
    have hops' : ∀ x ∈ o.op.operands.toList, ∀ y, evA (tms i) x = some y → AR m' g' y ((frame ops a vals).eval x) := by
      intro x hx y hy
      cases x with
      | tmp s => exact hs1 s ((List.all_eq_true.1 hB2'.1) s (mem_slots hx)) y hy
      | const v => injection hy with hy; subst hy; exact TR.v v
      | func f => injection hy with hy; subst hy; exact TR.v _
      | global i => cases hy
    have hset : ∀ v j, j ≠ i → setV vals i v j = vals j := fun v j hj => setV_other _ hj v
    -- what is added and turns nothing
    have hquiet : ∀ v w'' m'', W.getD i [] = [] → Lo w' w'' → Ext m' m'' w'.heap.size → Sub m'' w'' → AR m'' g' (val i) v → AnyI C ops.size W val bxs ows tm a (setV vals i v) w'' m'' g' bxc owc := by
      intro v w'' m'' hW hl he hs hv
      refine ⟨hI.env.step hl he hs, fun x u hu hx => ?_, fun s x hx => (hI.old s x hx).mono he.1, fun x => ?_, fun x => ?_⟩
      · by_cases hxi : x = i
        · subst hxi; rw [setV_same] at hu; injection hu with hu; subst hu; exact hv
        · rw [hset v x hxi] at hu; exact (hI.vs x u hu hx).mono he.1
      · obtain ⟨p, h1, h2, h3⟩ := hI.pb x
        refine ⟨p, h1, fun j hj hxj => ?_, h3⟩
        have hji : j ≠ i := fun e => by subst e; rw [hW] at hxj; cases hxj
        rw [hset v j hji]; exact h2 j hj hxj
      · obtain ⟨p, h1, h2, h3⟩ := hI.po x
        refine ⟨p, h1, fun j hj hxj => ?_, h3⟩
        have hji : j ≠ i := fun e => by subst e; rw [hW] at hxj; cases hxj
        rw [hset v j hji]; exact h2 j hj hxj
    rcases (hat i o ho).2.go with ⟨hg, hW, _, _, hp⟩ | ⟨hg, hW, _, _, hv⟩ | ⟨hg, wb, wo, hW1, hW2, hbe, hoe, he⟩
    · rw [if_pos (hg.wanted hgd)]
      refine .inl (Oper.wp_mono ?_ ((hp bxc owc).go C m' g' w' (frame ops a vals) _ henv hops'))
      rintro a2 w2 ⟨v, m2, rfl, hl2, he2, hs2, hv2⟩
      rw [hput vals i o v ho]
      exact hfin v w2 m2 g' bxc owc (hquiet v w2 m2 hW hl2 he2 hs2 hv2)
    · rw [if_neg (by rw [hg.wanted hgd]; simp)]
      rw [hput vals i o _ ho]
      exact hfin _ w' m' g' bxc owc (hquiet _ w' m' hW (Lo.refl _) (Ext.refl _ _) hI.env.sub (by rw [hv]; exact TR.v _))
    · rw [if_pos (hg.wanted hgd)]
      refine .inl (Oper.wp_mono ?_ ((he bxc owc (fun x hx hn => by rw [hposB x hx]; exact hn) (fun x hx hn => by rw [hposO x hx]; exact hn)).go C m' g' w' (frame ops a vals) _ henv hops'))
      rintro a2 w2 ⟨v, m2, g2, rfl, henv2, hv2, hk2⟩
      rw [hput vals i o v ho]
      refine hfin v w2 m2 g2 _ _ ⟨henv2, fun x u hu hx => ?_, fun s x hx => hk2 _ _ (hI.old s x hx), fun x => ?_, fun x => ?_⟩
      · by_cases hxi : x = i
        · subst hxi; rw [setV_same] at hu; injection hu with hu; subst hu; exact hv2
        · rw [hset v x hxi] at hu; exact hk2 _ _ (hI.vs x u hu hx)
      · by_cases hxW : x ∈ W.getD i []
        · refine ⟨i + 1, by omega, fun j hj hxj => ?_, ?_⟩
          · by_cases hji : j = i
            · subst hji; rw [setV_same]; simp
            · rw [hset v j hji, hpos j x hj hji hxj (.inr hxW)]; omega
          · rw [hbe, get_append wb (rst (X.getD i []) (bxs i) ++ bxc), hgetB, hposB x (hWX i x hlt hxW), get_append wb (bxs i)]
        · obtain ⟨p, h1, h2, h3⟩ := hI.pb x
          refine ⟨p, h1, fun j hj hxj => ?_, ?_⟩
          · have hji : j ≠ i := fun e => by subst e; exact hxW hxj
            rw [hset v j hji]; exact h2 j hj hxj
          · rw [get_append]
            cases hgw : get wb x with
            | none => simp only; rw [hgetB]; exact h3
            | some y => exact absurd (by simpa using (List.all_eq_true.1 hW1) _ (get_mem hgw)) hxW
      · by_cases hxW : x ∈ W.getD i []
        · refine ⟨i + 1, by omega, fun j hj hxj => ?_, ?_⟩
          · by_cases hji : j = i
            · subst hji; rw [setV_same]; simp
            · rw [hset v j hji, hpos j x hj hji hxj (.inr hxW)]; omega
          · rw [hoe, get_append wo (rst (X.getD i []) (ows i) ++ owc), hgetO, hposO x (hWX i x hlt hxW), get_append wo (ows i)]
        · obtain ⟨p, h1, h2, h3⟩ := hI.po x
          refine ⟨p, h1, fun j hj hxj => ?_, ?_⟩
          · have hji : j ≠ i := fun e => by subst e; exact hxW hxj
            rw [hset v j hji]; exact h2 j hj hxj
          · rw [get_append]
            cases hgw : get wo x with
            | none => simp only; rw [hgetO]; exact h3
            | some y => exact absurd (by simpa using (List.all_eq_true.1 hW2) _ (get_mem hgw)) hxW
  · rintro listed a' w' ⟨hsz, hcl, vals, m', g', bxc, owc, rfl, hon, hI⟩ hrd
    have hall : ∀ k, ∀ i, i < k → i < ops.size → isOn listed i = true := by
      intro k
      induction k with
      | zero => intro i hi; omega
      | succ k ih =>
        intro i hi hs
        rcases Nat.lt_or_ge i k with h | h
        · exact ih i h hs
        · have hik : i = k := by omega
          subst hik
          rcases Bool.eq_false_or_eq_true (isOn listed i) with h1 | h1
          · exact h1
          · exfalso
            have hmem : i ∈ Region.ready .any ops listed := by
              unfold Region.ready
              rw [List.mem_filter, List.mem_range]
              refine ⟨hs, ?_⟩
              simp only [Bool.and_eq_true, Bool.not_eq_true']
              constructor
              · unfold isOn at h1
                rw [Array.getD_eq_getD_getElem?, Array.getElem?_eq_getElem (by omega)] at h1 ⊢
                simpa using h1
              · rw [Array.getElem?_eq_getElem hs]
                simp only [Option.map_some, Option.getD_some]
                rw [Array.all_eq_true_iff_forall_mem]
                intro e he
                rcases Bool.eq_false_or_eq_true (Region.binds .any e) with hb | hb
                · have hj : e.on ∈ deps ops i := by
                    unfold deps
                    rw [Array.getElem?_eq_getElem hs]
                    simp only [Option.map_some, Option.getD_some, List.mem_map, List.mem_filter]
                    exact ⟨e, ⟨by simpa using he, hb⟩, rfl⟩
                  have := ih e.on (hdl i hs _ hj) (by have := hdl i hs _ hj; omega)
                  unfold isOn at this
                  simp [this]
                · simp [hb]
            rw [hrd] at hmem; cases hmem
    have hvs : ∀ i, i < ops.size → (vals i).isSome = true := fun i hi => by rw [← hon i]; exact hall (i + 1) i (by omega) hi
    have hendB : ∀ x, get bx' x = get bxc x := fun x => by
      obtain ⟨p, h1, h2, h3⟩ := hI.pb x
      rw [h3, ← hbn]
      obtain ⟨d, hd⟩ : ∃ d, ops.size = p + d := ⟨ops.size - p, by omega⟩
      rw [hd]
      exact no_write hnwb d p (by omega) fun j h4 h5 hxj => by
        have := (h2 j (by omega) hxj).1 (hvs j (by omega)); omega
    have hendO : ∀ x, get ow' x = get owc x := fun x => by
      obtain ⟨p, h1, h2, h3⟩ := hI.po x
      rw [h3, ← hon_]
      obtain ⟨d, hd⟩ : ∃ d, ops.size = p + d := ⟨ops.size - p, by omega⟩
      rw [hd]
      exact no_write hnwo d p (by omega) fun j h4 h5 hxj => by
        have := (h2 j (by omega) hxj).1 (hvs j (by omega)); omega
    refine ⟨_, ⟨m', g', hI.env.same hendB hendO, by simp [frame, hr.size], hr.defers, fun s x hx => ?_⟩, hQ⟩
    refine hslot vals w' m' g' bxc owc hI ops.size (Nat.le_refl _) s ?_ x (by rw [htn]; exact hx)
    cases hw : writer ops s with
    | none => rfl
    | some j =>
      have hjs := writer_spec hw
      have hjlt : j < ops.size := by
        rcases Nat.lt_or_ge j ops.size with h | h
        · exact h
        · rw [Array.getElem?_eq_none h] at hjs; cases hjs
      simp only [Bool.and_eq_true, decide_eq_true_eq]
      exact ⟨hjlt, hvs j hjlt⟩
  · intro i j h
    unfold isOn at h
    rw [Array.getD_eq_getD_getElem?] at h
    simp only [Array.getElem?_replicate] at h
    split at h <;> cases h
  · intro i
    unfold isOn
    rw [Array.getD_eq_getD_getElem?]
    simp only [Array.getElem?_replicate]
    split <;> rfl
end Go.Proofs.Ytmjckopplkihlaa.Sim

/- A logic of states: operations that make and write boxes and rows, in a region that draws its order. -/
namespace Go.Proofs.Ytmjckopplkihlaa.Sim
set_option linter.unusedVariables false
set_option linter.unusedSimpArgs false
open Go.RowKit Mem
section
variable {P : Program} {bx bx' : List (Nat × List A)} {ow ow' : List (Nat × Own)} {o : Oper} {ρ : Operand → Option A} {r : A}
theorem e_run (h : ∀ (C : Ctx) (m : Mm) (g : Gh) (w : World) (a : Act), EnvG C bx ow w m g → (∀ x ∈ o.op.operands.toList, ∀ y, ρ x = some y → AR m g y (a.eval x)) →
    ∃ v w' m' g', (execOp a.eval o).run P w = .ok (.value v) w' ∧ EnvG C bx' ow' w' m' g' ∧ AR m' g' r v ∧ ∀ x u, AR m g x u → AR m' g' x u) : EStep P bx ow o ρ r bx' ow' := .mk fun C m g w a Q he ho => by
  obtain ⟨v, w', m', g', h1, h2, h3, h4⟩ := h C m g w a he ho
  exact wp_of_run h1 ⟨v, m', g', rfl, h2, h3, h4⟩
/-- a literal of none: a row of the call's own -/
theorem e_build0 {t e sz by_ d : Nat} (ho : o.op = .buildSlice t 0 #[]) (hT : sliceE P t = some (e, sz, by_)) (hi : get ow d = none) (hp : Nat.ble 2000 d = false := by rfl) : EStep P bx ow o ρ (.own d 0) bx ((d, ⟨e, sz, []⟩) :: ow) := e_run fun C m g w a he _ => by
  obtain ⟨i', zv, hu, hi', _⟩ := sliceE_spec hT
  have hlw : g.lw d = false := by rw [he.lw, hi]; rfl
  obtain ⟨h8, h9⟩ := he.setO (hp := hp) (w' := w.alloc (.cells #[] e)) (i := d) (v := .slice (some ⟨w.heap.size, 0, none⟩) 0 0) (e := e) (sz := sz) (rows := []) (vs := []) (World.ownsRow_made w #[] 0 (Nat.zero_le _) (Nat.zero_le _) (by simp)) (fun r h => by cases h) ⟨rfl, fun j t v h => by simp at h⟩ (.inr hi) (.inr ⟨fun b hb => by injection hb with hb; subst hb; exact Nat.le_refl _, (Lo.refl w).alloc _⟩)
  refine ⟨.slice (some ⟨w.heap.size, 0, none⟩) 0 0, w.alloc (.cells #[] e), _, _, ?_, h8, ⟨by simp [Gh.setO], by simp [Gh.setO], ⟨_, _, rfl⟩, fun _ => by simp [Gh.setO]⟩, fun x u h => h.setO h9 (.inl hlw)⟩
  simp [execOp, ho, Instr.buildSlice, run_underlying hu, sizeOf, typeInfo, hi', Instr.fill, newRow]
  congr 2
  exact Array.eq_empty_of_size_eq_zero (by simp)
/-- an append to a row of the call's own -/
theorem e_append {t e sz by_ : Nat} {x z : Operand} {i n : Nat} {y' : A} {rows rows2 : List (List T)} (ho : o.op = .call { callee := .builtin .append, args := #[x, z], argTypes := #[t, t] })
    (hx : ρ x = some (.own i n)) (hi : get ow i = some ⟨e, sz, rows⟩) (hn : n = rows.length) (hz : ρ z = some y') (hz' : Vw ow y' (.sl sz rows2)) (hT : sliceE P t = some (e, sz, by_))
    (hb : (rows.length + rows2.length) * by_ ≤ 140737488355328) (hm : rows.length + rows2.length ≤ maxLen) (hp : Nat.ble 2000 i = false := by rfl) : EStep P bx ow o ρ (.own i (rows ++ rows2).length) bx ((i, ⟨e, sz, rows ++ rows2⟩) :: ow) := e_run fun C m g w a he hop => by
  obtain ⟨i', zv, hu, hi', hzz, h4, h5, h6, h7⟩ := sliceE_spec hT
  have hop1 := hop x (by simp [ho, Op.operands, Call.operands]) _ hx
  obtain ⟨hlw, _, hAx, hgo⟩ := hop1
  have hln := he.ln i _ hi
  have hvx := hgo (by rw [hln]; exact hn)
  have hvz : TR m (.sl sz rows2) (a.eval z) := hz'.ok he (hop z (by simp [ho, Op.operands, Call.operands]) _ hz)
  obtain ⟨vs, ho1, hrl, hc, hbk⟩ := he.owns i _ hi
  dsimp only at ho1 hrl hc hbk
  have hrl2 : ∀ r ∈ rows2, r.length = sz := by generalize a.eval z = vz at hvz; cases hvz with | sl _ _ A b off cap u hc hm' hA hr hu' ht => exact hr
  have hform : ∃ A cap, a.eval z = .slice A rows2.length cap := by generalize a.eval z = vz at hvz; cases hvz with | sl _ _ A b off cap => exact ⟨A, cap, rfl⟩
  obtain ⟨Az, capz, hvv⟩ := hform
  have hexec : ∀ v' w', (Builtin.append_ #[t, t] o.type #[a.eval x, a.eval z]).run P w = .ok v' w' → (execOp a.eval o).run P w = .ok (.value v') w' := fun v' w' hh => by
    simp only [execOp, ho, resolve, invoke, builtin, Sem.run_bind, Sem.run_pure, Result.andThen_ok, List.map_toArray, List.map_cons, List.map_nil, hh]
  rcases Nat.eq_zero_or_pos rows2.length with h0 | h0
  · have hr0 : rows2 = [] := List.eq_nil_of_length_eq_zero h0
    subst hr0
    obtain ⟨A, c, hA⟩ := hAx
    have hnc : n ≤ c := by
      obtain ⟨_, hcase⟩ := ho1
      rcases hcase with ⟨e1, e2⟩ | ⟨q, cap, cur, e1, _, _, e2, _⟩
      · omega
      · rw [← hvx, hA] at e1; injection e1 with e3 e4 e5; omega
    refine ⟨a.eval x, w, m, g, hexec _ _ (by rw [hvv, hA]; exact run_append_nothing (P := P) (w := w) t o.type e i' hu hi' A Az n c capz hnc), ?_, ?_, fun x u h => h⟩
    · rw [List.append_nil]
      refine he.same (fun j => rfl) fun j => ?_
      rw [get_cons]
      split
      · rename_i e'; subst e'; exact hi.symm
      · rfl
    · rw [List.append_nil, ← hn]
      exact hop x (by simp [ho, Op.operands, Call.operands]) _ hx
  · obtain ⟨b, off, us, rfl, hcu, hlu, hcell⟩ := TR.flat (hvv ▸ hvz) h0 h7
    obtain ⟨v', w', hrun, hown, hcase⟩ := run_append_own3 (P := P) w 0 t o.type e i' zv sz by_ hu hi' hzz h4 h5 h6 h7 (g.go i) rows.length vs ho1 ⟨b, off, none⟩ rows2.length capz us hlu (fun j u hj => by rw [addr_add]; exact he.sub _ _ _ (hcell j u hj)) hcu.one hm hb (Nat.zero_le _)
    obtain ⟨h8, h9⟩ := he.setO (hp := hp) (i := i) (v := v') (e := e) (sz := sz) (rows := rows ++ rows2) (vs := vs ++ us) (by rw [List.length_append]; exact hown) (fun r hr' => by
        rcases List.mem_append.1 hr' with hr' | hr'
        · exact hrl r hr'
        · exact hrl2 r hr') (by rw [List.flatten_append]; exact hc.app hcu) (.inl ⟨_, hi, by simp; omega⟩) (by
        rcases hcase with ⟨e1, e2⟩ | hf
        · exact .inl ⟨_, vis i vs, hi, e1, e2, vis_pre fun k u hk => by rw [List.getElem?_append_left (List.getElem?_eq_some_iff.1 hk).1]; exact hk, fun b hb k => (hbk b hb).1 k⟩
        · exact .inr hf)
    refine ⟨v', w', _, _, hexec _ _ (by rw [hvv, hvx]; exact hrun), h8, ?_, fun x u h => h.setO h9 (.inr (by rw [hln]; simp; omega))⟩
    refine ⟨by simp [Gh.setO], by simp [Gh.setO], ?_, fun _ => by simp [Gh.setO]⟩
    obtain ⟨_, hq⟩ := hown
    rcases hq with ⟨rfl, e2⟩ | ⟨q, cap, cur, rfl, _⟩
    · omega
    · exact ⟨some ⟨q, 0, none⟩, cap, by rw [List.length_append]⟩
/-- a struct's variable, its zero in it -/
theorem e_allocS {ty : TypeId} {d : Nat} {pl : List (Nat × Nat)} {zs : List Value} (hS : strI P ty = some (pl, zs)) (ho : o.op = .alloc ty) (hi : get bx d = none) (hp : Nat.ble 2000 d = false := by rfl) : EStep P bx ow o ρ (.bp d 0) ((d, zs.map fun v => A.t (T.v v)) :: bx) ow := e_run fun C m g w a he _ => by
  obtain ⟨it, z, h1, h2, h3, h4⟩ := strI_zero hS
  have hlb : g.lb d = false := by rw [he.lb, hi]; rfl
  refine ⟨.pointer (some ⟨w.heap.size, 0, none⟩), w.alloc (.cells z.cells ty), m, g.addB d w.heap.size, ?_, he.box hp hi (vs := z.cells) (ty := ty) ⟨by rw [h3]; simp, fun j x v hx hv => ?_⟩, ⟨by simp [Gh.addB], by simp [Gh.addB]⟩, fun x v h => h.addB hlb⟩
  · simp [execOp, ho, Instr.alloc, zeroValue, typeInfo, h1, h2, newVar, newRow]
  · rw [h3] at hv
    rw [List.getElem?_map, hv] at hx
    simp at hx; subst hx
    exact ⟨TR.v _, h4 v (List.mem_of_getElem? hv)⟩
/-- cells of a box written -/
theorem e_store {ty : TypeId} {x z : Operand} {y : A} {i off n : Nat} {ag : Bool} {cs : List A} (ho : o.op = .store ty x z) (hd : o.dst = none) (hx : ρ x = some (.bp i off)) (hz : ρ z = some y) (hk : y.okB = true)
    (hb : get bx i = some cs) (hT : tyI P ty = some (ag, n)) (hn : y.cells.length = n) (hf : Nat.ble (off + n) cs.length = true) : EStep P bx ow o ρ .any ((i, spl cs off y.cells) :: bx) ow := .mk fun C m g w a Q he hop => by
  obtain ⟨_, h1⟩ := hop x (by simp [ho, Op.operands]) _ hx
  have hv := acells_ok (hop z (by simp [ho, Op.operands]) _ hz) hk
  obtain ⟨vs, ty', hh, hs, hc, hw0, hm⟩ := he.boxes i cs hb
  obtain ⟨d', i', hu, hi', _, hsz⟩ := tyI_spec hT
  have hlen : (a.eval z).cells.toList.length = n := by rw [hv.1, hn]
  have hfit := Nat.le_of_ble_eq_true hf
  have hst := run_storeCells_at P (g.gb i) off ty' (a.eval z).cells.toList 0 vs w hh (by rw [hlen, Nat.add_zero, hs]; exact hfit) hv.one
  rw [Nat.add_zero] at hst
  have hca : ACells m g (spl cs off y.cells) (vs.toList.take off ++ (a.eval z).cells.toList ++ vs.toList.drop (off + (a.eval z).cells.toList.length)) := by
    have hc' : ACells m g cs vs.toList := ⟨by simpa using hs, fun j t v h2 h3 => hc j t v h2 (by simpa using h3)⟩
    rw [List.append_assoc]
    unfold spl
    rw [hv.1]
    exact (hc'.take off).app (hv.app (hc'.drop _))
  have hrun : (execOp a.eval o).run P w = .ok .skip (w.setRow (g.gb i) (vs.toList.take off ++ (a.eval z).cells.toList ++ vs.toList.drop (off + (a.eval z).cells.toList.length)).toArray) := by
    have hsz' : (a.eval z).cells.size = i'.size := by rw [hsz]; simpa using hlen
    have hsv : (storeVar ty ⟨g.gb i, off, none⟩ (a.eval z)).run P w = .ok () (w.setRow (g.gb i) (vs.toList.take off ++ (a.eval z).cells.toList ++ vs.toList.drop (off + (a.eval z).cells.toList.length)).toArray) := by
      generalize a.eval z = u at *
      simp [storeVar, sizeOf, typeInfo, hi', hsz']
      simpa [hsz'] using hst
    simp only [execOp, ho, h1, Instr.storeAt, Instr.sureAddr, Sem.run_bind, Sem.run_pure, Result.andThen_ok, hsv]
  unfold Oper.wp
  rw [hrun, Oper.upon_skip]
  refine ⟨undef, m, g, (by rw [hd]; try rfl), he.setB hb hh (by simpa using hca), trivial, fun x u h => h⟩
/-- an element's cells of a row that is the call's alone written -/
theorem e_store_own {ty e : TypeId} {x z : Operand} {y : A} {i nn sz k off n : Nat} {ag : Bool} {rows : List (List T)} {row ts : List T} {t : T} (hh : hid i = true) (ho : o.op = .store ty x z) (hd : o.dst = none) (hx : ρ x = some (.oe i nn sz k off)) (hi : get ow i = some ⟨e, sz, rows⟩) (hnn : nn = rows.length)
    (hz : ρ z = some y) (hv : Vw ow y t) (hk : t.okB = true) (hts : t.cells = ts) (hT : tyI P ty = some (ag, n)) (hn : ts.length = n) (hrow : rows[k]? = some row) (hf : Nat.ble (off + n) row.length = true) : EStep P bx ow o ρ .any bx ((i, ⟨e, sz, rows.set k (row.take off ++ (ts ++ row.drop (off + n)))⟩) :: ow) := .mk fun C m g w a Q he hop => by
  obtain ⟨h1, h2, _, h4⟩ := hop x (by simp [ho, Op.operands]) _ hx
  obtain ⟨b, h5, h6⟩ := h4 (by rw [he.ln i _ hi]; exact hnn)
  have hvt : TR m t (a.eval z) := hv.ok he (hop z (by simp [ho, Op.operands]) _ hz)
  have hca : ACells m g (ts.map A.t) (a.eval z).cells.toList := by
    have := acells_ok (m := m) (g := g) (y := .t t) hvt hk
    rw [← hts]; exact this
  obtain ⟨vs, hown, hrr, hc, _⟩ := he.owns i _ hi
  dsimp only at hown hrr hc
  have hfit := Nat.le_of_ble_eq_true hf
  have hkl : k < rows.length := (List.getElem?_eq_some_iff.1 hrow).1
  have hrl : row.length = sz := hrr row (List.mem_of_getElem? hrow)
  obtain ⟨b', cap, cur, e1, e2, e3, e4, e5, e6, e7⟩ := own_form hown (by omega)
  rw [e1] at h5; injection h5 with h5; subst h5
  have hus : (a.eval z).cells.toList.length = n := by rw [hca.1]; simp [hn]
  have hoff : k * sz + off + n ≤ cur.size := by
    have hks : k * sz + sz ≤ rows.length * sz := by rw [← Nat.succ_mul]; exact Nat.mul_le_mul_right _ hkl
    have : rows.length * sz ≤ cap * sz := Nat.mul_le_mul_right _ e4
    omega
  have hst := run_storeCells_at P b' (k * sz + off) e (a.eval z).cells.toList 0 cur w e3 (by rw [hus, Nat.add_zero]; exact hoff) hca.one
  rw [Nat.add_zero] at hst
  obtain ⟨d', i', hu, hi', _, hsz⟩ := tyI_spec hT
  have hrun : (execOp a.eval o).run P w = .ok .skip (w.setRow b' (cur.toList.take (k * sz + off) ++ (a.eval z).cells.toList ++ cur.toList.drop (k * sz + off + (a.eval z).cells.toList.length)).toArray) := by
    have hsz' : (a.eval z).cells.size = i'.size := by rw [hsz]; simpa using hus
    have hsv : (storeVar ty ⟨b', k * sz + off, none⟩ (a.eval z)).run P w = .ok () (w.setRow b' (cur.toList.take (k * sz + off) ++ (a.eval z).cells.toList ++ cur.toList.drop (k * sz + off + (a.eval z).cells.toList.length)).toArray) := by
      generalize a.eval z = u at *
      simp [storeVar, sizeOf, typeInfo, hi', hsz']
      simpa [hsz'] using hst
    simp only [execOp, ho, h6, Instr.storeAt, Instr.sureAddr, Sem.run_bind, Sem.run_pure, Result.andThen_ok, hsv]
  unfold Oper.wp
  rw [hrun, Oper.upon_skip]
  refine ⟨undef, m, g, (by rw [hd]; try rfl), he.setE (rows := rows) (rows' := rows.set k (row.take off ++ (ts ++ row.drop (off + n)))) (vs' := vs.take (k * sz + off) ++ ((a.eval z).cells.toList ++ vs.drop (k * sz + off + n))) hh hi (by simp) e1 e3 ?_ ?_ ?_ ?_, trivial, fun x u h => h⟩
  · intro r0 hr0
    rcases List.mem_or_eq_of_mem_set hr0 with h7 | h7
    · exact hrr r0 h7
    · subst h7; simp; omega
  · have hks : (k + 1) * sz ≤ rows.length * sz := Nat.mul_le_mul_right _ hkl
    rw [Nat.succ_mul] at hks
    have hfl := flat_len hrr
    have hF : rows.flatten = rows.flatten.take (k * sz) ++ (row ++ rows.flatten.drop (k * sz + sz)) := by
      conv => lhs; rw [← set_self hrow]
      exact flat_set hrr hrow hrl
    have hta : (rows.flatten.take (k * sz)).length = k * sz := by rw [List.length_take]; omega
    have h8 := take_mid (rows.flatten.take (k * sz)) row (rows.flatten.drop (k * sz + sz)) off (by omega)
    have h9 := drop_mid (rows.flatten.take (k * sz)) row (rows.flatten.drop (k * sz + sz)) (off + n) hfit
    rw [← hF, hta] at h8 h9
    rw [flat_set hrr hrow (by simp; omega)]
    rw [List.append_assoc, List.append_assoc, ← h9, ← List.append_assoc, ← h8]
    have hts2 : CellsAre m ts (a.eval z).cells.toList := ⟨by rw [hus, hn], fun j t v h10 h11 => hca.2 j (.t t) v (by rw [List.getElem?_map, h10]; rfl) h11⟩
    exact (hc.take _).app (hts2.app (by rw [show k * sz + off + n = k * sz + (off + n) by omega]; exact hc.drop _))
  · have hus' : (a.eval z).cells.size = n := by simpa using hus
    simp; omega
  · have hks : (k + 1) * sz ≤ rows.length * sz := Nat.mul_le_mul_right _ hkl
    rw [Nat.succ_mul] at hks
    have hL : rows.length * sz ≤ cur.size := by rw [e6]; exact Nat.mul_le_mul_right _ e4
    have hl1 : (cur.toList.take (k * sz + off)).length = k * sz + off := by simp; omega
    rw [← e7]
    simp only [List.append_assoc]
    rw [List.take_append, hl1, List.take_of_length_le (show (cur.toList.take (k * sz + off)).length ≤ rows.length * sz by omega), List.take_append, List.take_of_length_le (show (a.eval z).cells.toList.length ≤ rows.length * sz - (k * sz + off) by omega), hus, Nat.sub_sub]
    rw [List.take_take, Nat.min_eq_left (by omega), List.drop_take]
end
end Go.Proofs.Ytmjckopplkihlaa.Sim

/- A logic of states: the greater, the smaller one of two numbers. -/
namespace Go.Proofs.Ytmjckopplkihlaa.Sim
set_option linter.unusedVariables false
set_option linter.unusedSimpArgs false
open Go.RowKit Mem
section
variable {P : Program} {bx : List (Nat × List A)} {ow : List (Nat × Own)} {o : Oper} {ρ : Operand → Option A} {r : A}
theorem po_max {x y : Operand} {ts : Array TypeId} {k : IntKind} {i j : Int} (ho : o.op = .call { callee := .builtin .max, args := #[x, y], argTypes := ts }) (hx : ρ x = some (.t (.v (.int k i)))) (hy : ρ y = some (.t (.v (.int k j)))) : PureOp P bx ow o ρ (.t (.v (.int k (max i j)))) := pure_run fun C m g w a he h => by
  have h1 := tr_v (h x (by simp [ho, Op.operands, Call.operands]) _ hx)
  have h2 := tr_v (h y (by simp [ho, Op.operands, Call.operands]) _ hy)
  have e : (if j > i then j else i) = max i j := by
    rw [Int.max_def]
    split <;> split <;> omega
  refine ⟨_, ?_, .v _⟩
  simp [execOp, ho, resolve, invoke, builtin, h1, h2, Builtin.max_, Builtin.max2, e]
theorem po_min {x y : Operand} {ts : Array TypeId} {k : IntKind} {i j : Int} (ho : o.op = .call { callee := .builtin .min, args := #[x, y], argTypes := ts }) (hx : ρ x = some (.t (.v (.int k i)))) (hy : ρ y = some (.t (.v (.int k j)))) : PureOp P bx ow o ρ (.t (.v (.int k (min i j)))) := pure_run fun C m g w a he h => by
  have h1 := tr_v (h x (by simp [ho, Op.operands, Call.operands]) _ hx)
  have h2 := tr_v (h y (by simp [ho, Op.operands, Call.operands]) _ hy)
  have e : (if j < i then j else i) = min i j := by
    rw [Int.min_def]
    split <;> split <;> omega
  refine ⟨_, ?_, .v _⟩
  simp [execOp, ho, resolve, invoke, builtin, h1, h2, Builtin.min_, Builtin.min2, e]
end
end Go.Proofs.Ytmjckopplkihlaa.Sim

/- A logic of states: calls that are lent rows, or hand back rows of the caller's own, in a region that draws its order. -/
namespace Go.Proofs.Ytmjckopplkihlaa.Sim
set_option linter.unusedVariables false
set_option linter.unusedSimpArgs false
open Go.RowKit Mem
theorem clr_no {q : Nat → Bool} (h : ∀ i, q i = false) (x : A) : x.clr q = x := by
  have h0 : clr0 q = fun y => y := by
    funext y
    cases y <;> simp [clr0, h]
  unfold A.clr
  rw [h0]
  exact mapA_id x
inductive FreshB (fb : Nat → Nat) (bx bx0 : List (Nat × List A)) : List (Nat × List A) → Prop
  | nil : FreshB fb bx bx0 []
  | old {p : Nat × List A} {l : List (Nat × List A)} (h : (get bx0 p.1).isSome = true) (hl : FreshB fb bx bx0 l) : FreshB fb bx bx0 (p :: l)
  | new {p : Nat × List A} {l : List (Nat × List A)} (h : get bx (fb p.1) = none) (hl : FreshB fb bx bx0 l) : FreshB fb bx bx0 (p :: l)
inductive FreshW (fw : Nat → Nat) (ow ow0 : List (Nat × Own)) : List (Nat × Own) → Prop
  | nil : FreshW fw ow ow0 []
  | old {p : Nat × Own} {l : List (Nat × Own)} (h : (get ow0 p.1).isSome = true) (hl : FreshW fw ow ow0 l) : FreshW fw ow ow0 (p :: l)
  | new {p : Nat × Own} {l : List (Nat × Own)} (h : get ow (fw p.1) = none) (hl : FreshW fw ow ow0 l) : FreshW fw ow ow0 (p :: l)
inductive SameLen (ow1 : List (Nat × Own)) : List (Nat × Own) → Prop
  | nil : SameLen ow1 []
  | cons {i : Nat} {o o1 : Own} {l : List (Nat × Own)} (h : get ow1 i = some o1) (he : o1.rows.length = o.rows.length) (hl : SameLen ow1 l) : SameLen ow1 ((i, o) :: l)
theorem FreshB.all {fb : Nat → Nat} {bx bx0 l : List (Nat × List A)} (h : FreshB fb bx bx0 l) : ∀ p ∈ l, (get bx0 p.1).isSome = true ∨ get bx (fb p.1) = none := by
  induction h with
  | nil => intro p hp; cases hp
  | old h _ ih => intro p hp; rcases List.mem_cons.1 hp with rfl | hp; exact .inl h; exact ih p hp
  | new h _ ih => intro p hp; rcases List.mem_cons.1 hp with rfl | hp; exact .inr h; exact ih p hp
theorem FreshW.all {fw : Nat → Nat} {ow ow0 l : List (Nat × Own)} (h : FreshW fw ow ow0 l) : ∀ p ∈ l, (get ow0 p.1).isSome = true ∨ get ow (fw p.1) = none := by
  induction h with
  | nil => intro p hp; cases hp
  | old h _ ih => intro p hp; rcases List.mem_cons.1 hp with rfl | hp; exact .inl h; exact ih p hp
  | new h _ ih => intro p hp; rcases List.mem_cons.1 hp with rfl | hp; exact .inr h; exact ih p hp
theorem SameLen.at {ow1 l : List (Nat × Own)} (h : SameLen ow1 l) {i : Nat} {o : Own} (hi : get l i = some o) : ∃ o1, get ow1 i = some o1 ∧ o1.rows.length = o.rows.length := by
  induction h with
  | nil => cases hi
  | cons h he _ ih =>
    rw [get_cons] at hi
    split at hi
    · rename_i e; subst e; injection hi with hi; subst hi; exact ⟨_, h, he⟩
    · exact ih hi
/-- the checks without who is new -/
def lendC (fb fw : Nat → Nat) (bx0 bx1 : List (Nat × List A)) (ow0 ow1 : List (Nat × Own)) : Bool :=
  (bx0.all fun p => Nat.ble 2000 p.1 && (get bx1 p.1).isSome) && (bx1.all fun p => (get bx0 p.1).isSome || !(Nat.ble 2000 (fb p.1))) &&
  (ow1.all fun p => (get ow0 p.1).isSome || !(Nat.ble 2000 (fw p.1))) && (ow1.all fun p => (hid (fw p.1) == hid p.1) && (!(Nat.ble 2000 (fw p.1)) || Nat.ble 2000 p.1)) &&
  (ow0.all fun p => Nat.ble 2000 p.1 && (hid p.1 && hid (fw p.1))) && injB fb (bx1.map (·.1)) && injB fw (ow0.map (·.1) ++ ow1.map (·.1))
theorem lendB_of {fb fw : Nat → Nat} {bx bx0 bx1 : List (Nat × List A)} {ow ow0 ow1 : List (Nat × Own)} (h : lendC fb fw bx0 bx1 ow0 ow1 = true) (hb : FreshB fb bx bx0 bx1) (ho : FreshW fw ow ow0 ow1) : lendB fb fw bx bx0 bx1 ow ow0 ow1 = true ∧ ∀ i o, get ow0 i = some o → Nat.ble 2000 i = true := by
  unfold lendC at h
  unfold lendB
  simp only [Bool.and_eq_true] at h ⊢
  obtain ⟨⟨⟨⟨⟨⟨h1, h2⟩, h3⟩, h4⟩, h5⟩, h6⟩, h7⟩ := h
  refine ⟨⟨⟨⟨⟨⟨⟨h1, ?_⟩, ?_⟩, h4⟩, ?_⟩, h6⟩, h7⟩, fun i o hi => ?_⟩
  · rw [List.all_eq_true]
    intro p hp
    rcases hb.all p hp with h | h
    · rw [h]; rfl
    · have := (List.all_eq_true.1 h2) p hp
      rw [Bool.or_eq_true] at this ⊢
      exact this.imp id fun h9 => by rw [h, h9]; rfl
  · rw [List.all_eq_true]
    intro p hp
    rcases ho.all p hp with h | h
    · rw [h]; rfl
    · have := (List.all_eq_true.1 h3) p hp
      rw [Bool.or_eq_true] at this ⊢
      exact this.imp id fun h9 => by rw [h, h9]; rfl
  · rw [List.all_eq_true]
    intro p hp
    have := (List.all_eq_true.1 h5) p hp
    rw [Bool.and_eq_true] at this
    exact this.2
  · have := (List.all_eq_true.1 h5) _ (get_mem hi)
    rw [Bool.and_eq_true] at this
    exact this.1
section
variable {P : Program} {bx bx0 bx1 : List (Nat × List A)} {ow ow0 ow1 : List (Nat × Own)} {o : Oper} {ρ : Operand → Option A} {r : A}
theorem e_lcall {f : FuncId} {xs : List Operand} {at_ : Array TypeId} {args : List A} (hc : LCalls P f args bx0 ow0 r bx1 ow1) (fb fw : Nat → Nat) (ho : o.op = .call { callee := .value (.func f), args := xs.toArray, argTypes := at_ })
    (ha : ArgsL fb fw ow bx0 ow0 ρ xs args) (hx : LentX fb fw bx bx0) (hw : LentW fw ow ow0) (hl : (bx0.all fun p => p.2.all fun x => x.live bx0 ow0) = true) (hB : lendC fb fw bx0 bx1 ow0 ow1 = true)
    (hfb : FreshB fb bx bx0 bx1) (hfw : FreshW fw ow ow0 ow1) (hln : SameLen ow1 ow0) :
    EStep P bx ow o ρ (r.ren fb fw) (bx1.map (fun p => (fb p.1, p.2.map (A.ren fb fw))) ++ bx) (ow1.map (fun p => (fw p.1, p.2)) ++ ow) := by
  obtain ⟨hB', hpin⟩ := lendB_of hB hfb hfw
  let kp : Nat → Bool := fun i => (get ow0 i).isSome
  have hL := lend_of (kp := kp) hx hw hl hB' fun i hi => by
    obtain ⟨o0, h0⟩ := Option.isSome_iff_exists.1 hi
    obtain ⟨o1, h1, h2⟩ := hln.at h0
    exact ⟨hpin i o0 h0, o0, o1, h0, h1, h2⟩
  have hq : ∀ j, chgOf fw kp ow0 j = false := fun j => by
    unfold chgOf
    rw [List.any_eq_false]
    intro p hp
    obtain ⟨x, hx⟩ := mem_get hp
    simp [kp, hx]
  refine .mk fun C m g w a Q he hop => ?_
  obtain ⟨h1, h2⟩ := ha.ok hL he (a := a) (fun x hx y hy => hop x (by simp [ho, Op.operands, Call.operands, hx]) y hy)
  have hrun : (execOp a.eval o).run P w = .ok (.enter f (xs.map a.eval).toArray) w := by
    have := hc.ent (xs.map a.eval).toArray w
    simp only [execOp, ho, resolve, Deferred.ofValue, Act.eval, invoke, Sem.run_bind, Sem.run_pure, Result.andThen_ok, List.map_toArray, Array.append_empty, Array.empty_append, Array.append_eq_append, List.append_nil, List.nil_append] at this ⊢
    simpa using this
  refine wp_call_of hrun (hc.run m w _ _ (hL.env_in he) (by simp [h1]) (fun i x v h3 h4 => h2 i x v h3 (by simpa using h4))) ?_
  rintro e w' ⟨v, m', g', rfl, henv, hv⟩
  obtain ⟨g'', e1, e2, e3⟩ := hL.env_out he henv
  refine ⟨v, rfl, v, m', g'', rfl, e1.same (fun j => ?_) (fun j => ?_), e3 r v hv, fun x u hxu => ?_⟩
  · unfold bxAft
    rw [get_append, get_append]
    cases get (bx1.map fun p => (fb p.1, p.2.map (A.ren fb fw))) j with
    | some x => rfl
    | none =>
      have h3 := get_mapv (fun cs : List A => cs.map (A.clr (chgOf fw kp ow0))) bx j
      have h4 : (fun cs : List A => cs.map (A.clr (chgOf fw kp ow0))) = fun cs => cs := by
        funext cs
        exact (List.map_congr_left fun x _ => clr_no hq x).trans (List.map_id' cs)
      refine Eq.trans ?_ h3.symm
      rw [h4]
      cases get bx j <;> rfl
  · have h3 : get (owAft fw ow0 ow1 ow) j = match get (ow1.map fun p => (fw p.1, p.2)) j with | some x => some x | none => get (ow.filter fun p => !(ow0.any fun r => Nat.beq (fw r.1) p.1)) j := by unfold owAft; exact (get_append _ _ _).trans (by cases get (ow1.map fun p => (fw p.1, p.2)) j <;> rfl)
    rw [get_append]
    cases hg : get (ow1.map fun p => (fw p.1, p.2)) j with
    | some x => rw [h3, hg]
    | none =>
      rw [hg] at h3
      dsimp only at h3 ⊢
      have h4 : get (ow.filter fun p => !(ow0.any fun r => Nat.beq (fw r.1) p.1)) j = _ := get_filter (fun k => !(ow0.any fun r => Nat.beq (fw r.1) k)) ow j
      cases ha' : ow0.any fun r => Nat.beq (fw r.1) j with
      | false => rw [h3, h4, ha']; rfl
      | true =>
        obtain ⟨p, hp, h8⟩ := List.any_eq_true.1 ha'
        obtain ⟨x, hx'⟩ := mem_get hp
        obtain ⟨o1, h9, _⟩ := hln.at hx'
        have h10 := hL.o1 p.1 o1 h9
        rw [Nat.eq_of_beq_eq_true h8, h3, h4, ha'] at h10
        cases h10
  · have := e2 x u hxu
    rwa [clr_no hq] at this
end
end Go.Proofs.Ytmjckopplkihlaa.Sim

/- timers' functions, as the logic of states has them. -/
namespace Go.Proofs.Ytmjckopplkihlaa.Due
set_option linter.unusedVariables false
set_option linter.unusedSimpArgs false
open Go.RowKit Mem Sim
def dueT (d : Pl.Due) : List T := [.v (.int .u64 d.at_), .v (.int .i64 d.kind), .v (.int .u64 d.key)]
abbrev duesT (l : List Pl.Due) : T := .sl 3 (l.map dueT)
theorem dueT_eq (d : Pl.Due) : dueT d = (dueCells d).map .v := rfl
theorem due_ex {m : Mm} {d : Pl.Due} {v : Value} (h : TR m (.agg (dueT d)) v) : v = dueV d := by
  refine (Ex.agg (cs := dueT d) (vs := dueCells d) rfl (fun j t v h1 h2 => ?_)).eq h
  rw [dueT_eq, List.getElem?_map, h2] at h1
  simpa using h1.symm
theorem dues_fwd {m : Mm} {w : World} (hs : Sub m w) {l : List Pl.Due} {v : Value} (h : TR m (duesT l) v) (hw : WfL l) : ∃ A cap, v = .slice A l.length cap ∧ Dues w.heap.size w A l ∧ l.length ≤ cap ∧ cap ≤ maxLen :=
  tr_rows_fwd hs (by omega) h fun x hx us hc => ⟨cells_ex hc (dueCells x) rfl, hw x hx⟩
theorem due_one (x : Pl.Due) : ∀ v ∈ dueCells x, v.oneCell' = true := by
  intro v hv; simp [dueCells] at hv; rcases hv with rfl | rfl | rfl <;> rfl
theorem dues_bwd {B : Nat} {w : World} {A : Option Addr} {l : List Pl.Due} {cap : Nat} (hA : Dues B w A l) (h1 : l.length ≤ cap) (h2 : cap ≤ maxLen) : TR (allm w) (duesT l) (.slice A l.length cap) :=
  tr_rows_bwd (allm w) hA h1 h2 (fun x => rfl) (fun x _ cs hr => by obtain ⟨rfl, _⟩ := hr; exact ex_cells _ (due_one x)) (fun b o v _ h => h)
theorem cells_flat (m : Mm) (l : List Pl.Due) : CellsAre m (l.map dueT).flatten (l.flatMap dueCells) := by
  have : (l.map dueT).flatten = (l.flatMap dueCells).map .v := by
    induction l with
    | nil => rfl
    | cons x r ih => rw [List.map_cons, List.flatten_cons, ih, List.flatMap_cons, List.map_append]; rfl
  rw [this]
  refine ex_cells m fun v hv => ?_
  obtain ⟨x, _, hx⟩ := List.mem_flatMap.1 hv
  exact due_one x v hx
theorem dues_new {m : Mm} {w w' : World} {v : Value} {l : List Pl.Due} (h : RowO w.heap.size w' v l) : TR (upm m w w') (duesT l) v := by
  have h1 : w'.ownsRow w.heap.size 25 3 v l.length (l.flatMap dueCells) := h.1
  exact tr_row_new (rows := l.map dueT) (by simpa using h1) (fun r hr => by obtain ⟨x, _, rfl⟩ := List.mem_map.1 hr; rfl) (cells_flat _ l)
theorem tr2 {m : Mm} {a b : T} {x y : Value} (ha : TR m a x) (hb : TR m b y) : TR m (.tup [a, b]) (.tuple #[x, y]) := by
  refine .tup [a, b] #[x, y] rfl fun j t v h1 h2 => ?_
  match j, h1, h2 with
  | 0, h1, h2 => simp at h1 h2; subst h1 h2; exact ha
  | 1, h1, h2 => simp at h1 h2; subst h1 h2; exact hb
theorem p_add (l : List Pl.Due) (d : Pl.Due) (hn : l.length ≤ 1000) (hl : WfL l) (hd : wfD d) : PCalls Try.prog 13 [duesT l, .agg (dueT d)] (.tup [duesT (Pl.addL l d), .v (.int .i64 (Pl.addErr l d))]) where
  ent := ent_of Try.func13 rfl rfl
  run := fun m w vals hs hvl hv => by
    obtain ⟨x0, x1, rfl, h0, h1⟩ := args2 hvl hv
    obtain ⟨A, cap, rfl, hA, hc1, hc2⟩ := dues_fwd hs h0 hl
    rw [due_ex h1]
    refine (add_ A cap l d w (Nat.le_refl _) hA hn hc1 hd).mono fun e w' ⟨v, he, hlo, hr⟩ => ?_
    rw [he]
    exact post_ex hs hlo (tr2 (dues_new hr) (.v _))
theorem p_take (l : List Pl.Due) (now : Int) (hn : l.length ≤ 1000) (hl : WfL l) : PCalls Try.prog 20 [duesT l, .v (.int .u64 now)] (.tup [duesT (Pl.takeL now l), duesT (Pl.leftL now l)]) where
  ent := ent_of Try.func20 rfl rfl
  run := fun m w vals hs hvl hv => by
    obtain ⟨x0, x1, rfl, h0, h1⟩ := args2 hvl hv
    obtain ⟨A, cap, rfl, hA, hc1, hc2⟩ := dues_fwd hs h0 hl
    rw [tr_v h1]
    refine (take_ A cap l now w (Nat.le_refl _) hA (by omega)).mono fun e w' ⟨v, u, he, hlo, hr, hu, _⟩ => ?_
    rw [he]
    exact post_ex hs hlo (tr2 (dues_new (RowO.of_rowF hr)) (dues_new (RowO.of_rowF hu)))
theorem p_may (l : List Pl.Due) (hl : WfL l) : PCalls Try.prog 9 [duesT l] (.v (.bool (Pl.mayL l))) where
  ent := ent_of Try.func9 rfl rfl
  run := fun m w vals hs hvl hv => by
    obtain ⟨x0, rfl, h0⟩ := args1 hvl hv
    obtain ⟨A, cap, rfl, hA, hc1, hc2⟩ := dues_fwd hs h0 hl
    refine (mayAll_ A cap l w (Nat.le_refl _) hA (Nat.le_trans hc1 hc2) hc1).mono fun e w' ⟨he, hlo⟩ => ?_
    rw [he]
    exact post_ex hs hlo (.v _)
theorem p_next (l : List Pl.Due) (hl : WfL l) : PCalls Try.prog 24 [duesT l] (.tup [.v (.int .u64 (Pl.nextL l)), .v (.bool (decide (0 < l.length)))]) where
  ent := ent_of Try.func24 rfl rfl
  run := fun m w vals hs hvl hv => by
    obtain ⟨x0, rfl, h0⟩ := args1 hvl hv
    obtain ⟨A, cap, rfl, hA, hc1, hc2⟩ := dues_fwd hs h0 hl
    refine (next_ A cap l w (Nat.le_refl _) hA (Nat.le_trans hc1 hc2)).mono fun e w' ⟨he, hlo⟩ => ?_
    rw [he]
    exact post_ex hs hlo (tr2 (.v _) (.v _))
theorem p_same (l l' : List Pl.Due) (hl : WfL l) (hl' : WfL l') : PCalls Try.prog 11 [duesT l, duesT l'] (.v (.bool (decide (l = l')))) where
  ent := ent_of Try.func11 rfl rfl
  run := fun m w vals hs hvl hv => by
    obtain ⟨x0, x1, rfl, h0, h1⟩ := args2 hvl hv
    obtain ⟨A, cap, rfl, hA, hc1, hc2⟩ := dues_fwd hs h0 hl
    obtain ⟨A', cap', rfl, hA', hc1', hc2'⟩ := dues_fwd hs h1 hl'
    refine (same_ A A' cap cap' l l' w (Nat.le_refl _) hA hA' (Nat.le_trans hc1 hc2) (Nat.le_trans hc1' hc2')).mono fun e w' ⟨he, hlo⟩ => ?_
    rw [he]
    exact post_ex hs hlo (.v _)
theorem p_awake : PCalls Try.prog 8 [] (.v (.bool true)) where
  ent := ent_of Try.func8 rfl rfl
  run := fun m w vals hs hvl hv => by
    have : vals = #[] := Array.eq_empty_of_size_eq_zero hvl
    subst this
    refine (awake_ w).mono fun e w' ⟨he, hlo⟩ => ?_
    rw [he]
    exact post_ex hs hlo (.v _)
end Go.Proofs.Ytmjckopplkihlaa.Due

/- The document's functions on rows of things, by the logic of states. -/
namespace Go.Proofs.Ytmjckopplkihlaa.Due
set_option linter.unusedVariables false
set_option linter.unusedSimpArgs false
open Go.RowKit Mem Sim
theorem dueq_run (a b : Pl.Due) (w : World) (x y : Operand) : ((do eqGuard .neq 25 x y (dueV a) (dueV b); binOp .neq 25 (dueV a) (dueV b)) : Sem Value).run Try.prog w = .ok (.bool (!decide (a = b))) w := by
  have hm : Try.prog.eqGuardType Try.prog.depth 25 = false := by kernel_rfl
  rw [Sem.run_bind, run_eqGuard_agg _ _ _ _ _ _ _ hm]
  simp only [Result.andThen_ok]
  rw [run_neq_struct]
  simp [go_sem]
  by_cases h1 : a.at_ = b.at_ <;> by_cases h2 : a.kind = b.kind <;> by_cases h3 : a.key = b.key <;> simp [h1, h2, h3, Due.due_eq]
theorem due_Ex (d : Pl.Due) : Ex (.agg (dueT d)) (dueV d) := Ex.agg (cs := dueT d) (vs := dueCells d) rfl (fun j t v h1 h2 => by
  rw [dueT_eq, List.getElem?_map, h2] at h1
  simpa using h1.symm)
theorem po_boolq1 {P : Program} {bx : List (Nat × List A)} {ow : List (Nat × Own)} {o : Oper} {ρ : Operand → Option A} {t t2 : TypeId} {x y : Operand} {i j : Bool} (c : Bool) (ho : o.op = .binOp .eql t x y t2) (hx : ρ x = some (.t (.v (.bool i)))) (hy : ρ y = some (.t (.v (.bool j)))) (hu : P.underlying t = some .bool) (hc : (i == j) = c) : PureOp P bx ow o ρ (.t (.v (.bool c))) := by
  have := po_boolq (bx := bx) (ow := ow) ho hx hy hu (.inl rfl)
  rw [if_pos rfl, hc] at this
  exact this
set_option maxRecDepth 100000 in
theorem rAhead (a b : Pl.Due) : PCalls Try.prog 33 [.agg (dueT a), .agg (dueT b)] (.v (.bool (Pl.ahead a b))) := by
  refine pcalls_of Try.func33 rfl rfl Try.ntmps33 rfl ?_
  repeat' (first
    | refine then_go ?_
    | refine swp_seq ?_
    | ((refine swp_region (id := 0) ?_) <;> (refine sops_box (.free rfl rfl) rfl rfl rfl rfl rfl rfl ?_) <;> (refine sops_box (.free rfl rfl) rfl rfl rfl rfl rfl rfl ?_) <;> (refine sops_pure (.free rfl rfl) rfl rfl (po_assign rfl rfl) ?_) <;> (refine sops_nil ?_))
    | ((refine swp_region (id := 1) ?_) <;> (first | refine sops_pure (.free rfl rfl) rfl rfl (po_field_bx rfl rfl (tyF rfl)) ?_ | refine sops_pure (.free rfl rfl) rfl rfl (po_field rfl rfl (tyF rfl)) ?_) <;> (first | refine sops_pure (.free rfl rfl) rfl rfl (po_load_bx rfl rfl (tyT rfl) rfl rfl) ?_ | refine sops_pure (.free rfl rfl) rfl rfl (po_load rfl rfl (tyT rfl) rfl) ?_) <;> (first | refine sops_pure (.free rfl rfl) rfl rfl (po_field_bx rfl rfl (tyF rfl)) ?_ | refine sops_pure (.free rfl rfl) rfl rfl (po_field rfl rfl (tyF rfl)) ?_) <;> (first | refine sops_pure (.free rfl rfl) rfl rfl (po_load_bx rfl rfl (tyT rfl) rfl rfl) ?_ | refine sops_pure (.free rfl rfl) rfl rfl (po_load rfl rfl (tyT rfl) rfl) ?_) <;> (refine sops_pure (.free rfl rfl) rfl rfl (po_cmp rfl rfl rfl rfl) ?_) <;> (refine sops_nil ?_))
    | ((refine swp_region (id := 2) ?_) <;> (first | refine sops_pure (.free rfl rfl) rfl rfl (po_field_bx rfl rfl (tyF rfl)) ?_ | refine sops_pure (.free rfl rfl) rfl rfl (po_field rfl rfl (tyF rfl)) ?_) <;> (first | refine sops_pure (.free rfl rfl) rfl rfl (po_load_bx rfl rfl (tyT rfl) rfl rfl) ?_ | refine sops_pure (.free rfl rfl) rfl rfl (po_load rfl rfl (tyT rfl) rfl) ?_) <;> (first | refine sops_pure (.free rfl rfl) rfl rfl (po_field_bx rfl rfl (tyF rfl)) ?_ | refine sops_pure (.free rfl rfl) rfl rfl (po_field rfl rfl (tyF rfl)) ?_) <;> (first | refine sops_pure (.free rfl rfl) rfl rfl (po_load_bx rfl rfl (tyT rfl) rfl rfl) ?_ | refine sops_pure (.free rfl rfl) rfl rfl (po_load rfl rfl (tyT rfl) rfl) ?_) <;> (refine sops_pure (.free rfl rfl) rfl rfl (po_cmp rfl rfl rfl rfl) ?_) <;> (refine sops_pure (.free rfl rfl) rfl rfl (po_assign rfl rfl) ?_) <;> (refine sops_nil ?_))
    | ((refine swp_region (id := 3) ?_) <;> (first | refine sops_pure (.free rfl rfl) rfl rfl (po_field_bx rfl rfl (tyF rfl)) ?_ | refine sops_pure (.free rfl rfl) rfl rfl (po_field rfl rfl (tyF rfl)) ?_) <;> (first | refine sops_pure (.free rfl rfl) rfl rfl (po_load_bx rfl rfl (tyT rfl) rfl rfl) ?_ | refine sops_pure (.free rfl rfl) rfl rfl (po_load rfl rfl (tyT rfl) rfl) ?_) <;> (first | refine sops_pure (.free rfl rfl) rfl rfl (po_field_bx rfl rfl (tyF rfl)) ?_ | refine sops_pure (.free rfl rfl) rfl rfl (po_field rfl rfl (tyF rfl)) ?_) <;> (first | refine sops_pure (.free rfl rfl) rfl rfl (po_load_bx rfl rfl (tyT rfl) rfl rfl) ?_ | refine sops_pure (.free rfl rfl) rfl rfl (po_load rfl rfl (tyT rfl) rfl) ?_) <;> (refine sops_pure (.free rfl rfl) rfl rfl (po_cmp rfl rfl rfl rfl) ?_) <;> (refine sops_nil ?_))
    | ((refine swp_region (id := 4) ?_) <;> (first | refine sops_pure (.free rfl rfl) rfl rfl (po_field_bx rfl rfl (tyF rfl)) ?_ | refine sops_pure (.free rfl rfl) rfl rfl (po_field rfl rfl (tyF rfl)) ?_) <;> (first | refine sops_pure (.free rfl rfl) rfl rfl (po_load_bx rfl rfl (tyT rfl) rfl rfl) ?_ | refine sops_pure (.free rfl rfl) rfl rfl (po_load rfl rfl (tyT rfl) rfl) ?_) <;> (first | refine sops_pure (.free rfl rfl) rfl rfl (po_field_bx rfl rfl (tyF rfl)) ?_ | refine sops_pure (.free rfl rfl) rfl rfl (po_field rfl rfl (tyF rfl)) ?_) <;> (first | refine sops_pure (.free rfl rfl) rfl rfl (po_load_bx rfl rfl (tyT rfl) rfl rfl) ?_ | refine sops_pure (.free rfl rfl) rfl rfl (po_load rfl rfl (tyT rfl) rfl) ?_) <;> (refine sops_pure (.free rfl rfl) rfl rfl (po_cmp rfl rfl rfl rfl) ?_) <;> (refine sops_pure (.free rfl rfl) rfl rfl (po_assign rfl rfl) ?_) <;> (refine sops_nil ?_))
    | ((refine swp_region (id := 5) ?_) <;> (first | refine sops_pure (.free rfl rfl) rfl rfl (po_field_bx rfl rfl (tyF rfl)) ?_ | refine sops_pure (.free rfl rfl) rfl rfl (po_field rfl rfl (tyF rfl)) ?_) <;> (first | refine sops_pure (.free rfl rfl) rfl rfl (po_load_bx rfl rfl (tyT rfl) rfl rfl) ?_ | refine sops_pure (.free rfl rfl) rfl rfl (po_load rfl rfl (tyT rfl) rfl) ?_) <;> (first | refine sops_pure (.free rfl rfl) rfl rfl (po_field_bx rfl rfl (tyF rfl)) ?_ | refine sops_pure (.free rfl rfl) rfl rfl (po_field rfl rfl (tyF rfl)) ?_) <;> (first | refine sops_pure (.free rfl rfl) rfl rfl (po_load_bx rfl rfl (tyT rfl) rfl rfl) ?_ | refine sops_pure (.free rfl rfl) rfl rfl (po_load rfl rfl (tyT rfl) rfl) ?_) <;> (refine sops_pure (.free rfl rfl) rfl rfl (po_cmp rfl rfl rfl rfl) ?_) <;> (refine sops_pure (.free rfl rfl) rfl rfl (po_assign rfl rfl) ?_) <;> (refine sops_nil ?_))
    | refine swp_ret ?_
    | refine swp_skip ?_
    | refine swp_block ?_
    | refine swp_exit ?_
    | refine block_go ?_
    | refine block_exit ?_
    | refine block_far rfl ?_
    | refine block_ret ?_
    | refine then_ret ?_
    | refine then_exit ?_
    | refine for_ret ?_
    | refine for_exit ?_
    | refine ct ?_
    | refine cf ?_
    | refine swp_cond rfl (fun hc => ?_) (fun hc => ?_)
    | refine retq (by first | exact .inr rfl | exact .inl rfl) rfl (.tmp rfl (by first | exact .t _ | exact .own rfl (by first | rfl | assumption | (simp; done) | (simp; omega)) | exact .nil _ | exact .emp _ | exact .fn _) .nil) ?_)
  all_goals
    refine eq_b ?_
    unfold Pl.ahead
    simp at *
    simp [*]
set_option maxRecDepth 100000 in
theorem rMayDue (d : Pl.Due) : PCalls Try.prog 32 [.agg (dueT d)] (.v (.bool (Pl.mayD d))) := by
  refine pcalls_of Try.func32 rfl rfl Try.ntmps32 rfl ?_
  repeat' (first
    | refine then_go ?_
    | refine swp_seq ?_
    | ((refine swp_region (id := 0) ?_) <;> (refine sops_box (.free rfl rfl) rfl rfl rfl rfl rfl rfl ?_) <;> (refine sops_pure (.free rfl rfl) rfl rfl (po_assign rfl rfl) ?_) <;> (refine sops_nil ?_))
    | ((refine swp_region (id := 1) ?_) <;> (first | refine sops_pure (.free rfl rfl) rfl rfl (po_field_bx rfl rfl (tyF rfl)) ?_ | refine sops_pure (.free rfl rfl) rfl rfl (po_field rfl rfl (tyF rfl)) ?_) <;> (first | refine sops_pure (.free rfl rfl) rfl rfl (po_load_bx rfl rfl (tyT rfl) rfl rfl) ?_ | refine sops_pure (.free rfl rfl) rfl rfl (po_load rfl rfl (tyT rfl) rfl) ?_) <;> (refine sops_pure (.free rfl rfl) rfl rfl (po_cmp rfl rfl rfl rfl) ?_) <;> (refine sops_pure (.free rfl rfl) rfl rfl (po_move rfl rfl) ?_) <;> (first | refine sops_pure gy rfl rfl (po_field_bx rfl rfl (tyF rfl)) ?_ | refine sops_pure gy rfl rfl (po_field rfl rfl (tyF rfl)) ?_ | refine sops_skip gn1 rfl rfl ?_ | ((refine sops_split rfl rfl rfl (fun hc => ?_) (fun hc => ?_)) <;> (first | refine sops_pure gy rfl rfl (po_field_bx rfl rfl (tyF rfl)) ?_ | refine sops_pure gy rfl rfl (po_field rfl rfl (tyF rfl)) ?_ | refine sops_skip gn1 rfl rfl ?_))) <;> (first | refine sops_pure gy rfl rfl (po_load_bx rfl rfl (tyT rfl) rfl rfl) ?_ | refine sops_pure gy rfl rfl (po_load rfl rfl (tyT rfl) rfl) ?_ | refine sops_skip gn1 rfl rfl ?_) <;> (first | refine sops_pure gy rfl rfl (po_cmp rfl rfl rfl rfl) ?_ | refine sops_skip gn1 rfl rfl ?_) <;> (first | refine sops_pure (.free rfl rfl) rfl rfl (pkt rfl) ?_ | refine sops_pure (.free rfl rfl) rfl rfl (pkf rfl) ?_) <;> (refine sops_pure (.free rfl rfl) rfl rfl (po_move rfl rfl) ?_) <;> (first | refine sops_pure gy rfl rfl (po_field_bx rfl rfl (tyF rfl)) ?_ | refine sops_pure gy rfl rfl (po_field rfl rfl (tyF rfl)) ?_ | refine sops_skip gn1 rfl rfl ?_ | ((refine sops_split rfl rfl rfl (fun hc => ?_) (fun hc => ?_)) <;> (first | refine sops_pure gy rfl rfl (po_field_bx rfl rfl (tyF rfl)) ?_ | refine sops_pure gy rfl rfl (po_field rfl rfl (tyF rfl)) ?_ | refine sops_skip gn1 rfl rfl ?_))) <;> (first | refine sops_pure gy rfl rfl (po_load_bx rfl rfl (tyT rfl) rfl rfl) ?_ | refine sops_pure gy rfl rfl (po_load rfl rfl (tyT rfl) rfl) ?_ | refine sops_skip gn1 rfl rfl ?_) <;> (first | refine sops_pure gy rfl rfl (po_cmp rfl rfl rfl rfl) ?_ | refine sops_skip gn1 rfl rfl ?_) <;> (first | refine sops_pure (.free rfl rfl) rfl rfl (pkt rfl) ?_ | refine sops_pure (.free rfl rfl) rfl rfl (pkf rfl) ?_) <;> (refine sops_pure (.free rfl rfl) rfl rfl (po_assign rfl rfl) ?_) <;> (refine sops_nil ?_))
    | refine swp_ret ?_
    | refine swp_skip ?_
    | refine swp_block ?_
    | refine swp_exit ?_
    | refine block_go ?_
    | refine block_exit ?_
    | refine block_far rfl ?_
    | refine block_ret ?_
    | refine then_ret ?_
    | refine then_exit ?_
    | refine for_ret ?_
    | refine for_exit ?_
    | refine ct ?_
    | refine cf ?_
    | refine swp_cond rfl (fun hc => ?_) (fun hc => ?_)
    | refine retq (by first | exact .inr rfl | exact .inl rfl) rfl (.tmp rfl (by first | exact .t _ | exact .own rfl (by first | rfl | assumption | (simp; done) | (simp; omega)) | exact .nil _ | exact .emp _ | exact .fn _) .nil) ?_)
  all_goals
    refine eq_b ?_
    unfold Pl.mayD
    rw [Bool.eq_iff_iff]; simp at *; omega
def findT (o : Option Pl.Due) : T := match o with | some d => .tup [.v (.int .u64 d.at_), .v (.bool true)] | none => .tup [.v (.int .u64 0), .v (.bool false)]
theorem find_no {l : List Pl.Due} {k : Nat} (hk : k < l.length) {kind key : Int} (h : Pl.findL (l.take k) kind key = none) (hb : Pl.isD kind key l[k] = false) : Pl.findL (l.take (k + 1)) kind key = none := by
  unfold Pl.findL at *
  rw [List.take_succ_eq_append_getElem hk, List.find?_append, h]; simp [List.find?_cons, hb]
theorem find_yes {l : List Pl.Due} {k : Nat} (hk : k < l.length) {kind key : Int} (h : Pl.findL (l.take k) kind key = none) (hb : Pl.isD kind key l[k] = true) : Pl.findL l kind key = some l[k] := by
  unfold Pl.findL at *
  have e : l = l.take k ++ l.drop k := (List.take_append_drop k l).symm
  conv => lhs; rw [e]
  rw [List.find?_append, h, List.drop_eq_getElem_cons hk, List.find?_cons, hb]; rfl
set_option maxRecDepth 100000 in
theorem rFind (l : List Pl.Due) (kind key : Int) (hl : (l.length : Int) ≤ 9223372036854775807) : PCalls Try.prog 23 [duesT l, .v (.int .i64 kind), .v (.int .u64 key)] (findT (Pl.findL l kind key)) := by
  have hml : (l.map dueT).length = l.length := List.length_map _
  refine pcalls_of Try.func23 rfl rfl Try.ntmps23 rfl ?_
  repeat' (first
    | refine then_go ?_
    | refine swp_seq ?_
    | ((refine swp_region (id := 0) ?_) <;> (refine sops_pure (.free rfl rfl) rfl rfl (po_assign rfl rfl) ?_) <;> (refine sops_pure (.free rfl rfl) rfl rfl (po_assign rfl rfl) ?_) <;> (refine sops_nil ?_))
    | ((refine swp_region (id := 1) ?_) <;> (refine sops_pure (.free rfl rfl) rfl rfl (po_assign rfl rfl) ?_) <;> (refine sops_nil ?_))
    | ((refine swp_region (id := 2) ?_) <;> (refine sops_pure (.free rfl rfl) rfl rfl (po_move rfl rfl) ?_) <;> (refine sops_pure (.free rfl rfl) rfl rfl (po_move rfl rfl) ?_) <;> (refine sops_pure (.free rfl rfl) rfl rfl (pln rfl (tyS rfl)) ?_) <;> (refine sops_pure (.free rfl rfl) rfl rfl (po_cmp rfl rfl rfl rfl) ?_) <;> (refine sops_nil ?_))
    | ((refine swp_region (id := 4) ?_) <;> (refine sops_pure (.free rfl rfl) rfl rfl (po_move rfl rfl) ?_) <;> (refine sops_pure (.free rfl rfl) rfl rfl (po_move rfl rfl) ?_) <;> (refine sops_pure (.free rfl rfl) rfl rfl (pix rfl (tyS rfl)) ?_) <;> (first | refine sops_pure (.free rfl rfl) rfl rfl (po_field_bx rfl rfl (tyF rfl)) ?_ | refine sops_pure (.free rfl rfl) rfl rfl (po_field rfl rfl (tyF rfl)) ?_) <;> (first | refine sops_pure (.free rfl rfl) rfl rfl (po_load_bx rfl rfl (tyT rfl) rfl rfl) ?_ | refine sops_pure (.free rfl rfl) rfl rfl (po_load rfl rfl (tyT rfl) rfl) ?_) <;> (refine sops_pure (.free rfl rfl) rfl rfl (po_move rfl rfl) ?_) <;> (refine sops_pure (.free rfl rfl) rfl rfl (po_cmp rfl rfl rfl rfl) ?_) <;> (refine sops_pure (.free rfl rfl) rfl rfl (po_move rfl rfl) ?_) <;> (first | refine sops_pure gy rfl rfl (po_move rfl rfl) ?_ | refine sops_skip gn1 rfl rfl ?_ | ((refine sops_split rfl rfl rfl (fun hc => ?_) (fun hc => ?_)) <;> (first | refine sops_pure gy rfl rfl (po_move rfl rfl) ?_ | refine sops_skip gn1 rfl rfl ?_))) <;> (first | refine sops_pure gy rfl rfl (po_move rfl rfl) ?_ | refine sops_skip gn1 rfl rfl ?_) <;> (first | refine sops_pure gy rfl rfl (pix rfl (tyS rfl)) ?_ | refine sops_skip gn1 rfl rfl ?_) <;> (first | refine sops_pure gy rfl rfl (po_field_bx rfl rfl (tyF rfl)) ?_ | refine sops_pure gy rfl rfl (po_field rfl rfl (tyF rfl)) ?_ | refine sops_skip gn1 rfl rfl ?_) <;> (first | refine sops_pure gy rfl rfl (po_load_bx rfl rfl (tyT rfl) rfl rfl) ?_ | refine sops_pure gy rfl rfl (po_load rfl rfl (tyT rfl) rfl) ?_ | refine sops_skip gn1 rfl rfl ?_) <;> (first | refine sops_pure gy rfl rfl (po_move rfl rfl) ?_ | refine sops_skip gn1 rfl rfl ?_) <;> (first | refine sops_pure gy rfl rfl (po_cmp rfl rfl rfl rfl) ?_ | refine sops_skip gn1 rfl rfl ?_) <;> (first | refine sops_pure (.free rfl rfl) rfl rfl (pkt rfl) ?_ | refine sops_pure (.free rfl rfl) rfl rfl (pkf rfl) ?_) <;> (refine sops_nil ?_))
    | ((refine swp_region (id := 5) ?_) <;> (refine sops_pure (.free rfl rfl) rfl rfl (po_move rfl rfl) ?_) <;> (refine sops_pure (.free rfl rfl) rfl rfl (po_move rfl rfl) ?_) <;> (refine sops_pure (.free rfl rfl) rfl rfl (pix rfl (tyS rfl)) ?_) <;> (first | refine sops_pure (.free rfl rfl) rfl rfl (po_field_bx rfl rfl (tyF rfl)) ?_ | refine sops_pure (.free rfl rfl) rfl rfl (po_field rfl rfl (tyF rfl)) ?_) <;> (first | refine sops_pure (.free rfl rfl) rfl rfl (po_load_bx rfl rfl (tyT rfl) rfl rfl) ?_ | refine sops_pure (.free rfl rfl) rfl rfl (po_load rfl rfl (tyT rfl) rfl) ?_) <;> (refine sops_pure (.free rfl rfl) rfl rfl (po_assign rfl rfl) ?_) <;> (refine sops_pure (.free rfl rfl) rfl rfl (po_assign rfl rfl) ?_) <;> (refine sops_nil ?_))
    | ((refine swp_region (id := 3) ?_) <;> (refine sops_pure (.free rfl rfl) rfl rfl (po_move rfl rfl) ?_) <;> (first | refine sops_pure (.free rfl rfl) rfl rfl (po_inc rfl rfl rfl (by omega)) ?_ | refine sops_pure (.free rfl rfl) rfl rfl (po_arith rfl rfl rfl (ar_add (by first | rfl | (refine wrap_i64 ?_; omega)) rfl)) ?_) <;> (refine sops_pure (.free rfl rfl) rfl rfl (po_assign rfl rfl) ?_) <;> (refine sops_nil ?_))
    | ((refine swp_region (id := 6) ?_) <;> (refine sops_pure (.free rfl rfl) rfl rfl (po_assign rfl rfl) ?_) <;> (refine sops_pure (.free rfl rfl) rfl rfl (po_assign rfl rfl) ?_) <;> (refine sops_nil ?_))
    | refine swp_ret ?_
    | refine swp_skip ?_
    | refine swp_block ?_
    | refine swp_exit ?_
    | refine block_go ?_
    | refine block_exit ?_
    | refine block_far rfl ?_
    | refine block_ret ?_
    | refine then_ret ?_
    | refine then_exit ?_
    | refine for_ret ?_
    | refine for_exit ?_
    | refine ct ?_
    | refine cf ?_
    | refine swp_cond rfl (fun hc => ?_) (fun hc => ?_)
    | refine retq (by first | exact .inr rfl | exact .inl rfl) rfl (.tmp rfl (by first | exact .t _ | exact .own rfl (by first | rfl | assumption | (simp; done) | (simp; omega)) | exact .nil _ | exact .emp _ | exact .fn _) (.tmp rfl (by first | exact .t _ | exact .own rfl (by first | rfl | assumption | (simp; done) | (simp; omega)) | exact .nil _ | exact .emp _ | exact .fn _) .nil)) ?_)
  refine swp_for (fun k => ⟨[(0, .t (.sl 3 (l.map dueT))), (1, .t (.v (.int .i64 kind))), (2, .t (.v (.int .u64 key))), (8, .t (.v (.int .i64 (k : Int))))], [], []⟩) (fun k => Pl.findL (l.take k) kind key = none) l.length (weak_sub (.cons rfl rfl rfl (.cons rfl rfl rfl (.cons rfl rfl rfl (.cons rfl rfl rfl .nil)))) .nil .nil) rfl ?_
  intro k hk hI
  by_cases hlt : k < l.length
  · repeat' (first
      | refine then_go ?_
      | refine swp_seq ?_
      | refine for_next hlt (weak_sub (.cons rfl rfl rfl (.cons rfl rfl rfl (.cons rfl rfl rfl (.cons rfl rfl rfl .nil)))) .nil .nil) ?_
      | ((refine swp_region (id := 0) ?_) <;> (refine sops_pure (.free rfl rfl) rfl rfl (po_assign rfl rfl) ?_) <;> (refine sops_pure (.free rfl rfl) rfl rfl (po_assign rfl rfl) ?_) <;> (refine sops_nil ?_))
      | ((refine swp_region (id := 1) ?_) <;> (refine sops_pure (.free rfl rfl) rfl rfl (po_assign rfl rfl) ?_) <;> (refine sops_nil ?_))
      | ((refine swp_region (id := 2) ?_) <;> (refine sops_pure (.free rfl rfl) rfl rfl (po_move rfl rfl) ?_) <;> (refine sops_pure (.free rfl rfl) rfl rfl (po_move rfl rfl) ?_) <;> (refine sops_pure (.free rfl rfl) rfl rfl (pln rfl (tyS rfl)) ?_) <;> (refine sops_pure (.free rfl rfl) rfl rfl (po_cmp rfl rfl rfl rfl) ?_) <;> (refine sops_nil ?_))
      | ((refine swp_region (id := 4) ?_) <;> (refine sops_pure (.free rfl rfl) rfl rfl (po_move rfl rfl) ?_) <;> (refine sops_pure (.free rfl rfl) rfl rfl (po_move rfl rfl) ?_) <;> (refine sops_pure (.free rfl rfl) rfl rfl (pix rfl (tyS rfl)) ?_) <;> (first | refine sops_pure (.free rfl rfl) rfl rfl (po_field_bx rfl rfl (tyF rfl)) ?_ | refine sops_pure (.free rfl rfl) rfl rfl (po_field rfl rfl (tyF rfl)) ?_) <;> (first | refine sops_pure (.free rfl rfl) rfl rfl (po_load_bx rfl rfl (tyT rfl) rfl rfl) ?_ | refine sops_pure (.free rfl rfl) rfl rfl (po_load rfl rfl (tyT rfl) rfl) ?_) <;> (refine sops_pure (.free rfl rfl) rfl rfl (po_move rfl rfl) ?_) <;> (refine sops_pure (.free rfl rfl) rfl rfl (po_cmp rfl rfl rfl rfl) ?_) <;> (refine sops_pure (.free rfl rfl) rfl rfl (po_move rfl rfl) ?_) <;> (first | refine sops_pure gy rfl rfl (po_move rfl rfl) ?_ | refine sops_skip gn1 rfl rfl ?_ | ((refine sops_split rfl rfl rfl (fun hc => ?_) (fun hc => ?_)) <;> (first | refine sops_pure gy rfl rfl (po_move rfl rfl) ?_ | refine sops_skip gn1 rfl rfl ?_))) <;> (first | refine sops_pure gy rfl rfl (po_move rfl rfl) ?_ | refine sops_skip gn1 rfl rfl ?_) <;> (first | refine sops_pure gy rfl rfl (pix rfl (tyS rfl)) ?_ | refine sops_skip gn1 rfl rfl ?_) <;> (first | refine sops_pure gy rfl rfl (po_field_bx rfl rfl (tyF rfl)) ?_ | refine sops_pure gy rfl rfl (po_field rfl rfl (tyF rfl)) ?_ | refine sops_skip gn1 rfl rfl ?_) <;> (first | refine sops_pure gy rfl rfl (po_load_bx rfl rfl (tyT rfl) rfl rfl) ?_ | refine sops_pure gy rfl rfl (po_load rfl rfl (tyT rfl) rfl) ?_ | refine sops_skip gn1 rfl rfl ?_) <;> (first | refine sops_pure gy rfl rfl (po_move rfl rfl) ?_ | refine sops_skip gn1 rfl rfl ?_) <;> (first | refine sops_pure gy rfl rfl (po_cmp rfl rfl rfl rfl) ?_ | refine sops_skip gn1 rfl rfl ?_) <;> (first | refine sops_pure (.free rfl rfl) rfl rfl (pkt rfl) ?_ | refine sops_pure (.free rfl rfl) rfl rfl (pkf rfl) ?_) <;> (refine sops_nil ?_))
      | ((refine swp_region (id := 5) ?_) <;> (refine sops_pure (.free rfl rfl) rfl rfl (po_move rfl rfl) ?_) <;> (refine sops_pure (.free rfl rfl) rfl rfl (po_move rfl rfl) ?_) <;> (refine sops_pure (.free rfl rfl) rfl rfl (pix rfl (tyS rfl)) ?_) <;> (first | refine sops_pure (.free rfl rfl) rfl rfl (po_field_bx rfl rfl (tyF rfl)) ?_ | refine sops_pure (.free rfl rfl) rfl rfl (po_field rfl rfl (tyF rfl)) ?_) <;> (first | refine sops_pure (.free rfl rfl) rfl rfl (po_load_bx rfl rfl (tyT rfl) rfl rfl) ?_ | refine sops_pure (.free rfl rfl) rfl rfl (po_load rfl rfl (tyT rfl) rfl) ?_) <;> (refine sops_pure (.free rfl rfl) rfl rfl (po_assign rfl rfl) ?_) <;> (refine sops_pure (.free rfl rfl) rfl rfl (po_assign rfl rfl) ?_) <;> (refine sops_nil ?_))
      | ((refine swp_region (id := 3) ?_) <;> (refine sops_pure (.free rfl rfl) rfl rfl (po_move rfl rfl) ?_) <;> (first | refine sops_pure (.free rfl rfl) rfl rfl (po_inc rfl rfl rfl (by omega)) ?_ | refine sops_pure (.free rfl rfl) rfl rfl (po_arith rfl rfl rfl (ar_add (by first | rfl | (refine wrap_i64 ?_; omega)) rfl)) ?_) <;> (refine sops_pure (.free rfl rfl) rfl rfl (po_assign rfl rfl) ?_) <;> (refine sops_nil ?_))
      | ((refine swp_region (id := 6) ?_) <;> (refine sops_pure (.free rfl rfl) rfl rfl (po_assign rfl rfl) ?_) <;> (refine sops_pure (.free rfl rfl) rfl rfl (po_assign rfl rfl) ?_) <;> (refine sops_nil ?_))
      | refine swp_ret ?_
      | refine swp_skip ?_
      | refine swp_block ?_
      | refine swp_exit ?_
      | refine block_go ?_
      | refine block_exit ?_
      | refine block_far rfl ?_
      | refine block_ret ?_
      | refine then_ret ?_
      | refine then_exit ?_
      | refine for_ret ?_
      | refine for_exit ?_
      | refine ct ?_
      | refine cf ?_
      | refine swp_cond rfl (fun hc => ?_) (fun hc => ?_)
      | refine retq (by first | exact .inr rfl | exact .inl rfl) rfl (.tmp rfl (by first | exact .t _ | exact .own rfl (by first | rfl | assumption | (simp; done) | (simp; omega)) | exact .nil _ | exact .emp _ | exact .fn _) (.tmp rfl (by first | exact .t _ | exact .own rfl (by first | rfl | assumption | (simp; done) | (simp; omega)) | exact .nil _ | exact .emp _ | exact .fn _) .nil)) ?_)
    · rw [find_yes hlt hI (by unfold Pl.isD; simp at *; simp [*])]; rfl
    · exact find_no hlt hI (by unfold Pl.isD; simp at *; simp [*])
    · exact find_no hlt hI (by unfold Pl.isD; simp at *; simp [*])
  · repeat' (first
      | refine then_go ?_
      | refine swp_seq ?_
      | ((refine swp_region (id := 0) ?_) <;> (refine sops_pure (.free rfl rfl) rfl rfl (po_assign rfl rfl) ?_) <;> (refine sops_pure (.free rfl rfl) rfl rfl (po_assign rfl rfl) ?_) <;> (refine sops_nil ?_))
      | ((refine swp_region (id := 1) ?_) <;> (refine sops_pure (.free rfl rfl) rfl rfl (po_assign rfl rfl) ?_) <;> (refine sops_nil ?_))
      | ((refine swp_region (id := 2) ?_) <;> (refine sops_pure (.free rfl rfl) rfl rfl (po_move rfl rfl) ?_) <;> (refine sops_pure (.free rfl rfl) rfl rfl (po_move rfl rfl) ?_) <;> (refine sops_pure (.free rfl rfl) rfl rfl (pln rfl (tyS rfl)) ?_) <;> (refine sops_pure (.free rfl rfl) rfl rfl (po_cmp rfl rfl rfl rfl) ?_) <;> (refine sops_nil ?_))
      | ((refine swp_region (id := 4) ?_) <;> (refine sops_pure (.free rfl rfl) rfl rfl (po_move rfl rfl) ?_) <;> (refine sops_pure (.free rfl rfl) rfl rfl (po_move rfl rfl) ?_) <;> (refine sops_pure (.free rfl rfl) rfl rfl (pix rfl (tyS rfl)) ?_) <;> (first | refine sops_pure (.free rfl rfl) rfl rfl (po_field_bx rfl rfl (tyF rfl)) ?_ | refine sops_pure (.free rfl rfl) rfl rfl (po_field rfl rfl (tyF rfl)) ?_) <;> (first | refine sops_pure (.free rfl rfl) rfl rfl (po_load_bx rfl rfl (tyT rfl) rfl rfl) ?_ | refine sops_pure (.free rfl rfl) rfl rfl (po_load rfl rfl (tyT rfl) rfl) ?_) <;> (refine sops_pure (.free rfl rfl) rfl rfl (po_move rfl rfl) ?_) <;> (refine sops_pure (.free rfl rfl) rfl rfl (po_cmp rfl rfl rfl rfl) ?_) <;> (refine sops_pure (.free rfl rfl) rfl rfl (po_move rfl rfl) ?_) <;> (first | refine sops_pure gy rfl rfl (po_move rfl rfl) ?_ | refine sops_skip gn1 rfl rfl ?_ | ((refine sops_split rfl rfl rfl (fun hc => ?_) (fun hc => ?_)) <;> (first | refine sops_pure gy rfl rfl (po_move rfl rfl) ?_ | refine sops_skip gn1 rfl rfl ?_))) <;> (first | refine sops_pure gy rfl rfl (po_move rfl rfl) ?_ | refine sops_skip gn1 rfl rfl ?_) <;> (first | refine sops_pure gy rfl rfl (pix rfl (tyS rfl)) ?_ | refine sops_skip gn1 rfl rfl ?_) <;> (first | refine sops_pure gy rfl rfl (po_field_bx rfl rfl (tyF rfl)) ?_ | refine sops_pure gy rfl rfl (po_field rfl rfl (tyF rfl)) ?_ | refine sops_skip gn1 rfl rfl ?_) <;> (first | refine sops_pure gy rfl rfl (po_load_bx rfl rfl (tyT rfl) rfl rfl) ?_ | refine sops_pure gy rfl rfl (po_load rfl rfl (tyT rfl) rfl) ?_ | refine sops_skip gn1 rfl rfl ?_) <;> (first | refine sops_pure gy rfl rfl (po_move rfl rfl) ?_ | refine sops_skip gn1 rfl rfl ?_) <;> (first | refine sops_pure gy rfl rfl (po_cmp rfl rfl rfl rfl) ?_ | refine sops_skip gn1 rfl rfl ?_) <;> (first | refine sops_pure (.free rfl rfl) rfl rfl (pkt rfl) ?_ | refine sops_pure (.free rfl rfl) rfl rfl (pkf rfl) ?_) <;> (refine sops_nil ?_))
      | ((refine swp_region (id := 5) ?_) <;> (refine sops_pure (.free rfl rfl) rfl rfl (po_move rfl rfl) ?_) <;> (refine sops_pure (.free rfl rfl) rfl rfl (po_move rfl rfl) ?_) <;> (refine sops_pure (.free rfl rfl) rfl rfl (pix rfl (tyS rfl)) ?_) <;> (first | refine sops_pure (.free rfl rfl) rfl rfl (po_field_bx rfl rfl (tyF rfl)) ?_ | refine sops_pure (.free rfl rfl) rfl rfl (po_field rfl rfl (tyF rfl)) ?_) <;> (first | refine sops_pure (.free rfl rfl) rfl rfl (po_load_bx rfl rfl (tyT rfl) rfl rfl) ?_ | refine sops_pure (.free rfl rfl) rfl rfl (po_load rfl rfl (tyT rfl) rfl) ?_) <;> (refine sops_pure (.free rfl rfl) rfl rfl (po_assign rfl rfl) ?_) <;> (refine sops_pure (.free rfl rfl) rfl rfl (po_assign rfl rfl) ?_) <;> (refine sops_nil ?_))
      | ((refine swp_region (id := 3) ?_) <;> (refine sops_pure (.free rfl rfl) rfl rfl (po_move rfl rfl) ?_) <;> (first | refine sops_pure (.free rfl rfl) rfl rfl (po_inc rfl rfl rfl (by omega)) ?_ | refine sops_pure (.free rfl rfl) rfl rfl (po_arith rfl rfl rfl (ar_add (by first | rfl | (refine wrap_i64 ?_; omega)) rfl)) ?_) <;> (refine sops_pure (.free rfl rfl) rfl rfl (po_assign rfl rfl) ?_) <;> (refine sops_nil ?_))
      | ((refine swp_region (id := 6) ?_) <;> (refine sops_pure (.free rfl rfl) rfl rfl (po_assign rfl rfl) ?_) <;> (refine sops_pure (.free rfl rfl) rfl rfl (po_assign rfl rfl) ?_) <;> (refine sops_nil ?_))
      | refine swp_ret ?_
      | refine swp_skip ?_
      | refine swp_block ?_
      | refine swp_exit ?_
      | refine block_go ?_
      | refine block_exit ?_
      | refine block_far rfl ?_
      | refine block_ret ?_
      | refine then_ret ?_
      | refine then_exit ?_
      | refine for_ret ?_
      | refine for_exit ?_
      | refine ct ?_
      | refine cf ?_
      | refine swp_cond rfl (fun hc => ?_) (fun hc => ?_)
      | refine retq (by first | exact .inr rfl | exact .inl rfl) rfl (.tmp rfl (by first | exact .t _ | exact .own rfl (by first | rfl | assumption | (simp; done) | (simp; omega)) | exact .nil _ | exact .emp _ | exact .fn _) (.tmp rfl (by first | exact .t _ | exact .own rfl (by first | rfl | assumption | (simp; done) | (simp; omega)) | exact .nil _ | exact .emp _ | exact .fn _) .nil)) ?_)
    rw [List.take_of_length_le (by omega)] at hI
    rw [hI]; rfl
theorem ff_len (p : Pl.Due → Bool) (l : List Pl.Due) (k : Nat) : (((l.take k).filter p).map dueT).length ≤ l.length := by
  rw [List.length_map]
  exact Nat.le_trans (List.length_filter_le _ _) (by rw [List.length_take]; omega)
def SF (s1 s2 : A) (l : List Pl.Due) (p : Pl.Due → Bool) (k : Nat) : St := ⟨[(0, .t (.sl 3 (l.map dueT))), (1, s1), (2, s2), (7, .own 100 (((l.take k).filter p).map dueT).length), (8, .t (.v (.int .i64 (k : Int))))], [], [(100, ⟨25, 3, ((l.take k).filter p).map dueT⟩)]⟩
theorem filter_yes {p : Pl.Due → Bool} {l : List Pl.Due} {k : Nat} (hk : k < l.length) (h : p l[k] = true) : ((l.take (k + 1)).filter p).map dueT = ((l.take k).filter p).map dueT ++ [dueT l[k]] := by
  rw [Pl.filter_succ p hk, if_pos h, List.map_append]; rfl
theorem filter_no {p : Pl.Due → Bool} {l : List Pl.Due} {k : Nat} (hk : k < l.length) (h : p l[k] = false) : ((l.take (k + 1)).filter p).map dueT = ((l.take k).filter p).map dueT := by
  rw [Pl.filter_succ p hk, if_neg (by simp [h])]
set_option maxRecDepth 100000 in
set_option maxHeartbeats 1000000 in
theorem rDrop (l : List Pl.Due) (kind key : Int) (hl : l.length ≤ 1000) : PCalls Try.prog 19 [duesT l, .v (.int .i64 kind), .v (.int .u64 key)] (duesT (Pl.dropL l kind key)) := by
  have hml : (l.map dueT).length = l.length := List.length_map _
  refine pcalls_of Try.func19 rfl rfl Try.ntmps19 rfl ?_
  repeat' (first
    | refine then_go ?_
    | refine swp_seq ?_
    | ((refine swp_region (id := 0) ?_) <;> (refine sops_pure (.free rfl rfl) rfl rfl (po_assign rfl rfl) ?_) <;> (refine sops_nil ?_))
    | ((refine swp_region (id := 1) ?_) <;> (refine sops_pure (.free rfl rfl) rfl rfl (po_assign rfl rfl) ?_) <;> (refine sops_nil ?_))
    | ((refine swp_region (id := 2) ?_) <;> (refine sops_pure (.free rfl rfl) rfl rfl (po_assign rfl rfl) ?_) <;> (refine sops_nil ?_))
    | refine swp_ret ?_
    | refine swp_skip ?_
    | refine swp_block ?_
    | refine swp_exit ?_
    | refine block_go ?_
    | refine block_exit ?_
    | refine block_far rfl ?_
    | refine block_ret ?_
    | refine then_ret ?_
    | refine then_exit ?_
    | refine for_ret ?_
    | refine for_exit ?_
    | refine ct ?_
    | refine cf ?_
    | refine swp_cond rfl (fun hc => ?_) (fun hc => ?_)
    | refine retq (by first | exact .inr rfl | exact .inl rfl) rfl (.tmp rfl (by first | exact .t _ | exact .own rfl (by first | rfl | assumption | (simp; done) | (simp; omega)) | exact .nil _ | exact .emp _ | exact .fn _) .nil) ?_)
  refine swp_for (SF (.t (.v (.int .i64 kind))) (.t (.v (.int .u64 key))) l (fun x => !Pl.isD kind key x)) (fun _ => True) l.length ?_ trivial ?_
  · refine Weak.trans (weak_own0 (i := 100) 25 3 (s := 7) rfl rfl) ?_
    exact (weak_sub (.cons rfl rfl rfl (.cons rfl rfl rfl (.cons rfl rfl rfl (.cons rfl rfl rfl (.cons rfl rfl rfl .nil))))) .nil (.cons rfl rfl .nil))
  intro k hk _
  unfold SF
  have hq := ff_len (fun x => !Pl.isD kind key x) l k
  generalize hF : ((l.take k).filter fun x => !Pl.isD kind key x).map dueT = F at *
  have g1 : (F.length + 1) * 24 ≤ 140737488355328 := by omega
  have g2 : F.length + 1 ≤ maxLen := by unfold maxLen; omega
  by_cases hlt : k < l.length
  · cases hd : Pl.isD kind key l[k] with
    | true =>
      have hsn := filter_no (p := fun x => !Pl.isD kind key x) hlt (by simp [hd])
      rw [hF] at hsn
      have e1 : decide (l[k].kind ≠ kind) = false := by unfold Pl.isD at hd; simp at hd; simp [hd.1]
      have e2 : decide (l[k].key ≠ key) = false := by unfold Pl.isD at hd; simp at hd; simp [hd.2]
      repeat' (first
        | refine then_go ?_
        | refine swp_seq ?_
        | refine for_next hlt (weak_sub (.cons rfl (by first | rfl | (rw [hsn]; try rfl)) rfl (.cons rfl (by first | rfl | (rw [hsn]; try rfl)) rfl (.cons rfl (by first | rfl | (rw [hsn]; try rfl)) rfl (.cons rfl (by first | rfl | (rw [hsn]; try rfl)) rfl (.cons rfl (by first | rfl | (rw [hsn]; try rfl)) rfl .nil))))) .nil (.cons rfl (by first | rfl | (rw [hsn]; try rfl)) .nil)) trivial
        | ((refine swp_region (id := 3) ?_) <;> (refine sops_pure (.free rfl rfl) rfl rfl (po_move rfl rfl) ?_) <;> (refine sops_pure (.free rfl rfl) rfl rfl (po_move rfl rfl) ?_) <;> (refine sops_pure (.free rfl rfl) rfl rfl (pln rfl (tyS rfl)) ?_) <;> (refine sops_pure (.free rfl rfl) rfl rfl (po_cmp rfl rfl rfl rfl) ?_) <;> (refine sops_nil ?_))
        | ((refine swp_region (id := 5) ?_) <;> (refine sops_pure (.free rfl rfl) rfl rfl (po_move rfl rfl) ?_) <;> (refine sops_pure (.free rfl rfl) rfl rfl (po_move rfl rfl) ?_) <;> (refine sops_pure (.free rfl rfl) rfl rfl (pix rfl (tyS rfl)) ?_) <;> (first | refine sops_pure (.free rfl rfl) rfl rfl (po_field_bx rfl rfl (tyF rfl)) ?_ | refine sops_pure (.free rfl rfl) rfl rfl (po_field rfl rfl (tyF rfl)) ?_) <;> (first | refine sops_pure (.free rfl rfl) rfl rfl (po_load_bx rfl rfl (tyT rfl) rfl rfl) ?_ | refine sops_pure (.free rfl rfl) rfl rfl (po_load rfl rfl (tyT rfl) rfl) ?_) <;> (refine sops_pure (.free rfl rfl) rfl rfl (po_move rfl rfl) ?_) <;> (refine sops_pure (.free rfl rfl) rfl rfl (po_cmp rfl rfl rfl rfl) ?_) <;> (refine sops_pure (.free rfl rfl) rfl rfl (po_move rfl rfl) ?_) <;> (first | refine sops_pure gy rfl rfl (po_move rfl rfl) ?_ | refine sops_skip gn0 rfl rfl ?_ | ((refine sops_split rfl rfl rfl (fun hc => ?_) (fun hc => ?_)) <;> (first | refine sops_pure gy rfl rfl (po_move rfl rfl) ?_ | refine sops_skip gn0 rfl rfl ?_))) <;> (first | refine sops_pure gy rfl rfl (po_move rfl rfl) ?_ | refine sops_skip gn0 rfl rfl ?_) <;> (first | refine sops_pure gy rfl rfl (pix rfl (tyS rfl)) ?_ | refine sops_skip gn0 rfl rfl ?_) <;> (first | refine sops_pure gy rfl rfl (po_field_bx rfl rfl (tyF rfl)) ?_ | refine sops_pure gy rfl rfl (po_field rfl rfl (tyF rfl)) ?_ | refine sops_skip gn0 rfl rfl ?_) <;> (first | refine sops_pure gy rfl rfl (po_load_bx rfl rfl (tyT rfl) rfl rfl) ?_ | refine sops_pure gy rfl rfl (po_load rfl rfl (tyT rfl) rfl) ?_ | refine sops_skip gn0 rfl rfl ?_) <;> (first | refine sops_pure gy rfl rfl (po_move rfl rfl) ?_ | refine sops_skip gn0 rfl rfl ?_) <;> (first | refine sops_pure gy rfl rfl (po_cmp rfl rfl rfl rfl) ?_ | refine sops_skip gn0 rfl rfl ?_) <;> (first | refine sops_pure (.free rfl rfl) rfl rfl (pkt rfl) ?_ | refine sops_pure (.free rfl rfl) rfl rfl (pkf rfl) ?_) <;> (refine sops_nil ?_))
        | ((refine swp_region (id := 4) ?_) <;> (refine sops_pure (.free rfl rfl) rfl rfl (po_move rfl rfl) ?_) <;> (first | refine sops_pure (.free rfl rfl) rfl rfl (po_inc rfl rfl rfl (by omega)) ?_ | refine sops_pure (.free rfl rfl) rfl rfl (po_arith rfl rfl rfl (ar_add (by first | rfl | (refine wrap_i64 ?_; omega)) rfl)) ?_) <;> (refine sops_pure (.free rfl rfl) rfl rfl (po_assign rfl rfl) ?_) <;> (refine sops_nil ?_))
        | refine swp_ret ?_
        | refine swp_skip ?_
        | refine swp_block ?_
        | refine swp_exit ?_
        | refine block_go ?_
        | refine block_exit ?_
        | refine block_far rfl ?_
        | refine block_ret ?_
        | refine then_ret ?_
        | refine then_exit ?_
        | refine for_ret ?_
        | refine for_exit ?_
        | refine ct ?_
        | refine cf ?_
        | refine swp_cond rfl (fun hc => ?_) (fun hc => ?_)
        | refine retq (by first | exact .inr rfl | exact .inl rfl) rfl (.tmp rfl (by first | exact .t _ | exact .own rfl (by first | rfl | assumption | (simp; done) | (simp; omega)) | exact .nil _ | exact .emp _ | exact .fn _) .nil) ?_)
      all_goals (exfalso; unfold Pl.isD at hd; simp at *; omega)
    | false =>
      have hsn := filter_yes (p := fun x => !Pl.isD kind key x) hlt (by simp [hd])
      rw [hF] at hsn
      by_cases h1 : l[k].kind = kind
      · have h2 : l[k].key ≠ key := fun h => by unfold Pl.isD at hd; simp [h1, h] at hd
        have e1 : (!decide (l[k].kind = kind)) = false := by simp [h1]
        have e2 : (!decide (l[k].key = key)) = true := by simp [h2]
        repeat' (first
          | refine then_go ?_
          | refine swp_seq ?_
          | refine for_next hlt (weak_sub (.cons rfl (by first | rfl | (rw [hsn]; try rfl)) rfl (.cons rfl (by first | rfl | (rw [hsn]; try rfl)) rfl (.cons rfl (by first | rfl | (rw [hsn]; try rfl)) rfl (.cons rfl (by first | rfl | (rw [hsn]; try rfl)) rfl (.cons rfl (by first | rfl | (rw [hsn]; try rfl)) rfl .nil))))) .nil (.cons rfl (by first | rfl | (rw [hsn]; try rfl)) .nil)) trivial
          | ((refine swp_region (id := 3) ?_) <;> (refine sops_pure (.free rfl rfl) rfl rfl (po_move rfl rfl) ?_) <;> (refine sops_pure (.free rfl rfl) rfl rfl (po_move rfl rfl) ?_) <;> (refine sops_pure (.free rfl rfl) rfl rfl (pln rfl (tyS rfl)) ?_) <;> (refine sops_pure (.free rfl rfl) rfl rfl (po_cmp rfl rfl rfl rfl) ?_) <;> (refine sops_nil ?_))
          | ((refine swp_region (id := 5) ?_) <;> (refine sops_pure (.free rfl rfl) rfl rfl (po_move rfl rfl) ?_) <;> (refine sops_pure (.free rfl rfl) rfl rfl (po_move rfl rfl) ?_) <;> (refine sops_pure (.free rfl rfl) rfl rfl (pix rfl (tyS rfl)) ?_) <;> (first | refine sops_pure (.free rfl rfl) rfl rfl (po_field_bx rfl rfl (tyF rfl)) ?_ | refine sops_pure (.free rfl rfl) rfl rfl (po_field rfl rfl (tyF rfl)) ?_) <;> (first | refine sops_pure (.free rfl rfl) rfl rfl (po_load_bx rfl rfl (tyT rfl) rfl rfl) ?_ | refine sops_pure (.free rfl rfl) rfl rfl (po_load rfl rfl (tyT rfl) rfl) ?_) <;> (refine sops_pure (.free rfl rfl) rfl rfl (po_move rfl rfl) ?_) <;> (refine sops_pure (.free rfl rfl) rfl rfl (po_cmp rfl rfl rfl rfl) ?_) <;> (refine sops_pure (.free rfl rfl) rfl rfl (po_move rfl rfl) ?_) <;> (first | refine sops_pure gy rfl rfl (po_move rfl rfl) ?_ | refine sops_skip gn0 rfl rfl ?_ | ((refine sops_split rfl rfl rfl (fun hc => ?_) (fun hc => ?_)) <;> (first | refine sops_pure gy rfl rfl (po_move rfl rfl) ?_ | refine sops_skip gn0 rfl rfl ?_))) <;> (first | refine sops_pure gy rfl rfl (po_move rfl rfl) ?_ | refine sops_skip gn0 rfl rfl ?_) <;> (first | refine sops_pure gy rfl rfl (pix rfl (tyS rfl)) ?_ | refine sops_skip gn0 rfl rfl ?_) <;> (first | refine sops_pure gy rfl rfl (po_field_bx rfl rfl (tyF rfl)) ?_ | refine sops_pure gy rfl rfl (po_field rfl rfl (tyF rfl)) ?_ | refine sops_skip gn0 rfl rfl ?_) <;> (first | refine sops_pure gy rfl rfl (po_load_bx rfl rfl (tyT rfl) rfl rfl) ?_ | refine sops_pure gy rfl rfl (po_load rfl rfl (tyT rfl) rfl) ?_ | refine sops_skip gn0 rfl rfl ?_) <;> (first | refine sops_pure gy rfl rfl (po_move rfl rfl) ?_ | refine sops_skip gn0 rfl rfl ?_) <;> (first | refine sops_pure gy rfl rfl (po_cmp rfl rfl rfl rfl) ?_ | refine sops_skip gn0 rfl rfl ?_) <;> (first | refine sops_pure (.free rfl rfl) rfl rfl (pkt rfl) ?_ | refine sops_pure (.free rfl rfl) rfl rfl (pkf rfl) ?_) <;> (refine sops_nil ?_))
          | ((refine swp_region (id := 6) ?_) <;> (refine sops_pure (.free rfl rfl) rfl rfl (po_move rfl rfl) ?_) <;> (refine sops_pure (.free rfl rfl) rfl rfl (po_move rfl rfl) ?_) <;> (refine sops_pure (.free rfl rfl) rfl rfl (po_move rfl rfl) ?_) <;> (refine sops_pure (.free rfl rfl) rfl rfl (pix rfl (tyS rfl)) ?_) <;> (first | refine sops_pure (.free rfl rfl) rfl rfl (po_load_bx_agg rfl rfl (tyT rfl) rfl (vc (vc (vc .nil))) rfl) ?_ | refine sops_pure (.free rfl rfl) rfl rfl (po_load_agg rfl rfl (tyT rfl) rfl rfl) ?_) <;> (refine sops_pure (.free rfl rfl) rfl rfl (po_buildSlice rfl (tyE rfl) (dc (.nil _)) rfl rfl rfl) ?_) <;> (first | refine sap rfl (tyE rfl) ?_ | refine san rfl (tyE rfl) ?_) <;> (refine sops_pure (.free rfl rfl) rfl rfl (po_assign rfl rfl) ?_) <;> (refine sops_nil ?_))
          | ((refine swp_region (id := 4) ?_) <;> (refine sops_pure (.free rfl rfl) rfl rfl (po_move rfl rfl) ?_) <;> (first | refine sops_pure (.free rfl rfl) rfl rfl (po_inc rfl rfl rfl (by omega)) ?_ | refine sops_pure (.free rfl rfl) rfl rfl (po_arith rfl rfl rfl (ar_add (by first | rfl | (refine wrap_i64 ?_; omega)) rfl)) ?_) <;> (refine sops_pure (.free rfl rfl) rfl rfl (po_assign rfl rfl) ?_) <;> (refine sops_nil ?_))
          | refine swp_ret ?_
          | refine swp_skip ?_
          | refine swp_block ?_
          | refine swp_exit ?_
          | refine block_go ?_
          | refine block_exit ?_
          | refine block_far rfl ?_
          | refine block_ret ?_
          | refine then_ret ?_
          | refine then_exit ?_
          | refine for_ret ?_
          | refine for_exit ?_
          | refine ct ?_
          | refine cf ?_
          | refine swp_cond rfl (fun hc => ?_) (fun hc => ?_)
          | refine retq (by first | exact .inr rfl | exact .inl rfl) rfl (.tmp rfl (by first | exact .t _ | exact .own rfl (by first | rfl | assumption | (simp; done) | (simp; omega)) | exact .nil _ | exact .emp _ | exact .fn _) .nil) ?_)
      · have e1 : (!decide (l[k].kind = kind)) = true := by simp [h1]
        repeat' (first
          | refine then_go ?_
          | refine swp_seq ?_
          | refine for_next hlt (weak_sub (.cons rfl (by first | rfl | (rw [hsn]; try rfl)) rfl (.cons rfl (by first | rfl | (rw [hsn]; try rfl)) rfl (.cons rfl (by first | rfl | (rw [hsn]; try rfl)) rfl (.cons rfl (by first | rfl | (rw [hsn]; try rfl)) rfl (.cons rfl (by first | rfl | (rw [hsn]; try rfl)) rfl .nil))))) .nil (.cons rfl (by first | rfl | (rw [hsn]; try rfl)) .nil)) trivial
          | ((refine swp_region (id := 3) ?_) <;> (refine sops_pure (.free rfl rfl) rfl rfl (po_move rfl rfl) ?_) <;> (refine sops_pure (.free rfl rfl) rfl rfl (po_move rfl rfl) ?_) <;> (refine sops_pure (.free rfl rfl) rfl rfl (pln rfl (tyS rfl)) ?_) <;> (refine sops_pure (.free rfl rfl) rfl rfl (po_cmp rfl rfl rfl rfl) ?_) <;> (refine sops_nil ?_))
          | ((refine swp_region (id := 5) ?_) <;> (refine sops_pure (.free rfl rfl) rfl rfl (po_move rfl rfl) ?_) <;> (refine sops_pure (.free rfl rfl) rfl rfl (po_move rfl rfl) ?_) <;> (refine sops_pure (.free rfl rfl) rfl rfl (pix rfl (tyS rfl)) ?_) <;> (first | refine sops_pure (.free rfl rfl) rfl rfl (po_field_bx rfl rfl (tyF rfl)) ?_ | refine sops_pure (.free rfl rfl) rfl rfl (po_field rfl rfl (tyF rfl)) ?_) <;> (first | refine sops_pure (.free rfl rfl) rfl rfl (po_load_bx rfl rfl (tyT rfl) rfl rfl) ?_ | refine sops_pure (.free rfl rfl) rfl rfl (po_load rfl rfl (tyT rfl) rfl) ?_) <;> (refine sops_pure (.free rfl rfl) rfl rfl (po_move rfl rfl) ?_) <;> (refine sops_pure (.free rfl rfl) rfl rfl (po_cmp rfl rfl rfl rfl) ?_) <;> (refine sops_pure (.free rfl rfl) rfl rfl (po_move rfl rfl) ?_) <;> (first | refine sops_pure gy rfl rfl (po_move rfl rfl) ?_ | refine sops_skip gn0 rfl rfl ?_ | ((refine sops_split rfl rfl rfl (fun hc => ?_) (fun hc => ?_)) <;> (first | refine sops_pure gy rfl rfl (po_move rfl rfl) ?_ | refine sops_skip gn0 rfl rfl ?_))) <;> (first | refine sops_pure gy rfl rfl (po_move rfl rfl) ?_ | refine sops_skip gn0 rfl rfl ?_) <;> (first | refine sops_pure gy rfl rfl (pix rfl (tyS rfl)) ?_ | refine sops_skip gn0 rfl rfl ?_) <;> (first | refine sops_pure gy rfl rfl (po_field_bx rfl rfl (tyF rfl)) ?_ | refine sops_pure gy rfl rfl (po_field rfl rfl (tyF rfl)) ?_ | refine sops_skip gn0 rfl rfl ?_) <;> (first | refine sops_pure gy rfl rfl (po_load_bx rfl rfl (tyT rfl) rfl rfl) ?_ | refine sops_pure gy rfl rfl (po_load rfl rfl (tyT rfl) rfl) ?_ | refine sops_skip gn0 rfl rfl ?_) <;> (first | refine sops_pure gy rfl rfl (po_move rfl rfl) ?_ | refine sops_skip gn0 rfl rfl ?_) <;> (first | refine sops_pure gy rfl rfl (po_cmp rfl rfl rfl rfl) ?_ | refine sops_skip gn0 rfl rfl ?_) <;> (first | refine sops_pure (.free rfl rfl) rfl rfl (pkt rfl) ?_ | refine sops_pure (.free rfl rfl) rfl rfl (pkf rfl) ?_) <;> (refine sops_nil ?_))
          | ((refine swp_region (id := 6) ?_) <;> (refine sops_pure (.free rfl rfl) rfl rfl (po_move rfl rfl) ?_) <;> (refine sops_pure (.free rfl rfl) rfl rfl (po_move rfl rfl) ?_) <;> (refine sops_pure (.free rfl rfl) rfl rfl (po_move rfl rfl) ?_) <;> (refine sops_pure (.free rfl rfl) rfl rfl (pix rfl (tyS rfl)) ?_) <;> (first | refine sops_pure (.free rfl rfl) rfl rfl (po_load_bx_agg rfl rfl (tyT rfl) rfl (vc (vc (vc .nil))) rfl) ?_ | refine sops_pure (.free rfl rfl) rfl rfl (po_load_agg rfl rfl (tyT rfl) rfl rfl) ?_) <;> (refine sops_pure (.free rfl rfl) rfl rfl (po_buildSlice rfl (tyE rfl) (dc (.nil _)) rfl rfl rfl) ?_) <;> (first | refine sap rfl (tyE rfl) ?_ | refine san rfl (tyE rfl) ?_) <;> (refine sops_pure (.free rfl rfl) rfl rfl (po_assign rfl rfl) ?_) <;> (refine sops_nil ?_))
          | ((refine swp_region (id := 4) ?_) <;> (refine sops_pure (.free rfl rfl) rfl rfl (po_move rfl rfl) ?_) <;> (first | refine sops_pure (.free rfl rfl) rfl rfl (po_inc rfl rfl rfl (by omega)) ?_ | refine sops_pure (.free rfl rfl) rfl rfl (po_arith rfl rfl rfl (ar_add (by first | rfl | (refine wrap_i64 ?_; omega)) rfl)) ?_) <;> (refine sops_pure (.free rfl rfl) rfl rfl (po_assign rfl rfl) ?_) <;> (refine sops_nil ?_))
          | refine swp_ret ?_
          | refine swp_skip ?_
          | refine swp_block ?_
          | refine swp_exit ?_
          | refine block_go ?_
          | refine block_exit ?_
          | refine block_far rfl ?_
          | refine block_ret ?_
          | refine then_ret ?_
          | refine then_exit ?_
          | refine for_ret ?_
          | refine for_exit ?_
          | refine ct ?_
          | refine cf ?_
          | refine swp_cond rfl (fun hc => ?_) (fun hc => ?_)
          | refine retq (by first | exact .inr rfl | exact .inl rfl) rfl (.tmp rfl (by first | exact .t _ | exact .own rfl (by first | rfl | assumption | (simp; done) | (simp; omega)) | exact .nil _ | exact .emp _ | exact .fn _) .nil) ?_)
  · obtain rfl : k = l.length := by omega
    rw [List.take_length] at hF
    subst hF
    repeat' (first
      | refine then_go ?_
      | refine swp_seq ?_
      | ((refine swp_region (id := 3) ?_) <;> (refine sops_pure (.free rfl rfl) rfl rfl (po_move rfl rfl) ?_) <;> (refine sops_pure (.free rfl rfl) rfl rfl (po_move rfl rfl) ?_) <;> (refine sops_pure (.free rfl rfl) rfl rfl (pln rfl (tyS rfl)) ?_) <;> (refine sops_pure (.free rfl rfl) rfl rfl (po_cmp rfl rfl rfl rfl) ?_) <;> (refine sops_nil ?_))
      | ((refine swp_region (id := 7) ?_) <;> (refine sops_pure (.free rfl rfl) rfl rfl (po_move rfl rfl) ?_) <;> (refine sops_pure (.free rfl rfl) rfl rfl (po_assign rfl rfl) ?_) <;> (refine sops_nil ?_))
      | refine swp_ret ?_
      | refine swp_skip ?_
      | refine swp_block ?_
      | refine swp_exit ?_
      | refine block_go ?_
      | refine block_exit ?_
      | refine block_far rfl ?_
      | refine block_ret ?_
      | refine then_ret ?_
      | refine then_exit ?_
      | refine for_ret ?_
      | refine for_exit ?_
      | refine ct ?_
      | refine cf ?_
      | refine swp_cond rfl (fun hc => ?_) (fun hc => ?_)
      | exact retq1 (by first | exact .inr rfl | exact .inl rfl) rfl (.tmp rfl (by first | exact .t _ | exact .own rfl (by first | rfl | assumption | (simp; done) | (simp; omega)) | exact .nil _ | exact .emp _ | exact .fn _) .nil)
      | refine retq (by first | exact .inr rfl | exact .inl rfl) rfl (.tmp rfl (by first | exact .t _ | exact .own rfl (by first | rfl | assumption | (simp; done) | (simp; omega)) | exact .nil _ | exact .emp _ | exact .fn _) .nil) ?_)
theorem map_at_eq {l : List Pl.Due} {k : Nat} (hk : k < l.length) : (l.map dueT)[k]? = some (dueT l[k]) := by rw [List.getElem?_map, List.getElem?_eq_getElem hk]; rfl
set_option maxRecDepth 100000 in
set_option maxHeartbeats 1000000 in
theorem rTake (l : List Pl.Due) (now : Int) (due : Bool) (hl : l.length ≤ 1000) : PCalls Try.prog 21 [duesT l, .v (.int .u64 now), .v (.bool due)] (duesT (Pl.takeB now due l)) := by
  have hml : (l.map dueT).length = l.length := List.length_map _
  refine pcalls_of Try.func21 rfl rfl Try.ntmps21 rfl ?_
  repeat' (first
    | refine then_go ?_
    | refine swp_seq ?_
    | ((refine swp_region (id := 0) ?_) <;> (refine sops_pure (.free rfl rfl) rfl rfl (po_assign rfl rfl) ?_) <;> (refine sops_nil ?_))
    | ((refine swp_region (id := 1) ?_) <;> (refine sops_pure (.free rfl rfl) rfl rfl (po_assign rfl rfl) ?_) <;> (refine sops_nil ?_))
    | ((refine swp_region (id := 2) ?_) <;> (refine sops_pure (.free rfl rfl) rfl rfl (po_assign rfl rfl) ?_) <;> (refine sops_nil ?_))
    | refine swp_ret ?_
    | refine swp_skip ?_
    | refine swp_block ?_
    | refine swp_exit ?_
    | refine block_go ?_
    | refine block_exit ?_
    | refine block_far rfl ?_
    | refine block_ret ?_
    | refine then_ret ?_
    | refine then_exit ?_
    | refine for_ret ?_
    | refine for_exit ?_
    | refine ct ?_
    | refine cf ?_
    | refine swp_cond rfl (fun hc => ?_) (fun hc => ?_)
    | refine retq (by first | exact .inr rfl | exact .inl rfl) rfl (.tmp rfl (by first | exact .t _ | exact .own rfl (by first | rfl | assumption | (simp; done) | (simp; omega)) | exact .nil _ | exact .emp _ | exact .fn _) .nil) ?_)
  refine swp_for (SF (.t (.v (.int .u64 now))) (.t (.v (.bool due))) l (fun x => decide (x.at_ ≤ now) == due)) (fun _ => True) l.length ?_ trivial ?_
  · refine Weak.trans (weak_own0 (i := 100) 25 3 (s := 7) rfl rfl) ?_
    exact (weak_sub (.cons rfl rfl rfl (.cons rfl rfl rfl (.cons rfl rfl rfl (.cons rfl rfl rfl (.cons rfl rfl rfl .nil))))) .nil (.cons rfl rfl .nil))
  intro k hk _
  unfold SF
  have hq := ff_len (fun x => decide (x.at_ ≤ now) == due) l k
  generalize hF : ((l.take k).filter fun x => decide (x.at_ ≤ now) == due).map dueT = F at *
  have g1 : (F.length + 1) * 24 ≤ 140737488355328 := by omega
  have g2 : F.length + 1 ≤ maxLen := by unfold maxLen; omega
  by_cases hlt : k < l.length
  · cases hd : (decide (l[k].at_ ≤ now) == due) with
    | false =>
      have hsn := filter_no (p := fun x => decide (x.at_ ≤ now) == due) hlt hd
      rw [hF] at hsn
      repeat' (first
        | refine then_go ?_
        | refine swp_seq ?_
        | refine for_next hlt (weak_sub (.cons rfl (by first | rfl | (rw [hsn]; try rfl)) rfl (.cons rfl (by first | rfl | (rw [hsn]; try rfl)) rfl (.cons rfl (by first | rfl | (rw [hsn]; try rfl)) rfl (.cons rfl (by first | rfl | (rw [hsn]; try rfl)) rfl (.cons rfl (by first | rfl | (rw [hsn]; try rfl)) rfl .nil))))) .nil (.cons rfl (by first | rfl | (rw [hsn]; try rfl)) .nil)) trivial
        | ((refine swp_region (id := 3) ?_) <;> (refine sops_pure (.free rfl rfl) rfl rfl (po_move rfl rfl) ?_) <;> (refine sops_pure (.free rfl rfl) rfl rfl (po_move rfl rfl) ?_) <;> (refine sops_pure (.free rfl rfl) rfl rfl (pln rfl (tyS rfl)) ?_) <;> (first | refine sops_pure (.free rfl rfl) rfl rfl (po_boolq1 false rfl rfl rfl (by kernel_rfl) hd) ?_ | refine sops_pure (.free rfl rfl) rfl rfl (po_cmp rfl rfl rfl rfl) ?_) <;> (refine sops_nil ?_))
        | ((refine swp_region (id := 5) ?_) <;> (refine sops_pure (.free rfl rfl) rfl rfl (po_move rfl rfl) ?_) <;> (refine sops_pure (.free rfl rfl) rfl rfl (po_move rfl rfl) ?_) <;> (refine sops_pure (.free rfl rfl) rfl rfl (pix rfl (tyS rfl)) ?_) <;> (first | refine sops_pure (.free rfl rfl) rfl rfl (po_field_bx rfl rfl (tyF rfl)) ?_ | refine sops_pure (.free rfl rfl) rfl rfl (po_field rfl rfl (tyF rfl)) ?_) <;> (first | refine sops_pure (.free rfl rfl) rfl rfl (po_load_bx rfl rfl (tyT rfl) rfl rfl) ?_ | refine sops_pure (.free rfl rfl) rfl rfl (po_load rfl rfl (tyT rfl) rfl) ?_) <;> (refine sops_pure (.free rfl rfl) rfl rfl (po_move rfl rfl) ?_) <;> (first | refine sops_pure (.free rfl rfl) rfl rfl (po_boolq1 false rfl rfl rfl (by kernel_rfl) hd) ?_ | refine sops_pure (.free rfl rfl) rfl rfl (po_cmp rfl rfl rfl rfl) ?_) <;> (refine sops_pure (.free rfl rfl) rfl rfl (po_move rfl rfl) ?_) <;> (first | refine sops_pure (.free rfl rfl) rfl rfl (po_boolq1 false rfl rfl rfl (by kernel_rfl) hd) ?_ | refine sops_pure (.free rfl rfl) rfl rfl (po_boolq rfl rfl rfl (by kernel_rfl) (by first | exact .inl rfl | exact .inr rfl)) ?_) <;> (refine sops_nil ?_))
        | ((refine swp_region (id := 4) ?_) <;> (refine sops_pure (.free rfl rfl) rfl rfl (po_move rfl rfl) ?_) <;> (first | refine sops_pure (.free rfl rfl) rfl rfl (po_inc rfl rfl rfl (by omega)) ?_ | refine sops_pure (.free rfl rfl) rfl rfl (po_arith rfl rfl rfl (ar_add (by first | rfl | (refine wrap_i64 ?_; omega)) rfl)) ?_) <;> (refine sops_pure (.free rfl rfl) rfl rfl (po_assign rfl rfl) ?_) <;> (refine sops_nil ?_))
        | refine swp_ret ?_
        | refine swp_skip ?_
        | refine swp_block ?_
        | refine swp_exit ?_
        | refine block_go ?_
        | refine block_exit ?_
        | refine block_far rfl ?_
        | refine block_ret ?_
        | refine then_ret ?_
        | refine then_exit ?_
        | refine for_ret ?_
        | refine for_exit ?_
        | refine ct ?_
        | refine cf ?_
        | refine swp_cond rfl (fun hc => ?_) (fun hc => ?_)
        | refine retq (by first | exact .inr rfl | exact .inl rfl) rfl (.tmp rfl (by first | exact .t _ | exact .own rfl (by first | rfl | assumption | (simp; done) | (simp; omega)) | exact .nil _ | exact .emp _ | exact .fn _) .nil) ?_)
    | true =>
      have hsn := filter_yes (p := fun x => decide (x.at_ ≤ now) == due) hlt hd
      rw [hF] at hsn
      repeat' (first
        | refine then_go ?_
        | refine swp_seq ?_
        | refine for_next hlt (weak_sub (.cons rfl (by first | rfl | (rw [hsn]; try rfl)) rfl (.cons rfl (by first | rfl | (rw [hsn]; try rfl)) rfl (.cons rfl (by first | rfl | (rw [hsn]; try rfl)) rfl (.cons rfl (by first | rfl | (rw [hsn]; try rfl)) rfl (.cons rfl (by first | rfl | (rw [hsn]; try rfl)) rfl .nil))))) .nil (.cons rfl (by first | rfl | (rw [hsn]; try rfl)) .nil)) trivial
        | ((refine swp_region (id := 3) ?_) <;> (refine sops_pure (.free rfl rfl) rfl rfl (po_move rfl rfl) ?_) <;> (refine sops_pure (.free rfl rfl) rfl rfl (po_move rfl rfl) ?_) <;> (refine sops_pure (.free rfl rfl) rfl rfl (pln rfl (tyS rfl)) ?_) <;> (first | refine sops_pure (.free rfl rfl) rfl rfl (po_boolq1 true rfl rfl rfl (by kernel_rfl) hd) ?_ | refine sops_pure (.free rfl rfl) rfl rfl (po_cmp rfl rfl rfl rfl) ?_) <;> (refine sops_nil ?_))
        | ((refine swp_region (id := 5) ?_) <;> (refine sops_pure (.free rfl rfl) rfl rfl (po_move rfl rfl) ?_) <;> (refine sops_pure (.free rfl rfl) rfl rfl (po_move rfl rfl) ?_) <;> (refine sops_pure (.free rfl rfl) rfl rfl (pix rfl (tyS rfl)) ?_) <;> (first | refine sops_pure (.free rfl rfl) rfl rfl (po_field_bx rfl rfl (tyF rfl)) ?_ | refine sops_pure (.free rfl rfl) rfl rfl (po_field rfl rfl (tyF rfl)) ?_) <;> (first | refine sops_pure (.free rfl rfl) rfl rfl (po_load_bx rfl rfl (tyT rfl) rfl rfl) ?_ | refine sops_pure (.free rfl rfl) rfl rfl (po_load rfl rfl (tyT rfl) rfl) ?_) <;> (refine sops_pure (.free rfl rfl) rfl rfl (po_move rfl rfl) ?_) <;> (first | refine sops_pure (.free rfl rfl) rfl rfl (po_boolq1 true rfl rfl rfl (by kernel_rfl) hd) ?_ | refine sops_pure (.free rfl rfl) rfl rfl (po_cmp rfl rfl rfl rfl) ?_) <;> (refine sops_pure (.free rfl rfl) rfl rfl (po_move rfl rfl) ?_) <;> (first | refine sops_pure (.free rfl rfl) rfl rfl (po_boolq1 true rfl rfl rfl (by kernel_rfl) hd) ?_ | refine sops_pure (.free rfl rfl) rfl rfl (po_boolq rfl rfl rfl (by kernel_rfl) (by first | exact .inl rfl | exact .inr rfl)) ?_) <;> (refine sops_nil ?_))
        | ((refine swp_region (id := 6) ?_) <;> (refine sops_pure (.free rfl rfl) rfl rfl (po_move rfl rfl) ?_) <;> (refine sops_pure (.free rfl rfl) rfl rfl (po_move rfl rfl) ?_) <;> (refine sops_pure (.free rfl rfl) rfl rfl (po_move rfl rfl) ?_) <;> (refine sops_pure (.free rfl rfl) rfl rfl (pix rfl (tyS rfl)) ?_) <;> (first | refine sops_pure (.free rfl rfl) rfl rfl (po_load_bx_agg rfl rfl (tyT rfl) rfl (vc (vc (vc .nil))) rfl) ?_ | refine sops_pure (.free rfl rfl) rfl rfl (po_load_agg rfl rfl (tyT rfl) rfl rfl) ?_) <;> (refine sops_pure (.free rfl rfl) rfl rfl (po_buildSlice rfl (tyE rfl) (dc (.nil _)) rfl rfl rfl) ?_) <;> (first | refine sap rfl (tyE rfl) ?_ | refine san rfl (tyE rfl) ?_) <;> (refine sops_pure (.free rfl rfl) rfl rfl (po_assign rfl rfl) ?_) <;> (refine sops_nil ?_))
        | ((refine swp_region (id := 4) ?_) <;> (refine sops_pure (.free rfl rfl) rfl rfl (po_move rfl rfl) ?_) <;> (first | refine sops_pure (.free rfl rfl) rfl rfl (po_inc rfl rfl rfl (by omega)) ?_ | refine sops_pure (.free rfl rfl) rfl rfl (po_arith rfl rfl rfl (ar_add (by first | rfl | (refine wrap_i64 ?_; omega)) rfl)) ?_) <;> (refine sops_pure (.free rfl rfl) rfl rfl (po_assign rfl rfl) ?_) <;> (refine sops_nil ?_))
        | refine swp_ret ?_
        | refine swp_skip ?_
        | refine swp_block ?_
        | refine swp_exit ?_
        | refine block_go ?_
        | refine block_exit ?_
        | refine block_far rfl ?_
        | refine block_ret ?_
        | refine then_ret ?_
        | refine then_exit ?_
        | refine for_ret ?_
        | refine for_exit ?_
        | refine ct ?_
        | refine cf ?_
        | refine swp_cond rfl (fun hc => ?_) (fun hc => ?_)
        | refine retq (by first | exact .inr rfl | exact .inl rfl) rfl (.tmp rfl (by first | exact .t _ | exact .own rfl (by first | rfl | assumption | (simp; done) | (simp; omega)) | exact .nil _ | exact .emp _ | exact .fn _) .nil) ?_)
  · obtain rfl : k = l.length := by omega
    rw [List.take_length] at hF
    unfold Pl.takeB
    subst hF
    repeat' (first
      | refine then_go ?_
      | refine swp_seq ?_
      | ((refine swp_region (id := 3) ?_) <;> (refine sops_pure (.free rfl rfl) rfl rfl (po_move rfl rfl) ?_) <;> (refine sops_pure (.free rfl rfl) rfl rfl (po_move rfl rfl) ?_) <;> (refine sops_pure (.free rfl rfl) rfl rfl (pln rfl (tyS rfl)) ?_) <;> (refine sops_pure (.free rfl rfl) rfl rfl (po_cmp rfl rfl rfl rfl) ?_) <;> (refine sops_nil ?_))
      | ((refine swp_region (id := 7) ?_) <;> (refine sops_pure (.free rfl rfl) rfl rfl (po_move rfl rfl) ?_) <;> (refine sops_pure (.free rfl rfl) rfl rfl (po_assign rfl rfl) ?_) <;> (refine sops_nil ?_))
      | refine swp_ret ?_
      | refine swp_skip ?_
      | refine swp_block ?_
      | refine swp_exit ?_
      | refine block_go ?_
      | refine block_exit ?_
      | refine block_far rfl ?_
      | refine block_ret ?_
      | refine then_ret ?_
      | refine then_exit ?_
      | refine for_ret ?_
      | refine for_exit ?_
      | refine ct ?_
      | refine cf ?_
      | refine swp_cond rfl (fun hc => ?_) (fun hc => ?_)
      | exact retq1 (by first | exact .inr rfl | exact .inl rfl) rfl (.tmp rfl (by first | exact .t _ | exact .own rfl (by first | rfl | assumption | (simp; done) | (simp; omega)) | exact .nil _ | exact .emp _ | exact .fn _) .nil)
      | refine retq (by first | exact .inr rfl | exact .inl rfl) rfl (.tmp rfl (by first | exact .t _ | exact .own rfl (by first | rfl | assumption | (simp; done) | (simp; omega)) | exact .nil _ | exact .emp _ | exact .fn _) .nil) ?_)
set_option maxRecDepth 100000 in
set_option maxHeartbeats 1000000 in
theorem rSame (l m : List Pl.Due) (hl : l.length ≤ 1000) (hm : m.length ≤ 1000) : PCalls Try.prog 12 [duesT l, duesT m] (.v (.bool (decide (l = m)))) := by
  have hml : (l.map dueT).length = l.length := List.length_map _
  have hmm : (m.map dueT).length = m.length := List.length_map _
  refine pcalls_of Try.func12 rfl rfl Try.ntmps12 rfl ?_
  by_cases hne : l.length = m.length
  · repeat' (first
      | refine then_go ?_
      | refine swp_seq ?_
      | ((refine swp_region (id := 0) ?_) <;> (refine sops_pure (.free rfl rfl) rfl rfl (po_assign rfl rfl) ?_) <;> (refine sops_nil ?_))
      | ((refine swp_region (id := 1) ?_) <;> (refine sops_pure (.free rfl rfl) rfl rfl (po_move rfl rfl) ?_) <;> (refine sops_pure (.free rfl rfl) rfl rfl (pln rfl (tyS rfl)) ?_) <;> (refine sops_pure (.free rfl rfl) rfl rfl (po_move rfl rfl) ?_) <;> (refine sops_pure (.free rfl rfl) rfl rfl (pln rfl (tyS rfl)) ?_) <;> (refine sops_pure (.free rfl rfl) rfl rfl (po_cmp rfl rfl rfl rfl) ?_) <;> (refine sops_nil ?_))
      | ((refine swp_region (id := 3) ?_) <;> (refine sops_pure (.free rfl rfl) rfl rfl (po_assign rfl rfl) ?_) <;> (refine sops_nil ?_))
      | refine swp_ret ?_
      | refine swp_skip ?_
      | refine swp_block ?_
      | refine swp_exit ?_
      | refine block_go ?_
      | refine block_exit ?_
      | refine block_far rfl ?_
      | refine block_ret ?_
      | refine then_ret ?_
      | refine then_exit ?_
      | refine for_ret ?_
      | refine for_exit ?_
      | refine ct ?_
      | refine cf ?_
      | refine swp_cond rfl (fun hc => ?_) (fun hc => ?_)
      | refine retq (by first | exact .inr rfl | exact .inl rfl) rfl (.tmp rfl (by first | exact .t _ | exact .own rfl (by first | rfl | assumption | (simp; done) | (simp; omega)) | exact .nil _ | exact .emp _ | exact .fn _) .nil) ?_)
    refine swp_for (fun k => ⟨[(0, .t (.sl 3 (l.map dueT))), (1, .t (.sl 3 (m.map dueT))), (5, .t (.v (.int .i64 (k : Int))))], [], []⟩) (fun k => l.take k = m.take k) l.length (weak_sub (.cons rfl rfl rfl (.cons rfl rfl rfl (.cons rfl rfl rfl .nil))) .nil .nil) (by simp) ?_
    intro k hk hI
    by_cases hlt : k < l.length
    · have hlt2 : k < m.length := by omega
      have hr := dueq_run l[k] m[k]
      cases hd : decide (l[k] = m[k]) with
      | true =>
        have hr' := fun w x y => hr w x y
        rw [hd] at hr
        repeat' (first
          | refine then_go ?_
          | refine swp_seq ?_
          | refine for_next hlt (weak_sub (.cons rfl rfl rfl (.cons rfl rfl rfl (.cons rfl rfl rfl .nil))) .nil .nil) ?_
          | ((refine swp_region (id := 4) ?_) <;> (refine sops_pure (.free rfl rfl) rfl rfl (po_move rfl rfl) ?_) <;> (refine sops_pure (.free rfl rfl) rfl rfl (po_move rfl rfl) ?_) <;> (refine sops_pure (.free rfl rfl) rfl rfl (pln rfl (tyS rfl)) ?_) <;> (first | refine sops_pure (.free rfl rfl) rfl rfl (po_ex2 rfl rfl rfl (due_Ex l[k]) (due_Ex m[k]) (fun w x y => hr w x y)) ?_ | refine sops_pure (.free rfl rfl) rfl rfl (po_cmp rfl rfl rfl rfl) ?_) <;> (refine sops_nil ?_))
          | ((refine swp_draw_all (id := 6) mixed (by kernel_rfl) (by kernel_rfl) ?_) <;> (refine sdraw_pure (.free rfl rfl) rfl (po_move rfl rfl) ?_) <;> (refine sdraw_pure (.free rfl rfl) rfl (po_move rfl rfl) ?_) <;> (refine sdraw_pure (.free rfl rfl) rfl (pix rfl (tyS rfl)) ?_) <;> (first | refine sdraw_pure (.free rfl rfl) rfl (po_load_bx_agg rfl rfl (tyT rfl) rfl (vc (vc (vc .nil))) rfl) ?_ | refine sdraw_pure (.free rfl rfl) rfl (po_load_agg rfl rfl (tyT rfl) rfl rfl) ?_) <;> (refine sdraw_pure (.free rfl rfl) rfl (po_move rfl rfl) ?_) <;> (refine sdraw_pure (.free rfl rfl) rfl (po_move rfl rfl) ?_) <;> (refine sdraw_pure (.free rfl rfl) rfl (pix rfl (tyS rfl)) ?_) <;> (first | refine sdraw_pure (.free rfl rfl) rfl (po_load_bx_agg rfl rfl (tyT rfl) rfl (vc (vc (vc .nil))) rfl) ?_ | refine sdraw_pure (.free rfl rfl) rfl (po_load_agg rfl rfl (tyT rfl) rfl rfl) ?_) <;> (first | refine sdraw_pure (.free rfl rfl) rfl (po_ex2 rfl rfl rfl (due_Ex l[k]) (due_Ex m[k]) (fun w x y => hr w x y)) ?_ | refine sdraw_pure (.free rfl rfl) rfl (po_boolq rfl rfl rfl (by kernel_rfl) (by first | exact .inl rfl | exact .inr rfl)) ?_) <;> (refine sdraw_nil ?_) <;> (refine sops_nil ?_))
          | ((refine swp_region (id := 5) ?_) <;> (refine sops_pure (.free rfl rfl) rfl rfl (po_move rfl rfl) ?_) <;> (first | refine sops_pure (.free rfl rfl) rfl rfl (po_inc rfl rfl rfl (by omega)) ?_ | refine sops_pure (.free rfl rfl) rfl rfl (po_arith rfl rfl rfl (ar_add (by first | rfl | (refine wrap_i64 ?_; omega)) rfl)) ?_) <;> (refine sops_pure (.free rfl rfl) rfl rfl (po_assign rfl rfl) ?_) <;> (refine sops_nil ?_))
          | refine swp_ret ?_
          | refine swp_skip ?_
          | refine swp_block ?_
          | refine swp_exit ?_
          | refine block_go ?_
          | refine block_exit ?_
          | refine block_far rfl ?_
          | refine block_ret ?_
          | refine then_ret ?_
          | refine then_exit ?_
          | refine for_ret ?_
          | refine for_exit ?_
          | refine ct ?_
          | refine cf ?_
          | refine swp_cond rfl (fun hc => ?_) (fun hc => ?_)
          | refine retq (by first | exact .inr rfl | exact .inl rfl) rfl (.tmp rfl (by first | exact .t _ | exact .own rfl (by first | rfl | assumption | (simp; done) | (simp; omega)) | exact .nil _ | exact .emp _ | exact .fn _) .nil) ?_)
        rw [List.take_succ_eq_append_getElem hlt, List.take_succ_eq_append_getElem hlt2, hI, of_decide_eq_true hd]
      | false =>
        rw [hd] at hr
        repeat' (first
          | refine then_go ?_
          | refine swp_seq ?_
          | ((refine swp_region (id := 4) ?_) <;> (refine sops_pure (.free rfl rfl) rfl rfl (po_move rfl rfl) ?_) <;> (refine sops_pure (.free rfl rfl) rfl rfl (po_move rfl rfl) ?_) <;> (refine sops_pure (.free rfl rfl) rfl rfl (pln rfl (tyS rfl)) ?_) <;> (first | refine sops_pure (.free rfl rfl) rfl rfl (po_ex2 rfl rfl rfl (due_Ex l[k]) (due_Ex m[k]) (fun w x y => hr w x y)) ?_ | refine sops_pure (.free rfl rfl) rfl rfl (po_cmp rfl rfl rfl rfl) ?_) <;> (refine sops_nil ?_))
          | ((refine swp_draw_all (id := 6) mixed (by kernel_rfl) (by kernel_rfl) ?_) <;> (refine sdraw_pure (.free rfl rfl) rfl (po_move rfl rfl) ?_) <;> (refine sdraw_pure (.free rfl rfl) rfl (po_move rfl rfl) ?_) <;> (refine sdraw_pure (.free rfl rfl) rfl (pix rfl (tyS rfl)) ?_) <;> (first | refine sdraw_pure (.free rfl rfl) rfl (po_load_bx_agg rfl rfl (tyT rfl) rfl (vc (vc (vc .nil))) rfl) ?_ | refine sdraw_pure (.free rfl rfl) rfl (po_load_agg rfl rfl (tyT rfl) rfl rfl) ?_) <;> (refine sdraw_pure (.free rfl rfl) rfl (po_move rfl rfl) ?_) <;> (refine sdraw_pure (.free rfl rfl) rfl (po_move rfl rfl) ?_) <;> (refine sdraw_pure (.free rfl rfl) rfl (pix rfl (tyS rfl)) ?_) <;> (first | refine sdraw_pure (.free rfl rfl) rfl (po_load_bx_agg rfl rfl (tyT rfl) rfl (vc (vc (vc .nil))) rfl) ?_ | refine sdraw_pure (.free rfl rfl) rfl (po_load_agg rfl rfl (tyT rfl) rfl rfl) ?_) <;> (first | refine sdraw_pure (.free rfl rfl) rfl (po_ex2 rfl rfl rfl (due_Ex l[k]) (due_Ex m[k]) (fun w x y => hr w x y)) ?_ | refine sdraw_pure (.free rfl rfl) rfl (po_boolq rfl rfl rfl (by kernel_rfl) (by first | exact .inl rfl | exact .inr rfl)) ?_) <;> (refine sdraw_nil ?_) <;> (refine sops_nil ?_))
          | ((refine swp_region (id := 7) ?_) <;> (refine sops_pure (.free rfl rfl) rfl rfl (po_assign rfl rfl) ?_) <;> (refine sops_nil ?_))
          | refine swp_ret ?_
          | refine swp_skip ?_
          | refine swp_block ?_
          | refine swp_exit ?_
          | refine block_go ?_
          | refine block_exit ?_
          | refine block_far rfl ?_
          | refine block_ret ?_
          | refine then_ret ?_
          | refine then_exit ?_
          | refine for_ret ?_
          | refine for_exit ?_
          | refine ct ?_
          | refine cf ?_
          | refine swp_cond rfl (fun hc => ?_) (fun hc => ?_)
          | refine retq (by first | exact .inr rfl | exact .inl rfl) rfl (.tmp rfl (by first | exact .t _ | exact .own rfl (by first | rfl | assumption | (simp; done) | (simp; omega)) | exact .nil _ | exact .emp _ | exact .fn _) .nil) ?_)
        refine eq_b ?_
        refine decide_eq_false fun h => ?_
        subst h
        simp at hd
    · obtain rfl : k = l.length := by omega
      rw [List.take_length, hne, List.take_length] at hI
      subst hI
      repeat' (first
        | refine then_go ?_
        | refine swp_seq ?_
        | ((refine swp_region (id := 4) ?_) <;> (refine sops_pure (.free rfl rfl) rfl rfl (po_move rfl rfl) ?_) <;> (refine sops_pure (.free rfl rfl) rfl rfl (po_move rfl rfl) ?_) <;> (refine sops_pure (.free rfl rfl) rfl rfl (pln rfl (tyS rfl)) ?_) <;> (refine sops_pure (.free rfl rfl) rfl rfl (po_cmp rfl rfl rfl rfl) ?_) <;> (refine sops_nil ?_))
        | ((refine swp_region (id := 8) ?_) <;> (refine sops_pure (.free rfl rfl) rfl rfl (po_assign rfl rfl) ?_) <;> (refine sops_nil ?_))
        | refine swp_ret ?_
        | refine swp_skip ?_
        | refine swp_block ?_
        | refine swp_exit ?_
        | refine block_go ?_
        | refine block_exit ?_
        | refine block_far rfl ?_
        | refine block_ret ?_
        | refine then_ret ?_
        | refine then_exit ?_
        | refine for_ret ?_
        | refine for_exit ?_
        | refine ct ?_
        | refine cf ?_
        | refine swp_cond rfl (fun hc => ?_) (fun hc => ?_)
        | refine retq (by first | exact .inr rfl | exact .inl rfl) rfl (.tmp rfl (by first | exact .t _ | exact .own rfl (by first | rfl | assumption | (simp; done) | (simp; omega)) | exact .nil _ | exact .emp _ | exact .fn _) .nil) ?_)
      refine eq_b ?_
      simp
  · repeat' (first
      | refine then_go ?_
      | refine swp_seq ?_
      | ((refine swp_region (id := 0) ?_) <;> (refine sops_pure (.free rfl rfl) rfl rfl (po_assign rfl rfl) ?_) <;> (refine sops_nil ?_))
      | ((refine swp_region (id := 1) ?_) <;> (refine sops_pure (.free rfl rfl) rfl rfl (po_move rfl rfl) ?_) <;> (refine sops_pure (.free rfl rfl) rfl rfl (pln rfl (tyS rfl)) ?_) <;> (refine sops_pure (.free rfl rfl) rfl rfl (po_move rfl rfl) ?_) <;> (refine sops_pure (.free rfl rfl) rfl rfl (pln rfl (tyS rfl)) ?_) <;> (refine sops_pure (.free rfl rfl) rfl rfl (po_cmp rfl rfl rfl rfl) ?_) <;> (refine sops_nil ?_))
      | ((refine swp_region (id := 2) ?_) <;> (refine sops_pure (.free rfl rfl) rfl rfl (po_assign rfl rfl) ?_) <;> (refine sops_nil ?_))
      | refine swp_ret ?_
      | refine swp_skip ?_
      | refine swp_block ?_
      | refine swp_exit ?_
      | refine block_go ?_
      | refine block_exit ?_
      | refine block_far rfl ?_
      | refine block_ret ?_
      | refine then_ret ?_
      | refine then_exit ?_
      | refine for_ret ?_
      | refine for_exit ?_
      | refine ct ?_
      | refine cf ?_
      | refine swp_cond rfl (fun hc => ?_) (fun hc => ?_)
      | refine retq (by first | exact .inr rfl | exact .inl rfl) rfl (.tmp rfl (by first | exact .t _ | exact .own rfl (by first | rfl | assumption | (simp; done) | (simp; omega)) | exact .nil _ | exact .emp _ | exact .fn _) .nil) ?_)
    refine eq_b ?_
    exact decide_eq_false fun h => hne (congrArg List.length h)
set_option maxRecDepth 100000 in
set_option maxHeartbeats 1000000 in
theorem rNext (l : List Pl.Due) (hl : l.length ≤ 1000) : PCalls Try.prog 25 [duesT l] (.tup [.v (.int .u64 (Pl.nextL l)), .v (.bool (decide (0 < l.length)))]) := by
  have hml : (l.map dueT).length = l.length := List.length_map _
  refine pcalls_of Try.func25 rfl rfl Try.ntmps25 rfl ?_
  repeat' (first
    | refine then_go ?_
    | refine swp_seq ?_
    | ((refine swp_region (id := 0) ?_) <;> (refine sops_pure (.free rfl rfl) rfl rfl (po_assign rfl rfl) ?_) <;> (refine sops_pure (.free rfl rfl) rfl rfl (po_assign rfl rfl) ?_) <;> (refine sops_nil ?_))
    | ((refine swp_region (id := 1) ?_) <;> (refine sops_pure (.free rfl rfl) rfl rfl (po_assign rfl rfl) ?_) <;> (refine sops_nil ?_))
    | ((refine swp_region (id := 2) ?_) <;> (refine sops_pure (.free rfl rfl) rfl rfl (po_assign rfl rfl) ?_) <;> (refine sops_nil ?_))
    | refine swp_ret ?_
    | refine swp_skip ?_
    | refine swp_block ?_
    | refine swp_exit ?_
    | refine block_go ?_
    | refine block_exit ?_
    | refine block_far rfl ?_
    | refine block_ret ?_
    | refine then_ret ?_
    | refine then_exit ?_
    | refine for_ret ?_
    | refine for_exit ?_
    | refine ct ?_
    | refine cf ?_
    | refine swp_cond rfl (fun hc => ?_) (fun hc => ?_)
    | refine retq (by first | exact .inr rfl | exact .inl rfl) rfl (.tmp rfl (by first | exact .t _ | exact .own rfl (by first | rfl | assumption | (simp; done) | (simp; omega)) | exact .nil _ | exact .emp _ | exact .fn _) (.tmp rfl (by first | exact .t _ | exact .own rfl (by first | rfl | assumption | (simp; done) | (simp; omega)) | exact .nil _ | exact .emp _ | exact .fn _) .nil)) ?_)
  refine swp_for (fun k => ⟨[(0, .t (.sl 3 (l.map dueT))), (4, .t (.v (.int .u64 (Pl.nextL (l.take k))))), (5, .t (.v (.int .i64 (k : Int))))], [], []⟩) (fun _ => True) l.length (weak_sub (.cons rfl rfl rfl (.cons rfl rfl rfl (.cons rfl rfl rfl .nil))) .nil .nil) trivial ?_
  intro k hk _
  by_cases hlt : k < l.length
  · by_cases h0 : k = 0
    · subst h0
      have hs := Pl.next_one hlt
      repeat' (first
        | refine then_go ?_
        | refine swp_seq ?_
        | refine for_next hlt (weak_sub (.cons rfl (by first | rfl | (rw [show Pl.nextL (l.take (0 + 1)) = l[0].at_ from hs]; try rfl)) rfl (.cons rfl (by first | rfl | (rw [show Pl.nextL (l.take (0 + 1)) = l[0].at_ from hs]; try rfl)) rfl (.cons rfl (by first | rfl | (rw [show Pl.nextL (l.take (0 + 1)) = l[0].at_ from hs]; try rfl)) rfl .nil))) .nil .nil) trivial
        | ((refine swp_region (id := 3) ?_) <;> (refine sops_pure (.free rfl rfl) rfl rfl (po_move rfl rfl) ?_) <;> (refine sops_pure (.free rfl rfl) rfl rfl (po_move rfl rfl) ?_) <;> (refine sops_pure (.free rfl rfl) rfl rfl (pln rfl (tyS rfl)) ?_) <;> (refine sops_pure (.free rfl rfl) rfl rfl (po_cmp rfl rfl rfl rfl) ?_) <;> (refine sops_nil ?_))
        | ((refine swp_region (id := 5) ?_) <;> (refine sops_pure (.free rfl rfl) rfl rfl (po_move rfl rfl) ?_) <;> (refine sops_pure (.free rfl rfl) rfl rfl (po_cmp rfl rfl rfl rfl) ?_) <;> (refine sops_pure (.free rfl rfl) rfl rfl (po_move rfl rfl) ?_) <;> (first | refine sops_pure gy rfl rfl (po_move rfl rfl) ?_ | refine sops_skip gn0 rfl rfl ?_ | ((refine sops_split rfl rfl rfl (fun hc => ?_) (fun hc => ?_)) <;> (first | refine sops_pure gy rfl rfl (po_move rfl rfl) ?_ | refine sops_skip gn0 rfl rfl ?_))) <;> (first | refine sops_pure gy rfl rfl (po_move rfl rfl) ?_ | refine sops_skip gn0 rfl rfl ?_) <;> (first | refine sops_pure gy rfl rfl (pix rfl (tyS rfl)) ?_ | refine sops_skip gn0 rfl rfl ?_) <;> (first | refine sops_pure gy rfl rfl (po_field_bx rfl rfl (tyF rfl)) ?_ | refine sops_pure gy rfl rfl (po_field rfl rfl (tyF rfl)) ?_ | refine sops_skip gn0 rfl rfl ?_) <;> (first | refine sops_pure gy rfl rfl (po_load_bx rfl rfl (tyT rfl) rfl rfl) ?_ | refine sops_pure gy rfl rfl (po_load rfl rfl (tyT rfl) rfl) ?_ | refine sops_skip gn0 rfl rfl ?_) <;> (first | refine sops_pure gy rfl rfl (po_move rfl rfl) ?_ | refine sops_skip gn0 rfl rfl ?_) <;> (first | refine sops_pure gy rfl rfl (po_cmp rfl rfl rfl rfl) ?_ | refine sops_skip gn0 rfl rfl ?_) <;> (first | refine sops_pure (.free rfl rfl) rfl rfl (pkt rfl) ?_ | refine sops_pure (.free rfl rfl) rfl rfl (pkf rfl) ?_) <;> (refine sops_nil ?_))
        | ((refine swp_region (id := 6) ?_) <;> (refine sops_pure (.free rfl rfl) rfl rfl (po_move rfl rfl) ?_) <;> (refine sops_pure (.free rfl rfl) rfl rfl (po_move rfl rfl) ?_) <;> (refine sops_pure (.free rfl rfl) rfl rfl (pix rfl (tyS rfl)) ?_) <;> (first | refine sops_pure (.free rfl rfl) rfl rfl (po_field_bx rfl rfl (tyF rfl)) ?_ | refine sops_pure (.free rfl rfl) rfl rfl (po_field rfl rfl (tyF rfl)) ?_) <;> (first | refine sops_pure (.free rfl rfl) rfl rfl (po_load_bx rfl rfl (tyT rfl) rfl rfl) ?_ | refine sops_pure (.free rfl rfl) rfl rfl (po_load rfl rfl (tyT rfl) rfl) ?_) <;> (refine sops_pure (.free rfl rfl) rfl rfl (po_assign rfl rfl) ?_) <;> (refine sops_nil ?_))
        | ((refine swp_region (id := 4) ?_) <;> (refine sops_pure (.free rfl rfl) rfl rfl (po_move rfl rfl) ?_) <;> (first | refine sops_pure (.free rfl rfl) rfl rfl (po_inc rfl rfl rfl (by omega)) ?_ | refine sops_pure (.free rfl rfl) rfl rfl (po_arith rfl rfl rfl (ar_add (by first | rfl | (refine wrap_i64 ?_; omega)) rfl)) ?_) <;> (refine sops_pure (.free rfl rfl) rfl rfl (po_assign rfl rfl) ?_) <;> (refine sops_nil ?_))
        | refine swp_ret ?_
        | refine swp_skip ?_
        | refine swp_block ?_
        | refine swp_exit ?_
        | refine block_go ?_
        | refine block_exit ?_
        | refine block_far rfl ?_
        | refine block_ret ?_
        | refine then_ret ?_
        | refine then_exit ?_
        | refine for_ret ?_
        | refine for_exit ?_
        | refine ct ?_
        | refine cf ?_
        | refine swp_cond rfl (fun hc => ?_) (fun hc => ?_)
        | refine retq (by first | exact .inr rfl | exact .inl rfl) rfl (.tmp rfl (by first | exact .t _ | exact .own rfl (by first | rfl | assumption | (simp; done) | (simp; omega)) | exact .nil _ | exact .emp _ | exact .fn _) (.tmp rfl (by first | exact .t _ | exact .own rfl (by first | rfl | assumption | (simp; done) | (simp; omega)) | exact .nil _ | exact .emp _ | exact .fn _) .nil)) ?_)
      all_goals (exfalso; simp at *; done)
    · have hs := Pl.next_more hlt (by omega)
      by_cases hlt2 : l[k].at_ < Pl.nextL (l.take k)
      · rw [if_pos hlt2] at hs
        repeat' (first
          | refine then_go ?_
          | refine swp_seq ?_
          | refine for_next hlt (weak_sub (.cons rfl (by first | rfl | (rw [hs]; try rfl)) rfl (.cons rfl (by first | rfl | (rw [hs]; try rfl)) rfl (.cons rfl (by first | rfl | (rw [hs]; try rfl)) rfl .nil))) .nil .nil) trivial
          | ((refine swp_region (id := 3) ?_) <;> (refine sops_pure (.free rfl rfl) rfl rfl (po_move rfl rfl) ?_) <;> (refine sops_pure (.free rfl rfl) rfl rfl (po_move rfl rfl) ?_) <;> (refine sops_pure (.free rfl rfl) rfl rfl (pln rfl (tyS rfl)) ?_) <;> (refine sops_pure (.free rfl rfl) rfl rfl (po_cmp rfl rfl rfl rfl) ?_) <;> (refine sops_nil ?_))
          | ((refine swp_region (id := 5) ?_) <;> (refine sops_pure (.free rfl rfl) rfl rfl (po_move rfl rfl) ?_) <;> (refine sops_pure (.free rfl rfl) rfl rfl (po_cmp rfl rfl rfl rfl) ?_) <;> (refine sops_pure (.free rfl rfl) rfl rfl (po_move rfl rfl) ?_) <;> (first | refine sops_pure gy rfl rfl (po_move rfl rfl) ?_ | refine sops_skip gn0 rfl rfl ?_ | ((refine sops_split rfl rfl rfl (fun hc => ?_) (fun hc => ?_)) <;> (first | refine sops_pure gy rfl rfl (po_move rfl rfl) ?_ | refine sops_skip gn0 rfl rfl ?_))) <;> (first | refine sops_pure gy rfl rfl (po_move rfl rfl) ?_ | refine sops_skip gn0 rfl rfl ?_) <;> (first | refine sops_pure gy rfl rfl (pix rfl (tyS rfl)) ?_ | refine sops_skip gn0 rfl rfl ?_) <;> (first | refine sops_pure gy rfl rfl (po_field_bx rfl rfl (tyF rfl)) ?_ | refine sops_pure gy rfl rfl (po_field rfl rfl (tyF rfl)) ?_ | refine sops_skip gn0 rfl rfl ?_) <;> (first | refine sops_pure gy rfl rfl (po_load_bx rfl rfl (tyT rfl) rfl rfl) ?_ | refine sops_pure gy rfl rfl (po_load rfl rfl (tyT rfl) rfl) ?_ | refine sops_skip gn0 rfl rfl ?_) <;> (first | refine sops_pure gy rfl rfl (po_move rfl rfl) ?_ | refine sops_skip gn0 rfl rfl ?_) <;> (first | refine sops_pure gy rfl rfl (po_cmp rfl rfl rfl rfl) ?_ | refine sops_skip gn0 rfl rfl ?_) <;> (first | refine sops_pure (.free rfl rfl) rfl rfl (pkt rfl) ?_ | refine sops_pure (.free rfl rfl) rfl rfl (pkf rfl) ?_) <;> (refine sops_nil ?_))
          | ((refine swp_region (id := 6) ?_) <;> (refine sops_pure (.free rfl rfl) rfl rfl (po_move rfl rfl) ?_) <;> (refine sops_pure (.free rfl rfl) rfl rfl (po_move rfl rfl) ?_) <;> (refine sops_pure (.free rfl rfl) rfl rfl (pix rfl (tyS rfl)) ?_) <;> (first | refine sops_pure (.free rfl rfl) rfl rfl (po_field_bx rfl rfl (tyF rfl)) ?_ | refine sops_pure (.free rfl rfl) rfl rfl (po_field rfl rfl (tyF rfl)) ?_) <;> (first | refine sops_pure (.free rfl rfl) rfl rfl (po_load_bx rfl rfl (tyT rfl) rfl rfl) ?_ | refine sops_pure (.free rfl rfl) rfl rfl (po_load rfl rfl (tyT rfl) rfl) ?_) <;> (refine sops_pure (.free rfl rfl) rfl rfl (po_assign rfl rfl) ?_) <;> (refine sops_nil ?_))
          | ((refine swp_region (id := 4) ?_) <;> (refine sops_pure (.free rfl rfl) rfl rfl (po_move rfl rfl) ?_) <;> (first | refine sops_pure (.free rfl rfl) rfl rfl (po_inc rfl rfl rfl (by omega)) ?_ | refine sops_pure (.free rfl rfl) rfl rfl (po_arith rfl rfl rfl (ar_add (by first | rfl | (refine wrap_i64 ?_; omega)) rfl)) ?_) <;> (refine sops_pure (.free rfl rfl) rfl rfl (po_assign rfl rfl) ?_) <;> (refine sops_nil ?_))
          | refine swp_ret ?_
          | refine swp_skip ?_
          | refine swp_block ?_
          | refine swp_exit ?_
          | refine block_go ?_
          | refine block_exit ?_
          | refine block_far rfl ?_
          | refine block_ret ?_
          | refine then_ret ?_
          | refine then_exit ?_
          | refine for_ret ?_
          | refine for_exit ?_
          | refine ct ?_
          | refine cf ?_
          | refine swp_cond rfl (fun hc => ?_) (fun hc => ?_)
          | refine retq (by first | exact .inr rfl | exact .inl rfl) rfl (.tmp rfl (by first | exact .t _ | exact .own rfl (by first | rfl | assumption | (simp; done) | (simp; omega)) | exact .nil _ | exact .emp _ | exact .fn _) (.tmp rfl (by first | exact .t _ | exact .own rfl (by first | rfl | assumption | (simp; done) | (simp; omega)) | exact .nil _ | exact .emp _ | exact .fn _) .nil)) ?_)
        all_goals (exfalso; simp at *; omega)
      · rw [if_neg hlt2] at hs
        repeat' (first
          | refine then_go ?_
          | refine swp_seq ?_
          | refine for_next hlt (weak_sub (.cons rfl (by first | rfl | (rw [hs]; try rfl)) rfl (.cons rfl (by first | rfl | (rw [hs]; try rfl)) rfl (.cons rfl (by first | rfl | (rw [hs]; try rfl)) rfl .nil))) .nil .nil) trivial
          | ((refine swp_region (id := 3) ?_) <;> (refine sops_pure (.free rfl rfl) rfl rfl (po_move rfl rfl) ?_) <;> (refine sops_pure (.free rfl rfl) rfl rfl (po_move rfl rfl) ?_) <;> (refine sops_pure (.free rfl rfl) rfl rfl (pln rfl (tyS rfl)) ?_) <;> (refine sops_pure (.free rfl rfl) rfl rfl (po_cmp rfl rfl rfl rfl) ?_) <;> (refine sops_nil ?_))
          | ((refine swp_region (id := 5) ?_) <;> (refine sops_pure (.free rfl rfl) rfl rfl (po_move rfl rfl) ?_) <;> (refine sops_pure (.free rfl rfl) rfl rfl (po_cmp rfl rfl rfl rfl) ?_) <;> (refine sops_pure (.free rfl rfl) rfl rfl (po_move rfl rfl) ?_) <;> (first | refine sops_pure gy rfl rfl (po_move rfl rfl) ?_ | refine sops_skip gn0 rfl rfl ?_ | ((refine sops_split rfl rfl rfl (fun hc => ?_) (fun hc => ?_)) <;> (first | refine sops_pure gy rfl rfl (po_move rfl rfl) ?_ | refine sops_skip gn0 rfl rfl ?_))) <;> (first | refine sops_pure gy rfl rfl (po_move rfl rfl) ?_ | refine sops_skip gn0 rfl rfl ?_) <;> (first | refine sops_pure gy rfl rfl (pix rfl (tyS rfl)) ?_ | refine sops_skip gn0 rfl rfl ?_) <;> (first | refine sops_pure gy rfl rfl (po_field_bx rfl rfl (tyF rfl)) ?_ | refine sops_pure gy rfl rfl (po_field rfl rfl (tyF rfl)) ?_ | refine sops_skip gn0 rfl rfl ?_) <;> (first | refine sops_pure gy rfl rfl (po_load_bx rfl rfl (tyT rfl) rfl rfl) ?_ | refine sops_pure gy rfl rfl (po_load rfl rfl (tyT rfl) rfl) ?_ | refine sops_skip gn0 rfl rfl ?_) <;> (first | refine sops_pure gy rfl rfl (po_move rfl rfl) ?_ | refine sops_skip gn0 rfl rfl ?_) <;> (first | refine sops_pure gy rfl rfl (po_cmp rfl rfl rfl rfl) ?_ | refine sops_skip gn0 rfl rfl ?_) <;> (first | refine sops_pure (.free rfl rfl) rfl rfl (pkt rfl) ?_ | refine sops_pure (.free rfl rfl) rfl rfl (pkf rfl) ?_) <;> (refine sops_nil ?_))
          | ((refine swp_region (id := 4) ?_) <;> (refine sops_pure (.free rfl rfl) rfl rfl (po_move rfl rfl) ?_) <;> (first | refine sops_pure (.free rfl rfl) rfl rfl (po_inc rfl rfl rfl (by omega)) ?_ | refine sops_pure (.free rfl rfl) rfl rfl (po_arith rfl rfl rfl (ar_add (by first | rfl | (refine wrap_i64 ?_; omega)) rfl)) ?_) <;> (refine sops_pure (.free rfl rfl) rfl rfl (po_assign rfl rfl) ?_) <;> (refine sops_nil ?_))
          | refine swp_ret ?_
          | refine swp_skip ?_
          | refine swp_block ?_
          | refine swp_exit ?_
          | refine block_go ?_
          | refine block_exit ?_
          | refine block_far rfl ?_
          | refine block_ret ?_
          | refine then_ret ?_
          | refine then_exit ?_
          | refine for_ret ?_
          | refine for_exit ?_
          | refine ct ?_
          | refine cf ?_
          | refine swp_cond rfl (fun hc => ?_) (fun hc => ?_)
          | refine retq (by first | exact .inr rfl | exact .inl rfl) rfl (.tmp rfl (by first | exact .t _ | exact .own rfl (by first | rfl | assumption | (simp; done) | (simp; omega)) | exact .nil _ | exact .emp _ | exact .fn _) (.tmp rfl (by first | exact .t _ | exact .own rfl (by first | rfl | assumption | (simp; done) | (simp; omega)) | exact .nil _ | exact .emp _ | exact .fn _) .nil)) ?_)
        all_goals (exfalso; simp at *; omega)
  · obtain rfl : k = l.length := by omega
    rw [List.take_length]
    repeat' (first
      | refine then_go ?_
      | refine swp_seq ?_
      | ((refine swp_region (id := 3) ?_) <;> (refine sops_pure (.free rfl rfl) rfl rfl (po_move rfl rfl) ?_) <;> (refine sops_pure (.free rfl rfl) rfl rfl (po_move rfl rfl) ?_) <;> (refine sops_pure (.free rfl rfl) rfl rfl (pln rfl (tyS rfl)) ?_) <;> (refine sops_pure (.free rfl rfl) rfl rfl (po_cmp rfl rfl rfl rfl) ?_) <;> (refine sops_nil ?_))
      | ((refine swp_region (id := 7) ?_) <;> (refine sops_pure (.free rfl rfl) rfl rfl (po_move rfl rfl) ?_) <;> (refine sops_pure (.free rfl rfl) rfl rfl (po_move rfl rfl) ?_) <;> (refine sops_pure (.free rfl rfl) rfl rfl (pln rfl (tyS rfl)) ?_) <;> (refine sops_pure (.free rfl rfl) rfl rfl (po_cmp rfl rfl rfl rfl) ?_) <;> (refine sops_pure (.free rfl rfl) rfl rfl (po_assign rfl rfl) ?_) <;> (refine sops_pure (.free rfl rfl) rfl rfl (po_assign rfl rfl) ?_) <;> (refine sops_nil ?_))
      | refine swp_ret ?_
      | refine swp_skip ?_
      | refine swp_block ?_
      | refine swp_exit ?_
      | refine block_go ?_
      | refine block_exit ?_
      | refine block_far rfl ?_
      | refine block_ret ?_
      | refine then_ret ?_
      | refine then_exit ?_
      | refine for_ret ?_
      | refine for_exit ?_
      | refine ct ?_
      | refine cf ?_
      | refine swp_cond rfl (fun hc => ?_) (fun hc => ?_)
      | refine retq (by first | exact .inr rfl | exact .inl rfl) rfl (.tmp rfl (by first | exact .t _ | exact .own rfl (by first | rfl | assumption | (simp; done) | (simp; omega)) | exact .nil _ | exact .emp _ | exact .fn _) (.tmp rfl (by first | exact .t _ | exact .own rfl (by first | rfl | assumption | (simp; done) | (simp; omega)) | exact .nil _ | exact .emp _ | exact .fn _) .nil)) ?_)
    have : decide ((l.length : Int) > 0) = decide (0 < l.length) := by congr 1; simp
    simp at *
    simp [resT, this]
end Go.Proofs.Ytmjckopplkihlaa.Due
