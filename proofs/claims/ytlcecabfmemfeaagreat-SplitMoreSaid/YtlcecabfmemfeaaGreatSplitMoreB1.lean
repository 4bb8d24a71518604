/- Merged by bundle.py: SimQ, SimR, SimS, SimU, SimTab, SimPol, SimReq, SimSp1, SimSp2, SimSp3. -/
import Derived.Test.YtlcecabfmemfeaaGreatSplitMoreB0
import Derived.Test.YtlcecabfmemfeaaGreatOwn
import Derived.Lib.SliceRun
import Derived.Test.YtlcecabfmemfeaaGreatRel13
import Derived.Test.YtlcecabfmemfeaaGreatWTarget
import Derived.Test.YtlcecabfmemfeaaGreatPlSplit
/- A logic of states: calls that are lent rows and boxes, or hand back rows of the caller's own: at their places. -/
namespace Go.Proofs.YtlcecabfmemfeaaGreat.Sim
set_option linter.unusedVariables false
set_option linter.unusedSimpArgs false
open Go.RowKit Mem

def chgOf (fw : Nat → Nat) (kp : Nat → Bool) (ow0 : List (Nat × Own)) (j : Nat) : Bool := ow0.any fun r => Nat.beq (fw r.1) j && !(kp r.1)
def bxAft (fb fw : Nat → Nat) (q : Nat → Bool) (bx1 bx : List (Nat × List A)) : List (Nat × List A) := bx1.map (fun p => (fb p.1, p.2.map (A.ren fb fw))) ++ bx.map (fun p => (p.1, p.2.map (A.clr q)))
def owAft (fw : Nat → Nat) (ow0 ow1 ow : List (Nat × Own)) : List (Nat × Own) := ow1.map (fun p => (fw p.1, p.2)) ++ ow.filter (fun p => !(ow0.any fun r => Nat.beq (fw r.1) p.1))
theorem get_append {β : Type} (l1 l2 : List (Nat × β)) (i : Nat) : get (l1 ++ l2) i = match get l1 i with | some x => some x | none => get l2 i := by
  induction l1 with
  | nil => rfl
  | cons p l1 ih =>
    obtain ⟨k, x⟩ := p
    rw [List.cons_append, get_cons, get_cons]
    split
    · rfl
    · exact ih
theorem get_mapv {β γ : Type} (f : β → γ) (l : List (Nat × β)) (i : Nat) : get (l.map fun p => (p.1, f p.2)) i = (get l i).map f := by
  induction l with
  | nil => rfl
  | cons p l ih =>
    obtain ⟨k, x⟩ := p
    rw [List.map_cons, get_cons, get_cons]
    split
    · rfl
    · exact ih
theorem get_filter {β : Type} (f : Nat → Bool) (l : List (Nat × β)) (i : Nat) : get (l.filter fun p => f p.1) i = if f i then get l i else none := by
  induction l with
  | nil => simp [get]
  | cons p l ih =>
    obtain ⟨k, x⟩ := p
    rw [List.filter_cons]
    by_cases hk : k = i
    · subst hk
      cases hf : f k with
      | true => simp [get_cons]
      | false => simp only [hf, Bool.false_eq_true, if_false]; rw [ih, hf]; rfl
    · split
      · rw [get_cons, get_cons, if_neg hk, if_neg hk, ih]
      · rw [get_cons, if_neg hk, ih]
theorem get_ren {β γ : Type} {f : Nat → Nat} (g : β → γ) {l : List (Nat × β)} (hf : ∀ p ∈ l, ∀ r ∈ l, f p.1 = f r.1 → p.1 = r.1) {i : Nat} {x : β} (hi : get l i = some x) : get (l.map fun p => (f p.1, g p.2)) (f i) = some (g x) := by
  induction l with
  | nil => cases hi
  | cons p l ih =>
    obtain ⟨k, y⟩ := p
    rw [get_cons] at hi
    rw [List.map_cons, get_cons]
    by_cases hk : k = i
    · subst hk; rw [if_pos rfl] at hi ⊢; injection hi with hi; rw [hi]
    · rw [if_neg hk] at hi
      rw [if_neg fun e => hk (hf (k, y) (by simp) (i, x) (List.mem_cons_of_mem _ (get_mem hi)) e)]
      exact ih (fun p hp r hr => hf p (List.mem_cons_of_mem _ hp) r (List.mem_cons_of_mem _ hr)) hi
theorem get_ren_none {β γ : Type} {f : Nat → Nat} (g : β → γ) {l : List (Nat × β)} {j : Nat} (h : ∀ i x, get l i = some x → f i ≠ j) : get (l.map fun p => (f p.1, g p.2)) j = none := by
  cases hg : get (l.map fun p => (f p.1, g p.2)) j with
  | none => rfl
  | some y =>
    obtain ⟨p, hp, he⟩ := List.mem_map.1 (get_mem hg)
    obtain ⟨x, hx⟩ := mem_get hp
    injection he with e1 _
    exact absurd e1 (h p.1 x hx)
def injB (f : Nat → Nat) (l : List Nat) : Bool := l.all fun a => l.all fun b => Nat.beq a b || !(Nat.beq (f a) (f b))
theorem injB_spec {f : Nat → Nat} {l : List Nat} (h : injB f l = true) {a b : Nat} (ha : a ∈ l) (hb : b ∈ l) (e : f a = f b) : a = b := by
  have := (List.all_eq_true.1 ((List.all_eq_true.1 h) a ha)) b hb
  rw [Bool.or_eq_true] at this
  rcases this with h1 | h1
  · exact Nat.eq_of_beq_eq_true h1
  · rw [e, show Nat.beq (f b) (f b) = true from Nat.beq_refl _] at h1; cases h1
inductive LentX (fb fw : Nat → Nat) (bx : List (Nat × List A)) : List (Nat × List A) → Prop
  | nil : LentX fb fw bx []
  | cons {i : Nat} {cs cs' : List A} {l : List (Nat × List A)} (h : get bx (fb i) = some cs') (he : cs' = cs.map (A.ren fb fw)) (hl : LentX fb fw bx l) : LentX fb fw bx ((i, cs) :: l)
inductive LentW (fw : Nat → Nat) (ow : List (Nat × Own)) : List (Nat × Own) → Prop
  | nil : LentW fw ow []
  | cons {i : Nat} {o o' : Own} {l : List (Nat × Own)} (h : get ow (fw i) = some o') (he : o' = o) (hl : LentW fw ow l) : LentW fw ow ((i, o) :: l)
theorem LentX.get {fb fw : Nat → Nat} {bx l : List (Nat × List A)} (h : LentX fb fw bx l) {i : Nat} {cs : List A} (hi : get l i = some cs) : get bx (fb i) = some (cs.map (A.ren fb fw)) := by
  induction h with
  | nil => cases hi
  | cons h he _ ih =>
    rw [get_cons] at hi
    split at hi
    · rename_i e; subst e; injection hi with hi; subst hi he; exact h
    · exact ih hi
theorem LentW.get {fw : Nat → Nat} {ow l : List (Nat × Own)} (h : LentW fw ow l) {i : Nat} {o : Own} (hi : get l i = some o) : get ow (fw i) = some o := by
  induction h with
  | nil => cases hi
  | cons h he _ ih =>
    rw [get_cons] at hi
    split at hi
    · rename_i e; subst e; injection hi with hi; subst hi he; exact h
    · exact ih hi
def bnone {β : Type} : Option β → Bool
  | none => true
  | some _ => false
def lendB (fb fw : Nat → Nat) (bx bx0 bx1 : List (Nat × List A)) (ow ow0 ow1 : List (Nat × Own)) : Bool :=
  (bx0.all fun p => Nat.ble 2000 p.1 && (get bx1 p.1).isSome) && (bx1.all fun p => (get bx0 p.1).isSome || (bnone (get bx (fb p.1)) && !(Nat.ble 2000 (fb p.1)))) &&
  (ow1.all fun p => (get ow0 p.1).isSome || (bnone (get ow (fw p.1)) && !(Nat.ble 2000 (fw p.1)))) && (ow1.all fun p => (hid (fw p.1) == hid p.1) && (!(Nat.ble 2000 (fw p.1)) || Nat.ble 2000 p.1)) &&
  (ow0.all fun p => hid p.1 && hid (fw p.1)) && injB fb (bx1.map (·.1)) && injB fw (ow0.map (·.1) ++ ow1.map (·.1))
theorem bnone_spec {β : Type} {x : Option β} (h : bnone x = true) : x = none := by cases x with | none => rfl | some y => cases h
theorem lend_of {fb fw : Nat → Nat} {kp : Nat → Bool} {bx bx0 bx1 : List (Nat × List A)} {ow ow0 ow1 : List (Nat × Own)} (hx : LentX fb fw bx bx0) (hw : LentW fw ow ow0) (hl : (bx0.all fun p => p.2.all fun x => x.live bx0 ow0) = true) (hB : lendB fb fw bx bx0 bx1 ow ow0 ow1 = true)
    (hkp : ∀ i, kp i = true → Nat.ble 2000 i = true ∧ ∃ o0 o1, get ow0 i = some o0 ∧ get ow1 i = some o1 ∧ o1.rows.length = o0.rows.length) : Lend fb fw kp (chgOf fw kp ow0) bx ow bx0 ow0 bx1 ow1 (bxAft fb fw (chgOf fw kp ow0) bx1 bx) (owAft fw ow0 ow1 ow) := by
  unfold lendB at hB
  simp only [Bool.and_eq_true] at hB
  obtain ⟨⟨⟨⟨⟨⟨h1, h2⟩, h3⟩, h4⟩, h5⟩, h6⟩, h7⟩ := hB
  have inB : ∀ p ∈ bx1, ∀ r ∈ bx1, fb p.1 = fb r.1 → p.1 = r.1 := fun p hp r hr e => injB_spec h6 (List.mem_map.2 ⟨p, hp, rfl⟩) (List.mem_map.2 ⟨r, hr, rfl⟩) e
  have inO : ∀ p ∈ ow1, ∀ r ∈ ow1, fw p.1 = fw r.1 → p.1 = r.1 := fun p hp r hr e => injB_spec h7 (List.mem_append.2 (.inr (List.mem_map.2 ⟨p, hp, rfl⟩))) (List.mem_append.2 (.inr (List.mem_map.2 ⟨r, hr, rfl⟩))) e
  have hin : ∀ i o, (get ow0 i = some o ∨ get ow1 i = some o) → i ∈ ow0.map (·.1) ++ ow1.map (·.1) := fun i o h => by
    rcases h with h | h
    · exact List.mem_append.2 (.inl (List.mem_map.2 ⟨_, get_mem h, rfl⟩))
    · exact List.mem_append.2 (.inr (List.mem_map.2 ⟨_, get_mem h, rfl⟩))
  exact {
    hx0 := fun i cs hi => hx.get hi
    hw0 := fun i o hi => by
      have := (List.all_eq_true.1 h5) _ (get_mem hi)
      rw [Bool.and_eq_true] at this
      exact ⟨hw.get hi, this.1, this.2⟩
    hl0 := fun i cs hi x hx => (List.all_eq_true.1 ((List.all_eq_true.1 hl) _ (get_mem hi))) x hx
    hx1 := fun i cs hi => by
      have := (List.all_eq_true.1 h1) _ (get_mem hi)
      rw [Bool.and_eq_true] at this
      exact ⟨this.1, Option.isSome_iff_exists.1 this.2⟩
    hxn := fun i cs hi h0 => by
      have := (List.all_eq_true.1 h2) _ (get_mem hi)
      rw [Bool.or_eq_true, Bool.and_eq_true] at this
      rcases this with h8 | ⟨h8, h9⟩
      · dsimp only at h8; rw [h0] at h8; cases h8
      · exact ⟨bnone_spec h8, by simpa using h9⟩
    hwn := fun i cs hi h0 => by
      have := (List.all_eq_true.1 h3) _ (get_mem hi)
      rw [Bool.or_eq_true, Bool.and_eq_true] at this
      rcases this with h8 | ⟨h8, h9⟩
      · dsimp only at h8; rw [h0] at h8; cases h8
      · exact ⟨bnone_spec h8, by simpa using h9⟩
    hwh := fun i o hi => by
      have := (List.all_eq_true.1 h4) _ (get_mem hi)
      rw [Bool.and_eq_true] at this
      exact beq_iff_eq.1 this.1
    hwp := fun i o hi h0 => by
      have := (List.all_eq_true.1 h4) _ (get_mem hi)
      rw [Bool.and_eq_true, Bool.or_eq_true] at this
      rcases this.2 with h8 | h8
      · dsimp only at h8; rw [h0] at h8; cases h8
      · exact h8
    hbi := fun i j ci cj hi hj e => inB _ (get_mem hi) _ (get_mem hj) e
    hwi := fun i j oi oj hi hj e => injB_spec h7 (hin i oi hi) (hin j oj hj) e
    hkp := hkp
    hq := fun i o hi hk => List.any_eq_true.2 ⟨_, get_mem hi, by rw [Bool.and_eq_true]; exact ⟨Nat.beq_refl _, by simp [hk]⟩⟩
    b1 := fun i cs hi => by unfold bxAft; rw [get_append, get_ren (f := fb) (List.map (A.ren fb fw)) inB hi]
    b2 := fun j hj => by unfold bxAft; rw [get_append, get_ren_none (f := fb) (List.map (A.ren fb fw)) hj]; exact get_mapv _ _ _
    o1 := fun i o hi => by
      unfold owAft
      rw [get_append, get_ren (f := fw) (fun x : Own => x) inO hi]
    o2 := fun j hj hn => by
      unfold owAft
      rw [get_append, get_ren_none (f := fw) (fun x : Own => x) hj]
      refine (get_filter (fun k => !(ow0.any fun r => Nat.beq (fw r.1) k)) ow j).trans ?_
      rw [if_pos]
      cases ha : ow0.any fun r => Nat.beq (fw r.1) j with
      | false => rfl
      | true =>
        obtain ⟨p, hp, h8⟩ := List.any_eq_true.1 ha
        obtain ⟨x, hx⟩ := mem_get hp
        exact absurd (Nat.eq_of_beq_eq_true h8) (hn _ _ hx)
    o3 := fun j i o hi he hj => by
      unfold owAft
      rw [get_append, get_ren_none (f := fw) (fun x : Own => x) hj]
      refine (get_filter (fun k => !(ow0.any fun r => Nat.beq (fw r.1) k)) ow j).trans ?_
      rw [if_neg]
      rw [Bool.not_eq_true, Bool.not_eq_false']
      exact List.any_eq_true.2 ⟨_, get_mem hi, by subst he; exact Nat.beq_refl _⟩ }
/-- what operands hold, in the callee's numbers -/
inductive ArgsL (fb fw : Nat → Nat) (ow : List (Nat × Own)) (bx0 : List (Nat × List A)) (ow0 : List (Nat × Own)) (ρ : Operand → Option A) : List Operand → List A → Prop
  | nil : ArgsL fb fw ow bx0 ow0 ρ [] []
  | cons {x : Operand} {y a : A} {xs : List Operand} {zs : List A} (h : ρ x = some y) (he : y = a.ren fb fw) (hv : a.live bx0 ow0 = true) (hl : ArgsL fb fw ow bx0 ow0 ρ xs zs) : ArgsL fb fw ow bx0 ow0 ρ (x :: xs) (a :: zs)
  | vw {x : Operand} {y : A} {t : T} {xs : List Operand} {zs : List A} (h : ρ x = some y) (ht : Vw ow y t) (hl : ArgsL fb fw ow bx0 ow0 ρ xs zs) : ArgsL fb fw ow bx0 ow0 ρ (x :: xs) (.t t :: zs)
section
variable {P : Program} {N : Nat} {Q : Exit → St → Prop} {ops : Array Oper} {rest : List Oper} {o : Oper} {tm : List (Nat × A)} {bx bx0 bx1 : List (Nat × List A)} {ow ow0 ow1 : List (Nat × Own)} {fb fw : Nat → Nat} {kp : Nat → Bool}
theorem ArgsL.ok {C : Ctx} {w : World} {m : Mm} {g : Gh} {q : Nat → Bool} {bx' : List (Nat × List A)} {ow' : List (Nat × Own)} {xs : List Operand} {zs : List A} {ρ : Operand → Option A} (h : ArgsL fb fw ow bx0 ow0 ρ xs zs) (hL : Lend fb fw kp q bx ow bx0 ow0 bx1 ow1 bx' ow') (he : EnvG C bx ow w m g) {a : Act} (ha : ∀ x ∈ xs, ∀ y, ρ x = some y → AR m g y (a.eval x)) :
    xs.length = zs.length ∧ ∀ (i : Nat) x v, zs[i]? = some x → (xs.map a.eval)[i]? = some v → AR m (g.sub fb fw bx0 ow0) x v := by
  induction h with
  | nil => exact ⟨rfl, fun i t v h => by simp at h⟩
  | @cons x y z xs zs h hy hv hl ih =>
    obtain ⟨h1, h2⟩ := ih fun x hx => ha x (by simp [hx])
    refine ⟨by simp [h1], fun i t' v h3 h4 => ?_⟩
    cases i with
    | zero =>
      simp at h3 h4; subst h3 h4
      refine hL.ren_in he hv ?_
      rw [← hy]; exact ha x (by simp) y h
    | succ i => simp at h3; exact h2 i t' v h3 (by simpa using h4)
  | @vw x y t xs zs h ht hl ih =>
    obtain ⟨h1, h2⟩ := ih fun x hx => ha x (by simp [hx])
    refine ⟨by simp [h1], fun i t' v h3 h4 => ?_⟩
    cases i with
    | zero =>
      simp at h3 h4; subst h3 h4
      exact ht.ok he (ha x (by simp) _ h)
    | succ i => simp at h3; exact h2 i t' v h3 (by simpa using h4)
/-- a call with rows and boxes lent -/
theorem sops_lcall {f : FuncId} {xs : List Operand} {at_ : Array TypeId} {args : List A} {r : A} {d : Nat} (hc : LCalls P f args bx0 ow0 r bx1 ow1) (fb fw : Nat → Nat) (kp : Nat → Bool) (hg : GuardIs ops tm o true) (ho : o.op = .call { callee := .value (.func f), args := xs.toArray, argTypes := at_ }) (hd : o.dst = some d) (hN : Nat.blt d N = true)
    (ha : ArgsL fb fw ow bx0 ow0 (evA tm) xs args) (hx : LentX fb fw bx bx0) (hw : LentW fw ow ow0) (hl : (bx0.all fun p => p.2.all fun x => x.live bx0 ow0) = true) (hB : lendB fb fw bx bx0 bx1 ow ow0 ow1 = true)
    (hkp : ∀ i, kp i = true → Nat.ble 2000 i = true ∧ ∃ o0 o1, get ow0 i = some o0 ∧ get ow1 i = some o1 ∧ o1.rows.length = o0.rows.length)
    (h : SOps P N ops Q rest ⟨(d, r.ren fb fw) :: tm.map (fun p => (p.1, p.2.clr (chgOf fw kp ow0))), bxAft fb fw (chgOf fw kp ow0) bx1 bx, owAft fw ow0 ow1 ow⟩) : SOps P N ops Q (o :: rest) ⟨tm, bx, ow⟩ := by
  have hL := lend_of (kp := kp) hx hw hl hB hkp
  refine .mk fun C a w ⟨m, g, hr⟩ => ?_
  obtain ⟨h1, h2⟩ := ha.ok hL hr.env (a := a) (fun x _ y hy => hr.ev hy)
  have hrun : (execOp a.eval o).run P w = .ok (.enter f (xs.map a.eval).toArray) w := by
    have := hc.ent (xs.map a.eval).toArray w
    simp only [execOp, ho, resolve, Deferred.ofValue, Act.eval, invoke, Sem.run_bind, Sem.run_pure, Result.andThen_ok, List.map_toArray, Array.append_empty, Array.empty_append, Array.append_eq_append, List.append_nil, List.nil_append] at this ⊢
    simpa using this
  refine wpList_step fun K hK => ?_
  rw [if_pos (hg.wanted (m := m) (g := g) fun j want e _ _ y hy => hr.tmps e y hy)]
  refine wp_call_of hrun (hc.run m w _ _ (hL.env_in hr.env) (by simp [h1]) (fun i x v h3 h4 => h2 i x v h3 (by simpa using h4))) ?_
  rintro e w' ⟨v, m', g', rfl, henv, hv⟩
  obtain ⟨g'', e1, e2, e3⟩ := hL.env_out hr.env henv
  refine ⟨v, rfl, hK _ _ (h.go C _ _ ⟨m', g'', ?_⟩)⟩
  rw [hd]
  have hrel : RelG C N ⟨tm.map (fun p => (p.1, p.2.clr (chgOf fw kp ow0))), bxAft fb fw (chgOf fw kp ow0) bx1 bx, owAft fw ow0 ow1 ow⟩ a w' m' g'' := ⟨e1, hr.size, hr.defers, fun s x hx => by
    rw [show get (tm.map fun p => (p.1, p.2.clr (chgOf fw kp ow0))) s = _ from get_mapv _ _ _] at hx
    cases h5 : get tm s with
    | none => rw [h5] at hx; cases hx
    | some y => rw [h5] at hx; injection hx with hx; subst hx; exact e2 y _ (hr.tmps s y h5)⟩
  exact hrel.put e1 (fun x v h => h) (Nat.lt_of_succ_le (Nat.le_of_ble_eq_true hN)) (e3 r v hv)
/-- the same, through a value -/
theorem sops_lcall_clo {f : FuncId} {xz : Operand} {caps : List A} {xs : List Operand} {at_ : Array TypeId} {args caps0 : List A} {r : A} {d : Nat} (hc : LCalls P f (args ++ caps0) bx0 ow0 r bx1 ow1) (fb fw : Nat → Nat) (kp : Nat → Bool) (hg : GuardIs ops tm o true) (ho : o.op = .call { callee := .value xz, args := xs.toArray, argTypes := at_ }) (hd : o.dst = some d) (hN : Nat.blt d N = true)
    (hz : evA tm xz = some (.cl f caps)) (hcp : caps = caps0.map (A.ren fb fw)) (hcl : (caps0.all fun x => x.live bx0 ow0 && x.isLf) = true)
    (ha : ArgsL fb fw ow bx0 ow0 (evA tm) xs args) (hx : LentX fb fw bx bx0) (hw : LentW fw ow ow0) (hl : (bx0.all fun p => p.2.all fun x => x.live bx0 ow0) = true) (hB : lendB fb fw bx bx0 bx1 ow ow0 ow1 = true)
    (hkp : ∀ i, kp i = true → Nat.ble 2000 i = true ∧ ∃ o0 o1, get ow0 i = some o0 ∧ get ow1 i = some o1 ∧ o1.rows.length = o0.rows.length)
    (h : SOps P N ops Q rest ⟨(d, r.ren fb fw) :: tm.map (fun p => (p.1, p.2.clr (chgOf fw kp ow0))), bxAft fb fw (chgOf fw kp ow0) bx1 bx, owAft fw ow0 ow1 ow⟩) : SOps P N ops Q (o :: rest) ⟨tm, bx, ow⟩ := by
  have hL := lend_of (kp := kp) hx hw hl hB hkp
  refine .mk fun C a w ⟨m, g, hr⟩ => ?_
  obtain ⟨h1, h2⟩ := ha.ok hL hr.env (a := a) (fun x _ y hy => hr.ev hy)
  obtain ⟨vs, hvz, hvl, hvc⟩ := hr.ev hz
  subst hcp
  have hrun : (execOp a.eval o).run P w = .ok (.enter f ((xs.map a.eval).toArray ++ vs)) w := by
    have := hc.ent ((xs.map a.eval).toArray ++ vs) w
    simp only [execOp, ho, resolve, Deferred.ofValue, hvz, invoke, Sem.run_bind, Sem.run_pure, Result.andThen_ok, List.map_toArray, Array.append_empty, Array.empty_append] at this ⊢
    simpa using this
  refine wpList_step fun K hK => ?_
  rw [if_pos (hg.wanted (m := m) (g := g) fun j want e _ _ y hy => hr.tmps e y hy)]
  refine wp_call_of hrun (hc.run m w _ _ (hL.env_in hr.env) (by simp [h1, hvl]) (fun i x v h3 h4 => ?_)) ?_
  · rw [List.getElem?_append] at h3
    rw [Array.getElem?_append] at h4
    by_cases hi : i < args.length
    · rw [if_pos hi] at h3
      rw [if_pos (by simp; omega)] at h4
      exact h2 i x v h3 (by simpa using h4)
    · rw [if_neg hi] at h3
      rw [if_neg (by simp; omega)] at h4
      have h5 := (List.all_eq_true.1 hcl) x (List.mem_of_getElem? h3)
      rw [Bool.and_eq_true] at h5
      refine hL.ren_in hr.env h5.1 ?_
      have h6 := hvc (i - args.length) (x.ren fb fw) v (by rw [List.getElem?_map, h3]; rfl) (by rw [← h1]; simpa using h4)
      exact h6.two
  rintro e w' ⟨v, m', g', rfl, henv, hv⟩
  obtain ⟨g'', e1, e2, e3⟩ := hL.env_out hr.env henv
  refine ⟨v, rfl, hK _ _ (h.go C _ _ ⟨m', g'', ?_⟩)⟩
  rw [hd]
  have hrel : RelG C N ⟨tm.map (fun p => (p.1, p.2.clr (chgOf fw kp ow0))), bxAft fb fw (chgOf fw kp ow0) bx1 bx, owAft fw ow0 ow1 ow⟩ a w' m' g'' := ⟨e1, hr.size, hr.defers, fun s x hx => by
    rw [show get (tm.map fun p => (p.1, p.2.clr (chgOf fw kp ow0))) s = _ from get_mapv _ _ _] at hx
    cases h5 : get tm s with
    | none => rw [h5] at hx; cases hx
    | some y => rw [h5] at hx; injection hx with hx; subst hx; exact e2 y _ (hr.tmps s y h5)⟩
  exact hrel.put e1 (fun x v h => h) (Nat.lt_of_succ_le (Nat.le_of_ble_eq_true hN)) (e3 r v hv)
end
end Go.Proofs.YtlcecabfmemfeaaGreat.Sim

/- A logic of states: rows that are the call's alone: shown, shortened, cleared, counted. -/
namespace Go.Proofs.YtlcecabfmemfeaaGreat.Sim
set_option linter.unusedVariables false
set_option linter.unusedSimpArgs false
open Go.RowKit Mem

def mv0 (i j : Nat) : A → A
  | .own k n => bif Nat.beq k i then .own j n else .own k n
  | .oe k n sz kk off => bif Nat.beq k i then .oe j n sz kk off else .oe k n sz kk off
  | .sfx k n sz kk => bif Nat.beq k i then .sfx j n sz kk else .sfx k n sz kk
  | x => x
def A.mv (i j : Nat) (x : A) : A := x.mapA (mv0 i j)
theorem get_map2 {l : List (Nat × List A)} (f : A → A) (i : Nat) : get (l.map fun p => (p.1, p.2.map f)) i = (get l i).map (List.map f) := get_mapv _ _ _
theorem allt (x : A) : x.allP (fun _ => true) = true := by
  cases x <;> simp [A.allP, A.all1]
  intro y _; cases y <;> simp [A.all1]
section
variable {C : Ctx} {bx : List (Nat × List A)} {ow : List (Nat × Own)} {w : World} {m : Mm} {g : Gh}
/-- a row under another number, seen from now on -/
theorem EnvG.show_ (he : EnvG C bx ow w m g) {i j : Nat} {o : Own} (hi : get ow i = some o) (hh : hid i = true) (h2 : Nat.ble 2000 j = false) (hj : get ow j = none) :
    ∃ m' g', EnvG C (bx.map fun p => (p.1, p.2.map (A.mv i j))) ((j, o) :: ow.filter (fun p => !(Nat.beq p.1 i))) w m' g' ∧ ∀ x v, AR m g x v → AR m' g' (x.mv i j) v := by
  obtain ⟨vs, hown, hrl, hca, hbk⟩ := he.owns i o hi
  have hij : j ≠ i := fun e => by subst e; rw [hi] at hj; cases hj
  have hmb : ∀ b, (g.go i).ownBlock = some b → ∀ k, m b k = none := fun b hb k => by rw [(hbk b hb).1 k, vis_hid hh]; rfl
  have hext : ∀ b k v, m b k = some v → rowm m (g.go i) (vis j vs) b k = some v := fun b k v hv => by
    unfold rowm
    split
    · rename_i hb; rw [hmb b hb k] at hv; cases hv
    · exact hv
  let g' : Gh := { g with go := fun k => if k = j then g.go i else g.go k, ln := fun k => if k = j then g.ln i else g.ln k, lw := fun k => if k = j then true else if k = i then false else g.lw k }
  have hgo : ∀ k, k ≠ j → g'.go k = g.go k ∧ g'.ln k = g.ln k := fun k hk => ⟨if_neg hk, if_neg hk⟩
  have hgj : g'.go j = g.go i ∧ g'.ln j = g.ln i := ⟨if_pos rfl, if_pos rfl⟩
  have hget : ∀ k, get ((j, o) :: ow.filter (fun p => !(Nat.beq p.1 i))) k = if j = k then some o else if k = i then none else get ow k := fun k => by
    rw [get_cons]
    split
    · rfl
    · refine (get_filter (fun k => !(Nat.beq k i)) ow k).trans ?_
      by_cases hk : k = i
      · subst hk; rw [if_pos rfl, if_neg]; rw [show Nat.beq k k = true from Nat.beq_refl _]; simp
      · rw [if_neg hk, if_pos]
        cases hb : Nat.beq k i with
        | true => exact absurd (Nat.eq_of_beq_eq_true hb) hk
        | false => rfl
  have hlj : ∀ k, g.lw k = true → k ≠ j := fun k hk e => by subst e; rw [he.lw, hj] at hk; cases hk
  have L0 : ∀ x v, AR0 m g x v → AR0 (rowm m (g.go i) (vis j vs)) g' (mv0 i j x) v := by
    intro x v hx
    cases x with
    | t x => exact TR.mono hext hx
    | own k n =>
      obtain ⟨h1, h2, h3, h4⟩ := hx
      show AR0 _ g' (bif Nat.beq k i then .own j n else .own k n) v
      cases hb : Nat.beq k i with
      | true =>
        obtain rfl := Nat.eq_of_beq_eq_true hb
        exact ⟨if_pos rfl, by rw [hgj.2]; exact h2, h3, by rw [hgj.1, hgj.2]; exact h4⟩
      | false =>
        have hk := hlj k h1
        exact ⟨by show (if k = j then true else if k = i then false else g.lw k) = true; rw [if_neg hk, if_neg (Nat.ne_of_beq_eq_false hb)]; exact h1, by rw [(hgo k hk).2]; exact h2, h3, by rw [(hgo k hk).1, (hgo k hk).2]; exact h4⟩
    | oe k n sz kk off =>
      obtain ⟨h1, h2, h3, h4⟩ := hx
      show AR0 _ g' (bif Nat.beq k i then .oe j n sz kk off else .oe k n sz kk off) v
      cases hb : Nat.beq k i with
      | true =>
        obtain rfl := Nat.eq_of_beq_eq_true hb
        exact ⟨if_pos rfl, by rw [hgj.2]; exact h2, h3, by rw [hgj.1, hgj.2]; exact h4⟩
      | false =>
        have hk := hlj k h1
        exact ⟨by show (if k = j then true else if k = i then false else g.lw k) = true; rw [if_neg hk, if_neg (Nat.ne_of_beq_eq_false hb)]; exact h1, by rw [(hgo k hk).2]; exact h2, h3, by rw [(hgo k hk).1, (hgo k hk).2]; exact h4⟩
    | sfx k n sz kk =>
      obtain ⟨h1, h2, h3, h4⟩ := hx
      show AR0 _ g' (bif Nat.beq k i then .sfx j n sz kk else .sfx k n sz kk) v
      cases hb : Nat.beq k i with
      | true =>
        obtain rfl := Nat.eq_of_beq_eq_true hb
        exact ⟨if_pos rfl, by rw [hgj.2]; exact h2, h3, by rw [hgj.1, hgj.2]; exact h4⟩
      | false =>
        have hk := hlj k h1
        exact ⟨by show (if k = j then true else if k = i then false else g.lw k) = true; rw [if_neg hk, if_neg (Nat.ne_of_beq_eq_false hb)]; exact h1, by rw [(hgo k hk).2]; exact h2, h3, by rw [(hgo k hk).1, (hgo k hk).2]; exact h4⟩
    | _ => exact hx
  have L : ∀ x v, AR m g x v → AR (rowm m (g.go i) (vis j vs)) g' (x.mv i j) v := fun x v hx => hx.mp _ (fun _ => true) (fun x v _ => L0 x v) (allt x)
  have hbx : ∀ k cs, get bx k = some cs → (g.go i).ownBlock ≠ some (g.gb k) := fun k cs hk e => (hbk _ e).2.1 k cs hk rfl
  refine ⟨rowm m (g.go i) (vis j vs), g', {
    lo := he.lo
    gm := he.gm
    sub := fun b k v hv => by
      unfold rowm at hv
      split at hv
      · rename_i hb
        have := hown.cells hb k v (vis_get hv)
        rwa [addr_add, Nat.zero_add] at this
      · exact he.sub b k v hv
    ext := ⟨fun b k v hv => hext b k v (he.ext.keep b k v hv), fun b k hb hg => by
      unfold rowm
      split
      · rename_i hbb
        rcases (hbk b hbb).2.2 with h | h
        · omega
        · rw [hg] at h; cases h
      · exact he.ext.old b k hb hg⟩
    lb := fun k => by rw [get_map2]; rw [show (Option.map (List.map (A.mv i j)) (get bx k)).isSome = (get bx k).isSome by cases get bx k <;> rfl]; exact he.lb k
    lw := fun k => by
      rw [hget]
      show (if k = j then true else if k = i then false else g.lw k) = _
      by_cases hk : k = j
      · subst hk; rw [if_pos rfl, if_pos rfl]; rfl
      · have hk' : ¬ j = k := fun e => hk e.symm
        rw [if_neg hk, if_neg hk']
        split
        · rfl
        · exact he.lw k
    ln := fun k o' hk => by
      rw [hget] at hk
      by_cases hkj : k = j
      · subst hkj; rw [if_pos rfl] at hk; injection hk with hk; subst hk; rw [hgj.2]; exact he.ln i _ hi
      · have hkj' : ¬ j = k := fun e => hkj e.symm
        rw [if_neg hkj'] at hk
        split at hk
        · cases hk
        · rw [(hgo k hkj).2]; exact he.ln k o' hk
    boxes := fun k cs hk => by
      rw [get_map2] at hk
      cases hc : get bx k with
      | none => rw [hc] at hk; cases hk
      | some c0 =>
        rw [hc] at hk; injection hk with hk; subst hk
        obtain ⟨us, ty, h1, h2, h3, h4, h5⟩ := he.boxes k c0 hc
        refine ⟨us, ty, h1, by simpa using h2, fun q x u hx hu => ?_, h4, fun o => ?_⟩
        · rw [List.getElem?_map] at hx
          cases hq : c0[q]? with
          | none => rw [hq] at hx; cases hx
          | some y => rw [hq] at hx; injection hx with hx; subst hx; exact ⟨L y u (h3 q y u hq hu).1, (h3 q y u hq hu).2⟩
        · show rowm m (g.go i) (vis j vs) (g.gb k) o = none
          unfold rowm
          rw [if_neg (hbx k c0 hc)]; exact h5 o
    inj := fun p q cp cq hp hq e => by
      rw [get_map2] at hp hq
      cases hc : get bx p with
      | none => rw [hc] at hp; cases hp
      | some c0 =>
        cases hc2 : get bx q with
        | none => rw [hc2] at hq; cases hq
        | some c2 => exact he.inj p q c0 c2 hc hc2 e
    owns := fun k o' hk => by
      have hbxx : ∀ b : Nat, ∀ q cs, get (bx.map fun p => (p.1, p.2.map (A.mv i j))) q = some cs → ∃ c0, get bx q = some c0 := fun b q cs hq => by
        rw [get_map2] at hq
        cases hc : get bx q with
        | none => rw [hc] at hq; cases hq
        | some c0 => exact ⟨c0, rfl⟩
      rw [hget] at hk
      by_cases hkj : k = j
      · subst hkj
        rw [if_pos rfl] at hk; injection hk with hk; subst hk
        rw [hgj.1]
        refine ⟨vs, hown, hrl, hca.mono hext, fun b hb => ⟨fun q => ?_, fun q cs hq => ?_, (hbk b hb).2.2⟩⟩
        · unfold rowm; rw [if_pos hb]
        · obtain ⟨c0, h1⟩ := hbxx b q cs hq
          exact (hbk b hb).2.1 q c0 h1
      · have hkj' : ¬ j = k := fun e => hkj e.symm
        rw [if_neg hkj'] at hk
        by_cases hki : k = i
        · rw [if_pos hki] at hk; cases hk
        · rw [if_neg hki] at hk
          rw [(hgo k hkj).1]
          obtain ⟨us, h1, h2, h3, h4⟩ := he.owns k o' hk
          refine ⟨us, h1, h2, h3.mono hext, fun b hb => ⟨fun q => ?_, fun q cs hq => ?_, (h4 b hb).2.2⟩⟩
          · unfold rowm
            rw [if_neg (fun e => he.apart i k o o' hi hk (fun e => hki e.symm) b e hb)]; exact (h4 b hb).1 q
          · obtain ⟨c0, h5⟩ := hbxx b q cs hq
            exact (h4 b hb).2.1 q c0 h5
    apart := fun p q op oq hp hq hpq b hb => by
      rw [hget] at hp hq
      by_cases hpj : p = j
      · subst hpj
        rw [hgj.1] at hb
        rw [if_neg hpq] at hq
        split at hq
        · cases hq
        · rename_i hqi
          rw [(hgo q (fun e => hpq e.symm)).1]
          exact he.apart i q o oq hi hq (fun e => hqi e.symm) b hb
      · rw [if_neg (fun e => hpj e.symm)] at hp
        split at hp
        · cases hp
        · rename_i hpi
          rw [(hgo p hpj).1] at hb
          by_cases hqj : q = j
          · subst hqj; rw [hgj.1]; exact he.apart p i op o hp hi hpi b hb
          · rw [if_neg (fun e => hqj e.symm)] at hq
            split at hq
            · cases hq
            · rw [(hgo q hqj).1]; exact he.apart p q op oq hp hq hpq b hb
    pin := fun k o' hk hk2 => by
      rw [hget] at hk
      by_cases hkj : k = j
      · subst hkj; rw [h2] at hk2; cases hk2
      · have hkj' : ¬ j = k := fun e => hkj e.symm
        rw [if_neg hkj'] at hk
        split at hk
        · cases hk
        · rw [(hgo k hkj).1]; exact he.pin k o' hk hk2
    pinb := fun k cs hk hk2 => by
      rw [get_map2] at hk
      cases hc : get bx k with
      | none => rw [hc] at hk; cases hk
      | some c0 => exact he.pinb k c0 hc hk2 }, L⟩
end
theorem weak_show {N : Nat} {tm : List (Nat × A)} {bx : List (Nat × List A)} {ow : List (Nat × Own)} (i j : Nat) {o : Own} (hi : get ow i = some o) (hh : hid i = true) (h2 : Nat.ble 2000 j = false) (hj : get ow j = none) :
    Weak N ⟨tm, bx, ow⟩ ⟨tm.map fun p => (p.1, p.2.mv i j), bx.map fun p => (p.1, p.2.map (A.mv i j)), (j, o) :: ow.filter (fun p => !(Nat.beq p.1 i))⟩ := .mk fun C a w ⟨m, g, hr⟩ => by
  obtain ⟨m', g', h3, h4⟩ := hr.env.show_ hi hh h2 hj
  refine ⟨m', g', h3, hr.size, hr.defers, fun s x hx => ?_⟩
  rw [show get (tm.map fun p => (p.1, p.2.mv i j)) s = _ from get_mapv _ _ _] at hx
  cases h5 : get tm s with
  | none => rw [h5] at hx; cases hx
  | some y => rw [h5] at hx; injection hx with hx; subst hx; exact h4 y _ (hr.tmps s y h5)

section
variable {P : Program} {N : Nat} {Q : Exit → St → Prop} {ops : Array Oper} {rest : List Oper} {o : Oper} {tm : List (Nat × A)} {bx : List (Nat × List A)} {ow : List (Nat × Own)} {ρ : Operand → Option A}
theorem po_len_own {x : Operand} {i n : Nat} {t : TypeId} (ho : o.op = .call { callee := .builtin .len, args := #[x], argTypes := #[t] }) (hx : ρ x = some (.own i n)) {sz : Nat} (hT : sliceSz P t = some sz) : PureOp P bx ow o ρ (.t (.v (.int .i64 (n : Int)))) := pure_run fun C m g w a he h => by
  obtain ⟨_, _, ⟨A, c, h1⟩, _⟩ := h x (by simp [ho, Op.operands, Call.operands]) _ hx
  obtain ⟨e, ii, hu, _⟩ := sliceSz_spec hT
  refine ⟨.int .i64 n, ?_, .v _⟩
  simp [execOp, ho, resolve, invoke, builtin, h1, Builtin.len_, Builtin.lenOf, run_underlying hu, goInt]
/-- what stands behind in a row of the call's own -/
theorem po_slice_sfx {t e sz l : Nat} {x q : Operand} {i n : Nat} {ik : IntKind} {rows : List (List T)} (ho : o.op = .slice t x (some q) none none) (hx : ρ x = some (.own i n)) (hi : get ow i = some ⟨e, sz, rows⟩) (hn : n = rows.length) (hT : sliceSz P t = some sz) (hq : ρ q = some (.t (.v (.int ik l)))) (hl : l ≤ n) (h0 : 0 < n) : PureOp P bx ow o ρ (.sfx i n sz l) := pure_run fun C m g w a he h => by
  obtain ⟨h1, h2, h3, h4⟩ := h x (by simp [ho, Op.operands]) _ hx
  have h5 := tr_v (h q (by simp [ho, Op.operands]) _ hq)
  have hln := he.ln i _ hi
  have hv := h4 (by rw [hln]; exact hn)
  obtain ⟨e', ii, hu, hie, hs⟩ := sliceSz_spec hT
  obtain ⟨vs, hown, _⟩ := he.owns i _ hi
  dsimp only at hown
  obtain ⟨b, cap, cur, e1, _, _, e4, _⟩ := own_form hown (by omega)
  rw [e1] at hv
  have c1 : (l : Int) ≤ (n : Int) := by omega
  have hrun : (execOp a.eval o).run P w = .ok (.value (.slice (if cap = l then some ⟨b, 0, none⟩ else some ⟨b, l * sz, none⟩) (n - l) (cap - l))) w := by
    subst hn
    by_cases hcl : cap = l <;> simp [execOp, ho, hv, h5, Instr.sliceAt, run_underlying hu, Instr.slice, Instr.sliceBounds, Instr.sliceBound, asIntOf, sizeOf, typeInfo, hie, hs, c1, hl, hcl, add_mid]
  exact ⟨_, hrun, h1, h2, ⟨_, _, rfl⟩, fun _ => ⟨b, cap, by rw [e1, hn], rfl⟩⟩
theorem zero_flat (z : Array Value) (n : Nat) (h0 : 0 < z.size) : (Builtin.zeroCells z n).toList = (List.replicate n z.toList).flatten := by
  have hr : ∀ r ∈ List.replicate n z.toList, r.length = z.size := fun r hr => by rw [List.eq_of_mem_replicate hr]; simp
  have key : ∀ (n j : Nat), j < n * z.size → (List.replicate n z.toList).flatten[j]? = z[j % z.size]? := by
    intro n
    induction n with
    | zero => intro j hj; omega
    | succ n ih =>
      intro j hj
      rw [List.replicate_succ, List.flatten_cons]
      by_cases hlt : j < z.size
      · rw [List.getElem?_append_left (by simpa using hlt), Nat.mod_eq_of_lt hlt]; simp
      · rw [List.getElem?_append_right (by simp; omega), show z.toList.length = z.size by simp, ih (j - z.size) (by rw [Nat.succ_mul] at hj; omega), ← Nat.mod_eq_sub_mod (show z.size ≤ j by omega)]
  refine List.ext_getElem? fun j => ?_
  by_cases hj : j < n * z.size
  · rw [key n j hj]
    have hm : j % z.size < z.size := Nat.mod_lt _ h0
    simp [Builtin.zeroCells, hj, hm]
  · have h1 : (Builtin.zeroCells z n).toList.length = n * z.size := by simp [size_zeroCells]
    rw [List.getElem?_eq_none (by omega), List.getElem?_eq_none]
    have : (List.replicate n z.toList).flatten.length = n * z.size := by simp
    omega
theorem flat_take {α : Type} {sz : Nat} {rows : List (List α)} (hr : ∀ r ∈ rows, r.length = sz) (k : Nat) : (rows.take k).flatten = rows.flatten.take (k * sz) := by
  induction rows generalizing k with
  | nil => simp
  | cons r rs ih =>
    cases k with
    | zero => simp
    | succ k =>
      have hq := hr r (by simp)
      rw [List.take_succ_cons, List.flatten_cons, List.flatten_cons, ih (fun x hx => hr x (by simp [hx])), Nat.succ_mul, List.take_append, List.take_of_length_le (show r.length ≤ k * sz + sz by omega)]
      congr 2; omega
/-- a row's end cleared -/
theorem sops_clear {t e sz by_ : Nat} {x : Operand} {i n k : Nat} {rows : List (List T)} {zs : List Value} (hh : hid i = true) (hg : GuardIs ops tm o true) (ho : o.op = .call { callee := .builtin .clear, args := #[x], argTypes := #[t] }) (hd : o.dst = none) (hx : evA tm x = some (.sfx i n sz k)) (hi : get ow i = some ⟨e, sz, rows⟩) (hn : n = rows.length) (hk : k < n)
    (hT : sliceE P t = some (e, sz, by_)) (hz : ((P.info? e).bind (·.zero)).map (fun z => z.cells.toList) = some zs) (h1 : (zs.all fun v => v.oneCell') = true)
    (h : SOps P N ops Q rest ⟨tm, bx, (i, ⟨e, sz, rows.take k ++ List.replicate (rows.length - k) (zs.map T.v)⟩) :: ow⟩) : SOps P N ops Q (o :: rest) ⟨tm, bx, ow⟩ := by
  refine .mk fun C a w ⟨m, g, hr⟩ => ?_
  obtain ⟨_, _, _, h4⟩ := hr.ev hx
  have he := hr.env
  obtain ⟨b, cap, h5, h6⟩ := h4 (by rw [he.ln i _ hi]; exact hn)
  obtain ⟨ii, z, hu, hie, hzz, hsz, _, hzs, hpos⟩ := sliceE_spec hT
  have hzl : z.cells.toList = zs := by rw [hie] at hz; simp [hzz] at hz; exact hz
  obtain ⟨vs, hown, hrr, hc, hbk⟩ := he.owns i _ hi
  dsimp only at hown hrr hc
  obtain ⟨b', cap', cur, e1, e2, e3, e4, e5, e6, e7⟩ := own_form hown (by omega)
  rw [h5] at e1; injection e1 with e1 _ e8; injection e1 with e1; injection e1 with e1; subst e1 e8
  have hkc : cap ≠ k := by omega
  rw [if_neg hkc] at h6
  have hks : k * sz + (n - k) * sz = n * sz := by rw [← Nat.add_mul]; congr 1; omega
  have hns : n * sz ≤ cur.size := by rw [e6]; exact Nat.mul_le_mul_right _ (by omega)
  have hzc : (Builtin.zeroCells z.cells (n - k)).toList = (List.replicate (n - k) zs).flatten := by rw [zero_flat _ _ (by omega), hzl]
  have hone : ∀ u ∈ (Builtin.zeroCells z.cells (n - k)).toList, u.oneCell' = true := fun u hu' => by
    rw [hzc] at hu'
    obtain ⟨r, h7, h8⟩ := List.mem_flatten.1 hu'
    rw [List.eq_of_mem_replicate h7] at h8
    exact (List.all_eq_true.1 h1) u h8
  have hrun := run_clear_row (P := P) (w := w) t e o.type ii z hu hie hzz b (k * sz) (n - k) (cap - k) (by omega) cur e e3 (by rw [hzs]; omega) hone
  have hexec : (execOp a.eval o).run P w = .ok (.value (.tuple #[])) (w.setRow b (cur.toList.take (k * sz) ++ (Builtin.zeroCells z.cells (n - k)).toList ++ cur.toList.drop (k * sz + (Builtin.zeroCells z.cells (n - k)).toList.length)).toArray) := by
    simp only [execOp, ho, resolve, invoke, builtin, Sem.run_bind, Sem.run_pure, Result.andThen_ok, List.map_toArray, List.map_cons, List.map_nil, h6, hrun]
  refine wpList_step fun K hK => ?_
  rw [if_pos (hg.wanted (m := m) (g := g) fun j want e _ _ y hy => hr.tmps e y hy)]
  refine wp_of_run hexec (hK _ _ (h.go C _ _ ⟨m, g, ?_⟩))
  rw [hd]
  have hzll : (Builtin.zeroCells z.cells (n - k)).toList.length = (n - k) * sz := by simp [size_zeroCells, hzs]
  have hzsl : zs.length = sz := by rw [← hzl]; simpa using hzs
  have hrz : ∀ r ∈ List.replicate (rows.length - k) (zs.map T.v), r.length = sz := fun r hr' => by rw [List.eq_of_mem_replicate hr']; simp [hzsl]
  have hpl : (cur.toList.take (k * sz)).length = k * sz := by simp; omega
  have hcell : CellsAre m (rows.take k ++ List.replicate (rows.length - k) (zs.map T.v)).flatten (vs.take (k * sz) ++ (Builtin.zeroCells z.cells (n - k)).toList) := by
    rw [List.flatten_append, flat_take hrr]
    refine (hc.take _).app ?_
    rw [hzc, hn]
    have : (List.replicate (rows.length - k) (zs.map T.v)).flatten = ((List.replicate (rows.length - k) zs).flatten).map T.v := by rw [List.map_flatten, List.map_replicate]
    rw [this]
    refine ⟨by simp, fun j t v h7 h8 => ?_⟩
    rw [List.getElem?_map, h8] at h7
    simp at h7; subst h7
    exact ⟨.v _, hone v (by rw [hzc, hn]; exact List.mem_of_getElem? h8)⟩
  refine hr.put_none (he.setE (b := b) (cap := cap) (cur := cur) hh hi (by simp; omega) (by rw [h5, hn]) e3 (fun r hr' => ?_) hcell ?_ ?_) (fun x v h => h)
  · rcases List.mem_append.1 hr' with hr' | hr'
    · exact hrr r (List.mem_of_mem_take hr')
    · exact hrz r hr'
  · have h9 : cur.toList.length = cur.size := by simp
    simp only [List.size_toArray, List.length_append, List.length_take, List.length_drop, hzll, h9]; omega
  · simp only []
    rw [List.append_assoc, ← hn, List.take_append, hpl, List.take_of_length_le (show (cur.toList.take (k * sz)).length ≤ n * sz by omega), List.take_append, List.take_of_length_le (show (Builtin.zeroCells z.cells (n - k)).toList.length ≤ n * sz - k * sz by omega), hzll, show n * sz - k * sz - (n - k) * sz = 0 by omega, List.take_zero, List.append_nil, ← e7, List.take_take, Nat.min_eq_left (by rw [← hn]; omega)]
end
end Go.Proofs.YtlcecabfmemfeaaGreat.Sim

/- A logic of states: rows that are the call's alone, shortened. -/
namespace Go.Proofs.YtlcecabfmemfeaaGreat.Sim
set_option linter.unusedVariables false
set_option linter.unusedSimpArgs false
open Go.RowKit Mem

section
variable {C : Ctx} {bx : List (Nat × List A)} {ow : List (Nat × Own)} {w : World} {m : Mm} {g : Gh}
theorem EnvG.shrink (he : EnvG C bx ow w m g) {i k cap b : Nat} {e : TypeId} {sz : Nat} {rows : List (List T)} {A0 : Option Addr} (hi : get ow i = some ⟨e, sz, rows⟩) (hh : hid i = true) (h2 : Nat.ble 2000 i = false) (hk : k ≤ rows.length)
    (hgo : (g.go i = .slice none 0 0 ∧ A0 = none ∧ cap = 0) ∨ (g.go i = .slice (some ⟨b, 0, none⟩) rows.length cap ∧ A0 = some ⟨b, 0, none⟩)) :
    EnvG C (bx.map fun p => (p.1, p.2.map (A.clr fun j => Nat.beq j i))) ((i, ⟨e, sz, rows.take k⟩) :: ow) w m (g.setO i (.slice A0 k cap) k) ∧ ∀ x v, AR m g x v → AR m (g.setO i (.slice A0 k cap) k) (x.clr fun j => Nat.beq j i) v := by
  obtain ⟨vs, hown, hrl, hca, hbk⟩ := he.owns i _ hi
  dsimp only at hown hrl hca hbk
  have hgj : ∀ q, q ≠ i → (g.setO i (.slice A0 k cap) k).go q = g.go q ∧ (g.setO i (.slice A0 k cap) k).ln q = g.ln q ∧ (g.setO i (.slice A0 k cap) k).lw q = g.lw q := fun q hq => ⟨if_neg hq, if_neg hq, if_neg hq⟩
  have hgi : (g.setO i (.slice A0 k cap) k).go i = .slice A0 k cap ∧ (g.setO i (.slice A0 k cap) k).ln i = k ∧ (g.setO i (.slice A0 k cap) k).lw i = true := ⟨if_pos rfl, if_pos rfl, if_pos rfl⟩
  have hblk : (Value.slice A0 k cap).ownBlock = (g.go i).ownBlock := by
    rcases hgo with ⟨h1, rfl, _⟩ | ⟨h1, rfl⟩ <;> rw [h1] <;> rfl
  have L0 : ∀ x v, AR0 m g x v → AR0 m (g.setO i (.slice A0 k cap) k) (clr0 (fun j => Nat.beq j i) x) v := by
    intro x v hx
    cases x with
    | own q n =>
      show AR0 m _ (bif Nat.beq q i then .any else .own q n) v
      cases hb : Nat.beq q i with
      | true => trivial
      | false =>
        obtain ⟨e1, e2, e3⟩ := hgj q (Nat.ne_of_beq_eq_false hb)
        exact ⟨e3.trans hx.1, by rw [e2]; exact hx.2.1, hx.2.2.1, by rw [e1, e2]; exact hx.2.2.2⟩
    | oe q n sz kk off =>
      show AR0 m _ (bif Nat.beq q i then .any else .oe q n sz kk off) v
      cases hb : Nat.beq q i with
      | true => trivial
      | false =>
        obtain ⟨e1, e2, e3⟩ := hgj q (Nat.ne_of_beq_eq_false hb)
        exact ⟨e3.trans hx.1, by rw [e2]; exact hx.2.1, hx.2.2.1, by rw [e1, e2]; exact hx.2.2.2⟩
    | sfx q n sz kk =>
      show AR0 m _ (bif Nat.beq q i then .any else .sfx q n sz kk) v
      cases hb : Nat.beq q i with
      | true => trivial
      | false =>
        obtain ⟨e1, e2, e3⟩ := hgj q (Nat.ne_of_beq_eq_false hb)
        exact ⟨e3.trans hx.1, by rw [e2]; exact hx.2.1, hx.2.2.1, by rw [e1, e2]; exact hx.2.2.2⟩
    | _ => exact hx
  have L : ∀ x v, AR m g x v → AR m (g.setO i (.slice A0 k cap) k) (x.clr fun j => Nat.beq j i) v := fun x v hx => hx.mp _ (fun _ => true) (fun x v _ => L0 x v) (allt x)
  have hbx : ∀ q cs, get (bx.map fun p => (p.1, p.2.map (A.clr fun j => Nat.beq j i))) q = some cs → ∃ c0, get bx q = some c0 ∧ cs = c0.map (A.clr fun j => Nat.beq j i) := fun q cs hq => by
    rw [get_map2] at hq
    cases hc : get bx q with
    | none => rw [hc] at hq; cases hq
    | some c0 => rw [hc] at hq; injection hq with hq; exact ⟨c0, rfl, hq.symm⟩
  have hlen : (rows.take k).length = k := by simp; omega
  refine ⟨{
    lo := he.lo, gm := he.gm, sub := he.sub, ext := he.ext
    lb := fun q => by rw [get_map2]; rw [show (Option.map (List.map (A.clr fun j => Nat.beq j i)) (get bx q)).isSome = (get bx q).isSome by cases get bx q <;> rfl]; exact he.lb q
    lw := fun q => by
      rw [get_cons]
      by_cases hq : i = q
      · subst hq; rw [if_pos rfl, hgi.2.2]; rfl
      · rw [if_neg hq, (hgj q (fun e => hq e.symm)).2.2]; exact he.lw q
    ln := fun q o' hq => by
      rw [get_cons] at hq
      by_cases hqi : i = q
      · subst hqi; rw [if_pos rfl] at hq; injection hq with hq; subst hq; rw [hgi.2.1]; exact hlen.symm
      · rw [if_neg hqi] at hq; rw [(hgj q (fun e => hqi e.symm)).2.1]; exact he.ln q o' hq
    boxes := fun q cs hq => by
      obtain ⟨c0, hc, rfl⟩ := hbx q cs hq
      obtain ⟨us, ty, h1, h2, h3, h4, h5⟩ := he.boxes q c0 hc
      refine ⟨us, ty, h1, by simpa using h2, fun p x u hx hu => ?_, h4, h5⟩
      rw [List.getElem?_map] at hx
      cases hp : c0[p]? with
      | none => rw [hp] at hx; cases hx
      | some y => rw [hp] at hx; injection hx with hx; subst hx; exact ⟨L y u (h3 p y u hp hu).1, (h3 p y u hp hu).2⟩
    inj := fun p q cp cq hp hq e => by
      obtain ⟨c0, h1, _⟩ := hbx p cp hp
      obtain ⟨c2, h3, _⟩ := hbx q cq hq
      exact he.inj p q c0 c2 h1 h3 e
    owns := fun q o' hq => by
      rw [get_cons] at hq
      by_cases hqi : i = q
      · subst hqi
        rw [if_pos rfl] at hq; injection hq with hq; subst hq
        rw [hgi.1]
        refine ⟨vs.take (k * sz), ?_, fun r hr => hrl r (List.mem_of_mem_take hr), ?_, fun b' hb' => ?_⟩
        · show w.ownsRow 0 e sz (.slice A0 k cap) (rows.take k).length (vs.take (k * sz))
          rw [hlen]
          obtain ⟨h5, h6⟩ := hown
          have hks : k * sz ≤ rows.length * sz := Nat.mul_le_mul_right _ hk
          refine ⟨by simp; omega, ?_⟩
          rcases hgo with ⟨h1, rfl, rfl⟩ | ⟨h1, rfl⟩
          · rcases h6 with ⟨_, h7⟩ | ⟨b2, cap2, cur, h7, _⟩
            · exact .inl ⟨by rw [show k = 0 by omega], by omega⟩
            · rw [h1] at h7; cases h7
          · rcases h6 with ⟨h7, _⟩ | ⟨b2, cap2, cur, h7, h8, h9, h10, h11, h12, h13⟩
            · rw [h1] at h7; cases h7
            · rw [h1] at h7; injection h7 with h7 _ h14; injection h7 with h7; injection h7 with h7; subst h7 h14
              exact .inr ⟨b, cap, cur, rfl, h8, h9, by omega, h11, h12, by rw [← h13, List.take_take, Nat.min_eq_left hks]⟩
        · show CellsAre m (rows.take k).flatten _
          rw [flat_take hrl]; exact hca.take _
        · rw [hblk] at hb'
          refine ⟨fun p => by rw [(hbk b' hb').1 p, vis_hid hh, vis_hid hh], fun p cp hp => ?_, (hbk b' hb').2.2⟩
          obtain ⟨c0, h1, _⟩ := hbx p cp hp
          exact (hbk b' hb').2.1 p c0 h1
      · rw [if_neg hqi] at hq
        rw [(hgj q (fun e => hqi e.symm)).1]
        obtain ⟨us, h1, h2, h3, h4⟩ := he.owns q o' hq
        refine ⟨us, h1, h2, h3, fun b' hb' => ⟨(h4 b' hb').1, fun p cp hp => ?_, (h4 b' hb').2.2⟩⟩
        obtain ⟨c0, h5, _⟩ := hbx p cp hp
        exact (h4 b' hb').2.1 p c0 h5
    apart := fun p q op oq hp hq hpq b' hb' => by
      rw [get_cons] at hp hq
      by_cases hpi : i = p
      · subst hpi
        rw [hgi.1, hblk] at hb'
        rw [if_neg hpq] at hq
        rw [(hgj q (fun e => hpq e.symm)).1]
        exact he.apart i q _ oq hi hq hpq b' hb'
      · rw [if_neg hpi] at hp
        rw [(hgj p (fun e => hpi e.symm)).1] at hb'
        by_cases hqi : i = q
        · subst hqi; rw [hgi.1, hblk]; exact he.apart p i op _ hp hi hpq b' hb'
        · rw [if_neg hqi] at hq
          rw [(hgj q (fun e => hqi e.symm)).1]; exact he.apart p q op oq hp hq hpq b' hb'
    pin := fun q o' hq hq2 => by
      rw [get_cons] at hq
      by_cases hqi : i = q
      · subst hqi; rw [h2] at hq2; cases hq2
      · rw [if_neg hqi] at hq; rw [(hgj q (fun e => hqi e.symm)).1]; exact he.pin q o' hq hq2
    pinb := fun q cs hq hq2 => by
      obtain ⟨c0, hc, _⟩ := hbx q cs hq
      exact he.pinb q c0 hc hq2 }, L⟩
end
section
variable {P : Program} {N : Nat} {Q : Exit → St → Prop} {ops : Array Oper} {rest : List Oper} {o : Oper} {tm : List (Nat × A)} {bx : List (Nat × List A)} {ow : List (Nat × Own)} {ρ : Operand → Option A}
theorem sops_shrink {t e sz k d : Nat} {x q : Operand} {i n : Nat} {ik : IntKind} {rows : List (List T)} (hh : hid i = true) (h2 : Nat.ble 2000 i = false) (hg : GuardIs ops tm o true) (ho : o.op = .slice t x none (some q) none) (hd : o.dst = some d) (hN : Nat.blt d N = true) (hx : evA tm x = some (.own i n)) (hi : get ow i = some ⟨e, sz, rows⟩) (hn : n = rows.length) (hT : sliceSz P t = some sz) (hq : evA tm q = some (.t (.v (.int ik k)))) (hk : k ≤ n)
    (h : SOps P N ops Q rest ⟨(d, .own i k) :: tm.map (fun p => (p.1, p.2.clr fun j => Nat.beq j i)), bx.map (fun p => (p.1, p.2.map (A.clr fun j => Nat.beq j i))), (i, ⟨e, sz, rows.take k⟩) :: ow⟩) : SOps P N ops Q (o :: rest) ⟨tm, bx, ow⟩ := by
  refine sops_run hg (fun C a w m g hr => ?_) h
  have he := hr.env
  obtain ⟨h1, h3, _, h4⟩ := hr.ev hx
  have h5 := tr_v (show TR m (.v (.int ik k)) (a.eval q) from hr.ev hq)
  have hln := he.ln i _ hi
  have hv := h4 (by rw [hln]; exact hn)
  obtain ⟨e', ii, hu, hie, hs⟩ := sliceSz_spec hT
  obtain ⟨vs, hown, _⟩ := he.owns i _ hi
  dsimp only at hown
  subst hn
  have key : ∃ (A0 : Option Addr) (cap b : Nat), a.eval x = .slice A0 rows.length cap ∧ rows.length ≤ cap ∧ ((g.go i = .slice none 0 0 ∧ A0 = none ∧ cap = 0) ∨ (g.go i = .slice (some ⟨b, 0, none⟩) rows.length cap ∧ A0 = some ⟨b, 0, none⟩)) := by
    obtain ⟨_, ⟨h6, h7⟩ | ⟨b, cap, cur, h6, _, _, h7, _⟩⟩ := hown
    · exact ⟨none, 0, 0, by rw [hv, h6, h7], by omega, .inl ⟨h6, rfl, rfl⟩⟩
    · exact ⟨_, cap, b, by rw [hv, h6], h7, .inr ⟨h6, rfl⟩⟩
  obtain ⟨A0, cap, b, h6, h7, h8⟩ := key
  have c3 : k ≤ cap := by omega
  have hrun : (execOp a.eval o).run P w = .ok (.value (.slice A0 k cap)) w := by
    have hA : (if cap = 0 then A0 else A0.map (·.add (0 * sz))) = A0 := by
      split
      · rfl
      · rcases h8 with ⟨_, rfl, _⟩ | ⟨_, rfl⟩
        · rfl
        · simp [add_mid]
    have hA' : A0.map (fun x => x.add 0) = A0 := by
      rcases h8 with ⟨_, rfl, _⟩ | ⟨_, rfl⟩
      · rfl
      · simp [add_mid]
    simp [execOp, ho, h6, h5, Instr.sliceAt, run_underlying hu, Instr.slice, Instr.sliceBounds, Instr.sliceBound, asIntOf, sizeOf, typeInfo, hie, hs, c3]
    intro _; exact hA'
  obtain ⟨h9, h10⟩ := he.shrink (b := b) hi hh h2 hk h8
  refine ⟨_, w, hrun, ?_⟩
  rw [hd]
  have hrel : RelG C N ⟨tm.map (fun p => (p.1, p.2.clr fun j => Nat.beq j i)), _, _⟩ a w m _ := ⟨h9, hr.size, hr.defers, fun s x hx => by
    rw [show get (tm.map fun p => (p.1, p.2.clr fun j => Nat.beq j i)) s = _ from get_mapv _ _ _] at hx
    cases h5 : get tm s with
    | none => rw [h5] at hx; cases hx
    | some y => rw [h5] at hx; injection hx with hx; subst hx; exact h10 y _ (hr.tmps s y h5)⟩
  exact ⟨m, _, hrel.put h9 (fun x v h => h) (Nat.lt_of_succ_le (Nat.le_of_ble_eq_true hN)) ⟨by simp [Gh.setO], by simp [Gh.setO], ⟨_, _, rfl⟩, fun _ => by simp [Gh.setO]⟩⟩
end
end Go.Proofs.YtlcecabfmemfeaaGreat.Sim
namespace Go.Proofs.YtlcecabfmemfeaaGreat.Sim
set_option linter.unusedVariables false
set_option linter.unusedSimpArgs false
open Go.RowKit Mem
section
variable {P : Program} {N : Nat} {Q : Exit → St → Prop} {ops : Array Oper} {rest : List Oper} {o : Oper} {tm : List (Nat × A)} {bx bx0 bx1 : List (Nat × List A)} {ow ow0 ow1 : List (Nat × Own)}
theorem sops_clearS {t e sz by_ : Nat} {x : Operand} {i n k : Nat} {rows : List (List T)} {pl : List (Nat × Nat)} {zs : List Value} (hS : strI P e = some (pl, zs)) (hh : hid i = true) (hg : GuardIs ops tm o true) (ho : o.op = .call { callee := .builtin .clear, args := #[x], argTypes := #[t] }) (hd : o.dst = none) (hx : evA tm x = some (.sfx i n sz k)) (hi : get ow i = some ⟨e, sz, rows⟩) (hn : n = rows.length) (hk : k < n)
    (hT : sliceE P t = some (e, sz, by_)) (h : SOps P N ops Q rest ⟨tm, bx, (i, ⟨e, sz, rows.take k ++ List.replicate (rows.length - k) (zs.map T.v)⟩) :: ow⟩) : SOps P N ops Q (o :: rest) ⟨tm, bx, ow⟩ := by
  obtain ⟨it, z, h1, h2, h3, h4⟩ := strI_zero hS
  exact sops_clear hh hg ho hd hx hi hn hk hT (by rw [h1]; simp [h2, h3]) (List.all_eq_true.2 h4) h
/-- a call through a function's value that captured data alone -/
theorem sops_lcall_tclo {f : FuncId} {xz : Operand} {caps : List T} {xs : List Operand} {at_ : Array TypeId} {args : List A} {r : A} {d : Nat} (hc : LCalls P f (args ++ caps.map A.t) bx0 ow0 r bx1 ow1) (fb fw : Nat → Nat) (kp : Nat → Bool) (hg : GuardIs ops tm o true) (ho : o.op = .call { callee := .value xz, args := xs.toArray, argTypes := at_ }) (hd : o.dst = some d) (hN : Nat.blt d N = true)
    (hz : evA tm xz = some (.t (.clo f caps))) (ha : ArgsL fb fw ow bx0 ow0 (evA tm) xs args) (hx : LentX fb fw bx bx0) (hw : LentW fw ow ow0) (hl : (bx0.all fun p => p.2.all fun x => x.live bx0 ow0) = true) (hB : lendB fb fw bx bx0 bx1 ow ow0 ow1 = true)
    (hkp : ∀ i, kp i = true → Nat.ble 2000 i = true ∧ ∃ o0 o1, get ow0 i = some o0 ∧ get ow1 i = some o1 ∧ o1.rows.length = o0.rows.length)
    (h : SOps P N ops Q rest ⟨(d, r.ren fb fw) :: tm.map (fun p => (p.1, p.2.clr (chgOf fw kp ow0))), bxAft fb fw (chgOf fw kp ow0) bx1 bx, owAft fw ow0 ow1 ow⟩) : SOps P N ops Q (o :: rest) ⟨tm, bx, ow⟩ := by
  have hL := lend_of (kp := kp) hx hw hl hB hkp
  refine .mk fun C a w ⟨m, g, hr⟩ => ?_
  obtain ⟨h1, h2⟩ := ha.ok hL hr.env (a := a) (fun x _ y hy => hr.ev hy)
  have h0 : TR m (.clo f caps) (a.eval xz) := hr.ev hz
  generalize hvz : a.eval xz = vz at h0
  cases h0 with
  | clo f caps vs hvl hvc =>
    have hrun : (execOp a.eval o).run P w = .ok (.enter f ((xs.map a.eval).toArray ++ vs)) w := by
      have := hc.ent ((xs.map a.eval).toArray ++ vs) w
      simp only [execOp, ho, resolve, Deferred.ofValue, hvz, invoke, Sem.run_bind, Sem.run_pure, Result.andThen_ok, List.map_toArray, Array.append_empty, Array.empty_append] at this ⊢
      simpa using this
    refine wpList_step fun K hK => ?_
    rw [if_pos (hg.wanted (m := m) (g := g) fun j want e _ _ y hy => hr.tmps e y hy)]
    refine wp_call_of hrun (hc.run m w _ _ (hL.env_in hr.env) (by simp [h1, hvl]) (fun i x v h3 h4 => ?_)) ?_
    · rw [List.getElem?_append] at h3
      rw [Array.getElem?_append] at h4
      by_cases hi : i < args.length
      · rw [if_pos hi] at h3
        rw [if_pos (by simp; omega)] at h4
        exact h2 i x v h3 (by simpa using h4)
      · rw [if_neg hi] at h3
        rw [if_neg (by simp; omega)] at h4
        rw [List.getElem?_map] at h3
        cases hc' : caps[i - args.length]? with
        | none => rw [hc'] at h3; cases h3
        | some t =>
          rw [hc'] at h3; injection h3 with h3; subst h3
          exact hvc (i - args.length) t v hc' (by rw [← h1]; simpa using h4)
    rintro e w' ⟨v, m', g', rfl, henv, hv⟩
    obtain ⟨g'', e1, e2, e3⟩ := hL.env_out hr.env henv
    refine ⟨v, rfl, hK _ _ (h.go C _ _ ⟨m', g'', ?_⟩)⟩
    rw [hd]
    have hrel : RelG C N ⟨tm.map (fun p => (p.1, p.2.clr (chgOf fw kp ow0))), bxAft fb fw (chgOf fw kp ow0) bx1 bx, owAft fw ow0 ow1 ow⟩ a w' m' g'' := ⟨e1, hr.size, hr.defers, fun s x hx => by
      rw [show get (tm.map fun p => (p.1, p.2.clr (chgOf fw kp ow0))) s = _ from get_mapv _ _ _] at hx
      cases h5 : get tm s with
      | none => rw [h5] at hx; cases hx
      | some y => rw [h5] at hx; injection hx with hx; subst hx; exact e2 y _ (hr.tmps s y h5)⟩
    exact hrel.put e1 (fun x v h => h) (Nat.lt_of_succ_le (Nat.le_of_ble_eq_true hN)) (e3 r v hv)
end
end Go.Proofs.YtlcecabfmemfeaaGreat.Sim

/- A logic of states: is a slice nil; an empty row of the call's own, under any number. -/
namespace Go.Proofs.YtlcecabfmemfeaaGreat.Sim
set_option linter.unusedVariables false
set_option linter.unusedSimpArgs false
open Go.RowKit Mem
section
variable {P : Program} {N : Nat} {Q : Exit → St → Prop} {ops : Array Oper} {rest : List Oper} {o : Oper} {tm : List (Nat × A)} {bx : List (Nat × List A)} {ow : List (Nat × Own)}
theorem sops_isnil {t t2 sz d : Nat} {x : Operand} {y : A} {rows : List (List T)} (hg : GuardIs ops tm o true) (ho : o.op = .binOp .eql t x (.const (.slice none 0 0)) t2) (hd : o.dst = some d) (hN : Nat.blt d N = true) (hx : evA tm x = some y) (hv : Vw ow y (.sl sz rows)) (hT : sliceSz P t = some sz)
    (h : ∀ b, (b = true → rows = []) → SOps P N ops Q rest ⟨(d, .t (.v (.bool b))) :: tm, bx, ow⟩) : SOps P N ops Q (o :: rest) ⟨tm, bx, ow⟩ := by
  refine .mk fun C a w ⟨m, g, hr⟩ => ?_
  have hvt : TR m (.sl sz rows) (a.eval x) := hv.ok hr.env (hr.ev hx)
  obtain ⟨e, ii, hu, _⟩ := sliceSz_spec hT
  generalize hvx : a.eval x = v at hvt
  cases hvt with
  | sl _ _ A0 b off cap u hc hm hA hrl hu' ht =>
    have hrun : (execOp a.eval o).run P w = .ok (.value (.bool A0.isNone)) w := by
      have := Lib.run_eql_slice_nil (P := P) w t e A0 rows.length cap 0 0 hu
      have hc0 : a.eval (.const (.slice none 0 0)) = .slice none 0 0 := rfl
      have hgd : (eqGuard .eql t x (.const (.slice none 0 0)) (.slice A0 rows.length cap) (.slice none 0 0)).run P w = .ok () w := by simp [eqGuard]
      simp only [execOp, ho, hvx, hc0, Sem.run_bind, Sem.run_pure, Result.andThen_ok, this, hgd]
    have hb : A0.isNone = true → rows = [] := fun hn => by
      cases rows with
      | nil => rfl
      | cons r rs => rw [hA (by simp)] at hn; cases hn
    refine wpList_step fun K hK => ?_
    rw [if_pos (hg.wanted (m := m) (g := g) fun j want e _ _ y hy => hr.tmps e y hy)]
    refine wp_of_run hrun (hK _ _ ((h A0.isNone hb).go C _ _ ⟨m, g, ?_⟩))
    rw [hd]
    exact hr.put hr.env (fun x v h => h) (Nat.lt_of_succ_le (Nat.le_of_ble_eq_true hN)) (TR.v _)
theorem swp_ret_weak {st st' : St} (hw : Weak N st st') (h : Q .ret st') : SWp P N .ret Q st := .mk fun C a w hr => wp_ret ⟨st', hw.go C a w hr, h⟩
/-- a literal of none: a row of the call's own, under a number -/
theorem sops_build0i (i : Nat) {t e sz by_ d : Nat} (hg : GuardIs ops tm o true) (ho : o.op = .buildSlice t 0 #[]) (hd : o.dst = some d) (hN : Nat.blt d N = true) (hT : sliceE P t = some (e, sz, by_)) (hi : get ow i = none)
    (h : SOps P N ops Q rest ⟨(d, .own i 0) :: tm, bx, (i, ⟨e, sz, []⟩) :: ow⟩) (hp : Nat.ble 2000 i = false := by rfl) : SOps P N ops Q (o :: rest) ⟨tm, bx, ow⟩ := by
  refine sops_run hg (fun C a w m g hr => ?_) h
  have he := hr.env
  obtain ⟨i', zv, hu, hi', _⟩ := sliceE_spec hT
  have hlw : g.lw i = false := by rw [he.lw, hi]; rfl
  refine ⟨.slice (some ⟨w.heap.size, 0, none⟩) 0 0, w.alloc (.cells #[] e), ?_, ?_⟩
  · simp [execOp, ho, Instr.buildSlice, run_underlying hu, sizeOf, typeInfo, hi', Instr.fill, newRow]
    congr 2
    exact Array.eq_empty_of_size_eq_zero (by simp)
  · obtain ⟨h8, h9⟩ := he.setO (hp := hp) (w' := w.alloc (.cells #[] e)) (i := i) (v := .slice (some ⟨w.heap.size, 0, none⟩) 0 0) (e := e) (sz := sz) (rows := []) (vs := []) (World.ownsRow_made w #[] 0 (Nat.zero_le _) (Nat.zero_le _) (by simp)) (fun r h => by cases h) ⟨rfl, fun j t v h => by simp at h⟩ (.inr hi) (.inr ⟨fun b hb => by injection hb with hb; subst hb; exact Nat.le_refl _, (Lo.refl w).alloc _⟩)
    rw [hd]
    exact ⟨_, _, hr.put h8 (fun x u h => h.setO h9 (.inl hlw)) (Nat.lt_of_succ_le (Nat.le_of_ble_eq_true hN)) ⟨by simp [Gh.setO], by simp [Gh.setO], ⟨_, _, rfl⟩, fun _ => by simp [Gh.setO]⟩⟩
end
end Go.Proofs.YtlcecabfmemfeaaGreat.Sim

/- The program's types: cells, fields, elements. (Printed by mk_tab.py.) -/

namespace Go.Proofs.YtlcecabfmemfeaaGreat.Sim
open Go.RowKit Mem
set_option linter.unusedVariables false
set_option maxRecDepth 100000
def tabT : List (Nat × Bool × Nat) := [(1, false, 1), (2, false, 1), (3, false, 1), (4, false, 1), (5, false, 1), (6, false, 1), (7, true, 4), (8, true, 4), (9, false, 1), (10, false, 1), (11, false, 1), (12, false, 1), (13, true, 2), (14, true, 2), (15, false, 1), (16, false, 1), (17, false, 1), (18, true, 1), (19, true, 1), (21, false, 1), (22, false, 1), (23, true, 2), (24, true, 2), (25, true, 2), (26, true, 2), (27, false, 1), (28, true, 3), (29, true, 3), (30, false, 1), (31, false, 1), (32, true, 7), (33, true, 7), (34, false, 1), (35, false, 1), (36, false, 1), (38, false, 1), (39, false, 1), (40, false, 1), (41, false, 1), (42, false, 1), (43, false, 1), (44, false, 1), (45, true, 3), (46, true, 3), (47, false, 1), (48, false, 1), (49, true, 5), (50, true, 5), (51, false, 1), (52, false, 1), (53, false, 1), (54, false, 1), (55, false, 1), (56, false, 1), (57, false, 1), (58, false, 1), (59, false, 1), (60, false, 1), (61, false, 1), (62, false, 1), (63, false, 1), (64, false, 1), (65, false, 1), (66, false, 1), (67, false, 1), (68, false, 1), (69, false, 1), (70, false, 1), (71, false, 1), (72, false, 1), (73, false, 1), (74, false, 1), (75, false, 1), (76, false, 1), (77, true, 3), (78, true, 3), (79, true, 4), (80, true, 4), (81, true, 2), (82, true, 2), (83, false, 1), (84, false, 1), (85, false, 1), (86, false, 1), (87, false, 1), (88, false, 1), (89, true, 2), (90, true, 2), (92, false, 1), (93, true, 2), (94, true, 2), (95, false, 1), (96, false, 1), (97, false, 1), (98, false, 1), (99, false, 1), (100, false, 1), (101, false, 1), (102, false, 1), (103, true, 2), (104, true, 2), (105, false, 1), (106, false, 1), (107, false, 1), (108, false, 1), (109, false, 1), (110, false, 1), (111, false, 1), (112, false, 1), (113, false, 1), (114, false, 1), (115, false, 1), (116, false, 1), (117, false, 1), (118, false, 1), (119, false, 1), (120, false, 1), (121, false, 1), (122, false, 1), (123, false, 1), (125, false, 1), (126, false, 1), (127, false, 1), (128, false, 1), (129, false, 1), (130, false, 1), (131, false, 1), (132, false, 1), (133, false, 1), (134, false, 1), (135, false, 1), (136, false, 1), (137, false, 1), (138, false, 1), (139, false, 1), (140, false, 1), (141, false, 1), (142, false, 1), (143, false, 1), (144, false, 1), (145, false, 1), (146, false, 1), (147, false, 1), (148, false, 1), (149, false, 1), (150, false, 1), (151, false, 1), (152, false, 1), (153, false, 1), (154, false, 1), (155, false, 1), (156, true, 3), (157, true, 3), (158, true, 15), (159, false, 1), (160, false, 1), (161, true, 4), (162, true, 4), (163, true, 0), (164, true, 0), (165, true, 0), (166, false, 1), (167, false, 1), (168, false, 1), (169, false, 1), (170, false, 1), (171, false, 1), (172, false, 1), (173, true, 11), (174, true, 11), (175, false, 1)]
def tabS : List (Nat × Nat) := [(22, 5), (30, 2), (31, 1), (42, 3), (43, 4), (44, 2), (48, 3), (69, 1), (70, 1), (75, 2), (76, 2), (101, 1), (132, 1)]
def tabR : List Nat := [9, 10, 11]
def tabK : List (Nat × IntKind) := [(2, .i64), (3, .i64), (5, .u8), (6, .u8), (12, .u64), (21, .i32), (27, .u32), (36, .u64), (123, .i64), (167, .u8), (168, .u8), (171, .i32), (172, .i32)]
def tabF : List (Nat × Nat × Nat) := [(7, 0, 0), (7, 1, 1), (7, 2, 2), (7, 3, 3), (8, 0, 0), (8, 1, 1), (8, 2, 2), (8, 3, 3), (13, 0, 0), (13, 1, 1), (14, 0, 0), (14, 1, 1), (18, 0, 0), (19, 0, 0), (23, 0, 0), (23, 1, 1), (24, 0, 0), (24, 1, 1), (25, 0, 0), (25, 1, 1), (26, 0, 0), (26, 1, 1), (28, 0, 0), (28, 1, 2), (29, 0, 0), (29, 1, 2), (32, 0, 0), (32, 1, 1), (32, 2, 2), (32, 3, 3), (32, 4, 4), (32, 5, 5), (32, 6, 6), (33, 0, 0), (33, 1, 1), (33, 2, 2), (33, 3, 3), (33, 4, 4), (33, 5, 5), (33, 6, 6), (45, 0, 0), (45, 1, 1), (45, 2, 2), (46, 0, 0), (46, 1, 1), (46, 2, 2), (49, 0, 0), (49, 1, 1), (49, 2, 2), (49, 3, 3), (49, 4, 4), (50, 0, 0), (50, 1, 1), (50, 2, 2), (50, 3, 3), (50, 4, 4), (77, 0, 0), (77, 1, 1), (77, 2, 2), (78, 0, 0), (78, 1, 1), (78, 2, 2), (79, 0, 0), (79, 1, 1), (79, 2, 2), (79, 3, 3), (80, 0, 0), (80, 1, 1), (80, 2, 2), (80, 3, 3), (81, 0, 0), (81, 1, 1), (82, 0, 0), (82, 1, 1), (89, 0, 0), (89, 1, 1), (90, 0, 0), (90, 1, 1), (93, 0, 0), (93, 1, 1), (94, 0, 0), (94, 1, 1), (103, 0, 0), (103, 1, 1), (104, 0, 0), (104, 1, 1), (156, 0, 0), (156, 1, 1), (156, 2, 2), (157, 0, 0), (157, 1, 1), (157, 2, 2), (161, 0, 0), (161, 1, 1), (161, 2, 2), (161, 3, 3), (162, 0, 0), (162, 1, 1), (162, 2, 2), (162, 3, 3), (173, 0, 0), (173, 1, 1), (173, 2, 2), (173, 3, 3), (173, 4, 4), (173, 5, 5), (173, 6, 6), (173, 7, 7), (173, 8, 8), (173, 9, 9), (173, 10, 10), (174, 0, 0), (174, 1, 1), (174, 2, 2), (174, 3, 3), (174, 4, 4), (174, 5, 5), (174, 6, 6), (174, 7, 7), (174, 8, 8), (174, 9, 9), (174, 10, 10)]
def tabE : List (Nat × Nat × Nat × Nat) := [(22, 50, 5, 64), (30, 94, 2, 32), (31, 5, 1, 1), (42, 78, 3, 72), (43, 80, 4, 96), (44, 82, 2, 40), (48, 46, 3, 72), (69, 70, 1, 24), (70, 3, 1, 8), (75, 90, 2, 24), (76, 104, 2, 16), (101, 75, 1, 24), (132, 9, 1, 16)]
def allB {α : Type} (p : α → Bool) : List α → Bool
  | [] => true
  | x :: r => p x && allB p r
theorem allB_mem {α : Type} {p : α → Bool} : ∀ {l : List α}, allB p l = true → ∀ x ∈ l, p x = true
  | [], _, x, h => by cases h
  | y :: r, h, x, hx => by
    simp only [allB, Bool.and_eq_true] at h
    rcases List.mem_cons.1 hx with rfl | hx
    · exact h.1
    · exact allB_mem h.2 x hx
def lk {β : Type} : List (Nat × β) → Nat → Option β
  | [], _ => none
  | (a, b) :: r, n => bif Nat.beq a n then some b else lk r n
theorem lk_mem {β : Type} : ∀ {l : List (Nat × β)} {n : Nat} {b : β}, lk l n = some b → (n, b) ∈ l
  | [], n, b, h => by cases h
  | (a, b') :: r, n, b, h => by
    unfold lk at h
    cases hb : Nat.beq a n with
    | true => rw [hb] at h; injection h with h; subst h; rw [Nat.eq_of_beq_eq_true hb]; exact List.mem_cons_self
    | false => rw [hb] at h; exact List.mem_cons_of_mem _ (lk_mem h)
def lk2 {β : Type} : List (Nat × Nat × β) → Nat → Nat → Option β
  | [], _, _ => none
  | (a, c, b) :: r, n, k => bif Nat.beq a n then (bif Nat.beq c k then some b else lk2 r n k) else lk2 r n k
theorem lk2_mem {β : Type} : ∀ {l : List (Nat × Nat × β)} {n k : Nat} {b : β}, lk2 l n k = some b → (n, k, b) ∈ l
  | [], n, k, b, h => by cases h
  | (a, c, b') :: r, n, k, b, h => by
    unfold lk2 at h
    cases hb : Nat.beq a n with
    | true =>
      rw [hb] at h
      cases hc : Nat.beq c k with
      | true => rw [hc] at h; injection h with h; subst h; rw [Nat.eq_of_beq_eq_true hb, Nat.eq_of_beq_eq_true hc]; exact List.mem_cons_self
      | false => rw [hc] at h; exact List.mem_cons_of_mem _ (lk2_mem h)
    | false => rw [hb] at h; exact List.mem_cons_of_mem _ (lk2_mem h)
def memB : List Nat → Nat → Bool
  | [], _ => false
  | a :: r, n => Nat.beq a n || memB r n
theorem memB_mem : ∀ {l : List Nat} {n : Nat}, memB l n = true → n ∈ l
  | [], n, h => by cases h
  | a :: r, n, h => by
    simp only [memB, Bool.or_eq_true] at h
    rcases h with h | h
    · rw [Nat.eq_of_beq_eq_true h]; exact List.mem_cons_self
    · exact List.mem_cons_of_mem _ (memB_mem h)
theorem okT : allB (fun x => decide (tyI Tryz.prog x.1 = some x.2)) tabT = true := by kernel_rfl
theorem okS : allB (fun x => decide (sliceSz Tryz.prog x.1 = some x.2)) tabS = true := by kernel_rfl
theorem okR : allB (fun x => isStr Tryz.prog x) tabR = true := by kernel_rfl
theorem okK : allB (fun x => decide (intK Tryz.prog x.1 = some x.2)) tabK = true := by kernel_rfl
theorem okF : allB (fun x => decide (fieldOff Tryz.prog x.1 x.2.1 = some x.2.2)) tabF = true := by kernel_rfl
theorem okE : allB (fun x => decide (sliceE Tryz.prog x.1 = some x.2)) tabE = true := by kernel_rfl
theorem tyE {t : Nat} {x : Nat × Nat × Nat} (h : lk tabE t = some x) : sliceE Tryz.prog t = some x := of_decide_eq_true (allB_mem okE _ (lk_mem h))
theorem str7 : strI Tryz.prog 7 = some ([(0, 1), (1, 1), (2, 1), (3, 1)], [.int .i64 0, .int .i64 0, .bool false, .int .u8 0]) := by kernel_rfl
theorem str8 : strI Tryz.prog 8 = some ([(0, 1), (1, 1), (2, 1), (3, 1)], [.int .i64 0, .int .i64 0, .bool false, .int .u8 0]) := by kernel_rfl
theorem str13 : strI Tryz.prog 13 = some ([(0, 1), (1, 1)], [.string ⟨#[]⟩, .int .u64 0]) := by kernel_rfl
theorem str14 : strI Tryz.prog 14 = some ([(0, 1), (1, 1)], [.string ⟨#[]⟩, .int .u64 0]) := by kernel_rfl
theorem str18 : strI Tryz.prog 18 = some ([(0, 1)], [.pointer none]) := by kernel_rfl
theorem str19 : strI Tryz.prog 19 = some ([(0, 1)], [.pointer none]) := by kernel_rfl
theorem str23 : strI Tryz.prog 23 = some ([(0, 1), (1, 1)], [.slice none 0 0, .int .i64 0]) := by kernel_rfl
theorem str24 : strI Tryz.prog 24 = some ([(0, 1), (1, 1)], [.slice none 0 0, .int .i64 0]) := by kernel_rfl
theorem str25 : strI Tryz.prog 25 = some ([(0, 1), (1, 1)], [.string ⟨#[]⟩, .string ⟨#[]⟩]) := by kernel_rfl
theorem str26 : strI Tryz.prog 26 = some ([(0, 1), (1, 1)], [.string ⟨#[]⟩, .string ⟨#[]⟩]) := by kernel_rfl
theorem str28 : strI Tryz.prog 28 = some ([(0, 2), (2, 1)], [.string ⟨#[]⟩, .string ⟨#[]⟩, .int .u32 0]) := by kernel_rfl
theorem str29 : strI Tryz.prog 29 = some ([(0, 2), (2, 1)], [.string ⟨#[]⟩, .string ⟨#[]⟩, .int .u32 0]) := by kernel_rfl
theorem str32 : strI Tryz.prog 32 = some ([(0, 1), (1, 1), (2, 1), (3, 1), (4, 1), (5, 1), (6, 1)], [.string ⟨#[]⟩, .string ⟨#[]⟩, .string ⟨#[]⟩, .string ⟨#[]⟩, .string ⟨#[]⟩, .slice none 0 0, .slice none 0 0]) := by kernel_rfl
theorem str33 : strI Tryz.prog 33 = some ([(0, 1), (1, 1), (2, 1), (3, 1), (4, 1), (5, 1), (6, 1)], [.string ⟨#[]⟩, .string ⟨#[]⟩, .string ⟨#[]⟩, .string ⟨#[]⟩, .string ⟨#[]⟩, .slice none 0 0, .slice none 0 0]) := by kernel_rfl
theorem str45 : strI Tryz.prog 45 = some ([(0, 1), (1, 1), (2, 1)], [.slice none 0 0, .slice none 0 0, .slice none 0 0]) := by kernel_rfl
theorem str46 : strI Tryz.prog 46 = some ([(0, 1), (1, 1), (2, 1)], [.slice none 0 0, .slice none 0 0, .slice none 0 0]) := by kernel_rfl
theorem str49 : strI Tryz.prog 49 = some ([(0, 1), (1, 1), (2, 1), (3, 1), (4, 1)], [.int .u64 0, .string ⟨#[]⟩, .int .u64 0, .int .i64 0, .slice none 0 0]) := by kernel_rfl
theorem str50 : strI Tryz.prog 50 = some ([(0, 1), (1, 1), (2, 1), (3, 1), (4, 1)], [.int .u64 0, .string ⟨#[]⟩, .int .u64 0, .int .i64 0, .slice none 0 0]) := by kernel_rfl
theorem str77 : strI Tryz.prog 77 = some ([(0, 1), (1, 1), (2, 1)], [.slice none 0 0, .slice none 0 0, .slice none 0 0]) := by kernel_rfl
theorem str78 : strI Tryz.prog 78 = some ([(0, 1), (1, 1), (2, 1)], [.slice none 0 0, .slice none 0 0, .slice none 0 0]) := by kernel_rfl
theorem str79 : strI Tryz.prog 79 = some ([(0, 1), (1, 1), (2, 1), (3, 1)], [.slice none 0 0, .slice none 0 0, .slice none 0 0, .slice none 0 0]) := by kernel_rfl
theorem str80 : strI Tryz.prog 80 = some ([(0, 1), (1, 1), (2, 1), (3, 1)], [.slice none 0 0, .slice none 0 0, .slice none 0 0, .slice none 0 0]) := by kernel_rfl
theorem str81 : strI Tryz.prog 81 = some ([(0, 1), (1, 1)], [.string ⟨#[]⟩, .slice none 0 0]) := by kernel_rfl
theorem str82 : strI Tryz.prog 82 = some ([(0, 1), (1, 1)], [.string ⟨#[]⟩, .slice none 0 0]) := by kernel_rfl
theorem str89 : strI Tryz.prog 89 = some ([(0, 1), (1, 1)], [.int .i64 0, .string ⟨#[]⟩]) := by kernel_rfl
theorem str90 : strI Tryz.prog 90 = some ([(0, 1), (1, 1)], [.int .i64 0, .string ⟨#[]⟩]) := by kernel_rfl
theorem str93 : strI Tryz.prog 93 = some ([(0, 1), (1, 1)], [.string ⟨#[]⟩, .string ⟨#[]⟩]) := by kernel_rfl
theorem str94 : strI Tryz.prog 94 = some ([(0, 1), (1, 1)], [.string ⟨#[]⟩, .string ⟨#[]⟩]) := by kernel_rfl
theorem str103 : strI Tryz.prog 103 = some ([(0, 1), (1, 1)], [.int .u32 0, .int .i64 0]) := by kernel_rfl
theorem str104 : strI Tryz.prog 104 = some ([(0, 1), (1, 1)], [.int .u32 0, .int .i64 0]) := by kernel_rfl
theorem str156 : strI Tryz.prog 156 = some ([(0, 1), (1, 1), (2, 1)], [.nilFunc, .string ⟨#[]⟩, .string ⟨#[]⟩]) := by kernel_rfl
theorem str157 : strI Tryz.prog 157 = some ([(0, 1), (1, 1), (2, 1)], [.nilFunc, .string ⟨#[]⟩, .string ⟨#[]⟩]) := by kernel_rfl
theorem str161 : strI Tryz.prog 161 = some ([(0, 1), (1, 1), (2, 1), (3, 1)], [.pointer none, .pointer none, .pointer none, .string ⟨#[]⟩]) := by kernel_rfl
theorem str162 : strI Tryz.prog 162 = some ([(0, 1), (1, 1), (2, 1), (3, 1)], [.pointer none, .pointer none, .pointer none, .string ⟨#[]⟩]) := by kernel_rfl
theorem str164 : strI Tryz.prog 164 = some ([(0, 0)], []) := by kernel_rfl
theorem str165 : strI Tryz.prog 165 = some ([(0, 0)], []) := by kernel_rfl
theorem str173 : strI Tryz.prog 173 = some ([(0, 1), (1, 1), (2, 1), (3, 1), (4, 1), (5, 1), (6, 1), (7, 1), (8, 1), (9, 1), (10, 1)], [.int .u64 0, .int .u64 0, .int .u32 0, .int .u8 0, .int .u8 0, .int .u8 0, .int .u8 0, .nilFunc, .pointer none, .int .i32 0, .int .i32 0]) := by kernel_rfl
theorem str174 : strI Tryz.prog 174 = some ([(0, 1), (1, 1), (2, 1), (3, 1), (4, 1), (5, 1), (6, 1), (7, 1), (8, 1), (9, 1), (10, 1)], [.int .u64 0, .int .u64 0, .int .u32 0, .int .u8 0, .int .u8 0, .int .u8 0, .int .u8 0, .nilFunc, .pointer none, .int .i32 0, .int .i32 0]) := by kernel_rfl
theorem tyT {t : Nat} {x : Bool × Nat} (h : lk tabT t = some x) : tyI Tryz.prog t = some x := of_decide_eq_true (allB_mem okT _ (lk_mem h))
theorem tyS {t n : Nat} (h : lk tabS t = some n) : sliceSz Tryz.prog t = some n := of_decide_eq_true (allB_mem okS _ (lk_mem h))
theorem tyR {t : Nat} (h : memB tabR t = true) : isStr Tryz.prog t = true := allB_mem okR _ (memB_mem h)
theorem tyK {t : Nat} {k : IntKind} (h : lk tabK t = some k) : intK Tryz.prog t = some k := of_decide_eq_true (allB_mem okK _ (lk_mem h))
theorem tyF {t f k : Nat} (h : lk2 tabF t f = some k) : fieldOff Tryz.prog t f = some k := of_decide_eq_true (allB_mem okF _ (lk2_mem h))
theorem mixed : Tryz.prog.follows .mixedOrders = true := by kernel_rfl
end Go.Proofs.YtlcecabfmemfeaaGreat.Sim

/- Policies as data: from memory to data, and back. (Printed by mk_simpol.py.) -/
namespace Go.Proofs.YtlcecabfmemfeaaGreat.Pol
set_option linter.unusedVariables false
set_option linter.unusedSimpArgs false
open Go.RowKit Mem Sim Opn
theorem cellsAre_nil (m : Mm) : CellsAre m [] [] := ⟨rfl, fun j t v h => by simp at h⟩
theorem cellsAre_cons {m : Mm} {t : T} {v : Value} {ts : List T} {vs : List Value} (h : TR m t v) (h1 : v.oneCell' = true) (hs : CellsAre m ts vs) : CellsAre m (t :: ts) (v :: vs) := by
  refine ⟨by simp [hs.1], fun j t' v' h2 h3 => ?_⟩
  cases j with
  | zero => simp at h2 h3; subst h2 h3; exact ⟨h, h1⟩
  | succ j => exact hs.2 j t' v' (by simpa using h2) (by simpa using h3)
theorem cellsAre_inv {m : Mm} {t : T} {ts : List T} {us : List Value} (h : CellsAre m (t :: ts) us) : ∃ u us', us = u :: us' ∧ TR m t u ∧ CellsAre m ts us' := by
  cases us with
  | nil => have := h.1; simp at this
  | cons u us' => exact ⟨u, us', rfl, (h.2 0 t u rfl rfl).1, by have := h.1; simpa using this, fun j t' v' h2 h3 => h.2 (j + 1) t' v' (by simpa using h2) (by simpa using h3)⟩
theorem cellsAre_inv0 {m : Mm} {us : List Value} (h : CellsAre m [] us) : us = [] := List.eq_nil_of_length_eq_zero h.1
/-- a slice's cell -/
theorem sl_bwd {α : Type} {R : Mem.Rel α} {enc : α → List T} {sz B : Nat} {w : World} {xs : List α} {c : Value} (hsz : ∀ x, (enc x).length = sz) (hR : ∀ x cs, R B w x cs → CellsAre (allm w) (enc x) cs) (h : SliceC R sz B w xs [c]) : TR (allm w) (.sl sz (xs.map enc)) c ∧ c.oneCell' = true := by
  obtain ⟨A, cap, e, hA, h1, h2⟩ := h
  injection e with e; subst e
  exact ⟨tr_rows_bwd (allm w) hA h1 h2 hsz (fun x _ cs hr => hR x cs hr) (fun b o v _ h => h), rfl⟩
theorem sl_fwd {α : Type} {R : Mem.Rel α} {enc : α → List T} {sz : Nat} {m : Mm} {w : World} {xs : List α} {c : Value} {ok : α → Prop} (hs : Sub m w) (h0 : 0 < sz) (hR : ∀ x us, ok x → CellsAre m (enc x) us → R w.heap.size w x us) (hok : ∀ x ∈ xs, ok x) (h : TR m (.sl sz (xs.map enc)) c) : SliceC R sz w.heap.size w xs [c] := by
  obtain ⟨A, cap, rfl, hA, h1, h2⟩ := tr_rows_fwd (R := R) hs h0 h fun x hx us hc => hR x us (hok x hx) hc
  exact ⟨A, cap, rfl, hA, h1, h2⟩
theorem sl_ok {α : Type} {R : Mem.Rel α} {sz B : Nat} {w : World} {xs : List α} {cs : List Value} {ok : α → Prop} (hR : ∀ B w x cs, R B w x cs → ok x) (h : SliceC R sz B w xs cs) : ∀ x ∈ xs, ok x := fun x hx => by
  obtain ⟨A, cap, e, hA, h1, h2⟩ := h
  obtain ⟨k, hk⟩ := List.getElem?_of_mem hx
  obtain ⟨b, off, cs, _, _, _, _, hr⟩ := hA k x hk
  exact hR _ _ _ _ hr
theorem int_bwd {k : IntKind} {B : Nat} {w : World} {n : Int} {c : Value} (h : IntC k B w n [c]) : TR (allm w) (.v (.int k n)) c ∧ c.oneCell' = true := by
  obtain ⟨e, _⟩ := h; injection e with e; subst e; exact ⟨.v _, rfl⟩
theorem str_bwd {B : Nat} {w : World} {s : ByteArray} {c : Value} (h : StrC B w s [c]) : TR (allm w) (.v (.string s)) c ∧ c.oneCell' = true := by
  obtain ⟨e, _⟩ := h; injection e with e; subst e; exact ⟨.v _, rfl⟩
theorem int_fwd {k : IntKind} {m : Mm} {w : World} {n : Int} {c : Value} (hw : (Lit.int k n).wf = true) (h : TR m (.v (.int k n)) c) : IntC k w.heap.size w n [c] := ⟨by rw [tr_v h], hw⟩
theorem str_fwd {m : Mm} {w : World} {s : ByteArray} {c : Value} (hw : s.size ≤ maxLen) (h : TR m (.v (.string s)) c) : StrC w.heap.size w s [c] := ⟨by rw [tr_v h], hw⟩
def termT (t : Pl.Term) : List T := [.v (.int .i64 t.k), .v (.string t.s)]
def intT (n : Int) : List T := [.v (.int .i64 n)]
def okTerm (t : Pl.Term) : Prop := t.s.size ≤ maxLen
def okInt (n : Int) : Prop := (Lit.int .i64 n).wf = true
theorem term_bwd {B : Nat} {w : World} (x : Pl.Term) (cs : List Value) (h : WMatch.TermR B w x cs) : CellsAre (allm w) (termT x) cs := by
  obtain ⟨rfl, _⟩ := h
  exact cellsAre_cons (.v _) rfl (cellsAre_cons (.v _) rfl (cellsAre_nil _))
theorem term_fwd {m : Mm} {w : World} (_ : Sub m w) (x : Pl.Term) (us : List Value) (hok : okTerm x) (h : CellsAre m (termT x) us) : WMatch.TermR w.heap.size w x us := by
  obtain ⟨u0, us, rfl, h0, h⟩ := cellsAre_inv h
  obtain ⟨u1, us, rfl, h1, h⟩ := cellsAre_inv h
  obtain rfl := cellsAre_inv0 h
  rw [tr_v h0, tr_v h1]
  exact ⟨rfl, hok⟩
theorem term_ok (B : Nat) (w : World) (x : Pl.Term) (cs : List Value) (h : WMatch.TermR B w x cs) : okTerm x := h.2
theorem int_bwd' {B : Nat} {w : World} (x : Int) (cs : List Value) (h : IntC .i64 B w x cs) : CellsAre (allm w) (intT x) cs := by
  obtain ⟨rfl, _⟩ := h
  exact cellsAre_cons (.v _) rfl (cellsAre_nil _)
theorem int_fwd' {m : Mm} {w : World} (_ : Sub m w) (x : Int) (us : List Value) (hok : okInt x) (h : CellsAre m (intT x) us) : IntC .i64 w.heap.size w x us := by
  obtain ⟨u0, us, rfl, h0, h⟩ := cellsAre_inv h
  obtain rfl := cellsAre_inv0 h
  rw [tr_v h0]; exact ⟨rfl, hok⟩
theorem int_ok' (B : Nat) (w : World) (x : Int) (cs : List Value) (h : IntC .i64 B w x cs) : okInt x := h.2
def cidrT (x : Pl.Cidr) : List T := [.v (.int .u32 x.addr), .v (.int .i64 x.bits)]
def okCidr (x : Pl.Cidr) : Prop := (Lit.int .u32 x.addr).wf = true ∧ (Lit.int .i64 x.bits).wf = true
theorem cidr_bwd {B : Nat} {w : World} (x : Pl.Cidr) (cs : List Value) (h : CidrR B w x cs) : CellsAre (allm w) (cidrT x) cs := by
  obtain ⟨c0, c1, rfl, h0, h1⟩ := h
  exact (cellsAre_cons (int_bwd h0).1 (int_bwd h0).2 (cellsAre_cons (int_bwd h1).1 (int_bwd h1).2 (cellsAre_nil _)))
theorem cidr_fwd {m : Mm} {w : World} (hs : Sub m w) (x : Pl.Cidr) (us : List Value) (hok : okCidr x) (h : CellsAre m (cidrT x) us) : CidrR w.heap.size w x us := by
  obtain ⟨k0, k1⟩ := hok
  obtain ⟨u0, us, rfl, h0, h⟩ := cellsAre_inv h
  obtain ⟨u1, us, rfl, h1, h⟩ := cellsAre_inv h
  obtain rfl := cellsAre_inv0 h
  exact ⟨u0, u1, rfl, int_fwd k0 h0, int_fwd k1 h1⟩
theorem cidr_ok (B : Nat) (w : World) (x : Pl.Cidr) (cs : List Value) (h : CidrR B w x cs) : okCidr x := by
  obtain ⟨c0, c1, _, h0, h1⟩ := h
  exact ⟨h0.2, h1.2⟩
def sourceT (x : Pl.Source) : List T := [.sl 2 (x.names.map termT), .sl 2 (x.spaces.map termT), .sl 2 (x.nets.map cidrT)]
def okSource (x : Pl.Source) : Prop := (∀ y ∈ x.names, okTerm y) ∧ (∀ y ∈ x.spaces, okTerm y) ∧ (∀ y ∈ x.nets, okCidr y)
theorem source_bwd {B : Nat} {w : World} (x : Pl.Source) (cs : List Value) (h : SourceR B w x cs) : CellsAre (allm w) (sourceT x) cs := by
  obtain ⟨c0, c1, c2, rfl, h0, h1, h2⟩ := h
  exact (cellsAre_cons (sl_bwd (sz := 2) (enc := termT) (fun _ => rfl) term_bwd h0).1 (sl_bwd (sz := 2) (enc := termT) (fun _ => rfl) term_bwd h0).2 (cellsAre_cons (sl_bwd (sz := 2) (enc := termT) (fun _ => rfl) term_bwd h1).1 (sl_bwd (sz := 2) (enc := termT) (fun _ => rfl) term_bwd h1).2 (cellsAre_cons (sl_bwd (sz := 2) (enc := cidrT) (fun _ => rfl) cidr_bwd h2).1 (sl_bwd (sz := 2) (enc := cidrT) (fun _ => rfl) cidr_bwd h2).2 (cellsAre_nil _))))
theorem source_fwd {m : Mm} {w : World} (hs : Sub m w) (x : Pl.Source) (us : List Value) (hok : okSource x) (h : CellsAre m (sourceT x) us) : SourceR w.heap.size w x us := by
  obtain ⟨k0, k1, k2⟩ := hok
  obtain ⟨u0, us, rfl, h0, h⟩ := cellsAre_inv h
  obtain ⟨u1, us, rfl, h1, h⟩ := cellsAre_inv h
  obtain ⟨u2, us, rfl, h2, h⟩ := cellsAre_inv h
  obtain rfl := cellsAre_inv0 h
  exact ⟨u0, u1, u2, rfl, sl_fwd hs (by omega) (term_fwd hs) k0 h0, sl_fwd hs (by omega) (term_fwd hs) k1 h1, sl_fwd hs (by omega) (cidr_fwd hs) k2 h2⟩
theorem source_ok (B : Nat) (w : World) (x : Pl.Source) (cs : List Value) (h : SourceR B w x cs) : okSource x := by
  obtain ⟨c0, c1, c2, _, h0, h1, h2⟩ := h
  exact ⟨sl_ok term_ok h0, sl_ok term_ok h1, sl_ok cidr_ok h2⟩
def targetT (x : Pl.Target) : List T := [.sl 1 (x.ports.map intT), .sl 2 (x.methods.map termT), .sl 2 (x.paths.map termT), .sl 2 (x.hosts.map termT)]
def okTarget (x : Pl.Target) : Prop := (∀ y ∈ x.ports, okInt y) ∧ (∀ y ∈ x.methods, okTerm y) ∧ (∀ y ∈ x.paths, okTerm y) ∧ (∀ y ∈ x.hosts, okTerm y)
theorem target_bwd {B : Nat} {w : World} (x : Pl.Target) (cs : List Value) (h : TargetR B w x cs) : CellsAre (allm w) (targetT x) cs := by
  obtain ⟨c0, c1, c2, c3, rfl, h0, h1, h2, h3⟩ := h
  exact (cellsAre_cons (sl_bwd (sz := 1) (enc := intT) (fun _ => rfl) int_bwd' h0).1 (sl_bwd (sz := 1) (enc := intT) (fun _ => rfl) int_bwd' h0).2 (cellsAre_cons (sl_bwd (sz := 2) (enc := termT) (fun _ => rfl) term_bwd h1).1 (sl_bwd (sz := 2) (enc := termT) (fun _ => rfl) term_bwd h1).2 (cellsAre_cons (sl_bwd (sz := 2) (enc := termT) (fun _ => rfl) term_bwd h2).1 (sl_bwd (sz := 2) (enc := termT) (fun _ => rfl) term_bwd h2).2 (cellsAre_cons (sl_bwd (sz := 2) (enc := termT) (fun _ => rfl) term_bwd h3).1 (sl_bwd (sz := 2) (enc := termT) (fun _ => rfl) term_bwd h3).2 (cellsAre_nil _)))))
theorem target_fwd {m : Mm} {w : World} (hs : Sub m w) (x : Pl.Target) (us : List Value) (hok : okTarget x) (h : CellsAre m (targetT x) us) : TargetR w.heap.size w x us := by
  obtain ⟨k0, k1, k2, k3⟩ := hok
  obtain ⟨u0, us, rfl, h0, h⟩ := cellsAre_inv h
  obtain ⟨u1, us, rfl, h1, h⟩ := cellsAre_inv h
  obtain ⟨u2, us, rfl, h2, h⟩ := cellsAre_inv h
  obtain ⟨u3, us, rfl, h3, h⟩ := cellsAre_inv h
  obtain rfl := cellsAre_inv0 h
  exact ⟨u0, u1, u2, u3, rfl, sl_fwd hs (by omega) (int_fwd' hs) k0 h0, sl_fwd hs (by omega) (term_fwd hs) k1 h1, sl_fwd hs (by omega) (term_fwd hs) k2 h2, sl_fwd hs (by omega) (term_fwd hs) k3 h3⟩
theorem target_ok (B : Nat) (w : World) (x : Pl.Target) (cs : List Value) (h : TargetR B w x cs) : okTarget x := by
  obtain ⟨c0, c1, c2, c3, _, h0, h1, h2, h3⟩ := h
  exact ⟨sl_ok int_ok' h0, sl_ok term_ok h1, sl_ok term_ok h2, sl_ok term_ok h3⟩
def whenT (x : Pl.When) : List T := [.v (.string x.head), .sl 2 (x.terms.map termT)]
def okWhen (x : Pl.When) : Prop := x.head.size ≤ maxLen ∧ (∀ y ∈ x.terms, okTerm y)
theorem when_bwd {B : Nat} {w : World} (x : Pl.When) (cs : List Value) (h : WhenR B w x cs) : CellsAre (allm w) (whenT x) cs := by
  obtain ⟨c0, c1, rfl, h0, h1⟩ := h
  exact (cellsAre_cons (str_bwd h0).1 (str_bwd h0).2 (cellsAre_cons (sl_bwd (sz := 2) (enc := termT) (fun _ => rfl) term_bwd h1).1 (sl_bwd (sz := 2) (enc := termT) (fun _ => rfl) term_bwd h1).2 (cellsAre_nil _)))
theorem when_fwd {m : Mm} {w : World} (hs : Sub m w) (x : Pl.When) (us : List Value) (hok : okWhen x) (h : CellsAre m (whenT x) us) : WhenR w.heap.size w x us := by
  obtain ⟨k0, k1⟩ := hok
  obtain ⟨u0, us, rfl, h0, h⟩ := cellsAre_inv h
  obtain ⟨u1, us, rfl, h1, h⟩ := cellsAre_inv h
  obtain rfl := cellsAre_inv0 h
  exact ⟨u0, u1, rfl, str_fwd k0 h0, sl_fwd hs (by omega) (term_fwd hs) k1 h1⟩
theorem when_ok (B : Nat) (w : World) (x : Pl.When) (cs : List Value) (h : WhenR B w x cs) : okWhen x := by
  obtain ⟨c0, c1, _, h0, h1⟩ := h
  exact ⟨h0.2, sl_ok term_ok h1⟩
def ruleT (x : Pl.Rule) : List T := [.sl 3 (x.from_.map sourceT), .sl 4 (x.to_.map targetT), .sl 2 (x.when_.map whenT)]
def okRule (x : Pl.Rule) : Prop := (∀ y ∈ x.from_, okSource y) ∧ (∀ y ∈ x.to_, okTarget y) ∧ (∀ y ∈ x.when_, okWhen y)
theorem rule_bwd {B : Nat} {w : World} (x : Pl.Rule) (cs : List Value) (h : RuleR B w x cs) : CellsAre (allm w) (ruleT x) cs := by
  obtain ⟨c0, c1, c2, rfl, h0, h1, h2⟩ := h
  exact (cellsAre_cons (sl_bwd (sz := 3) (enc := sourceT) (fun _ => rfl) source_bwd h0).1 (sl_bwd (sz := 3) (enc := sourceT) (fun _ => rfl) source_bwd h0).2 (cellsAre_cons (sl_bwd (sz := 4) (enc := targetT) (fun _ => rfl) target_bwd h1).1 (sl_bwd (sz := 4) (enc := targetT) (fun _ => rfl) target_bwd h1).2 (cellsAre_cons (sl_bwd (sz := 2) (enc := whenT) (fun _ => rfl) when_bwd h2).1 (sl_bwd (sz := 2) (enc := whenT) (fun _ => rfl) when_bwd h2).2 (cellsAre_nil _))))
theorem rule_fwd {m : Mm} {w : World} (hs : Sub m w) (x : Pl.Rule) (us : List Value) (hok : okRule x) (h : CellsAre m (ruleT x) us) : RuleR w.heap.size w x us := by
  obtain ⟨k0, k1, k2⟩ := hok
  obtain ⟨u0, us, rfl, h0, h⟩ := cellsAre_inv h
  obtain ⟨u1, us, rfl, h1, h⟩ := cellsAre_inv h
  obtain ⟨u2, us, rfl, h2, h⟩ := cellsAre_inv h
  obtain rfl := cellsAre_inv0 h
  exact ⟨u0, u1, u2, rfl, sl_fwd hs (by omega) (source_fwd hs) k0 h0, sl_fwd hs (by omega) (target_fwd hs) k1 h1, sl_fwd hs (by omega) (when_fwd hs) k2 h2⟩
theorem rule_ok (B : Nat) (w : World) (x : Pl.Rule) (cs : List Value) (h : RuleR B w x cs) : okRule x := by
  obtain ⟨c0, c1, c2, _, h0, h1, h2⟩ := h
  exact ⟨sl_ok source_ok h0, sl_ok target_ok h1, sl_ok when_ok h2⟩
def polT (x : Pl.Policy) : List T := [.v (.int .u64 x.id), .v (.string x.ns), .v (.int .u64 x.service), .v (.int .i64 x.deny), .sl 3 (x.rules.map ruleT)]
def okPolicy (x : Pl.Policy) : Prop := (Lit.int .u64 x.id).wf = true ∧ x.ns.size ≤ maxLen ∧ (Lit.int .u64 x.service).wf = true ∧ (Lit.int .i64 x.deny).wf = true ∧ (∀ y ∈ x.rules, okRule y)
theorem policy_bwd {B : Nat} {w : World} (x : Pl.Policy) (cs : List Value) (h : PolicyR B w x cs) : CellsAre (allm w) (polT x) cs := by
  obtain ⟨c0, c1, c2, c3, c4, rfl, h0, h1, h2, h3, h4⟩ := h
  exact (cellsAre_cons (int_bwd h0).1 (int_bwd h0).2 (cellsAre_cons (str_bwd h1).1 (str_bwd h1).2 (cellsAre_cons (int_bwd h2).1 (int_bwd h2).2 (cellsAre_cons (int_bwd h3).1 (int_bwd h3).2 (cellsAre_cons (sl_bwd (sz := 3) (enc := ruleT) (fun _ => rfl) rule_bwd h4).1 (sl_bwd (sz := 3) (enc := ruleT) (fun _ => rfl) rule_bwd h4).2 (cellsAre_nil _))))))
theorem policy_fwd {m : Mm} {w : World} (hs : Sub m w) (x : Pl.Policy) (us : List Value) (hok : okPolicy x) (h : CellsAre m (polT x) us) : PolicyR w.heap.size w x us := by
  obtain ⟨k0, k1, k2, k3, k4⟩ := hok
  obtain ⟨u0, us, rfl, h0, h⟩ := cellsAre_inv h
  obtain ⟨u1, us, rfl, h1, h⟩ := cellsAre_inv h
  obtain ⟨u2, us, rfl, h2, h⟩ := cellsAre_inv h
  obtain ⟨u3, us, rfl, h3, h⟩ := cellsAre_inv h
  obtain ⟨u4, us, rfl, h4, h⟩ := cellsAre_inv h
  obtain rfl := cellsAre_inv0 h
  exact ⟨u0, u1, u2, u3, u4, rfl, int_fwd k0 h0, str_fwd k1 h1, int_fwd k2 h2, int_fwd k3 h3, sl_fwd hs (by omega) (rule_fwd hs) k4 h4⟩
theorem policy_ok (B : Nat) (w : World) (x : Pl.Policy) (cs : List Value) (h : PolicyR B w x cs) : okPolicy x := by
  obtain ⟨c0, c1, c2, c3, c4, _, h0, h1, h2, h3, h4⟩ := h
  exact ⟨h0.2, h1.2, h2.2, h3.2, sl_ok rule_ok h4⟩
def headT (x : Pl.Head) : List T := [.v (.string x.name), .v (.string x.value)]
def okHead (x : Pl.Head) : Prop := x.name.size ≤ maxLen ∧ x.value.size ≤ maxLen
theorem head_bwd {B : Nat} {w : World} (x : Pl.Head) (cs : List Value) (h : HeadR B w x cs) : CellsAre (allm w) (headT x) cs := by
  obtain ⟨c0, c1, rfl, h0, h1⟩ := h
  exact (cellsAre_cons (str_bwd h0).1 (str_bwd h0).2 (cellsAre_cons (str_bwd h1).1 (str_bwd h1).2 (cellsAre_nil _)))
theorem head_fwd {m : Mm} {w : World} (hs : Sub m w) (x : Pl.Head) (us : List Value) (hok : okHead x) (h : CellsAre m (headT x) us) : HeadR w.heap.size w x us := by
  obtain ⟨k0, k1⟩ := hok
  obtain ⟨u0, us, rfl, h0, h⟩ := cellsAre_inv h
  obtain ⟨u1, us, rfl, h1, h⟩ := cellsAre_inv h
  obtain rfl := cellsAre_inv0 h
  exact ⟨u0, u1, rfl, str_fwd k0 h0, str_fwd k1 h1⟩
theorem head_ok (B : Nat) (w : World) (x : Pl.Head) (cs : List Value) (h : HeadR B w x cs) : okHead x := by
  obtain ⟨c0, c1, _, h0, h1⟩ := h
  exact ⟨h0.2, h1.2⟩
end Go.Proofs.YtlcecabfmemfeaaGreat.Pol

/- Policies, requests as data; how many there are. -/
namespace Go.Proofs.YtlcecabfmemfeaaGreat.Pol
set_option linter.unusedVariables false
set_option linter.unusedSimpArgs false
open Go.RowKit Mem Sim Opn
abbrev nil0 : A := .t (.v (.slice none 0 0))
abbrev rcells (r : Pl.Rule) : List A := [.t (.sl 3 (r.from_.map sourceT)), .t (.sl 4 (r.to_.map targetT)), .t (.sl 2 (r.when_.map whenT))]
theorem map_take_succ {α β : Type} (f : α → β) {l : List α} {k : Nat} (h : k < l.length) : (l.take (k + 1)).map f = (l.take k).map f ++ [f l[k]] := by
  rw [List.take_succ_eq_append_getElem h, List.map_append]; rfl
/-- rows that are no longer than so -/
structure FewR (r : Pl.Rule) : Prop where
  f : r.from_.length ≤ 1000
  t : r.to_.length ≤ 1000
  w : r.when_.length ≤ 1000
  fs : ∀ s ∈ r.from_, s.names.length ≤ 1000 ∧ s.spaces.length ≤ 1000 ∧ s.nets.length ≤ 1000
  ts : ∀ s ∈ r.to_, s.ports.length ≤ 1000 ∧ s.methods.length ≤ 1000 ∧ s.paths.length ≤ 1000 ∧ s.hosts.length ≤ 1000
  ws : ∀ s ∈ r.when_, s.terms.length ≤ 1000
theorem few_b {α : Type} {f : α → List T} {l : List α} (n : Nat) (h : l.length ≤ 1000) (hn : n ≤ 1000) : (l.map f).length * n ≤ 140737488355328 := by
  rw [List.length_map]
  have := Nat.mul_le_mul h hn
  omega
theorem few_m {α : Type} {f : α → List T} {l : List α} (h : l.length ≤ 1000) : (l.map f).length ≤ maxLen := by rw [List.length_map]; unfold maxLen; omega
structure FewP (p : Pl.Policy) : Prop where
  n : p.rules.length ≤ 1000
  r : ∀ r ∈ p.rules, FewR r
abbrev pcells (p : Pl.Policy) : List A := [.t (.v (.int .u64 p.id)), .t (.v (.string p.ns)), .t (.v (.int .u64 p.service)), .t (.v (.int .i64 p.deny)), .t (.sl 3 (p.rules.map ruleT))]
def nameT (a : Pl.Asker) : List T := [.v (.string a.ns), .v (.string a.sa)]
def askT (a : Pl.Asker) : List T := [.v (.string a.ns), .v (.string a.sa), .v (.int .u32 a.addr)]
def reqT (q : Pl.Req) (tg qu : ByteArray) (bd : Value) : List T := [.v (.string q.method), .v (.string tg), .v (.string q.path), .v (.string qu), .v (.string q.host), .sl 2 (q.heads.map headT), .v bd]
structure OkAsk (a : Pl.Asker) : Prop where
  ns : a.ns.size ≤ maxLen
  sa : a.sa.size ≤ maxLen
  addr : (Lit.int .u32 a.addr).wf = true
structure OkReq (q : Pl.Req) : Prop where
  method : q.method.size ≤ maxLen
  path : q.path.size ≤ maxLen
  host : q.host.size ≤ maxLen
  heads : ∀ h ∈ q.heads, okHead h
  few : q.heads.length ≤ 1000
structure FewL (l : List Pl.Policy) : Prop where
  n : l.length ≤ 1000
  r : ∀ p ∈ l, p.rules.length ≤ 1000 ∧ ∀ r ∈ p.rules, FewR r
end Go.Proofs.YtlcecabfmemfeaaGreat.Pol

/- policy.Own and what it calls; policy.Seventh: by the logic of states. (Printed by mk_sp1.py.) -/
namespace Go.Proofs.YtlcecabfmemfeaaGreat.Pol
set_option linter.unusedVariables false
set_option linter.unusedSimpArgs false
open Go.RowKit Mem Sim Opn
theorem mapmap_take_succ {α β γ : Type} (f : β → γ) (g : α → β) {l : List α} {k : Nat} (h : k < l.length) : ((l.take (k + 1)).map g).map f = ((l.take k).map g).map f ++ [f (g l[k])] := by
  rw [List.take_succ_eq_append_getElem h, List.map_append, List.map_append]; rfl
theorem mm_len {α β γ : Type} (f : β → γ) (g : α → β) (l : List α) : ((l.map g).map f).length = l.length := by simp
theorem mmt_len {α β γ : Type} (f : β → γ) (g : α → β) (l : List α) (k : Nat) : (((l.take k).map g).map f).length = min k l.length := by simp
set_option maxRecDepth 100000 in
set_option maxHeartbeats 1000000 in
theorem cloneTerm (rows : List (List T)) (hbd : rows.length * 24 ≤ 140737488355328) (hmx : rows.length ≤ maxLen) : PCalls Tryz.prog 129 [.sl 2 rows] (.sl 2 rows) := by
  have hbd' : 0 + rows.length * 24 ≤ 140737488355328 := by omega
  refine pcalls_of Tryz.func129 rfl rfl Tryz.ntmps129 rfl ?_
  repeat' (first
    | refine then_go ?_
    | refine swp_seq ?_
    | refine retq (.inr rfl) rfl (.tmp rfl (.nil 2) .nil) ?_
    | ((refine swp_region (id := 0) ?_) <;> (refine sops_pure (.free rfl rfl) rfl rfl (po_assign rfl rfl) ?_) <;> (refine sops_nil ?_))
    | ((refine swp_region (id := 1) ?_) <;> (refine sops_pure (.free rfl rfl) rfl rfl (po_move rfl rfl) ?_) <;> (first | refine sops_isnil (.free rfl rfl) rfl rfl rfl rfl (.t _) (tyS rfl) (fun b hnil => ?_) | refine sops_pure (.free rfl rfl) rfl rfl (po_boolq rfl rfl rfl (by kernel_rfl) (by first | exact .inl rfl | exact .inr rfl)) ?_) <;> (refine sops_nil ?_))
    | ((refine swp_region (id := 2) ?_) <;> (refine sops_pure (.free rfl rfl) rfl rfl (po_assign rfl rfl) ?_) <;> (refine sops_nil ?_))
    | ((refine swp_region (id := 3) ?_) <;> (refine sops_build0 (.free rfl rfl) rfl rfl rfl (tyE rfl) rfl ?_) <;> (refine sops_pure (.free rfl rfl) rfl rfl (po_move rfl rfl) ?_) <;> (first | refine sap rfl (tyE rfl) ?_ | refine san rfl (tyE rfl) ?_) <;> (refine sops_pure (.free rfl rfl) rfl rfl (po_assign rfl rfl) ?_) <;> (refine sops_nil ?_))
    | refine swp_ret ?_
    | refine swp_skip ?_
    | refine swp_block ?_
    | refine swp_exit ?_
    | refine block_go ?_
    | refine block_exit ?_
    | refine block_far rfl ?_
    | refine block_ret ?_
    | refine then_ret ?_
    | refine then_exit ?_
    | refine for_ret ?_
    | refine for_exit ?_
    | refine ct ?_
    | refine cf ?_
    | refine swp_cond rfl (fun hc => ?_) (fun hc => ?_)
    | refine retq (by first | exact .inr rfl | exact .inl rfl) rfl (.tmp rfl (by first | exact .t _ | exact .own rfl (by first | rfl | assumption | (simp; done) | (simp; omega)) | exact .nil _ | exact .emp _ | exact .fn _) .nil) ?_)
  all_goals first | rfl | (rw [hnil hc]; rfl)
set_option maxRecDepth 100000 in
set_option maxHeartbeats 1000000 in
theorem cloneCidr (rows : List (List T)) (hbd : rows.length * 16 ≤ 140737488355328) (hmx : rows.length ≤ maxLen) : PCalls Tryz.prog 130 [.sl 2 rows] (.sl 2 rows) := by
  have hbd' : 0 + rows.length * 16 ≤ 140737488355328 := by omega
  refine pcalls_of Tryz.func130 rfl rfl Tryz.ntmps130 rfl ?_
  repeat' (first
    | refine then_go ?_
    | refine swp_seq ?_
    | refine retq (.inr rfl) rfl (.tmp rfl (.nil 2) .nil) ?_
    | ((refine swp_region (id := 0) ?_) <;> (refine sops_pure (.free rfl rfl) rfl rfl (po_assign rfl rfl) ?_) <;> (refine sops_nil ?_))
    | ((refine swp_region (id := 1) ?_) <;> (refine sops_pure (.free rfl rfl) rfl rfl (po_move rfl rfl) ?_) <;> (first | refine sops_isnil (.free rfl rfl) rfl rfl rfl rfl (.t _) (tyS rfl) (fun b hnil => ?_) | refine sops_pure (.free rfl rfl) rfl rfl (po_boolq rfl rfl rfl (by kernel_rfl) (by first | exact .inl rfl | exact .inr rfl)) ?_) <;> (refine sops_nil ?_))
    | ((refine swp_region (id := 2) ?_) <;> (refine sops_pure (.free rfl rfl) rfl rfl (po_assign rfl rfl) ?_) <;> (refine sops_nil ?_))
    | ((refine swp_region (id := 3) ?_) <;> (refine sops_build0 (.free rfl rfl) rfl rfl rfl (tyE rfl) rfl ?_) <;> (refine sops_pure (.free rfl rfl) rfl rfl (po_move rfl rfl) ?_) <;> (first | refine sap rfl (tyE rfl) ?_ | refine san rfl (tyE rfl) ?_) <;> (refine sops_pure (.free rfl rfl) rfl rfl (po_assign rfl rfl) ?_) <;> (refine sops_nil ?_))
    | refine swp_ret ?_
    | refine swp_skip ?_
    | refine swp_block ?_
    | refine swp_exit ?_
    | refine block_go ?_
    | refine block_exit ?_
    | refine block_far rfl ?_
    | refine block_ret ?_
    | refine then_ret ?_
    | refine then_exit ?_
    | refine for_ret ?_
    | refine for_exit ?_
    | refine ct ?_
    | refine cf ?_
    | refine swp_cond rfl (fun hc => ?_) (fun hc => ?_)
    | refine retq (by first | exact .inr rfl | exact .inl rfl) rfl (.tmp rfl (by first | exact .t _ | exact .own rfl (by first | rfl | assumption | (simp; done) | (simp; omega)) | exact .nil _ | exact .emp _ | exact .fn _) .nil) ?_)
  all_goals first | rfl | (rw [hnil hc]; rfl)
set_option maxRecDepth 100000 in
set_option maxHeartbeats 1000000 in
theorem cloneInt (rows : List (List T)) (hbd : rows.length * 8 ≤ 140737488355328) (hmx : rows.length ≤ maxLen) : PCalls Tryz.prog 131 [.sl 1 rows] (.sl 1 rows) := by
  have hbd' : 0 + rows.length * 8 ≤ 140737488355328 := by omega
  refine pcalls_of Tryz.func131 rfl rfl Tryz.ntmps131 rfl ?_
  repeat' (first
    | refine then_go ?_
    | refine swp_seq ?_
    | refine retq (.inr rfl) rfl (.tmp rfl (.nil 1) .nil) ?_
    | ((refine swp_region (id := 0) ?_) <;> (refine sops_pure (.free rfl rfl) rfl rfl (po_assign rfl rfl) ?_) <;> (refine sops_nil ?_))
    | ((refine swp_region (id := 1) ?_) <;> (refine sops_pure (.free rfl rfl) rfl rfl (po_move rfl rfl) ?_) <;> (first | refine sops_isnil (.free rfl rfl) rfl rfl rfl rfl (.t _) (tyS rfl) (fun b hnil => ?_) | refine sops_pure (.free rfl rfl) rfl rfl (po_boolq rfl rfl rfl (by kernel_rfl) (by first | exact .inl rfl | exact .inr rfl)) ?_) <;> (refine sops_nil ?_))
    | ((refine swp_region (id := 2) ?_) <;> (refine sops_pure (.free rfl rfl) rfl rfl (po_assign rfl rfl) ?_) <;> (refine sops_nil ?_))
    | ((refine swp_region (id := 3) ?_) <;> (refine sops_build0 (.free rfl rfl) rfl rfl rfl (tyE rfl) rfl ?_) <;> (refine sops_pure (.free rfl rfl) rfl rfl (po_move rfl rfl) ?_) <;> (first | refine sap rfl (tyE rfl) ?_ | refine san rfl (tyE rfl) ?_) <;> (refine sops_pure (.free rfl rfl) rfl rfl (po_assign rfl rfl) ?_) <;> (refine sops_nil ?_))
    | refine swp_ret ?_
    | refine swp_skip ?_
    | refine swp_block ?_
    | refine swp_exit ?_
    | refine block_go ?_
    | refine block_exit ?_
    | refine block_far rfl ?_
    | refine block_ret ?_
    | refine then_ret ?_
    | refine then_exit ?_
    | refine for_ret ?_
    | refine for_exit ?_
    | refine ct ?_
    | refine cf ?_
    | refine swp_cond rfl (fun hc => ?_) (fun hc => ?_)
    | refine retq (by first | exact .inr rfl | exact .inl rfl) rfl (.tmp rfl (by first | exact .t _ | exact .own rfl (by first | rfl | assumption | (simp; done) | (simp; omega)) | exact .nil _ | exact .emp _ | exact .fn _) .nil) ?_)
  all_goals first | rfl | (rw [hnil hc]; rfl)
def MPSource (xs : List Pl.Source) (g : Pl.Source → Pl.Source) (f : FuncId) (caps : List T) (k : Nat) : St := ⟨[(1, .t (.clo f caps)), (5, .own 105 (((xs.take k).map g).map sourceT).length), (8, .t (.sl 3 (xs.map sourceT))), (9, .t (.v (.int .i64 (xs.length : Int)))), (10, .t (.v (.int .i64 (k : Int))))], [], [(105, ⟨78, 3, ((xs.take k).map g).map sourceT⟩)]⟩
set_option maxRecDepth 100000 in
set_option maxHeartbeats 1000000 in
theorem mapPSource (g : Pl.Source → Pl.Source) (f : FuncId) (caps : List T) (xs : List Pl.Source) (hK : ∀ x ∈ xs, PCalls Tryz.prog f ([.agg (sourceT x)] ++ caps) (.agg (sourceT (g x)))) (hn : xs.length ≤ 1000) : PCalls Tryz.prog 107 [.sl 3 (xs.map sourceT), .clo f caps] (.sl 3 ((xs.map g).map sourceT)) := by
  have hm1 : (xs.map sourceT).length = xs.length := List.length_map _
  refine pcalls_of Tryz.func107 rfl rfl Tryz.ntmps107 rfl ?_
  repeat' (first
    | refine then_go ?_
    | refine swp_seq ?_
    | ((refine swp_region (id := 0) ?_) <;> (refine sops_pure (.free rfl rfl) rfl rfl (po_assign rfl rfl) ?_) <;> (refine sops_nil ?_))
    | ((refine swp_region (id := 1) ?_) <;> (refine sops_pure (.free rfl rfl) rfl rfl (po_assign rfl rfl) ?_) <;> (refine sops_nil ?_))
    | ((refine swp_region (id := 2) ?_) <;> (refine sops_pure (.free rfl rfl) rfl rfl (po_move rfl rfl) ?_) <;> (refine sops_pure (.free rfl rfl) rfl rfl (pln rfl (tyS rfl)) ?_) <;> (refine sops_pure (.free rfl rfl) rfl rfl (po_move rfl rfl) ?_) <;> (refine sops_nil ?_))
    | refine swp_ret ?_
    | refine swp_skip ?_
    | refine swp_block ?_
    | refine swp_exit ?_
    | refine block_go ?_
    | refine block_exit ?_
    | refine block_far rfl ?_
    | refine block_ret ?_
    | refine then_ret ?_
    | refine then_exit ?_
    | refine for_ret ?_
    | refine for_exit ?_
    | refine ct ?_
    | refine cf ?_
    | refine swp_cond rfl (fun hc => ?_) (fun hc => ?_)
    | refine retq (by first | exact .inr rfl | exact .inl rfl) rfl (.tmp rfl (by first | exact .t _ | exact .own rfl (by first | rfl | assumption | (simp; done) | (simp; omega)) | exact .nil _ | exact .emp _ | exact .fn _) .nil) ?_)
  refine swp_for (MPSource xs g f caps) (fun _ => True) xs.length ?_ trivial ?_
  · refine Weak.trans (weak_own0 (i := 105) 78 3 (s := 5) rfl rfl) ?_
    exact (weak_sub (.cons rfl (by first | rfl | (exact congrArg (fun n : Nat => A.t (.v (.int .i64 (n : Int)))) hm1)) rfl (.cons rfl (by first | rfl | (exact congrArg (fun n : Nat => A.t (.v (.int .i64 (n : Int)))) hm1)) rfl (.cons rfl (by first | rfl | (exact congrArg (fun n : Nat => A.t (.v (.int .i64 (n : Int)))) hm1)) rfl (.cons rfl (by first | rfl | (exact congrArg (fun n : Nat => A.t (.v (.int .i64 (n : Int)))) hm1)) rfl (.cons rfl (by first | rfl | (exact congrArg (fun n : Nat => A.t (.v (.int .i64 (n : Int)))) hm1)) rfl .nil))))) .nil (.cons rfl (by first | rfl | (exact congrArg (fun n : Nat => A.t (.v (.int .i64 (n : Int)))) hm1)) .nil))
  intro k hk _
  unfold MPSource
  by_cases hlt : k < xs.length
  · have c1 := hK _ (List.getElem_mem hlt)
    have hsn := mapmap_take_succ sourceT g hlt
    have g1 : ((((xs.take k).map g).map sourceT).length + 1) * 72 ≤ 140737488355328 := by rw [mmt_len]; have := Nat.min_le_right k xs.length; omega
    have g2 : (((xs.take k).map g).map sourceT).length + 1 ≤ maxLen := by rw [mmt_len]; have := Nat.min_le_right k xs.length; unfold maxLen; omega
    repeat' (first
      | refine then_go ?_
      | refine swp_seq ?_
      | refine for_next hlt (weak_sub (.cons rfl (by first | rfl | (rw [hsn]; try rfl)) rfl (.cons rfl (by first | rfl | (rw [hsn]; try rfl)) rfl (.cons rfl (by first | rfl | (rw [hsn]; try rfl)) rfl (.cons rfl (by first | rfl | (rw [hsn]; try rfl)) rfl (.cons rfl (by first | rfl | (rw [hsn]; try rfl)) rfl .nil))))) .nil (.cons rfl (by first | rfl | (rw [hsn]; try rfl)) .nil)) trivial
      | ((refine swp_region (id := 3) ?_) <;> (refine sops_pure (.free rfl rfl) rfl rfl (po_cmp rfl rfl rfl rfl) ?_) <;> (refine sops_nil ?_))
      | ((refine swp_region (id := 4) ?_) <;> (refine sops_pure (.free rfl rfl) rfl rfl (pix rfl (tyS rfl)) ?_) <;> (first | refine sops_pure (.free rfl rfl) rfl rfl (po_load_bx_agg rfl rfl (tyT rfl) rfl (vc (vc (vc .nil))) rfl) ?_ | refine sops_pure (.free rfl rfl) rfl rfl (po_load_agg rfl rfl (tyT rfl) rfl rfl) ?_) <;> (refine sops_allocS str78 (.free rfl rfl) rfl rfl rfl rfl ?_) <;> (refine sops_store (.free rfl rfl) rfl rfl rfl rfl rfl rfl (tyT rfl) rfl rfl ?_) <;> (refine sops_nil ?_))
      | ((refine swp_region (id := 5) ?_) <;> (refine sops_pure (.free rfl rfl) rfl rfl (po_move rfl rfl) ?_) <;> (refine sops_pure (.free rfl rfl) rfl rfl (po_move rfl rfl) ?_) <;> (first | refine sops_pure (.free rfl rfl) rfl rfl (po_load_bx_agg rfl rfl (tyT rfl) rfl (vc (vc (vc .nil))) rfl) ?_ | refine sops_pure (.free rfl rfl) rfl rfl (po_load_agg rfl rfl (tyT rfl) rfl rfl) ?_) <;> (refine sops_pure (.free rfl rfl) rfl rfl (po_call_clo rfl rfl (ac .nil) (c1)) ?_) <;> (refine sops_pure (.free rfl rfl) rfl rfl (po_buildSlice rfl (tyE rfl) (dc (.nil _)) rfl rfl rfl) ?_) <;> (first | refine sap rfl (tyE rfl) ?_ | refine san rfl (tyE rfl) ?_) <;> (refine sops_pure (.free rfl rfl) rfl rfl (po_assign rfl rfl) ?_) <;> (refine sops_nil ?_))
      | ((refine swp_region (id := 6) ?_) <;> (first | refine sops_pure (.free rfl rfl) rfl rfl (po_inc rfl rfl rfl (by omega)) ?_ | refine sops_pure (.free rfl rfl) rfl rfl (po_arith rfl rfl rfl (ar_add (by first | rfl | (refine wrap_i64 ?_; omega)) rfl)) ?_) <;> (refine sops_pure (.free rfl rfl) rfl rfl (po_move rfl rfl) ?_) <;> (refine sops_nil ?_))
      | refine swp_ret ?_
      | refine swp_skip ?_
      | refine swp_block ?_
      | refine swp_exit ?_
      | refine block_go ?_
      | refine block_exit ?_
      | refine block_far rfl ?_
      | refine block_ret ?_
      | refine then_ret ?_
      | refine then_exit ?_
      | refine for_ret ?_
      | refine for_exit ?_
      | refine ct ?_
      | refine cf ?_
      | refine swp_cond rfl (fun hc => ?_) (fun hc => ?_)
      | refine retq (by first | exact .inr rfl | exact .inl rfl) rfl (.tmp rfl (by first | exact .t _ | exact .own rfl (by first | rfl | assumption | (simp; done) | (simp; omega)) | exact .nil _ | exact .emp _ | exact .fn _) .nil) ?_)
  · obtain rfl : k = xs.length := by omega
    rw [List.take_length]
    repeat' (first
      | refine then_go ?_
      | refine swp_seq ?_
      | ((refine swp_region (id := 3) ?_) <;> (refine sops_pure (.free rfl rfl) rfl rfl (po_cmp rfl rfl rfl rfl) ?_) <;> (refine sops_nil ?_))
      | ((refine swp_region (id := 7) ?_) <;> (refine sops_pure (.free rfl rfl) rfl rfl (po_move rfl rfl) ?_) <;> (refine sops_pure (.free rfl rfl) rfl rfl (po_assign rfl rfl) ?_) <;> (refine sops_nil ?_))
      | refine swp_ret ?_
      | refine swp_skip ?_
      | refine swp_block ?_
      | refine swp_exit ?_
      | refine block_go ?_
      | refine block_exit ?_
      | refine block_far rfl ?_
      | refine block_ret ?_
      | refine then_ret ?_
      | refine then_exit ?_
      | refine for_ret ?_
      | refine for_exit ?_
      | refine ct ?_
      | refine cf ?_
      | refine swp_cond rfl (fun hc => ?_) (fun hc => ?_)
      | refine retq (by first | exact .inr rfl | exact .inl rfl) rfl (.tmp rfl (by first | exact .t _ | exact .own rfl (by first | rfl | assumption | (simp; done) | (simp; omega)) | exact .nil _ | exact .emp _ | exact .fn _) .nil) ?_)
    rfl
def MPTarget (xs : List Pl.Target) (g : Pl.Target → Pl.Target) (f : FuncId) (caps : List T) (k : Nat) : St := ⟨[(1, .t (.clo f caps)), (5, .own 105 (((xs.take k).map g).map targetT).length), (8, .t (.sl 4 (xs.map targetT))), (9, .t (.v (.int .i64 (xs.length : Int)))), (10, .t (.v (.int .i64 (k : Int))))], [], [(105, ⟨80, 4, ((xs.take k).map g).map targetT⟩)]⟩
set_option maxRecDepth 100000 in
set_option maxHeartbeats 1000000 in
theorem mapPTarget (g : Pl.Target → Pl.Target) (f : FuncId) (caps : List T) (xs : List Pl.Target) (hK : ∀ x ∈ xs, PCalls Tryz.prog f ([.agg (targetT x)] ++ caps) (.agg (targetT (g x)))) (hn : xs.length ≤ 1000) : PCalls Tryz.prog 109 [.sl 4 (xs.map targetT), .clo f caps] (.sl 4 ((xs.map g).map targetT)) := by
  have hm1 : (xs.map targetT).length = xs.length := List.length_map _
  refine pcalls_of Tryz.func109 rfl rfl Tryz.ntmps109 rfl ?_
  repeat' (first
    | refine then_go ?_
    | refine swp_seq ?_
    | ((refine swp_region (id := 0) ?_) <;> (refine sops_pure (.free rfl rfl) rfl rfl (po_assign rfl rfl) ?_) <;> (refine sops_nil ?_))
    | ((refine swp_region (id := 1) ?_) <;> (refine sops_pure (.free rfl rfl) rfl rfl (po_assign rfl rfl) ?_) <;> (refine sops_nil ?_))
    | ((refine swp_region (id := 2) ?_) <;> (refine sops_pure (.free rfl rfl) rfl rfl (po_move rfl rfl) ?_) <;> (refine sops_pure (.free rfl rfl) rfl rfl (pln rfl (tyS rfl)) ?_) <;> (refine sops_pure (.free rfl rfl) rfl rfl (po_move rfl rfl) ?_) <;> (refine sops_nil ?_))
    | refine swp_ret ?_
    | refine swp_skip ?_
    | refine swp_block ?_
    | refine swp_exit ?_
    | refine block_go ?_
    | refine block_exit ?_
    | refine block_far rfl ?_
    | refine block_ret ?_
    | refine then_ret ?_
    | refine then_exit ?_
    | refine for_ret ?_
    | refine for_exit ?_
    | refine ct ?_
    | refine cf ?_
    | refine swp_cond rfl (fun hc => ?_) (fun hc => ?_)
    | refine retq (by first | exact .inr rfl | exact .inl rfl) rfl (.tmp rfl (by first | exact .t _ | exact .own rfl (by first | rfl | assumption | (simp; done) | (simp; omega)) | exact .nil _ | exact .emp _ | exact .fn _) .nil) ?_)
  refine swp_for (MPTarget xs g f caps) (fun _ => True) xs.length ?_ trivial ?_
  · refine Weak.trans (weak_own0 (i := 105) 80 4 (s := 5) rfl rfl) ?_
    exact (weak_sub (.cons rfl (by first | rfl | (exact congrArg (fun n : Nat => A.t (.v (.int .i64 (n : Int)))) hm1)) rfl (.cons rfl (by first | rfl | (exact congrArg (fun n : Nat => A.t (.v (.int .i64 (n : Int)))) hm1)) rfl (.cons rfl (by first | rfl | (exact congrArg (fun n : Nat => A.t (.v (.int .i64 (n : Int)))) hm1)) rfl (.cons rfl (by first | rfl | (exact congrArg (fun n : Nat => A.t (.v (.int .i64 (n : Int)))) hm1)) rfl (.cons rfl (by first | rfl | (exact congrArg (fun n : Nat => A.t (.v (.int .i64 (n : Int)))) hm1)) rfl .nil))))) .nil (.cons rfl (by first | rfl | (exact congrArg (fun n : Nat => A.t (.v (.int .i64 (n : Int)))) hm1)) .nil))
  intro k hk _
  unfold MPTarget
  by_cases hlt : k < xs.length
  · have c1 := hK _ (List.getElem_mem hlt)
    have hsn := mapmap_take_succ targetT g hlt
    have g1 : ((((xs.take k).map g).map targetT).length + 1) * 96 ≤ 140737488355328 := by rw [mmt_len]; have := Nat.min_le_right k xs.length; omega
    have g2 : (((xs.take k).map g).map targetT).length + 1 ≤ maxLen := by rw [mmt_len]; have := Nat.min_le_right k xs.length; unfold maxLen; omega
    repeat' (first
      | refine then_go ?_
      | refine swp_seq ?_
      | refine for_next hlt (weak_sub (.cons rfl (by first | rfl | (rw [hsn]; try rfl)) rfl (.cons rfl (by first | rfl | (rw [hsn]; try rfl)) rfl (.cons rfl (by first | rfl | (rw [hsn]; try rfl)) rfl (.cons rfl (by first | rfl | (rw [hsn]; try rfl)) rfl (.cons rfl (by first | rfl | (rw [hsn]; try rfl)) rfl .nil))))) .nil (.cons rfl (by first | rfl | (rw [hsn]; try rfl)) .nil)) trivial
      | ((refine swp_region (id := 3) ?_) <;> (refine sops_pure (.free rfl rfl) rfl rfl (po_cmp rfl rfl rfl rfl) ?_) <;> (refine sops_nil ?_))
      | ((refine swp_region (id := 4) ?_) <;> (refine sops_pure (.free rfl rfl) rfl rfl (pix rfl (tyS rfl)) ?_) <;> (first | refine sops_pure (.free rfl rfl) rfl rfl (po_load_bx_agg rfl rfl (tyT rfl) rfl (vc (vc (vc (vc .nil)))) rfl) ?_ | refine sops_pure (.free rfl rfl) rfl rfl (po_load_agg rfl rfl (tyT rfl) rfl rfl) ?_) <;> (refine sops_allocS str80 (.free rfl rfl) rfl rfl rfl rfl ?_) <;> (refine sops_store (.free rfl rfl) rfl rfl rfl rfl rfl rfl (tyT rfl) rfl rfl ?_) <;> (refine sops_nil ?_))
      | ((refine swp_region (id := 5) ?_) <;> (refine sops_pure (.free rfl rfl) rfl rfl (po_move rfl rfl) ?_) <;> (refine sops_pure (.free rfl rfl) rfl rfl (po_move rfl rfl) ?_) <;> (first | refine sops_pure (.free rfl rfl) rfl rfl (po_load_bx_agg rfl rfl (tyT rfl) rfl (vc (vc (vc (vc .nil)))) rfl) ?_ | refine sops_pure (.free rfl rfl) rfl rfl (po_load_agg rfl rfl (tyT rfl) rfl rfl) ?_) <;> (refine sops_pure (.free rfl rfl) rfl rfl (po_call_clo rfl rfl (ac .nil) (c1)) ?_) <;> (refine sops_pure (.free rfl rfl) rfl rfl (po_buildSlice rfl (tyE rfl) (dc (.nil _)) rfl rfl rfl) ?_) <;> (first | refine sap rfl (tyE rfl) ?_ | refine san rfl (tyE rfl) ?_) <;> (refine sops_pure (.free rfl rfl) rfl rfl (po_assign rfl rfl) ?_) <;> (refine sops_nil ?_))
      | ((refine swp_region (id := 6) ?_) <;> (first | refine sops_pure (.free rfl rfl) rfl rfl (po_inc rfl rfl rfl (by omega)) ?_ | refine sops_pure (.free rfl rfl) rfl rfl (po_arith rfl rfl rfl (ar_add (by first | rfl | (refine wrap_i64 ?_; omega)) rfl)) ?_) <;> (refine sops_pure (.free rfl rfl) rfl rfl (po_move rfl rfl) ?_) <;> (refine sops_nil ?_))
      | refine swp_ret ?_
      | refine swp_skip ?_
      | refine swp_block ?_
      | refine swp_exit ?_
      | refine block_go ?_
      | refine block_exit ?_
      | refine block_far rfl ?_
      | refine block_ret ?_
      | refine then_ret ?_
      | refine then_exit ?_
      | refine for_ret ?_
      | refine for_exit ?_
      | refine ct ?_
      | refine cf ?_
      | refine swp_cond rfl (fun hc => ?_) (fun hc => ?_)
      | refine retq (by first | exact .inr rfl | exact .inl rfl) rfl (.tmp rfl (by first | exact .t _ | exact .own rfl (by first | rfl | assumption | (simp; done) | (simp; omega)) | exact .nil _ | exact .emp _ | exact .fn _) .nil) ?_)
  · obtain rfl : k = xs.length := by omega
    rw [List.take_length]
    repeat' (first
      | refine then_go ?_
      | refine swp_seq ?_
      | ((refine swp_region (id := 3) ?_) <;> (refine sops_pure (.free rfl rfl) rfl rfl (po_cmp rfl rfl rfl rfl) ?_) <;> (refine sops_nil ?_))
      | ((refine swp_region (id := 7) ?_) <;> (refine sops_pure (.free rfl rfl) rfl rfl (po_move rfl rfl) ?_) <;> (refine sops_pure (.free rfl rfl) rfl rfl (po_assign rfl rfl) ?_) <;> (refine sops_nil ?_))
      | refine swp_ret ?_
      | refine swp_skip ?_
      | refine swp_block ?_
      | refine swp_exit ?_
      | refine block_go ?_
      | refine block_exit ?_
      | refine block_far rfl ?_
      | refine block_ret ?_
      | refine then_ret ?_
      | refine then_exit ?_
      | refine for_ret ?_
      | refine for_exit ?_
      | refine ct ?_
      | refine cf ?_
      | refine swp_cond rfl (fun hc => ?_) (fun hc => ?_)
      | refine retq (by first | exact .inr rfl | exact .inl rfl) rfl (.tmp rfl (by first | exact .t _ | exact .own rfl (by first | rfl | assumption | (simp; done) | (simp; omega)) | exact .nil _ | exact .emp _ | exact .fn _) .nil) ?_)
    rfl
def MPWhen (xs : List Pl.When) (g : Pl.When → Pl.When) (f : FuncId) (caps : List T) (k : Nat) : St := ⟨[(1, .t (.clo f caps)), (5, .own 105 (((xs.take k).map g).map whenT).length), (8, .t (.sl 2 (xs.map whenT))), (9, .t (.v (.int .i64 (xs.length : Int)))), (10, .t (.v (.int .i64 (k : Int))))], [], [(105, ⟨82, 2, ((xs.take k).map g).map whenT⟩)]⟩
set_option maxRecDepth 100000 in
set_option maxHeartbeats 1000000 in
theorem mapPWhen (g : Pl.When → Pl.When) (f : FuncId) (caps : List T) (xs : List Pl.When) (hK : ∀ x ∈ xs, PCalls Tryz.prog f ([.agg (whenT x)] ++ caps) (.agg (whenT (g x)))) (hn : xs.length ≤ 1000) : PCalls Tryz.prog 111 [.sl 2 (xs.map whenT), .clo f caps] (.sl 2 ((xs.map g).map whenT)) := by
  have hm1 : (xs.map whenT).length = xs.length := List.length_map _
  refine pcalls_of Tryz.func111 rfl rfl Tryz.ntmps111 rfl ?_
  repeat' (first
    | refine then_go ?_
    | refine swp_seq ?_
    | ((refine swp_region (id := 0) ?_) <;> (refine sops_pure (.free rfl rfl) rfl rfl (po_assign rfl rfl) ?_) <;> (refine sops_nil ?_))
    | ((refine swp_region (id := 1) ?_) <;> (refine sops_pure (.free rfl rfl) rfl rfl (po_assign rfl rfl) ?_) <;> (refine sops_nil ?_))
    | ((refine swp_region (id := 2) ?_) <;> (refine sops_pure (.free rfl rfl) rfl rfl (po_move rfl rfl) ?_) <;> (refine sops_pure (.free rfl rfl) rfl rfl (pln rfl (tyS rfl)) ?_) <;> (refine sops_pure (.free rfl rfl) rfl rfl (po_move rfl rfl) ?_) <;> (refine sops_nil ?_))
    | refine swp_ret ?_
    | refine swp_skip ?_
    | refine swp_block ?_
    | refine swp_exit ?_
    | refine block_go ?_
    | refine block_exit ?_
    | refine block_far rfl ?_
    | refine block_ret ?_
    | refine then_ret ?_
    | refine then_exit ?_
    | refine for_ret ?_
    | refine for_exit ?_
    | refine ct ?_
    | refine cf ?_
    | refine swp_cond rfl (fun hc => ?_) (fun hc => ?_)
    | refine retq (by first | exact .inr rfl | exact .inl rfl) rfl (.tmp rfl (by first | exact .t _ | exact .own rfl (by first | rfl | assumption | (simp; done) | (simp; omega)) | exact .nil _ | exact .emp _ | exact .fn _) .nil) ?_)
  refine swp_for (MPWhen xs g f caps) (fun _ => True) xs.length ?_ trivial ?_
  · refine Weak.trans (weak_own0 (i := 105) 82 2 (s := 5) rfl rfl) ?_
    exact (weak_sub (.cons rfl (by first | rfl | (exact congrArg (fun n : Nat => A.t (.v (.int .i64 (n : Int)))) hm1)) rfl (.cons rfl (by first | rfl | (exact congrArg (fun n : Nat => A.t (.v (.int .i64 (n : Int)))) hm1)) rfl (.cons rfl (by first | rfl | (exact congrArg (fun n : Nat => A.t (.v (.int .i64 (n : Int)))) hm1)) rfl (.cons rfl (by first | rfl | (exact congrArg (fun n : Nat => A.t (.v (.int .i64 (n : Int)))) hm1)) rfl (.cons rfl (by first | rfl | (exact congrArg (fun n : Nat => A.t (.v (.int .i64 (n : Int)))) hm1)) rfl .nil))))) .nil (.cons rfl (by first | rfl | (exact congrArg (fun n : Nat => A.t (.v (.int .i64 (n : Int)))) hm1)) .nil))
  intro k hk _
  unfold MPWhen
  by_cases hlt : k < xs.length
  · have c1 := hK _ (List.getElem_mem hlt)
    have hsn := mapmap_take_succ whenT g hlt
    have g1 : ((((xs.take k).map g).map whenT).length + 1) * 40 ≤ 140737488355328 := by rw [mmt_len]; have := Nat.min_le_right k xs.length; omega
    have g2 : (((xs.take k).map g).map whenT).length + 1 ≤ maxLen := by rw [mmt_len]; have := Nat.min_le_right k xs.length; unfold maxLen; omega
    repeat' (first
      | refine then_go ?_
      | refine swp_seq ?_
      | refine for_next hlt (weak_sub (.cons rfl (by first | rfl | (rw [hsn]; try rfl)) rfl (.cons rfl (by first | rfl | (rw [hsn]; try rfl)) rfl (.cons rfl (by first | rfl | (rw [hsn]; try rfl)) rfl (.cons rfl (by first | rfl | (rw [hsn]; try rfl)) rfl (.cons rfl (by first | rfl | (rw [hsn]; try rfl)) rfl .nil))))) .nil (.cons rfl (by first | rfl | (rw [hsn]; try rfl)) .nil)) trivial
      | ((refine swp_region (id := 3) ?_) <;> (refine sops_pure (.free rfl rfl) rfl rfl (po_cmp rfl rfl rfl rfl) ?_) <;> (refine sops_nil ?_))
      | ((refine swp_region (id := 4) ?_) <;> (refine sops_pure (.free rfl rfl) rfl rfl (pix rfl (tyS rfl)) ?_) <;> (first | refine sops_pure (.free rfl rfl) rfl rfl (po_load_bx_agg rfl rfl (tyT rfl) rfl (vc (vc .nil)) rfl) ?_ | refine sops_pure (.free rfl rfl) rfl rfl (po_load_agg rfl rfl (tyT rfl) rfl rfl) ?_) <;> (refine sops_allocS str82 (.free rfl rfl) rfl rfl rfl rfl ?_) <;> (refine sops_store (.free rfl rfl) rfl rfl rfl rfl rfl rfl (tyT rfl) rfl rfl ?_) <;> (refine sops_nil ?_))
      | ((refine swp_region (id := 5) ?_) <;> (refine sops_pure (.free rfl rfl) rfl rfl (po_move rfl rfl) ?_) <;> (refine sops_pure (.free rfl rfl) rfl rfl (po_move rfl rfl) ?_) <;> (first | refine sops_pure (.free rfl rfl) rfl rfl (po_load_bx_agg rfl rfl (tyT rfl) rfl (vc (vc .nil)) rfl) ?_ | refine sops_pure (.free rfl rfl) rfl rfl (po_load_agg rfl rfl (tyT rfl) rfl rfl) ?_) <;> (refine sops_pure (.free rfl rfl) rfl rfl (po_call_clo rfl rfl (ac .nil) (c1)) ?_) <;> (refine sops_pure (.free rfl rfl) rfl rfl (po_buildSlice rfl (tyE rfl) (dc (.nil _)) rfl rfl rfl) ?_) <;> (first | refine sap rfl (tyE rfl) ?_ | refine san rfl (tyE rfl) ?_) <;> (refine sops_pure (.free rfl rfl) rfl rfl (po_assign rfl rfl) ?_) <;> (refine sops_nil ?_))
      | ((refine swp_region (id := 6) ?_) <;> (first | refine sops_pure (.free rfl rfl) rfl rfl (po_inc rfl rfl rfl (by omega)) ?_ | refine sops_pure (.free rfl rfl) rfl rfl (po_arith rfl rfl rfl (ar_add (by first | rfl | (refine wrap_i64 ?_; omega)) rfl)) ?_) <;> (refine sops_pure (.free rfl rfl) rfl rfl (po_move rfl rfl) ?_) <;> (refine sops_nil ?_))
      | refine swp_ret ?_
      | refine swp_skip ?_
      | refine swp_block ?_
      | refine swp_exit ?_
      | refine block_go ?_
      | refine block_exit ?_
      | refine block_far rfl ?_
      | refine block_ret ?_
      | refine then_ret ?_
      | refine then_exit ?_
      | refine for_ret ?_
      | refine for_exit ?_
      | refine ct ?_
      | refine cf ?_
      | refine swp_cond rfl (fun hc => ?_) (fun hc => ?_)
      | refine retq (by first | exact .inr rfl | exact .inl rfl) rfl (.tmp rfl (by first | exact .t _ | exact .own rfl (by first | rfl | assumption | (simp; done) | (simp; omega)) | exact .nil _ | exact .emp _ | exact .fn _) .nil) ?_)
  · obtain rfl : k = xs.length := by omega
    rw [List.take_length]
    repeat' (first
      | refine then_go ?_
      | refine swp_seq ?_
      | ((refine swp_region (id := 3) ?_) <;> (refine sops_pure (.free rfl rfl) rfl rfl (po_cmp rfl rfl rfl rfl) ?_) <;> (refine sops_nil ?_))
      | ((refine swp_region (id := 7) ?_) <;> (refine sops_pure (.free rfl rfl) rfl rfl (po_move rfl rfl) ?_) <;> (refine sops_pure (.free rfl rfl) rfl rfl (po_assign rfl rfl) ?_) <;> (refine sops_nil ?_))
      | refine swp_ret ?_
      | refine swp_skip ?_
      | refine swp_block ?_
      | refine swp_exit ?_
      | refine block_go ?_
      | refine block_exit ?_
      | refine block_far rfl ?_
      | refine block_ret ?_
      | refine then_ret ?_
      | refine then_exit ?_
      | refine for_ret ?_
      | refine for_exit ?_
      | refine ct ?_
      | refine cf ?_
      | refine swp_cond rfl (fun hc => ?_) (fun hc => ?_)
      | refine retq (by first | exact .inr rfl | exact .inl rfl) rfl (.tmp rfl (by first | exact .t _ | exact .own rfl (by first | rfl | assumption | (simp; done) | (simp; omega)) | exact .nil _ | exact .emp _ | exact .fn _) .nil) ?_)
    rfl
def MPRule (xs : List Pl.Rule) (g : Pl.Rule → Pl.Rule) (f : FuncId) (caps : List T) (k : Nat) : St := ⟨[(1, .t (.clo f caps)), (5, .own 105 (((xs.take k).map g).map ruleT).length), (8, .t (.sl 3 (xs.map ruleT))), (9, .t (.v (.int .i64 (xs.length : Int)))), (10, .t (.v (.int .i64 (k : Int))))], [], [(105, ⟨46, 3, ((xs.take k).map g).map ruleT⟩)]⟩
set_option maxRecDepth 100000 in
set_option maxHeartbeats 1000000 in
theorem mapPRule (g : Pl.Rule → Pl.Rule) (f : FuncId) (caps : List T) (xs : List Pl.Rule) (hK : ∀ x ∈ xs, PCalls Tryz.prog f ([.agg (ruleT x)] ++ caps) (.agg (ruleT (g x)))) (hn : xs.length ≤ 1000) : PCalls Tryz.prog 78 [.sl 3 (xs.map ruleT), .clo f caps] (.sl 3 ((xs.map g).map ruleT)) := by
  have hm1 : (xs.map ruleT).length = xs.length := List.length_map _
  refine pcalls_of Tryz.func78 rfl rfl Tryz.ntmps78 rfl ?_
  repeat' (first
    | refine then_go ?_
    | refine swp_seq ?_
    | ((refine swp_region (id := 0) ?_) <;> (refine sops_pure (.free rfl rfl) rfl rfl (po_assign rfl rfl) ?_) <;> (refine sops_nil ?_))
    | ((refine swp_region (id := 1) ?_) <;> (refine sops_pure (.free rfl rfl) rfl rfl (po_assign rfl rfl) ?_) <;> (refine sops_nil ?_))
    | ((refine swp_region (id := 2) ?_) <;> (refine sops_pure (.free rfl rfl) rfl rfl (po_move rfl rfl) ?_) <;> (refine sops_pure (.free rfl rfl) rfl rfl (pln rfl (tyS rfl)) ?_) <;> (refine sops_pure (.free rfl rfl) rfl rfl (po_move rfl rfl) ?_) <;> (refine sops_nil ?_))
    | refine swp_ret ?_
    | refine swp_skip ?_
    | refine swp_block ?_
    | refine swp_exit ?_
    | refine block_go ?_
    | refine block_exit ?_
    | refine block_far rfl ?_
    | refine block_ret ?_
    | refine then_ret ?_
    | refine then_exit ?_
    | refine for_ret ?_
    | refine for_exit ?_
    | refine ct ?_
    | refine cf ?_
    | refine swp_cond rfl (fun hc => ?_) (fun hc => ?_)
    | refine retq (by first | exact .inr rfl | exact .inl rfl) rfl (.tmp rfl (by first | exact .t _ | exact .own rfl (by first | rfl | assumption | (simp; done) | (simp; omega)) | exact .nil _ | exact .emp _ | exact .fn _) .nil) ?_)
  refine swp_for (MPRule xs g f caps) (fun _ => True) xs.length ?_ trivial ?_
  · refine Weak.trans (weak_own0 (i := 105) 46 3 (s := 5) rfl rfl) ?_
    exact (weak_sub (.cons rfl (by first | rfl | (exact congrArg (fun n : Nat => A.t (.v (.int .i64 (n : Int)))) hm1)) rfl (.cons rfl (by first | rfl | (exact congrArg (fun n : Nat => A.t (.v (.int .i64 (n : Int)))) hm1)) rfl (.cons rfl (by first | rfl | (exact congrArg (fun n : Nat => A.t (.v (.int .i64 (n : Int)))) hm1)) rfl (.cons rfl (by first | rfl | (exact congrArg (fun n : Nat => A.t (.v (.int .i64 (n : Int)))) hm1)) rfl (.cons rfl (by first | rfl | (exact congrArg (fun n : Nat => A.t (.v (.int .i64 (n : Int)))) hm1)) rfl .nil))))) .nil (.cons rfl (by first | rfl | (exact congrArg (fun n : Nat => A.t (.v (.int .i64 (n : Int)))) hm1)) .nil))
  intro k hk _
  unfold MPRule
  by_cases hlt : k < xs.length
  · have c1 := hK _ (List.getElem_mem hlt)
    have hsn := mapmap_take_succ ruleT g hlt
    have g1 : ((((xs.take k).map g).map ruleT).length + 1) * 72 ≤ 140737488355328 := by rw [mmt_len]; have := Nat.min_le_right k xs.length; omega
    have g2 : (((xs.take k).map g).map ruleT).length + 1 ≤ maxLen := by rw [mmt_len]; have := Nat.min_le_right k xs.length; unfold maxLen; omega
    repeat' (first
      | refine then_go ?_
      | refine swp_seq ?_
      | refine for_next hlt (weak_sub (.cons rfl (by first | rfl | (rw [hsn]; try rfl)) rfl (.cons rfl (by first | rfl | (rw [hsn]; try rfl)) rfl (.cons rfl (by first | rfl | (rw [hsn]; try rfl)) rfl (.cons rfl (by first | rfl | (rw [hsn]; try rfl)) rfl (.cons rfl (by first | rfl | (rw [hsn]; try rfl)) rfl .nil))))) .nil (.cons rfl (by first | rfl | (rw [hsn]; try rfl)) .nil)) trivial
      | ((refine swp_region (id := 3) ?_) <;> (refine sops_pure (.free rfl rfl) rfl rfl (po_cmp rfl rfl rfl rfl) ?_) <;> (refine sops_nil ?_))
      | ((refine swp_region (id := 4) ?_) <;> (refine sops_pure (.free rfl rfl) rfl rfl (pix rfl (tyS rfl)) ?_) <;> (first | refine sops_pure (.free rfl rfl) rfl rfl (po_load_bx_agg rfl rfl (tyT rfl) rfl (vc (vc (vc .nil))) rfl) ?_ | refine sops_pure (.free rfl rfl) rfl rfl (po_load_agg rfl rfl (tyT rfl) rfl rfl) ?_) <;> (refine sops_allocS str46 (.free rfl rfl) rfl rfl rfl rfl ?_) <;> (refine sops_store (.free rfl rfl) rfl rfl rfl rfl rfl rfl (tyT rfl) rfl rfl ?_) <;> (refine sops_nil ?_))
      | ((refine swp_region (id := 5) ?_) <;> (refine sops_pure (.free rfl rfl) rfl rfl (po_move rfl rfl) ?_) <;> (refine sops_pure (.free rfl rfl) rfl rfl (po_move rfl rfl) ?_) <;> (first | refine sops_pure (.free rfl rfl) rfl rfl (po_load_bx_agg rfl rfl (tyT rfl) rfl (vc (vc (vc .nil))) rfl) ?_ | refine sops_pure (.free rfl rfl) rfl rfl (po_load_agg rfl rfl (tyT rfl) rfl rfl) ?_) <;> (refine sops_pure (.free rfl rfl) rfl rfl (po_call_clo rfl rfl (ac .nil) (c1)) ?_) <;> (refine sops_pure (.free rfl rfl) rfl rfl (po_buildSlice rfl (tyE rfl) (dc (.nil _)) rfl rfl rfl) ?_) <;> (first | refine sap rfl (tyE rfl) ?_ | refine san rfl (tyE rfl) ?_) <;> (refine sops_pure (.free rfl rfl) rfl rfl (po_assign rfl rfl) ?_) <;> (refine sops_nil ?_))
      | ((refine swp_region (id := 6) ?_) <;> (first | refine sops_pure (.free rfl rfl) rfl rfl (po_inc rfl rfl rfl (by omega)) ?_ | refine sops_pure (.free rfl rfl) rfl rfl (po_arith rfl rfl rfl (ar_add (by first | rfl | (refine wrap_i64 ?_; omega)) rfl)) ?_) <;> (refine sops_pure (.free rfl rfl) rfl rfl (po_move rfl rfl) ?_) <;> (refine sops_nil ?_))
      | refine swp_ret ?_
      | refine swp_skip ?_
      | refine swp_block ?_
      | refine swp_exit ?_
      | refine block_go ?_
      | refine block_exit ?_
      | refine block_far rfl ?_
      | refine block_ret ?_
      | refine then_ret ?_
      | refine then_exit ?_
      | refine for_ret ?_
      | refine for_exit ?_
      | refine ct ?_
      | refine cf ?_
      | refine swp_cond rfl (fun hc => ?_) (fun hc => ?_)
      | refine retq (by first | exact .inr rfl | exact .inl rfl) rfl (.tmp rfl (by first | exact .t _ | exact .own rfl (by first | rfl | assumption | (simp; done) | (simp; omega)) | exact .nil _ | exact .emp _ | exact .fn _) .nil) ?_)
  · obtain rfl : k = xs.length := by omega
    rw [List.take_length]
    repeat' (first
      | refine then_go ?_
      | refine swp_seq ?_
      | ((refine swp_region (id := 3) ?_) <;> (refine sops_pure (.free rfl rfl) rfl rfl (po_cmp rfl rfl rfl rfl) ?_) <;> (refine sops_nil ?_))
      | ((refine swp_region (id := 7) ?_) <;> (refine sops_pure (.free rfl rfl) rfl rfl (po_move rfl rfl) ?_) <;> (refine sops_pure (.free rfl rfl) rfl rfl (po_assign rfl rfl) ?_) <;> (refine sops_nil ?_))
      | refine swp_ret ?_
      | refine swp_skip ?_
      | refine swp_block ?_
      | refine swp_exit ?_
      | refine block_go ?_
      | refine block_exit ?_
      | refine block_far rfl ?_
      | refine block_ret ?_
      | refine then_ret ?_
      | refine then_exit ?_
      | refine for_ret ?_
      | refine for_exit ?_
      | refine ct ?_
      | refine cf ?_
      | refine swp_cond rfl (fun hc => ?_) (fun hc => ?_)
      | refine retq (by first | exact .inr rfl | exact .inl rfl) rfl (.tmp rfl (by first | exact .t _ | exact .own rfl (by first | rfl | assumption | (simp; done) | (simp; omega)) | exact .nil _ | exact .emp _ | exact .fn _) .nil) ?_)
    rfl
def MPRuleL (xs : List Pl.Rule) (g : Pl.Rule → Pl.Rule) (f : FuncId) (caps : List T) (k : Nat) : St := ⟨[(1, .t (.clo f caps)), (5, .own 1000 (((xs.take k).map g).map ruleT).length), (8, .t (.sl 3 (xs.map ruleT))), (9, .t (.v (.int .i64 (xs.length : Int)))), (10, .t (.v (.int .i64 (k : Int))))], [], [(1000, ⟨46, 3, ((xs.take k).map g).map ruleT⟩)]⟩
set_option maxRecDepth 100000 in
set_option maxHeartbeats 1000000 in
theorem mapPRuleL (g : Pl.Rule → Pl.Rule) (f : FuncId) (caps : List T) (xs : List Pl.Rule) (hK : ∀ x ∈ xs, PCalls Tryz.prog f ([.agg (ruleT x)] ++ caps) (.agg (ruleT (g x)))) (hn : xs.length ≤ 1000) : LCalls Tryz.prog 78 [.t (.sl 3 (xs.map ruleT)), .t (.clo f caps)] [] [] (.own 1000 ((xs.map g).map ruleT).length) [] [(1000, ⟨46, 3, (xs.map g).map ruleT⟩)] := by
  have hm1 : (xs.map ruleT).length = xs.length := List.length_map _
  refine lcalls_of Tryz.func78 rfl rfl Tryz.ntmps78 rfl ?_
  repeat' (first
    | refine then_go ?_
    | refine swp_seq ?_
    | ((refine swp_region (id := 0) ?_) <;> (refine sops_pure (.free rfl rfl) rfl rfl (po_assign rfl rfl) ?_) <;> (refine sops_nil ?_))
    | ((refine swp_region (id := 1) ?_) <;> (refine sops_pure (.free rfl rfl) rfl rfl (po_assign rfl rfl) ?_) <;> (refine sops_nil ?_))
    | ((refine swp_region (id := 2) ?_) <;> (refine sops_pure (.free rfl rfl) rfl rfl (po_move rfl rfl) ?_) <;> (refine sops_pure (.free rfl rfl) rfl rfl (pln rfl (tyS rfl)) ?_) <;> (refine sops_pure (.free rfl rfl) rfl rfl (po_move rfl rfl) ?_) <;> (refine sops_nil ?_))
    | refine swp_ret ?_
    | refine swp_skip ?_
    | refine swp_block ?_
    | refine swp_exit ?_
    | refine block_go ?_
    | refine block_exit ?_
    | refine block_far rfl ?_
    | refine block_ret ?_
    | refine then_ret ?_
    | refine then_exit ?_
    | refine for_ret ?_
    | refine for_exit ?_
    | refine ct ?_
    | refine cf ?_
    | refine swp_cond rfl (fun hc => ?_) (fun hc => ?_)
    | refine retq (by first | exact .inr rfl | exact .inl rfl) rfl (.tmp rfl (by first | exact .t _ | exact .own rfl (by first | rfl | assumption | (simp; done) | (simp; omega)) | exact .nil _ | exact .emp _ | exact .fn _) .nil) ?_)
  refine swp_for (MPRuleL xs g f caps) (fun _ => True) xs.length ?_ trivial ?_
  · refine Weak.trans (weak_own0 (i := 1000) 46 3 (s := 5) rfl rfl) ?_
    exact (weak_sub (.cons rfl (by first | rfl | (exact congrArg (fun n : Nat => A.t (.v (.int .i64 (n : Int)))) hm1)) rfl (.cons rfl (by first | rfl | (exact congrArg (fun n : Nat => A.t (.v (.int .i64 (n : Int)))) hm1)) rfl (.cons rfl (by first | rfl | (exact congrArg (fun n : Nat => A.t (.v (.int .i64 (n : Int)))) hm1)) rfl (.cons rfl (by first | rfl | (exact congrArg (fun n : Nat => A.t (.v (.int .i64 (n : Int)))) hm1)) rfl (.cons rfl (by first | rfl | (exact congrArg (fun n : Nat => A.t (.v (.int .i64 (n : Int)))) hm1)) rfl .nil))))) .nil (.cons rfl (by first | rfl | (exact congrArg (fun n : Nat => A.t (.v (.int .i64 (n : Int)))) hm1)) .nil))
  intro k hk _
  unfold MPRuleL
  by_cases hlt : k < xs.length
  · have c1 := hK _ (List.getElem_mem hlt)
    have hsn := mapmap_take_succ ruleT g hlt
    have g1 : ((((xs.take k).map g).map ruleT).length + 1) * 72 ≤ 140737488355328 := by rw [mmt_len]; have := Nat.min_le_right k xs.length; omega
    have g2 : (((xs.take k).map g).map ruleT).length + 1 ≤ maxLen := by rw [mmt_len]; have := Nat.min_le_right k xs.length; unfold maxLen; omega
    repeat' (first
      | refine then_go ?_
      | refine swp_seq ?_
      | refine for_next hlt (weak_sub (.cons rfl (by first | rfl | (rw [hsn]; try rfl)) rfl (.cons rfl (by first | rfl | (rw [hsn]; try rfl)) rfl (.cons rfl (by first | rfl | (rw [hsn]; try rfl)) rfl (.cons rfl (by first | rfl | (rw [hsn]; try rfl)) rfl (.cons rfl (by first | rfl | (rw [hsn]; try rfl)) rfl .nil))))) .nil (.cons rfl (by first | rfl | (rw [hsn]; try rfl)) .nil)) trivial
      | ((refine swp_region (id := 3) ?_) <;> (refine sops_pure (.free rfl rfl) rfl rfl (po_cmp rfl rfl rfl rfl) ?_) <;> (refine sops_nil ?_))
      | ((refine swp_region (id := 4) ?_) <;> (refine sops_pure (.free rfl rfl) rfl rfl (pix rfl (tyS rfl)) ?_) <;> (first | refine sops_pure (.free rfl rfl) rfl rfl (po_load_bx_agg rfl rfl (tyT rfl) rfl (vc (vc (vc .nil))) rfl) ?_ | refine sops_pure (.free rfl rfl) rfl rfl (po_load_agg rfl rfl (tyT rfl) rfl rfl) ?_) <;> (refine sops_allocS str46 (.free rfl rfl) rfl rfl rfl rfl ?_) <;> (refine sops_store (.free rfl rfl) rfl rfl rfl rfl rfl rfl (tyT rfl) rfl rfl ?_) <;> (refine sops_nil ?_))
      | ((refine swp_region (id := 5) ?_) <;> (refine sops_pure (.free rfl rfl) rfl rfl (po_move rfl rfl) ?_) <;> (refine sops_pure (.free rfl rfl) rfl rfl (po_move rfl rfl) ?_) <;> (first | refine sops_pure (.free rfl rfl) rfl rfl (po_load_bx_agg rfl rfl (tyT rfl) rfl (vc (vc (vc .nil))) rfl) ?_ | refine sops_pure (.free rfl rfl) rfl rfl (po_load_agg rfl rfl (tyT rfl) rfl rfl) ?_) <;> (refine sops_pure (.free rfl rfl) rfl rfl (po_call_clo rfl rfl (ac .nil) (c1)) ?_) <;> (refine sops_pure (.free rfl rfl) rfl rfl (po_buildSlice rfl (tyE rfl) (dc (.nil _)) rfl rfl rfl) ?_) <;> (first | refine sap rfl (tyE rfl) ?_ | refine san rfl (tyE rfl) ?_) <;> (refine sops_pure (.free rfl rfl) rfl rfl (po_assign rfl rfl) ?_) <;> (refine sops_nil ?_))
      | ((refine swp_region (id := 6) ?_) <;> (first | refine sops_pure (.free rfl rfl) rfl rfl (po_inc rfl rfl rfl (by omega)) ?_ | refine sops_pure (.free rfl rfl) rfl rfl (po_arith rfl rfl rfl (ar_add (by first | rfl | (refine wrap_i64 ?_; omega)) rfl)) ?_) <;> (refine sops_pure (.free rfl rfl) rfl rfl (po_move rfl rfl) ?_) <;> (refine sops_nil ?_))
      | refine swp_ret ?_
      | refine swp_skip ?_
      | refine swp_block ?_
      | refine swp_exit ?_
      | refine block_go ?_
      | refine block_exit ?_
      | refine block_far rfl ?_
      | refine block_ret ?_
      | refine then_ret ?_
      | refine then_exit ?_
      | refine for_ret ?_
      | refine for_exit ?_
      | refine ct ?_
      | refine cf ?_
      | refine swp_cond rfl (fun hc => ?_) (fun hc => ?_)
      | refine retq (by first | exact .inr rfl | exact .inl rfl) rfl (.tmp rfl (by first | exact .t _ | exact .own rfl (by first | rfl | assumption | (simp; done) | (simp; omega)) | exact .nil _ | exact .emp _ | exact .fn _) .nil) ?_)
  · obtain rfl : k = xs.length := by omega
    rw [List.take_length]
    repeat' (first
      | refine then_go ?_
      | refine swp_seq ?_
      | ((refine swp_region (id := 3) ?_) <;> (refine sops_pure (.free rfl rfl) rfl rfl (po_cmp rfl rfl rfl rfl) ?_) <;> (refine sops_nil ?_))
      | ((refine swp_region (id := 7) ?_) <;> (refine sops_pure (.free rfl rfl) rfl rfl (po_move rfl rfl) ?_) <;> (refine sops_pure (.free rfl rfl) rfl rfl (po_assign rfl rfl) ?_) <;> (refine sops_nil ?_))
      | refine swp_ret ?_
      | refine swp_skip ?_
      | refine swp_block ?_
      | refine swp_exit ?_
      | refine block_go ?_
      | refine block_exit ?_
      | refine block_far rfl ?_
      | refine block_ret ?_
      | refine then_ret ?_
      | refine then_exit ?_
      | refine for_ret ?_
      | refine for_exit ?_
      | refine ct ?_
      | refine cf ?_
      | refine swp_cond rfl (fun hc => ?_) (fun hc => ?_)
      | refine retl (by first | exact .inr rfl | exact .inl rfl) rfl (.tmp rfl rfl .nil) ?_ rfl .nil (.cons rfl (by first | rfl | assumption | (symm; assumption)) .nil))
    rfl
set_option maxRecDepth 100000 in
set_option maxHeartbeats 1000000 in
theorem ownSource_ (x : Pl.Source) (h : x.names.length ≤ 1000 ∧ x.spaces.length ≤ 1000 ∧ x.nets.length ≤ 1000) : PCalls Tryz.prog 108 [.agg (sourceT x)] (.agg (sourceT x)) := by
  have c0 := cloneTerm (x.names.map termT) (few_b 24 h.1 (by omega)) (few_m h.1)
  have c1 := cloneTerm (x.spaces.map termT) (few_b 24 h.2.1 (by omega)) (few_m h.2.1)
  have c2 := cloneCidr (x.nets.map cidrT) (few_b 16 h.2.2 (by omega)) (few_m h.2.2)
  refine pcalls_of Tryz.func108 rfl rfl Tryz.ntmps108 rfl ?_
  repeat' (first
    | refine then_go ?_
    | refine swp_seq ?_
    | ((refine swp_region (id := 0) ?_) <;> (refine sops_box (.free rfl rfl) rfl rfl rfl rfl rfl rfl ?_) <;> (refine sops_allocS str78 (.free rfl rfl) rfl rfl rfl rfl ?_) <;> (refine sops_nil ?_))
    | ((refine swp_draw (id := 1) 10 mixed (by kernel_rfl) (by kernel_rfl) ?_) <;> (first | refine sdraw_pure (.free rfl rfl) rfl (po_field_bx rfl rfl (tyF rfl)) ?_ | refine sdraw_pure (.free rfl rfl) rfl (po_field rfl rfl (tyF rfl)) ?_) <;> (first | refine sdraw_pure (.free rfl rfl) rfl (po_load_bx rfl rfl (tyT rfl) rfl rfl) ?_ | refine sdraw_pure (.free rfl rfl) rfl (po_load rfl rfl (tyT rfl) rfl) ?_) <;> (first | refine sdraw_pure (.free rfl rfl) rfl (po_call (c0) rfl (ac .nil)) ?_ | refine sdraw_pure (.free rfl rfl) rfl (po_call (c1) rfl (ac .nil)) ?_ | refine sdraw_pure (.free rfl rfl) rfl (po_call (c2) rfl (ac .nil)) ?_) <;> (first | refine sdraw_pure (.free rfl rfl) rfl (po_field_bx rfl rfl (tyF rfl)) ?_ | refine sdraw_pure (.free rfl rfl) rfl (po_field rfl rfl (tyF rfl)) ?_) <;> (first | refine sdraw_pure (.free rfl rfl) rfl (po_load_bx rfl rfl (tyT rfl) rfl rfl) ?_ | refine sdraw_pure (.free rfl rfl) rfl (po_load rfl rfl (tyT rfl) rfl) ?_) <;> (first | refine sdraw_pure (.free rfl rfl) rfl (po_call (c0) rfl (ac .nil)) ?_ | refine sdraw_pure (.free rfl rfl) rfl (po_call (c1) rfl (ac .nil)) ?_ | refine sdraw_pure (.free rfl rfl) rfl (po_call (c2) rfl (ac .nil)) ?_) <;> (first | refine sdraw_pure (.free rfl rfl) rfl (po_field_bx rfl rfl (tyF rfl)) ?_ | refine sdraw_pure (.free rfl rfl) rfl (po_field rfl rfl (tyF rfl)) ?_) <;> (first | refine sdraw_pure (.free rfl rfl) rfl (po_load_bx rfl rfl (tyT rfl) rfl rfl) ?_ | refine sdraw_pure (.free rfl rfl) rfl (po_load rfl rfl (tyT rfl) rfl) ?_) <;> (first | refine sdraw_pure (.free rfl rfl) rfl (po_call (c0) rfl (ac .nil)) ?_ | refine sdraw_pure (.free rfl rfl) rfl (po_call (c1) rfl (ac .nil)) ?_ | refine sdraw_pure (.free rfl rfl) rfl (po_call (c2) rfl (ac .nil)) ?_) <;> (first | refine sdraw_pure (.free rfl rfl) rfl (po_field_bx rfl rfl (tyF rfl)) ?_ | refine sdraw_pure (.free rfl rfl) rfl (po_field rfl rfl (tyF rfl)) ?_) <;> (refine sdraw_nil ?_) <;> (refine sops_store (.free rfl rfl) rfl rfl rfl rfl rfl rfl (tyT rfl) rfl rfl ?_) <;> (first | refine sops_pure (.free rfl rfl) rfl rfl (po_field_bx rfl rfl (tyF rfl)) ?_ | refine sops_pure (.free rfl rfl) rfl rfl (po_field rfl rfl (tyF rfl)) ?_) <;> (refine sops_store (.free rfl rfl) rfl rfl rfl rfl rfl rfl (tyT rfl) rfl rfl ?_) <;> (first | refine sops_pure (.free rfl rfl) rfl rfl (po_field_bx rfl rfl (tyF rfl)) ?_ | refine sops_pure (.free rfl rfl) rfl rfl (po_field rfl rfl (tyF rfl)) ?_) <;> (refine sops_store (.free rfl rfl) rfl rfl rfl rfl rfl rfl (tyT rfl) rfl rfl ?_) <;> (refine sops_nil ?_))
    | ((refine swp_region (id := 2) ?_) <;> (first | refine sops_pure (.free rfl rfl) rfl rfl (po_load_bx_agg rfl rfl (tyT rfl) rfl (vc (vc (vc .nil))) rfl) ?_ | refine sops_pure (.free rfl rfl) rfl rfl (po_load_agg rfl rfl (tyT rfl) rfl rfl) ?_) <;> (refine sops_store (.free rfl rfl) rfl rfl rfl rfl rfl rfl (tyT rfl) rfl rfl ?_) <;> (refine sops_nil ?_))
    | refine swp_ret ?_
    | refine swp_skip ?_
    | refine swp_block ?_
    | refine swp_exit ?_
    | refine block_go ?_
    | refine block_exit ?_
    | refine block_far rfl ?_
    | refine block_ret ?_
    | refine then_ret ?_
    | refine then_exit ?_
    | refine for_ret ?_
    | refine for_exit ?_
    | refine ct ?_
    | refine cf ?_
    | refine swp_cond rfl (fun hc => ?_) (fun hc => ?_)
    | refine retq (by first | exact .inr rfl | exact .inl rfl) rfl (.cell rfl rfl (tyT rfl) (vc (vc (vc .nil))) rfl .nil) ?_)
  rfl
set_option maxRecDepth 100000 in
set_option maxHeartbeats 1000000 in
theorem ownTarget_ (x : Pl.Target) (h : x.ports.length ≤ 1000 ∧ x.methods.length ≤ 1000 ∧ x.paths.length ≤ 1000 ∧ x.hosts.length ≤ 1000) : PCalls Tryz.prog 110 [.agg (targetT x)] (.agg (targetT x)) := by
  have c0 := cloneInt (x.ports.map intT) (few_b 8 h.1 (by omega)) (few_m h.1)
  have c1 := cloneTerm (x.methods.map termT) (few_b 24 h.2.1 (by omega)) (few_m h.2.1)
  have c2 := cloneTerm (x.paths.map termT) (few_b 24 h.2.2.1 (by omega)) (few_m h.2.2.1)
  have c3 := cloneTerm (x.hosts.map termT) (few_b 24 h.2.2.2 (by omega)) (few_m h.2.2.2)
  refine pcalls_of Tryz.func110 rfl rfl Tryz.ntmps110 rfl ?_
  repeat' (first
    | refine then_go ?_
    | refine swp_seq ?_
    | ((refine swp_region (id := 0) ?_) <;> (refine sops_box (.free rfl rfl) rfl rfl rfl rfl rfl rfl ?_) <;> (refine sops_allocS str80 (.free rfl rfl) rfl rfl rfl rfl ?_) <;> (refine sops_nil ?_))
    | ((refine swp_draw (id := 1) 13 mixed (by kernel_rfl) (by kernel_rfl) ?_) <;> (first | refine sdraw_pure (.free rfl rfl) rfl (po_field_bx rfl rfl (tyF rfl)) ?_ | refine sdraw_pure (.free rfl rfl) rfl (po_field rfl rfl (tyF rfl)) ?_) <;> (first | refine sdraw_pure (.free rfl rfl) rfl (po_load_bx rfl rfl (tyT rfl) rfl rfl) ?_ | refine sdraw_pure (.free rfl rfl) rfl (po_load rfl rfl (tyT rfl) rfl) ?_) <;> (first | refine sdraw_pure (.free rfl rfl) rfl (po_call (c0) rfl (ac .nil)) ?_ | refine sdraw_pure (.free rfl rfl) rfl (po_call (c1) rfl (ac .nil)) ?_ | refine sdraw_pure (.free rfl rfl) rfl (po_call (c2) rfl (ac .nil)) ?_ | refine sdraw_pure (.free rfl rfl) rfl (po_call (c3) rfl (ac .nil)) ?_) <;> (first | refine sdraw_pure (.free rfl rfl) rfl (po_field_bx rfl rfl (tyF rfl)) ?_ | refine sdraw_pure (.free rfl rfl) rfl (po_field rfl rfl (tyF rfl)) ?_) <;> (first | refine sdraw_pure (.free rfl rfl) rfl (po_load_bx rfl rfl (tyT rfl) rfl rfl) ?_ | refine sdraw_pure (.free rfl rfl) rfl (po_load rfl rfl (tyT rfl) rfl) ?_) <;> (first | refine sdraw_pure (.free rfl rfl) rfl (po_call (c0) rfl (ac .nil)) ?_ | refine sdraw_pure (.free rfl rfl) rfl (po_call (c1) rfl (ac .nil)) ?_ | refine sdraw_pure (.free rfl rfl) rfl (po_call (c2) rfl (ac .nil)) ?_ | refine sdraw_pure (.free rfl rfl) rfl (po_call (c3) rfl (ac .nil)) ?_) <;> (first | refine sdraw_pure (.free rfl rfl) rfl (po_field_bx rfl rfl (tyF rfl)) ?_ | refine sdraw_pure (.free rfl rfl) rfl (po_field rfl rfl (tyF rfl)) ?_) <;> (first | refine sdraw_pure (.free rfl rfl) rfl (po_load_bx rfl rfl (tyT rfl) rfl rfl) ?_ | refine sdraw_pure (.free rfl rfl) rfl (po_load rfl rfl (tyT rfl) rfl) ?_) <;> (first | refine sdraw_pure (.free rfl rfl) rfl (po_call (c0) rfl (ac .nil)) ?_ | refine sdraw_pure (.free rfl rfl) rfl (po_call (c1) rfl (ac .nil)) ?_ | refine sdraw_pure (.free rfl rfl) rfl (po_call (c2) rfl (ac .nil)) ?_ | refine sdraw_pure (.free rfl rfl) rfl (po_call (c3) rfl (ac .nil)) ?_) <;> (first | refine sdraw_pure (.free rfl rfl) rfl (po_field_bx rfl rfl (tyF rfl)) ?_ | refine sdraw_pure (.free rfl rfl) rfl (po_field rfl rfl (tyF rfl)) ?_) <;> (first | refine sdraw_pure (.free rfl rfl) rfl (po_load_bx rfl rfl (tyT rfl) rfl rfl) ?_ | refine sdraw_pure (.free rfl rfl) rfl (po_load rfl rfl (tyT rfl) rfl) ?_) <;> (first | refine sdraw_pure (.free rfl rfl) rfl (po_call (c0) rfl (ac .nil)) ?_ | refine sdraw_pure (.free rfl rfl) rfl (po_call (c1) rfl (ac .nil)) ?_ | refine sdraw_pure (.free rfl rfl) rfl (po_call (c2) rfl (ac .nil)) ?_ | refine sdraw_pure (.free rfl rfl) rfl (po_call (c3) rfl (ac .nil)) ?_) <;> (first | refine sdraw_pure (.free rfl rfl) rfl (po_field_bx rfl rfl (tyF rfl)) ?_ | refine sdraw_pure (.free rfl rfl) rfl (po_field rfl rfl (tyF rfl)) ?_) <;> (refine sdraw_nil ?_) <;> (refine sops_store (.free rfl rfl) rfl rfl rfl rfl rfl rfl (tyT rfl) rfl rfl ?_) <;> (first | refine sops_pure (.free rfl rfl) rfl rfl (po_field_bx rfl rfl (tyF rfl)) ?_ | refine sops_pure (.free rfl rfl) rfl rfl (po_field rfl rfl (tyF rfl)) ?_) <;> (refine sops_store (.free rfl rfl) rfl rfl rfl rfl rfl rfl (tyT rfl) rfl rfl ?_) <;> (first | refine sops_pure (.free rfl rfl) rfl rfl (po_field_bx rfl rfl (tyF rfl)) ?_ | refine sops_pure (.free rfl rfl) rfl rfl (po_field rfl rfl (tyF rfl)) ?_) <;> (refine sops_store (.free rfl rfl) rfl rfl rfl rfl rfl rfl (tyT rfl) rfl rfl ?_) <;> (first | refine sops_pure (.free rfl rfl) rfl rfl (po_field_bx rfl rfl (tyF rfl)) ?_ | refine sops_pure (.free rfl rfl) rfl rfl (po_field rfl rfl (tyF rfl)) ?_) <;> (refine sops_store (.free rfl rfl) rfl rfl rfl rfl rfl rfl (tyT rfl) rfl rfl ?_) <;> (refine sops_nil ?_))
    | ((refine swp_region (id := 2) ?_) <;> (first | refine sops_pure (.free rfl rfl) rfl rfl (po_load_bx_agg rfl rfl (tyT rfl) rfl (vc (vc (vc (vc .nil)))) rfl) ?_ | refine sops_pure (.free rfl rfl) rfl rfl (po_load_agg rfl rfl (tyT rfl) rfl rfl) ?_) <;> (refine sops_store (.free rfl rfl) rfl rfl rfl rfl rfl rfl (tyT rfl) rfl rfl ?_) <;> (refine sops_nil ?_))
    | refine swp_ret ?_
    | refine swp_skip ?_
    | refine swp_block ?_
    | refine swp_exit ?_
    | refine block_go ?_
    | refine block_exit ?_
    | refine block_far rfl ?_
    | refine block_ret ?_
    | refine then_ret ?_
    | refine then_exit ?_
    | refine for_ret ?_
    | refine for_exit ?_
    | refine ct ?_
    | refine cf ?_
    | refine swp_cond rfl (fun hc => ?_) (fun hc => ?_)
    | refine retq (by first | exact .inr rfl | exact .inl rfl) rfl (.cell rfl rfl (tyT rfl) (vc (vc (vc (vc .nil)))) rfl .nil) ?_)
  rfl
set_option maxRecDepth 100000 in
set_option maxHeartbeats 1000000 in
theorem ownWhen_ (x : Pl.When) (h : x.terms.length ≤ 1000) : PCalls Tryz.prog 112 [.agg (whenT x)] (.agg (whenT x)) := by
  have c1 := cloneTerm (x.terms.map termT) (few_b 24 h (by omega)) (few_m h)
  refine pcalls_of Tryz.func112 rfl rfl Tryz.ntmps112 rfl ?_
  repeat' (first
    | refine then_go ?_
    | refine swp_seq ?_
    | ((refine swp_region (id := 0) ?_) <;> (refine sops_box (.free rfl rfl) rfl rfl rfl rfl rfl rfl ?_) <;> (refine sops_allocS str82 (.free rfl rfl) rfl rfl rfl rfl ?_) <;> (refine sops_nil ?_))
    | ((refine swp_region (id := 1) ?_) <;> (first | refine sops_pure (.free rfl rfl) rfl rfl (po_field_bx rfl rfl (tyF rfl)) ?_ | refine sops_pure (.free rfl rfl) rfl rfl (po_field rfl rfl (tyF rfl)) ?_) <;> (first | refine sops_pure (.free rfl rfl) rfl rfl (po_load_bx rfl rfl (tyT rfl) rfl rfl) ?_ | refine sops_pure (.free rfl rfl) rfl rfl (po_load rfl rfl (tyT rfl) rfl) ?_) <;> (refine sops_pure (.free rfl rfl) rfl rfl (po_call (c1) rfl (ac .nil)) ?_) <;> (first | refine sops_pure (.free rfl rfl) rfl rfl (po_field_bx rfl rfl (tyF rfl)) ?_ | refine sops_pure (.free rfl rfl) rfl rfl (po_field rfl rfl (tyF rfl)) ?_) <;> (refine sops_store (.free rfl rfl) rfl rfl rfl rfl rfl rfl (tyT rfl) rfl rfl ?_) <;> (refine sops_nil ?_))
    | ((refine swp_region (id := 2) ?_) <;> (first | refine sops_pure (.free rfl rfl) rfl rfl (po_load_bx_agg rfl rfl (tyT rfl) rfl (vc (vc .nil)) rfl) ?_ | refine sops_pure (.free rfl rfl) rfl rfl (po_load_agg rfl rfl (tyT rfl) rfl rfl) ?_) <;> (refine sops_store (.free rfl rfl) rfl rfl rfl rfl rfl rfl (tyT rfl) rfl rfl ?_) <;> (refine sops_nil ?_))
    | refine swp_ret ?_
    | refine swp_skip ?_
    | refine swp_block ?_
    | refine swp_exit ?_
    | refine block_go ?_
    | refine block_exit ?_
    | refine block_far rfl ?_
    | refine block_ret ?_
    | refine then_ret ?_
    | refine then_exit ?_
    | refine for_ret ?_
    | refine for_exit ?_
    | refine ct ?_
    | refine cf ?_
    | refine swp_cond rfl (fun hc => ?_) (fun hc => ?_)
    | refine retq (by first | exact .inr rfl | exact .inl rfl) rfl (.cell rfl rfl (tyT rfl) (vc (vc .nil)) rfl .nil) ?_)
  rfl
theorem map_id_ {α : Type} (l : List α) : l.map (fun x => x) = l := List.map_id' l
set_option maxRecDepth 100000 in
set_option maxHeartbeats 1000000 in
theorem ownRule_ (x : Pl.Rule) (h : FewR x) : PCalls Tryz.prog 79 [.agg (ruleT x)] (.agg (ruleT x)) := by
  have c0 := mapPSource (fun s => s) 108 [] x.from_ (fun s hs => ownSource_ s (h.fs s hs)) h.f
  have c1 := mapPTarget (fun s => s) 110 [] x.to_ (fun s hs => ownTarget_ s (h.ts s hs)) h.t
  have c2 := mapPWhen (fun s => s) 112 [] x.when_ (fun s hs => ownWhen_ s (h.ws s hs)) h.w
  rw [map_id_] at c0 c1 c2
  refine pcalls_of Tryz.func79 rfl rfl Tryz.ntmps79 rfl ?_
  repeat' (first
    | refine then_go ?_
    | refine swp_seq ?_
    | ((refine swp_region (id := 0) ?_) <;> (refine sops_box (.free rfl rfl) rfl rfl rfl rfl rfl rfl ?_) <;> (refine sops_allocS str46 (.free rfl rfl) rfl rfl rfl rfl ?_) <;> (refine sops_nil ?_))
    | ((refine swp_draw (id := 1) 10 mixed (by kernel_rfl) (by kernel_rfl) ?_) <;> (first | refine sdraw_pure (.free rfl rfl) rfl (po_field_bx rfl rfl (tyF rfl)) ?_ | refine sdraw_pure (.free rfl rfl) rfl (po_field rfl rfl (tyF rfl)) ?_) <;> (first | refine sdraw_pure (.free rfl rfl) rfl (po_load_bx rfl rfl (tyT rfl) rfl rfl) ?_ | refine sdraw_pure (.free rfl rfl) rfl (po_load rfl rfl (tyT rfl) rfl) ?_) <;> (first | refine sdraw_pure (.free rfl rfl) rfl (po_call (c0) rfl (ac (ac .nil))) ?_ | refine sdraw_pure (.free rfl rfl) rfl (po_call (c1) rfl (ac (ac .nil))) ?_ | refine sdraw_pure (.free rfl rfl) rfl (po_call (c2) rfl (ac (ac .nil))) ?_) <;> (first | refine sdraw_pure (.free rfl rfl) rfl (po_field_bx rfl rfl (tyF rfl)) ?_ | refine sdraw_pure (.free rfl rfl) rfl (po_field rfl rfl (tyF rfl)) ?_) <;> (first | refine sdraw_pure (.free rfl rfl) rfl (po_load_bx rfl rfl (tyT rfl) rfl rfl) ?_ | refine sdraw_pure (.free rfl rfl) rfl (po_load rfl rfl (tyT rfl) rfl) ?_) <;> (first | refine sdraw_pure (.free rfl rfl) rfl (po_call (c0) rfl (ac (ac .nil))) ?_ | refine sdraw_pure (.free rfl rfl) rfl (po_call (c1) rfl (ac (ac .nil))) ?_ | refine sdraw_pure (.free rfl rfl) rfl (po_call (c2) rfl (ac (ac .nil))) ?_) <;> (first | refine sdraw_pure (.free rfl rfl) rfl (po_field_bx rfl rfl (tyF rfl)) ?_ | refine sdraw_pure (.free rfl rfl) rfl (po_field rfl rfl (tyF rfl)) ?_) <;> (first | refine sdraw_pure (.free rfl rfl) rfl (po_load_bx rfl rfl (tyT rfl) rfl rfl) ?_ | refine sdraw_pure (.free rfl rfl) rfl (po_load rfl rfl (tyT rfl) rfl) ?_) <;> (first | refine sdraw_pure (.free rfl rfl) rfl (po_call (c0) rfl (ac (ac .nil))) ?_ | refine sdraw_pure (.free rfl rfl) rfl (po_call (c1) rfl (ac (ac .nil))) ?_ | refine sdraw_pure (.free rfl rfl) rfl (po_call (c2) rfl (ac (ac .nil))) ?_) <;> (first | refine sdraw_pure (.free rfl rfl) rfl (po_field_bx rfl rfl (tyF rfl)) ?_ | refine sdraw_pure (.free rfl rfl) rfl (po_field rfl rfl (tyF rfl)) ?_) <;> (refine sdraw_nil ?_) <;> (refine sops_store (.free rfl rfl) rfl rfl rfl rfl rfl rfl (tyT rfl) rfl rfl ?_) <;> (first | refine sops_pure (.free rfl rfl) rfl rfl (po_field_bx rfl rfl (tyF rfl)) ?_ | refine sops_pure (.free rfl rfl) rfl rfl (po_field rfl rfl (tyF rfl)) ?_) <;> (refine sops_store (.free rfl rfl) rfl rfl rfl rfl rfl rfl (tyT rfl) rfl rfl ?_) <;> (first | refine sops_pure (.free rfl rfl) rfl rfl (po_field_bx rfl rfl (tyF rfl)) ?_ | refine sops_pure (.free rfl rfl) rfl rfl (po_field rfl rfl (tyF rfl)) ?_) <;> (refine sops_store (.free rfl rfl) rfl rfl rfl rfl rfl rfl (tyT rfl) rfl rfl ?_) <;> (refine sops_nil ?_))
    | ((refine swp_region (id := 2) ?_) <;> (first | refine sops_pure (.free rfl rfl) rfl rfl (po_load_bx_agg rfl rfl (tyT rfl) rfl (vc (vc (vc .nil))) rfl) ?_ | refine sops_pure (.free rfl rfl) rfl rfl (po_load_agg rfl rfl (tyT rfl) rfl rfl) ?_) <;> (refine sops_store (.free rfl rfl) rfl rfl rfl rfl rfl rfl (tyT rfl) rfl rfl ?_) <;> (refine sops_nil ?_))
    | refine swp_ret ?_
    | refine swp_skip ?_
    | refine swp_block ?_
    | refine swp_exit ?_
    | refine block_go ?_
    | refine block_exit ?_
    | refine block_far rfl ?_
    | refine block_ret ?_
    | refine then_ret ?_
    | refine then_exit ?_
    | refine for_ret ?_
    | refine for_exit ?_
    | refine ct ?_
    | refine cf ?_
    | refine swp_cond rfl (fun hc => ?_) (fun hc => ?_)
    | refine retq (by first | exact .inr rfl | exact .inl rfl) rfl (.cell rfl rfl (tyT rfl) (vc (vc (vc .nil))) rfl .nil) ?_)
  rfl
set_option maxRecDepth 100000 in
set_option maxHeartbeats 1000000 in
theorem ownPol (p : Pl.Policy) (h : FewP p) : LCalls Tryz.prog 59 [.t (.agg (polT p))] [] [] (.ag [.t (.v (.int .u64 p.id)), .t (.v (.string p.ns)), .t (.v (.int .u64 p.service)), .t (.v (.int .i64 p.deny)), .own 1000 (p.rules.map ruleT).length]) [] [(1000, ⟨46, 3, p.rules.map ruleT⟩)] := by
  have c1 := mapPRuleL (fun s => s) 79 [] p.rules (fun s hs => ownRule_ s (h.r s hs)) h.n
  rw [map_id_] at c1
  refine lcalls_of Tryz.func59 rfl rfl Tryz.ntmps59 rfl ?_
  repeat' (first
    | refine then_go ?_
    | refine swp_seq ?_
    | ((refine swp_region (id := 0) ?_) <;> (refine sops_box (.free rfl rfl) rfl rfl rfl rfl rfl rfl ?_) <;> (refine sops_allocS str50 (.free rfl rfl) rfl rfl rfl rfl ?_) <;> (refine sops_nil ?_))
    | ((refine swp_region (id := 1) ?_) <;> (first | refine sops_pure (.free rfl rfl) rfl rfl (po_field_bx rfl rfl (tyF rfl)) ?_ | refine sops_pure (.free rfl rfl) rfl rfl (po_field rfl rfl (tyF rfl)) ?_ | refine sops_pure (.free rfl rfl) rfl rfl (po_field_own rfl rfl rfl (by first | rfl | assumption | omega | (simp; done) | (simp; omega) | (simp at *; omega)) (tyF rfl)) ?_) <;> (first | refine sops_pure (.free rfl rfl) rfl rfl (po_load_bx rfl rfl (tyT rfl) rfl rfl) ?_ | refine sops_pure (.free rfl rfl) rfl rfl (po_load rfl rfl (tyT rfl) rfl) ?_ | refine sops_pure (.free rfl rfl) rfl rfl (po_load_own rfl rfl rfl (by first | rfl | assumption | omega | (simp; done) | (simp; omega) | (simp at *; omega)) (tyT rfl) (by first | rfl | assumption | exact map_at (by first | assumption | omega)) rfl) ?_) <;> (refine sops_lcall (c1) (fun i => i) (fun i => i) (fun _ => false) (.free rfl rfl) rfl rfl rfl (by first | ((repeat' (first | exact .nil | refine .cons rfl rfl rfl ?_ | refine .vw rfl (by first | exact .t _ | exact .own rfl (by first | rfl | assumption | (simp; done) | (simp; omega)) | exact .nil _ | exact .emp _ | exact .fn _) ?_)) <;> fail) | fail) .nil .nil rfl rfl (fun _ h => Bool.noConfusion h) ?_) <;> (first | refine sops_pure (.free rfl rfl) rfl rfl (po_field_bx rfl rfl (tyF rfl)) ?_ | refine sops_pure (.free rfl rfl) rfl rfl (po_field rfl rfl (tyF rfl)) ?_ | refine sops_pure (.free rfl rfl) rfl rfl (po_field_own rfl rfl rfl (by first | rfl | assumption | omega | (simp; done) | (simp; omega) | (simp at *; omega)) (tyF rfl)) ?_) <;> (first | refine sops_store (.free rfl rfl) rfl rfl rfl rfl rfl rfl (tyT rfl) rfl rfl ?_ | refine sops_store_own (by rfl) (.free rfl rfl) rfl rfl rfl rfl (by first | rfl | assumption | omega | (simp; done) | (simp; omega) | (simp at *; omega)) rfl (by first | exact .t _ | exact .own rfl (by first | rfl | assumption | (simp; done) | (simp; omega)) | exact .nil _ | exact .emp _ | exact .fn _) rfl rfl (tyT rfl) rfl (by first | rfl | assumption | exact map_at (by first | assumption | omega)) rfl ?_) <;> (refine sops_nil ?_))
    | ((refine swp_region (id := 2) ?_) <;> (first | refine sops_pure (.free rfl rfl) rfl rfl (po_load_bx_agg rfl rfl (tyT rfl) rfl (vc (vc (vc (vc (vc .nil))))) rfl) ?_ | refine sops_pure (.free rfl rfl) rfl rfl (po_load_agg rfl rfl (tyT rfl) rfl rfl) ?_ | refine sops_pure (.free rfl rfl) rfl rfl (po_load_own_agg rfl rfl rfl (by first | rfl | assumption | omega | (simp; done) | (simp; omega) | (simp at *; omega)) (tyT rfl) (by first | rfl | assumption | exact map_at (by first | assumption | omega)) rfl rfl) ?_ | refine sops_pure (.free rfl rfl) rfl rfl (po_load_bx_ag rfl rfl (tyT rfl) rfl rfl rfl rfl) ?_) <;> (first | refine sops_store (.free rfl rfl) rfl rfl rfl rfl rfl rfl (tyT rfl) rfl rfl ?_ | refine sops_store_own (by rfl) (.free rfl rfl) rfl rfl rfl rfl (by first | rfl | assumption | omega | (simp; done) | (simp; omega) | (simp at *; omega)) rfl (by first | exact .t _ | exact .own rfl (by first | rfl | assumption | (simp; done) | (simp; omega)) | exact .nil _ | exact .emp _ | exact .fn _) rfl rfl (tyT rfl) rfl (by first | rfl | assumption | exact map_at (by first | assumption | omega)) rfl ?_) <;> (refine sops_nil ?_))
    | refine swp_ret ?_
    | refine swp_skip ?_
    | refine swp_block ?_
    | refine swp_exit ?_
    | refine block_go ?_
    | refine block_exit ?_
    | refine block_far rfl ?_
    | refine block_ret ?_
    | refine then_ret ?_
    | refine then_exit ?_
    | refine for_ret ?_
    | refine for_exit ?_
    | refine ct ?_
    | refine cf ?_
    | refine swp_cond rfl (fun hc => ?_) (fun hc => ?_)
    | refine retl (by first | exact .inr rfl | exact .inl rfl) rfl (.cell rfl rfl (tyT rfl) rfl rfl .nil) ?_ rfl .nil (.cons rfl (by first | rfl | assumption | (symm; assumption)) .nil))
  rfl
set_option maxRecDepth 100000 in
set_option maxHeartbeats 1000000 in
theorem ownPolP (p : Pl.Policy) (h : FewP p) : PCalls Tryz.prog 59 [.agg (polT p)] (.agg (polT p)) := by
  have c1 := mapPRule (fun s => s) 79 [] p.rules (fun s hs => ownRule_ s (h.r s hs)) h.n
  rw [map_id_] at c1
  refine pcalls_of Tryz.func59 rfl rfl Tryz.ntmps59 rfl ?_
  repeat' (first
    | refine then_go ?_
    | refine swp_seq ?_
    | ((refine swp_region (id := 0) ?_) <;> (refine sops_box (.free rfl rfl) rfl rfl rfl rfl rfl rfl ?_) <;> (refine sops_allocS str50 (.free rfl rfl) rfl rfl rfl rfl ?_) <;> (refine sops_nil ?_))
    | ((refine swp_region (id := 1) ?_) <;> (first | refine sops_pure (.free rfl rfl) rfl rfl (po_field_bx rfl rfl (tyF rfl)) ?_ | refine sops_pure (.free rfl rfl) rfl rfl (po_field rfl rfl (tyF rfl)) ?_) <;> (first | refine sops_pure (.free rfl rfl) rfl rfl (po_load_bx rfl rfl (tyT rfl) rfl rfl) ?_ | refine sops_pure (.free rfl rfl) rfl rfl (po_load rfl rfl (tyT rfl) rfl) ?_) <;> (refine sops_pure (.free rfl rfl) rfl rfl (po_call (c1) rfl (ac (ac .nil))) ?_) <;> (first | refine sops_pure (.free rfl rfl) rfl rfl (po_field_bx rfl rfl (tyF rfl)) ?_ | refine sops_pure (.free rfl rfl) rfl rfl (po_field rfl rfl (tyF rfl)) ?_) <;> (refine sops_store (.free rfl rfl) rfl rfl rfl rfl rfl rfl (tyT rfl) rfl rfl ?_) <;> (refine sops_nil ?_))
    | ((refine swp_region (id := 2) ?_) <;> (first | refine sops_pure (.free rfl rfl) rfl rfl (po_load_bx_agg rfl rfl (tyT rfl) rfl (vc (vc (vc (vc (vc .nil))))) rfl) ?_ | refine sops_pure (.free rfl rfl) rfl rfl (po_load_agg rfl rfl (tyT rfl) rfl rfl) ?_) <;> (refine sops_store (.free rfl rfl) rfl rfl rfl rfl rfl rfl (tyT rfl) rfl rfl ?_) <;> (refine sops_nil ?_))
    | refine swp_ret ?_
    | refine swp_skip ?_
    | refine swp_block ?_
    | refine swp_exit ?_
    | refine block_go ?_
    | refine block_exit ?_
    | refine block_far rfl ?_
    | refine block_ret ?_
    | refine then_ret ?_
    | refine then_exit ?_
    | refine for_ret ?_
    | refine for_exit ?_
    | refine ct ?_
    | refine cf ?_
    | refine swp_cond rfl (fun hc => ?_) (fun hc => ?_)
    | refine retq (by first | exact .inr rfl | exact .inl rfl) rfl (.cell rfl rfl (tyT rfl) (vc (vc (vc (vc (vc .nil))))) rfl .nil) ?_)
  rfl
def ITarget (xs : List Pl.Target) (f : FuncId) (caps : List T) (k : Nat) : St := ⟨[(0, .t (.sl 4 (xs.map targetT))), (1, .t (.clo f caps)), (7, .t (.v (.int .i64 (xs.length : Int)))), (8, .t (.v (.int .i64 (k : Int))))], [], []⟩
set_option maxRecDepth 100000 in
set_option maxHeartbeats 1000000 in
theorem idxTarget (p : Pl.Target → Bool) (f : FuncId) (caps : List T) (xs : List Pl.Target) (r : Int) (hK : ∀ x ∈ xs, PCalls Tryz.prog f ([.agg (targetT x)] ++ caps) (.v (.bool (p x)))) (hn : xs.length ≤ 1000)
    (h1 : ∀ k, (h : k < xs.length) → (∀ j, j < k → ∀ x, xs[j]? = some x → p x = false) → p xs[k] = true → r = (k : Int)) (h2 : (∀ x ∈ xs, p x = false) → r = -1) : PCalls Tryz.prog 113 [.sl 4 (xs.map targetT), .clo f caps] (.v (.int .i64 r)) := by
  have hm1 : (xs.map targetT).length = xs.length := List.length_map _
  refine pcalls_of Tryz.func113 rfl rfl Tryz.ntmps113 rfl ?_
  repeat' (first
    | refine then_go ?_
    | refine swp_seq ?_
    | ((refine swp_region (id := 0) ?_) <;> (refine sops_pure (.free rfl rfl) rfl rfl (po_assign rfl rfl) ?_) <;> (refine sops_nil ?_))
    | ((refine swp_region (id := 1) ?_) <;> (refine sops_pure (.free rfl rfl) rfl rfl (po_move rfl rfl) ?_) <;> (refine sops_pure (.free rfl rfl) rfl rfl (pln rfl (tyS rfl)) ?_) <;> (refine sops_pure (.free rfl rfl) rfl rfl (po_move rfl rfl) ?_) <;> (refine sops_nil ?_))
    | refine swp_ret ?_
    | refine swp_skip ?_
    | refine swp_block ?_
    | refine swp_exit ?_
    | refine block_go ?_
    | refine block_exit ?_
    | refine block_far rfl ?_
    | refine block_ret ?_
    | refine then_ret ?_
    | refine then_exit ?_
    | refine for_ret ?_
    | refine for_exit ?_
    | refine ct ?_
    | refine cf ?_
    | refine swp_cond rfl (fun hc => ?_) (fun hc => ?_)
    | refine retq (by first | exact .inr rfl | exact .inl rfl) rfl (.tmp rfl (by first | exact .t _ | exact .own rfl (by first | rfl | assumption | (simp; done) | (simp; omega)) | exact .nil _ | exact .emp _ | exact .fn _) .nil) ?_)
  refine swp_for (ITarget xs f caps) (fun k => ∀ j, j < k → ∀ x, xs[j]? = some x → p x = false) xs.length ?_ (fun j hj => by omega) ?_
  · exact (weak_sub (.cons rfl (by first | rfl | (exact congrArg (fun n : Nat => A.t (.v (.int .i64 (n : Int)))) hm1)) rfl (.cons rfl (by first | rfl | (exact congrArg (fun n : Nat => A.t (.v (.int .i64 (n : Int)))) hm1)) rfl (.cons rfl (by first | rfl | (exact congrArg (fun n : Nat => A.t (.v (.int .i64 (n : Int)))) hm1)) rfl (.cons rfl (by first | rfl | (exact congrArg (fun n : Nat => A.t (.v (.int .i64 (n : Int)))) hm1)) rfl .nil)))) .nil .nil)
  intro k hk hI
  unfold ITarget
  by_cases hlt : k < xs.length
  · have c1 := hK _ (List.getElem_mem hlt)
    have hstep : p xs[k] = false → ∀ j, j < k + 1 → ∀ x, xs[j]? = some x → p x = false := fun hp j hj x hx => by
      by_cases h : j = k
      · subst h; rw [List.getElem?_eq_getElem hlt] at hx; injection hx with hx; subst hx; exact hp
      · exact hI j (by omega) x hx
    repeat' (first
      | refine then_go ?_
      | refine swp_seq ?_
      | refine for_next hlt (weak_sub (.cons rfl rfl rfl (.cons rfl rfl rfl (.cons rfl rfl rfl (.cons rfl rfl rfl .nil)))) .nil .nil) (hstep (by first | assumption | simp_all))
      | ((refine swp_region (id := 2) ?_) <;> (refine sops_pure (.free rfl rfl) rfl rfl (po_cmp rfl rfl rfl rfl) ?_) <;> (refine sops_nil ?_))
      | ((refine swp_region (id := 3) ?_) <;> (refine sops_pure (.free rfl rfl) rfl rfl (po_move rfl rfl) ?_) <;> (refine sops_pure (.free rfl rfl) rfl rfl (po_assign rfl rfl) ?_) <;> (refine sops_nil ?_))
      | ((refine swp_region (id := 4) ?_) <;> (refine sops_pure (.free rfl rfl) rfl rfl (po_move rfl rfl) ?_) <;> (refine sops_pure (.free rfl rfl) rfl rfl (po_move rfl rfl) ?_) <;> (refine sops_pure (.free rfl rfl) rfl rfl (po_move rfl rfl) ?_) <;> (refine sops_pure (.free rfl rfl) rfl rfl (pix rfl (tyS rfl)) ?_) <;> (first | refine sops_pure (.free rfl rfl) rfl rfl (po_load_bx_agg rfl rfl (tyT rfl) rfl (vc (vc (vc (vc .nil)))) rfl) ?_ | refine sops_pure (.free rfl rfl) rfl rfl (po_load_agg rfl rfl (tyT rfl) rfl rfl) ?_) <;> (refine sops_pure (.free rfl rfl) rfl rfl (po_call_clo rfl rfl (ac .nil) (c1)) ?_) <;> (refine sops_nil ?_))
      | ((refine swp_region (id := 5) ?_) <;> (refine sops_pure (.free rfl rfl) rfl rfl (po_move rfl rfl) ?_) <;> (refine sops_pure (.free rfl rfl) rfl rfl (po_assign rfl rfl) ?_) <;> (refine sops_nil ?_))
      | ((refine swp_region (id := 6) ?_) <;> (first | refine sops_pure (.free rfl rfl) rfl rfl (po_inc rfl rfl rfl (by omega)) ?_ | refine sops_pure (.free rfl rfl) rfl rfl (po_arith rfl rfl rfl (ar_add (by first | rfl | (refine wrap_i64 ?_; omega)) rfl)) ?_) <;> (refine sops_pure (.free rfl rfl) rfl rfl (po_move rfl rfl) ?_) <;> (refine sops_nil ?_))
      | refine swp_ret ?_
      | refine swp_skip ?_
      | refine swp_block ?_
      | refine swp_exit ?_
      | refine block_go ?_
      | refine block_exit ?_
      | refine block_far rfl ?_
      | refine block_ret ?_
      | refine then_ret ?_
      | refine then_exit ?_
      | refine for_ret ?_
      | refine for_exit ?_
      | refine ct ?_
      | refine cf ?_
      | refine swp_cond rfl (fun hc => ?_) (fun hc => ?_)
      | refine retq (by first | exact .inr rfl | exact .inl rfl) rfl (.tmp rfl (by first | exact .t _ | exact .own rfl (by first | rfl | assumption | (simp; done) | (simp; omega)) | exact .nil _ | exact .emp _ | exact .fn _) .nil) ?_)
    rw [h1 k hlt hI (by first | assumption | simp_all)]; rfl
  · obtain rfl : k = xs.length := by omega
    repeat' (first
      | refine then_go ?_
      | refine swp_seq ?_
      | ((refine swp_region (id := 2) ?_) <;> (refine sops_pure (.free rfl rfl) rfl rfl (po_cmp rfl rfl rfl rfl) ?_) <;> (refine sops_nil ?_))
      | ((refine swp_region (id := 7) ?_) <;> (refine sops_pure (.free rfl rfl) rfl rfl (po_assign rfl rfl) ?_) <;> (refine sops_nil ?_))
      | refine swp_ret ?_
      | refine swp_skip ?_
      | refine swp_block ?_
      | refine swp_exit ?_
      | refine block_go ?_
      | refine block_exit ?_
      | refine block_far rfl ?_
      | refine block_ret ?_
      | refine then_ret ?_
      | refine then_exit ?_
      | refine for_ret ?_
      | refine for_exit ?_
      | refine ct ?_
      | refine cf ?_
      | refine swp_cond rfl (fun hc => ?_) (fun hc => ?_)
      | refine retq (by first | exact .inr rfl | exact .inl rfl) rfl (.tmp rfl (by first | exact .t _ | exact .own rfl (by first | rfl | assumption | (simp; done) | (simp; omega)) | exact .nil _ | exact .emp _ | exact .fn _) .nil) ?_)
    rw [h2 fun x hx => by obtain ⟨j, hj⟩ := List.getElem?_of_mem hx; exact hI j (List.getElem?_eq_some_iff.1 hj).1 x hj]; rfl
def IRule (xs : List Pl.Rule) (f : FuncId) (caps : List T) (k : Nat) : St := ⟨[(0, .t (.sl 3 (xs.map ruleT))), (1, .t (.clo f caps)), (7, .t (.v (.int .i64 (xs.length : Int)))), (8, .t (.v (.int .i64 (k : Int))))], [], []⟩
set_option maxRecDepth 100000 in
set_option maxHeartbeats 1000000 in
theorem idxRule (p : Pl.Rule → Bool) (f : FuncId) (caps : List T) (xs : List Pl.Rule) (r : Int) (hK : ∀ x ∈ xs, PCalls Tryz.prog f ([.agg (ruleT x)] ++ caps) (.v (.bool (p x)))) (hn : xs.length ≤ 1000)
    (h1 : ∀ k, (h : k < xs.length) → (∀ j, j < k → ∀ x, xs[j]? = some x → p x = false) → p xs[k] = true → r = (k : Int)) (h2 : (∀ x ∈ xs, p x = false) → r = -1) : PCalls Tryz.prog 80 [.sl 3 (xs.map ruleT), .clo f caps] (.v (.int .i64 r)) := by
  have hm1 : (xs.map ruleT).length = xs.length := List.length_map _
  refine pcalls_of Tryz.func80 rfl rfl Tryz.ntmps80 rfl ?_
  repeat' (first
    | refine then_go ?_
    | refine swp_seq ?_
    | ((refine swp_region (id := 0) ?_) <;> (refine sops_pure (.free rfl rfl) rfl rfl (po_assign rfl rfl) ?_) <;> (refine sops_nil ?_))
    | ((refine swp_region (id := 1) ?_) <;> (refine sops_pure (.free rfl rfl) rfl rfl (po_move rfl rfl) ?_) <;> (refine sops_pure (.free rfl rfl) rfl rfl (pln rfl (tyS rfl)) ?_) <;> (refine sops_pure (.free rfl rfl) rfl rfl (po_move rfl rfl) ?_) <;> (refine sops_nil ?_))
    | refine swp_ret ?_
    | refine swp_skip ?_
    | refine swp_block ?_
    | refine swp_exit ?_
    | refine block_go ?_
    | refine block_exit ?_
    | refine block_far rfl ?_
    | refine block_ret ?_
    | refine then_ret ?_
    | refine then_exit ?_
    | refine for_ret ?_
    | refine for_exit ?_
    | refine ct ?_
    | refine cf ?_
    | refine swp_cond rfl (fun hc => ?_) (fun hc => ?_)
    | refine retq (by first | exact .inr rfl | exact .inl rfl) rfl (.tmp rfl (by first | exact .t _ | exact .own rfl (by first | rfl | assumption | (simp; done) | (simp; omega)) | exact .nil _ | exact .emp _ | exact .fn _) .nil) ?_)
  refine swp_for (IRule xs f caps) (fun k => ∀ j, j < k → ∀ x, xs[j]? = some x → p x = false) xs.length ?_ (fun j hj => by omega) ?_
  · exact (weak_sub (.cons rfl (by first | rfl | (exact congrArg (fun n : Nat => A.t (.v (.int .i64 (n : Int)))) hm1)) rfl (.cons rfl (by first | rfl | (exact congrArg (fun n : Nat => A.t (.v (.int .i64 (n : Int)))) hm1)) rfl (.cons rfl (by first | rfl | (exact congrArg (fun n : Nat => A.t (.v (.int .i64 (n : Int)))) hm1)) rfl (.cons rfl (by first | rfl | (exact congrArg (fun n : Nat => A.t (.v (.int .i64 (n : Int)))) hm1)) rfl .nil)))) .nil .nil)
  intro k hk hI
  unfold IRule
  by_cases hlt : k < xs.length
  · have c1 := hK _ (List.getElem_mem hlt)
    have hstep : p xs[k] = false → ∀ j, j < k + 1 → ∀ x, xs[j]? = some x → p x = false := fun hp j hj x hx => by
      by_cases h : j = k
      · subst h; rw [List.getElem?_eq_getElem hlt] at hx; injection hx with hx; subst hx; exact hp
      · exact hI j (by omega) x hx
    repeat' (first
      | refine then_go ?_
      | refine swp_seq ?_
      | refine for_next hlt (weak_sub (.cons rfl rfl rfl (.cons rfl rfl rfl (.cons rfl rfl rfl (.cons rfl rfl rfl .nil)))) .nil .nil) (hstep (by first | assumption | simp_all))
      | ((refine swp_region (id := 2) ?_) <;> (refine sops_pure (.free rfl rfl) rfl rfl (po_cmp rfl rfl rfl rfl) ?_) <;> (refine sops_nil ?_))
      | ((refine swp_region (id := 3) ?_) <;> (refine sops_pure (.free rfl rfl) rfl rfl (po_move rfl rfl) ?_) <;> (refine sops_pure (.free rfl rfl) rfl rfl (po_assign rfl rfl) ?_) <;> (refine sops_nil ?_))
      | ((refine swp_region (id := 4) ?_) <;> (refine sops_pure (.free rfl rfl) rfl rfl (po_move rfl rfl) ?_) <;> (refine sops_pure (.free rfl rfl) rfl rfl (po_move rfl rfl) ?_) <;> (refine sops_pure (.free rfl rfl) rfl rfl (po_move rfl rfl) ?_) <;> (refine sops_pure (.free rfl rfl) rfl rfl (pix rfl (tyS rfl)) ?_) <;> (first | refine sops_pure (.free rfl rfl) rfl rfl (po_load_bx_agg rfl rfl (tyT rfl) rfl (vc (vc (vc .nil))) rfl) ?_ | refine sops_pure (.free rfl rfl) rfl rfl (po_load_agg rfl rfl (tyT rfl) rfl rfl) ?_) <;> (refine sops_pure (.free rfl rfl) rfl rfl (po_call_clo rfl rfl (ac .nil) (c1)) ?_) <;> (refine sops_nil ?_))
      | ((refine swp_region (id := 5) ?_) <;> (refine sops_pure (.free rfl rfl) rfl rfl (po_move rfl rfl) ?_) <;> (refine sops_pure (.free rfl rfl) rfl rfl (po_assign rfl rfl) ?_) <;> (refine sops_nil ?_))
      | ((refine swp_region (id := 6) ?_) <;> (first | refine sops_pure (.free rfl rfl) rfl rfl (po_inc rfl rfl rfl (by omega)) ?_ | refine sops_pure (.free rfl rfl) rfl rfl (po_arith rfl rfl rfl (ar_add (by first | rfl | (refine wrap_i64 ?_; omega)) rfl)) ?_) <;> (refine sops_pure (.free rfl rfl) rfl rfl (po_move rfl rfl) ?_) <;> (refine sops_nil ?_))
      | refine swp_ret ?_
      | refine swp_skip ?_
      | refine swp_block ?_
      | refine swp_exit ?_
      | refine block_go ?_
      | refine block_exit ?_
      | refine block_far rfl ?_
      | refine block_ret ?_
      | refine then_ret ?_
      | refine then_exit ?_
      | refine for_ret ?_
      | refine for_exit ?_
      | refine ct ?_
      | refine cf ?_
      | refine swp_cond rfl (fun hc => ?_) (fun hc => ?_)
      | refine retq (by first | exact .inr rfl | exact .inl rfl) rfl (.tmp rfl (by first | exact .t _ | exact .own rfl (by first | rfl | assumption | (simp; done) | (simp; omega)) | exact .nil _ | exact .emp _ | exact .fn _) .nil) ?_)
    rw [h1 k hlt hI (by first | assumption | simp_all)]; rfl
  · obtain rfl : k = xs.length := by omega
    repeat' (first
      | refine then_go ?_
      | refine swp_seq ?_
      | ((refine swp_region (id := 2) ?_) <;> (refine sops_pure (.free rfl rfl) rfl rfl (po_cmp rfl rfl rfl rfl) ?_) <;> (refine sops_nil ?_))
      | ((refine swp_region (id := 7) ?_) <;> (refine sops_pure (.free rfl rfl) rfl rfl (po_assign rfl rfl) ?_) <;> (refine sops_nil ?_))
      | refine swp_ret ?_
      | refine swp_skip ?_
      | refine swp_block ?_
      | refine swp_exit ?_
      | refine block_go ?_
      | refine block_exit ?_
      | refine block_far rfl ?_
      | refine block_ret ?_
      | refine then_ret ?_
      | refine then_exit ?_
      | refine for_ret ?_
      | refine for_exit ?_
      | refine ct ?_
      | refine cf ?_
      | refine swp_cond rfl (fun hc => ?_) (fun hc => ?_)
      | refine retq (by first | exact .inr rfl | exact .inl rfl) rfl (.tmp rfl (by first | exact .t _ | exact .own rfl (by first | rfl | assumption | (simp; done) | (simp; omega)) | exact .nil _ | exact .emp _ | exact .fn _) .nil) ?_)
    rw [h2 fun x hx => by obtain ⟨j, hj⟩ := List.getElem?_of_mem hx; exact hI j (List.getElem?_eq_some_iff.1 hj).1 x hj]; rfl
end Go.Proofs.YtlcecabfmemfeaaGreat.Pol

/- split's functions, by the logic of states. (Printed by mk_sp2.py.) -/
namespace Go.Proofs.YtlcecabfmemfeaaGreat.Pol
set_option linter.unusedVariables false
set_option linter.unusedSimpArgs false
open Go.RowKit Mem Sim Opn
theorem nilT (sz : Nat) : ∀ m v, TR m (.v (.slice none 0 0)) v → TR m (.sl sz []) v := fun m v h => by rw [tr_v h]; exact tr_nil m sz (Nat.zero_le _)
set_option maxRecDepth 100000 in
set_option maxHeartbeats 1000000 in
theorem seventh1_ (t : Pl.Target) (h : t.ports.length ≤ 1000 ∧ t.methods.length ≤ 1000 ∧ t.paths.length ≤ 1000 ∧ t.hosts.length ≤ 1000) : PCalls Tryz.prog 82 [.agg (targetT t)] (.v (.bool (Pl.looksT t))) := by
  have m1 : (t.methods.map termT).length = t.methods.length := List.length_map _
  have m2 : (t.paths.map termT).length = t.paths.length := List.length_map _
  have m3 : (t.hosts.map termT).length = t.hosts.length := List.length_map _
  refine pcalls_of Tryz.func82 rfl rfl Tryz.ntmps82 rfl ?_
  repeat' (first
    | refine then_go ?_
    | refine swp_seq ?_
    | ((refine swp_region (id := 0) ?_) <;> (refine sops_box (.free rfl rfl) rfl rfl rfl rfl rfl rfl ?_) <;> (refine sops_pure (.free rfl rfl) rfl rfl (po_assign rfl rfl) ?_) <;> (refine sops_nil ?_))
    | ((refine swp_region (id := 1) ?_) <;> (first | refine sops_pure (.free rfl rfl) rfl rfl (po_field_bx rfl rfl (tyF rfl)) ?_ | refine sops_pure (.free rfl rfl) rfl rfl (po_field rfl rfl (tyF rfl)) ?_) <;> (first | refine sops_pure (.free rfl rfl) rfl rfl (po_load_bx rfl rfl (tyT rfl) rfl rfl) ?_ | refine sops_pure (.free rfl rfl) rfl rfl (po_load rfl rfl (tyT rfl) rfl) ?_) <;> (refine sops_pure (.free rfl rfl) rfl rfl (pln rfl (tyS rfl)) ?_) <;> (first | refine sops_pure (.free rfl rfl) rfl rfl (po_field_bx rfl rfl (tyF rfl)) ?_ | refine sops_pure (.free rfl rfl) rfl rfl (po_field rfl rfl (tyF rfl)) ?_) <;> (first | refine sops_pure (.free rfl rfl) rfl rfl (po_load_bx rfl rfl (tyT rfl) rfl rfl) ?_ | refine sops_pure (.free rfl rfl) rfl rfl (po_load rfl rfl (tyT rfl) rfl) ?_) <;> (refine sops_pure (.free rfl rfl) rfl rfl (pln rfl (tyS rfl)) ?_) <;> (first | refine sops_pure (.free rfl rfl) rfl rfl (po_inc rfl rfl rfl (by omega)) ?_ | refine sops_pure (.free rfl rfl) rfl rfl (po_arith rfl rfl rfl (ar_add (by first | rfl | (refine wrap_i64 ?_; omega)) rfl)) ?_) <;> (first | refine sops_pure (.free rfl rfl) rfl rfl (po_field_bx rfl rfl (tyF rfl)) ?_ | refine sops_pure (.free rfl rfl) rfl rfl (po_field rfl rfl (tyF rfl)) ?_) <;> (first | refine sops_pure (.free rfl rfl) rfl rfl (po_load_bx rfl rfl (tyT rfl) rfl rfl) ?_ | refine sops_pure (.free rfl rfl) rfl rfl (po_load rfl rfl (tyT rfl) rfl) ?_) <;> (refine sops_pure (.free rfl rfl) rfl rfl (pln rfl (tyS rfl)) ?_) <;> (first | refine sops_pure (.free rfl rfl) rfl rfl (po_inc rfl rfl rfl (by omega)) ?_ | refine sops_pure (.free rfl rfl) rfl rfl (po_arith rfl rfl rfl (ar_add (by first | rfl | (refine wrap_i64 ?_; omega)) rfl)) ?_) <;> (refine sops_pure (.free rfl rfl) rfl rfl (po_cmp rfl rfl rfl rfl) ?_) <;> (refine sops_pure (.free rfl rfl) rfl rfl (po_assign rfl rfl) ?_) <;> (refine sops_nil ?_))
    | refine swp_ret ?_
    | refine swp_skip ?_
    | refine swp_block ?_
    | refine swp_exit ?_
    | refine block_go ?_
    | refine block_exit ?_
    | refine block_far rfl ?_
    | refine block_ret ?_
    | refine then_ret ?_
    | refine then_exit ?_
    | refine for_ret ?_
    | refine for_exit ?_
    | refine ct ?_
    | refine cf ?_
    | refine swp_cond rfl (fun hc => ?_) (fun hc => ?_)
    | refine retq (by first | exact .inr rfl | exact .inl rfl) rfl (.tmp rfl (by first | exact .t _ | exact .own rfl (by first | rfl | assumption | (simp; done) | (simp; omega)) | exact .nil _ | exact .emp _ | exact .fn _) .nil) ?_)
  refine eq_b ?_
  unfold Pl.looksT
  rw [← m1, ← m2, ← m3]
  rw [Bool.eq_iff_iff]
  simp only [decide_eq_true_eq]
  omega
theorem idx_any {α : Type} (p : α → Bool) (l : List α) (r : Int) (h1 : ∀ k, (h : k < l.length) → (∀ j, j < k → ∀ x, l[j]? = some x → p x = false) → p l[k] = true → r = (k : Int)) (h2 : (∀ x ∈ l, p x = false) → r = -1) : decide (r ≥ 0) = l.any p := by
  cases h : l.any p with
  | false =>
    have := h2 fun x hx => by simpa using (List.any_eq_false.1 h) x hx
    subst this; decide
  | true =>
    have hlt : l.findIdx p < l.length := by rw [List.findIdx_lt_length]; exact List.any_eq_true.1 h
    have := h1 _ hlt (fun j hj x hx => by
      have hjl : j < l.length := by omega
      have := List.not_of_lt_findIdx hj
      rw [List.getElem?_eq_getElem hjl] at hx; injection hx with hx; subst hx
      simpa using this) List.findIdx_getElem
    rw [this]; simp
/-- where the first one is -/
def idxP {α : Type} (p : α → Bool) (l : List α) : Int := if l.any p then ((l.findIdx p : Nat) : Int) else -1
theorem idxP_hit {α : Type} (p : α → Bool) (l : List α) (k : Nat) (h : k < l.length) (h1 : ∀ j, j < k → ∀ x, l[j]? = some x → p x = false) (h2 : p l[k] = true) : idxP p l = (k : Int) := by
  unfold idxP
  rw [if_pos (List.any_eq_true.2 ⟨_, List.getElem_mem h, h2⟩)]
  congr 1
  refine (List.findIdx_eq h).2 ⟨h2, fun j hj => ?_⟩
  exact h1 j hj _ (List.getElem?_eq_getElem (by omega))
theorem idxP_miss {α : Type} (p : α → Bool) (l : List α) (h : ∀ x ∈ l, p x = false) : idxP p l = -1 := by
  unfold idxP
  rw [if_neg]
  rw [Bool.not_eq_true, List.any_eq_false]
  exact fun x hx => by simp [h x hx]
set_option maxRecDepth 100000 in
set_option maxHeartbeats 1000000 in
theorem hasTarget (p : Pl.Target → Bool) (f : FuncId) (xs : List Pl.Target) (hK : ∀ x ∈ xs, PCalls Tryz.prog f [.agg (targetT x)] (.v (.bool (p x)))) (hn : xs.length ≤ 1000) : PCalls Tryz.prog 81 [.sl 4 (xs.map targetT), .clo f []] (.v (.bool (xs.any p))) := by
  have c1 := idxTarget p f [] xs (idxP p xs) hK hn (idxP_hit p xs) (idxP_miss p xs)
  have e1 := idx_any p xs (idxP p xs) (idxP_hit p xs) (idxP_miss p xs)
  refine pcalls_of Tryz.func81 rfl rfl Tryz.ntmps81 rfl ?_
  repeat' (first
    | refine then_go ?_
    | refine swp_seq ?_
    | ((refine swp_region (id := 0) ?_) <;> (refine sops_pure (.free rfl rfl) rfl rfl (po_assign rfl rfl) ?_) <;> (refine sops_nil ?_))
    | ((refine swp_region (id := 1) ?_) <;> (refine sops_pure (.free rfl rfl) rfl rfl (po_move rfl rfl) ?_) <;> (refine sops_pure (.free rfl rfl) rfl rfl (po_move rfl rfl) ?_) <;> (refine sops_pure (.free rfl rfl) rfl rfl (po_call (c1) rfl (ac (ac .nil))) ?_) <;> (refine sops_pure (.free rfl rfl) rfl rfl (po_cmp rfl rfl rfl rfl) ?_) <;> (refine sops_pure (.free rfl rfl) rfl rfl (po_assign rfl rfl) ?_) <;> (refine sops_nil ?_))
    | refine swp_ret ?_
    | refine swp_skip ?_
    | refine swp_block ?_
    | refine swp_exit ?_
    | refine block_go ?_
    | refine block_exit ?_
    | refine block_far rfl ?_
    | refine block_ret ?_
    | refine then_ret ?_
    | refine then_exit ?_
    | refine for_ret ?_
    | refine for_exit ?_
    | refine ct ?_
    | refine cf ?_
    | refine swp_cond rfl (fun hc => ?_) (fun hc => ?_)
    | refine retq (by first | exact .inr rfl | exact .inl rfl) rfl (.tmp rfl (by first | exact .t _ | exact .own rfl (by first | rfl | assumption | (simp; done) | (simp; omega)) | exact .nil _ | exact .emp _ | exact .fn _) .nil) ?_)
  refine eq_b ?_
  rw [← e1]
set_option maxRecDepth 100000 in
set_option maxHeartbeats 1000000 in
theorem seventh_ (r : Pl.Rule) (h : FewR r) : PCalls Tryz.prog 61 [.agg (ruleT r)] (.v (.bool (Pl.seventhP r))) := by
  have m1 : (r.when_.map whenT).length = r.when_.length := List.length_map _
  have c1 := hasTarget Pl.looksT 82 r.to_ (fun x hx => seventh1_ x (h.ts x hx)) h.t
  refine pcalls_of Tryz.func61 rfl rfl Tryz.ntmps61 rfl ?_
  repeat' (first
    | refine then_go ?_
    | refine swp_seq ?_
    | ((refine swp_region (id := 0) ?_) <;> (refine sops_box (.free rfl rfl) rfl rfl rfl rfl rfl rfl ?_) <;> (refine sops_pure (.free rfl rfl) rfl rfl (po_assign rfl rfl) ?_) <;> (refine sops_nil ?_))
    | ((refine swp_region (id := 1) ?_) <;> (first | refine sops_pure (.free rfl rfl) rfl rfl (po_field_bx rfl rfl (tyF rfl)) ?_ | refine sops_pure (.free rfl rfl) rfl rfl (po_field rfl rfl (tyF rfl)) ?_) <;> (first | refine sops_pure (.free rfl rfl) rfl rfl (po_load_bx rfl rfl (tyT rfl) rfl rfl) ?_ | refine sops_pure (.free rfl rfl) rfl rfl (po_load rfl rfl (tyT rfl) rfl) ?_) <;> (refine sops_pure (.free rfl rfl) rfl rfl (pln rfl (tyS rfl)) ?_) <;> (refine sops_pure (.free rfl rfl) rfl rfl (po_cmp rfl rfl rfl rfl) ?_) <;> (refine sops_pure (.free rfl rfl) rfl rfl (po_move rfl rfl) ?_) <;> (first | refine sops_pure gy rfl rfl (po_field_bx rfl rfl (tyF rfl)) ?_ | refine sops_pure gy rfl rfl (po_field rfl rfl (tyF rfl)) ?_ | refine sops_skip gn0 rfl rfl ?_ | ((refine sops_split rfl rfl rfl (fun hc => ?_) (fun hc => ?_)) <;> (first | refine sops_pure gy rfl rfl (po_field_bx rfl rfl (tyF rfl)) ?_ | refine sops_pure gy rfl rfl (po_field rfl rfl (tyF rfl)) ?_ | refine sops_skip gn0 rfl rfl ?_))) <;> (first | refine sops_pure gy rfl rfl (po_load_bx rfl rfl (tyT rfl) rfl rfl) ?_ | refine sops_pure gy rfl rfl (po_load rfl rfl (tyT rfl) rfl) ?_ | refine sops_skip gn0 rfl rfl ?_) <;> (first | refine sops_pure gy rfl rfl (po_call (c1) rfl (ac (ac .nil))) ?_ | refine sops_skip gn0 rfl rfl ?_) <;> (first | refine sops_pure (.free rfl rfl) rfl rfl (pkt rfl) ?_ | refine sops_pure (.free rfl rfl) rfl rfl (pkf rfl) ?_) <;> (refine sops_pure (.free rfl rfl) rfl rfl (po_assign rfl rfl) ?_) <;> (refine sops_nil ?_))
    | refine swp_ret ?_
    | refine swp_skip ?_
    | refine swp_block ?_
    | refine swp_exit ?_
    | refine block_go ?_
    | refine block_exit ?_
    | refine block_far rfl ?_
    | refine block_ret ?_
    | refine then_ret ?_
    | refine then_exit ?_
    | refine for_ret ?_
    | refine for_exit ?_
    | refine ct ?_
    | refine cf ?_
    | refine swp_cond rfl (fun hc => ?_) (fun hc => ?_)
    | refine retq (by first | exact .inr rfl | exact .inl rfl) rfl (.tmp rfl (by first | exact .t _ | exact .own rfl (by first | rfl | assumption | (simp; done) | (simp; omega)) | exact .nil _ | exact .emp _ | exact .fn _) .nil) ?_)
  all_goals
    refine eq_b ?_
    unfold Pl.seventhP
    first | (have e : 0 < r.when_.length := by simp at *; omega); (simp [e]; done) | (have e : ¬ 0 < r.when_.length := by simp at *; omega); simp [e]
def MSTarget (xs : List Pl.Target) (g : Pl.Target → Pl.Target) (f : FuncId) (caps : List T) (k : Nat) : St := ⟨[(1, .t (.clo f caps)), (5, .own 105 (((xs.take k).map g).map targetT).length), (8, .t (.sl 4 (xs.map targetT))), (9, .t (.v (.int .i64 (xs.length : Int)))), (10, .t (.v (.int .i64 (k : Int))))], [], [(105, ⟨80, 4, ((xs.take k).map g).map targetT⟩)]⟩
set_option maxRecDepth 100000 in
set_option maxHeartbeats 1000000 in
theorem mapSTarget (g : Pl.Target → Pl.Target) (f : FuncId) (caps : List T) (xs : List Pl.Target) (hK : ∀ x ∈ xs, PCalls Tryz.prog f ([.agg (targetT x)] ++ caps) (.agg (targetT (g x)))) (hn : xs.length ≤ 1000) : PCalls Tryz.prog 45 [.sl 4 (xs.map targetT), .clo f caps] (.sl 4 ((xs.map g).map targetT)) := by
  have hm1 : (xs.map targetT).length = xs.length := List.length_map _
  refine pcalls_of Tryz.func45 rfl rfl Tryz.ntmps45 rfl ?_
  repeat' (first
    | refine then_go ?_
    | refine swp_seq ?_
    | ((refine swp_region (id := 0) ?_) <;> (refine sops_pure (.free rfl rfl) rfl rfl (po_assign rfl rfl) ?_) <;> (refine sops_nil ?_))
    | ((refine swp_region (id := 1) ?_) <;> (refine sops_pure (.free rfl rfl) rfl rfl (po_assign rfl rfl) ?_) <;> (refine sops_nil ?_))
    | ((refine swp_region (id := 2) ?_) <;> (refine sops_pure (.free rfl rfl) rfl rfl (po_move rfl rfl) ?_) <;> (refine sops_pure (.free rfl rfl) rfl rfl (pln rfl (tyS rfl)) ?_) <;> (refine sops_pure (.free rfl rfl) rfl rfl (po_move rfl rfl) ?_) <;> (refine sops_nil ?_))
    | refine swp_ret ?_
    | refine swp_skip ?_
    | refine swp_block ?_
    | refine swp_exit ?_
    | refine block_go ?_
    | refine block_exit ?_
    | refine block_far rfl ?_
    | refine block_ret ?_
    | refine then_ret ?_
    | refine then_exit ?_
    | refine for_ret ?_
    | refine for_exit ?_
    | refine ct ?_
    | refine cf ?_
    | refine swp_cond rfl (fun hc => ?_) (fun hc => ?_)
    | refine retq (by first | exact .inr rfl | exact .inl rfl) rfl (.tmp rfl (by first | exact .t _ | exact .own rfl (by first | rfl | assumption | (simp; done) | (simp; omega)) | exact .nil _ | exact .emp _ | exact .fn _) .nil) ?_)
  refine swp_for (MSTarget xs g f caps) (fun _ => True) xs.length ?_ trivial ?_
  · refine Weak.trans (weak_own0 (i := 105) 80 4 (s := 5) rfl rfl) ?_
    exact (weak_sub (.cons rfl (by first | rfl | (exact congrArg (fun n : Nat => A.t (.v (.int .i64 (n : Int)))) hm1)) rfl (.cons rfl (by first | rfl | (exact congrArg (fun n : Nat => A.t (.v (.int .i64 (n : Int)))) hm1)) rfl (.cons rfl (by first | rfl | (exact congrArg (fun n : Nat => A.t (.v (.int .i64 (n : Int)))) hm1)) rfl (.cons rfl (by first | rfl | (exact congrArg (fun n : Nat => A.t (.v (.int .i64 (n : Int)))) hm1)) rfl (.cons rfl (by first | rfl | (exact congrArg (fun n : Nat => A.t (.v (.int .i64 (n : Int)))) hm1)) rfl .nil))))) .nil (.cons rfl (by first | rfl | (exact congrArg (fun n : Nat => A.t (.v (.int .i64 (n : Int)))) hm1)) .nil))
  intro k hk _
  unfold MSTarget
  by_cases hlt : k < xs.length
  · have c1 := hK _ (List.getElem_mem hlt)
    have hsn := mapmap_take_succ targetT g hlt
    have g1 : ((((xs.take k).map g).map targetT).length + 1) * 96 ≤ 140737488355328 := by rw [mmt_len]; have := Nat.min_le_right k xs.length; omega
    have g2 : (((xs.take k).map g).map targetT).length + 1 ≤ maxLen := by rw [mmt_len]; have := Nat.min_le_right k xs.length; unfold maxLen; omega
    repeat' (first
      | refine then_go ?_
      | refine swp_seq ?_
      | refine for_next hlt (weak_sub (.cons rfl (by first | rfl | (rw [hsn]; try rfl)) rfl (.cons rfl (by first | rfl | (rw [hsn]; try rfl)) rfl (.cons rfl (by first | rfl | (rw [hsn]; try rfl)) rfl (.cons rfl (by first | rfl | (rw [hsn]; try rfl)) rfl (.cons rfl (by first | rfl | (rw [hsn]; try rfl)) rfl .nil))))) .nil (.cons rfl (by first | rfl | (rw [hsn]; try rfl)) .nil)) trivial
      | ((refine swp_region (id := 3) ?_) <;> (refine sops_pure (.free rfl rfl) rfl rfl (po_cmp rfl rfl rfl rfl) ?_) <;> (refine sops_nil ?_))
      | ((refine swp_region (id := 4) ?_) <;> (refine sops_pure (.free rfl rfl) rfl rfl (pix rfl (tyS rfl)) ?_) <;> (first | refine sops_pure (.free rfl rfl) rfl rfl (po_load_bx_agg rfl rfl (tyT rfl) rfl (vc (vc (vc (vc .nil)))) rfl) ?_ | refine sops_pure (.free rfl rfl) rfl rfl (po_load_agg rfl rfl (tyT rfl) rfl rfl) ?_) <;> (refine sops_allocS str80 (.free rfl rfl) rfl rfl rfl rfl ?_) <;> (refine sops_store (.free rfl rfl) rfl rfl rfl rfl rfl rfl (tyT rfl) rfl rfl ?_) <;> (refine sops_nil ?_))
      | ((refine swp_region (id := 5) ?_) <;> (refine sops_pure (.free rfl rfl) rfl rfl (po_move rfl rfl) ?_) <;> (refine sops_pure (.free rfl rfl) rfl rfl (po_move rfl rfl) ?_) <;> (first | refine sops_pure (.free rfl rfl) rfl rfl (po_load_bx_agg rfl rfl (tyT rfl) rfl (vc (vc (vc (vc .nil)))) rfl) ?_ | refine sops_pure (.free rfl rfl) rfl rfl (po_load_agg rfl rfl (tyT rfl) rfl rfl) ?_) <;> (refine sops_pure (.free rfl rfl) rfl rfl (po_call_clo rfl rfl (ac .nil) (c1)) ?_) <;> (refine sops_pure (.free rfl rfl) rfl rfl (po_buildSlice rfl (tyE rfl) (dc (.nil _)) rfl rfl rfl) ?_) <;> (first | refine sap rfl (tyE rfl) ?_ | refine san rfl (tyE rfl) ?_) <;> (refine sops_pure (.free rfl rfl) rfl rfl (po_assign rfl rfl) ?_) <;> (refine sops_nil ?_))
      | ((refine swp_region (id := 6) ?_) <;> (first | refine sops_pure (.free rfl rfl) rfl rfl (po_inc rfl rfl rfl (by omega)) ?_ | refine sops_pure (.free rfl rfl) rfl rfl (po_arith rfl rfl rfl (ar_add (by first | rfl | (refine wrap_i64 ?_; omega)) rfl)) ?_) <;> (refine sops_pure (.free rfl rfl) rfl rfl (po_move rfl rfl) ?_) <;> (refine sops_nil ?_))
      | refine swp_ret ?_
      | refine swp_skip ?_
      | refine swp_block ?_
      | refine swp_exit ?_
      | refine block_go ?_
      | refine block_exit ?_
      | refine block_far rfl ?_
      | refine block_ret ?_
      | refine then_ret ?_
      | refine then_exit ?_
      | refine for_ret ?_
      | refine for_exit ?_
      | refine ct ?_
      | refine cf ?_
      | refine swp_cond rfl (fun hc => ?_) (fun hc => ?_)
      | refine retq (by first | exact .inr rfl | exact .inl rfl) rfl (.tmp rfl (by first | exact .t _ | exact .own rfl (by first | rfl | assumption | (simp; done) | (simp; omega)) | exact .nil _ | exact .emp _ | exact .fn _) .nil) ?_)
  · obtain rfl : k = xs.length := by omega
    rw [List.take_length]
    repeat' (first
      | refine then_go ?_
      | refine swp_seq ?_
      | ((refine swp_region (id := 3) ?_) <;> (refine sops_pure (.free rfl rfl) rfl rfl (po_cmp rfl rfl rfl rfl) ?_) <;> (refine sops_nil ?_))
      | ((refine swp_region (id := 7) ?_) <;> (refine sops_pure (.free rfl rfl) rfl rfl (po_move rfl rfl) ?_) <;> (refine sops_pure (.free rfl rfl) rfl rfl (po_assign rfl rfl) ?_) <;> (refine sops_nil ?_))
      | refine swp_ret ?_
      | refine swp_skip ?_
      | refine swp_block ?_
      | refine swp_exit ?_
      | refine block_go ?_
      | refine block_exit ?_
      | refine block_far rfl ?_
      | refine block_ret ?_
      | refine then_ret ?_
      | refine then_exit ?_
      | refine for_ret ?_
      | refine for_exit ?_
      | refine ct ?_
      | refine cf ?_
      | refine swp_cond rfl (fun hc => ?_) (fun hc => ?_)
      | refine retq (by first | exact .inr rfl | exact .inl rfl) rfl (.tmp rfl (by first | exact .t _ | exact .own rfl (by first | rfl | assumption | (simp; done) | (simp; omega)) | exact .nil _ | exact .emp _ | exact .fn _) .nil) ?_)
    rfl
def MSRule (xs : List Pl.Rule) (g : Pl.Rule → Pl.Rule) (f : FuncId) (caps : List T) (k : Nat) : St := ⟨[(1, .t (.clo f caps)), (5, .own 105 (((xs.take k).map g).map ruleT).length), (8, .t (.sl 3 (xs.map ruleT))), (9, .t (.v (.int .i64 (xs.length : Int)))), (10, .t (.v (.int .i64 (k : Int))))], [], [(105, ⟨46, 3, ((xs.take k).map g).map ruleT⟩)]⟩
set_option maxRecDepth 100000 in
set_option maxHeartbeats 1000000 in
theorem mapSRule (g : Pl.Rule → Pl.Rule) (f : FuncId) (caps : List T) (xs : List Pl.Rule) (hK : ∀ x ∈ xs, PCalls Tryz.prog f ([.agg (ruleT x)] ++ caps) (.agg (ruleT (g x)))) (hn : xs.length ≤ 1000) : PCalls Tryz.prog 53 [.sl 3 (xs.map ruleT), .clo f caps] (.sl 3 ((xs.map g).map ruleT)) := by
  have hm1 : (xs.map ruleT).length = xs.length := List.length_map _
  refine pcalls_of Tryz.func53 rfl rfl Tryz.ntmps53 rfl ?_
  repeat' (first
    | refine then_go ?_
    | refine swp_seq ?_
    | ((refine swp_region (id := 0) ?_) <;> (refine sops_pure (.free rfl rfl) rfl rfl (po_assign rfl rfl) ?_) <;> (refine sops_nil ?_))
    | ((refine swp_region (id := 1) ?_) <;> (refine sops_pure (.free rfl rfl) rfl rfl (po_assign rfl rfl) ?_) <;> (refine sops_nil ?_))
    | ((refine swp_region (id := 2) ?_) <;> (refine sops_pure (.free rfl rfl) rfl rfl (po_move rfl rfl) ?_) <;> (refine sops_pure (.free rfl rfl) rfl rfl (pln rfl (tyS rfl)) ?_) <;> (refine sops_pure (.free rfl rfl) rfl rfl (po_move rfl rfl) ?_) <;> (refine sops_nil ?_))
    | refine swp_ret ?_
    | refine swp_skip ?_
    | refine swp_block ?_
    | refine swp_exit ?_
    | refine block_go ?_
    | refine block_exit ?_
    | refine block_far rfl ?_
    | refine block_ret ?_
    | refine then_ret ?_
    | refine then_exit ?_
    | refine for_ret ?_
    | refine for_exit ?_
    | refine ct ?_
    | refine cf ?_
    | refine swp_cond rfl (fun hc => ?_) (fun hc => ?_)
    | refine retq (by first | exact .inr rfl | exact .inl rfl) rfl (.tmp rfl (by first | exact .t _ | exact .own rfl (by first | rfl | assumption | (simp; done) | (simp; omega)) | exact .nil _ | exact .emp _ | exact .fn _) .nil) ?_)
  refine swp_for (MSRule xs g f caps) (fun _ => True) xs.length ?_ trivial ?_
  · refine Weak.trans (weak_own0 (i := 105) 46 3 (s := 5) rfl rfl) ?_
    exact (weak_sub (.cons rfl (by first | rfl | (exact congrArg (fun n : Nat => A.t (.v (.int .i64 (n : Int)))) hm1)) rfl (.cons rfl (by first | rfl | (exact congrArg (fun n : Nat => A.t (.v (.int .i64 (n : Int)))) hm1)) rfl (.cons rfl (by first | rfl | (exact congrArg (fun n : Nat => A.t (.v (.int .i64 (n : Int)))) hm1)) rfl (.cons rfl (by first | rfl | (exact congrArg (fun n : Nat => A.t (.v (.int .i64 (n : Int)))) hm1)) rfl (.cons rfl (by first | rfl | (exact congrArg (fun n : Nat => A.t (.v (.int .i64 (n : Int)))) hm1)) rfl .nil))))) .nil (.cons rfl (by first | rfl | (exact congrArg (fun n : Nat => A.t (.v (.int .i64 (n : Int)))) hm1)) .nil))
  intro k hk _
  unfold MSRule
  by_cases hlt : k < xs.length
  · have c1 := hK _ (List.getElem_mem hlt)
    have hsn := mapmap_take_succ ruleT g hlt
    have g1 : ((((xs.take k).map g).map ruleT).length + 1) * 72 ≤ 140737488355328 := by rw [mmt_len]; have := Nat.min_le_right k xs.length; omega
    have g2 : (((xs.take k).map g).map ruleT).length + 1 ≤ maxLen := by rw [mmt_len]; have := Nat.min_le_right k xs.length; unfold maxLen; omega
    repeat' (first
      | refine then_go ?_
      | refine swp_seq ?_
      | refine for_next hlt (weak_sub (.cons rfl (by first | rfl | (rw [hsn]; try rfl)) rfl (.cons rfl (by first | rfl | (rw [hsn]; try rfl)) rfl (.cons rfl (by first | rfl | (rw [hsn]; try rfl)) rfl (.cons rfl (by first | rfl | (rw [hsn]; try rfl)) rfl (.cons rfl (by first | rfl | (rw [hsn]; try rfl)) rfl .nil))))) .nil (.cons rfl (by first | rfl | (rw [hsn]; try rfl)) .nil)) trivial
      | ((refine swp_region (id := 3) ?_) <;> (refine sops_pure (.free rfl rfl) rfl rfl (po_cmp rfl rfl rfl rfl) ?_) <;> (refine sops_nil ?_))
      | ((refine swp_region (id := 4) ?_) <;> (refine sops_pure (.free rfl rfl) rfl rfl (pix rfl (tyS rfl)) ?_) <;> (first | refine sops_pure (.free rfl rfl) rfl rfl (po_load_bx_agg rfl rfl (tyT rfl) rfl (vc (vc (vc .nil))) rfl) ?_ | refine sops_pure (.free rfl rfl) rfl rfl (po_load_agg rfl rfl (tyT rfl) rfl rfl) ?_) <;> (refine sops_allocS str46 (.free rfl rfl) rfl rfl rfl rfl ?_) <;> (refine sops_store (.free rfl rfl) rfl rfl rfl rfl rfl rfl (tyT rfl) rfl rfl ?_) <;> (refine sops_nil ?_))
      | ((refine swp_region (id := 5) ?_) <;> (refine sops_pure (.free rfl rfl) rfl rfl (po_move rfl rfl) ?_) <;> (refine sops_pure (.free rfl rfl) rfl rfl (po_move rfl rfl) ?_) <;> (first | refine sops_pure (.free rfl rfl) rfl rfl (po_load_bx_agg rfl rfl (tyT rfl) rfl (vc (vc (vc .nil))) rfl) ?_ | refine sops_pure (.free rfl rfl) rfl rfl (po_load_agg rfl rfl (tyT rfl) rfl rfl) ?_) <;> (refine sops_pure (.free rfl rfl) rfl rfl (po_call_clo rfl rfl (ac .nil) (c1)) ?_) <;> (refine sops_pure (.free rfl rfl) rfl rfl (po_buildSlice rfl (tyE rfl) (dc (.nil _)) rfl rfl rfl) ?_) <;> (first | refine sap rfl (tyE rfl) ?_ | refine san rfl (tyE rfl) ?_) <;> (refine sops_pure (.free rfl rfl) rfl rfl (po_assign rfl rfl) ?_) <;> (refine sops_nil ?_))
      | ((refine swp_region (id := 6) ?_) <;> (first | refine sops_pure (.free rfl rfl) rfl rfl (po_inc rfl rfl rfl (by omega)) ?_ | refine sops_pure (.free rfl rfl) rfl rfl (po_arith rfl rfl rfl (ar_add (by first | rfl | (refine wrap_i64 ?_; omega)) rfl)) ?_) <;> (refine sops_pure (.free rfl rfl) rfl rfl (po_move rfl rfl) ?_) <;> (refine sops_nil ?_))
      | refine swp_ret ?_
      | refine swp_skip ?_
      | refine swp_block ?_
      | refine swp_exit ?_
      | refine block_go ?_
      | refine block_exit ?_
      | refine block_far rfl ?_
      | refine block_ret ?_
      | refine then_ret ?_
      | refine then_exit ?_
      | refine for_ret ?_
      | refine for_exit ?_
      | refine ct ?_
      | refine cf ?_
      | refine swp_cond rfl (fun hc => ?_) (fun hc => ?_)
      | refine retq (by first | exact .inr rfl | exact .inl rfl) rfl (.tmp rfl (by first | exact .t _ | exact .own rfl (by first | rfl | assumption | (simp; done) | (simp; omega)) | exact .nil _ | exact .emp _ | exact .fn _) .nil) ?_)
  · obtain rfl : k = xs.length := by omega
    rw [List.take_length]
    repeat' (first
      | refine then_go ?_
      | refine swp_seq ?_
      | ((refine swp_region (id := 3) ?_) <;> (refine sops_pure (.free rfl rfl) rfl rfl (po_cmp rfl rfl rfl rfl) ?_) <;> (refine sops_nil ?_))
      | ((refine swp_region (id := 7) ?_) <;> (refine sops_pure (.free rfl rfl) rfl rfl (po_move rfl rfl) ?_) <;> (refine sops_pure (.free rfl rfl) rfl rfl (po_assign rfl rfl) ?_) <;> (refine sops_nil ?_))
      | refine swp_ret ?_
      | refine swp_skip ?_
      | refine swp_block ?_
      | refine swp_exit ?_
      | refine block_go ?_
      | refine block_exit ?_
      | refine block_far rfl ?_
      | refine block_ret ?_
      | refine then_ret ?_
      | refine then_exit ?_
      | refine for_ret ?_
      | refine for_exit ?_
      | refine ct ?_
      | refine cf ?_
      | refine swp_cond rfl (fun hc => ?_) (fun hc => ?_)
      | refine retq (by first | exact .inr rfl | exact .inl rfl) rfl (.tmp rfl (by first | exact .t _ | exact .own rfl (by first | rfl | assumption | (simp; done) | (simp; omega)) | exact .nil _ | exact .emp _ | exact .fn _) .nil) ?_)
    rfl
def MSPolicy (xs : List Pl.Policy) (g : Pl.Policy → Pl.Policy) (f : FuncId) (caps : List T) (k : Nat) : St := ⟨[(1, .t (.clo f caps)), (5, .own 105 (((xs.take k).map g).map polT).length), (8, .t (.sl 5 (xs.map polT))), (9, .t (.v (.int .i64 (xs.length : Int)))), (10, .t (.v (.int .i64 (k : Int))))], [], [(105, ⟨50, 5, ((xs.take k).map g).map polT⟩)]⟩
set_option maxRecDepth 100000 in
set_option maxHeartbeats 1000000 in
theorem mapSPolicy (g : Pl.Policy → Pl.Policy) (f : FuncId) (caps : List T) (xs : List Pl.Policy) (hK : ∀ x ∈ xs, PCalls Tryz.prog f ([.agg (polT x)] ++ caps) (.agg (polT (g x)))) (hn : xs.length ≤ 1000) : PCalls Tryz.prog 29 [.sl 5 (xs.map polT), .clo f caps] (.sl 5 ((xs.map g).map polT)) := by
  have hm1 : (xs.map polT).length = xs.length := List.length_map _
  refine pcalls_of Tryz.func29 rfl rfl Tryz.ntmps29 rfl ?_
  repeat' (first
    | refine then_go ?_
    | refine swp_seq ?_
    | ((refine swp_region (id := 0) ?_) <;> (refine sops_pure (.free rfl rfl) rfl rfl (po_assign rfl rfl) ?_) <;> (refine sops_nil ?_))
    | ((refine swp_region (id := 1) ?_) <;> (refine sops_pure (.free rfl rfl) rfl rfl (po_assign rfl rfl) ?_) <;> (refine sops_nil ?_))
    | ((refine swp_region (id := 2) ?_) <;> (refine sops_pure (.free rfl rfl) rfl rfl (po_move rfl rfl) ?_) <;> (refine sops_pure (.free rfl rfl) rfl rfl (pln rfl (tyS rfl)) ?_) <;> (refine sops_pure (.free rfl rfl) rfl rfl (po_move rfl rfl) ?_) <;> (refine sops_nil ?_))
    | refine swp_ret ?_
    | refine swp_skip ?_
    | refine swp_block ?_
    | refine swp_exit ?_
    | refine block_go ?_
    | refine block_exit ?_
    | refine block_far rfl ?_
    | refine block_ret ?_
    | refine then_ret ?_
    | refine then_exit ?_
    | refine for_ret ?_
    | refine for_exit ?_
    | refine ct ?_
    | refine cf ?_
    | refine swp_cond rfl (fun hc => ?_) (fun hc => ?_)
    | refine retq (by first | exact .inr rfl | exact .inl rfl) rfl (.tmp rfl (by first | exact .t _ | exact .own rfl (by first | rfl | assumption | (simp; done) | (simp; omega)) | exact .nil _ | exact .emp _ | exact .fn _) .nil) ?_)
  refine swp_for (MSPolicy xs g f caps) (fun _ => True) xs.length ?_ trivial ?_
  · refine Weak.trans (weak_own0 (i := 105) 50 5 (s := 5) rfl rfl) ?_
    exact (weak_sub (.cons rfl (by first | rfl | (exact congrArg (fun n : Nat => A.t (.v (.int .i64 (n : Int)))) hm1)) rfl (.cons rfl (by first | rfl | (exact congrArg (fun n : Nat => A.t (.v (.int .i64 (n : Int)))) hm1)) rfl (.cons rfl (by first | rfl | (exact congrArg (fun n : Nat => A.t (.v (.int .i64 (n : Int)))) hm1)) rfl (.cons rfl (by first | rfl | (exact congrArg (fun n : Nat => A.t (.v (.int .i64 (n : Int)))) hm1)) rfl (.cons rfl (by first | rfl | (exact congrArg (fun n : Nat => A.t (.v (.int .i64 (n : Int)))) hm1)) rfl .nil))))) .nil (.cons rfl (by first | rfl | (exact congrArg (fun n : Nat => A.t (.v (.int .i64 (n : Int)))) hm1)) .nil))
  intro k hk _
  unfold MSPolicy
  by_cases hlt : k < xs.length
  · have c1 := hK _ (List.getElem_mem hlt)
    have hsn := mapmap_take_succ polT g hlt
    have g1 : ((((xs.take k).map g).map polT).length + 1) * 64 ≤ 140737488355328 := by rw [mmt_len]; have := Nat.min_le_right k xs.length; omega
    have g2 : (((xs.take k).map g).map polT).length + 1 ≤ maxLen := by rw [mmt_len]; have := Nat.min_le_right k xs.length; unfold maxLen; omega
    repeat' (first
      | refine then_go ?_
      | refine swp_seq ?_
      | refine for_next hlt (weak_sub (.cons rfl (by first | rfl | (rw [hsn]; try rfl)) rfl (.cons rfl (by first | rfl | (rw [hsn]; try rfl)) rfl (.cons rfl (by first | rfl | (rw [hsn]; try rfl)) rfl (.cons rfl (by first | rfl | (rw [hsn]; try rfl)) rfl (.cons rfl (by first | rfl | (rw [hsn]; try rfl)) rfl .nil))))) .nil (.cons rfl (by first | rfl | (rw [hsn]; try rfl)) .nil)) trivial
      | ((refine swp_region (id := 3) ?_) <;> (refine sops_pure (.free rfl rfl) rfl rfl (po_cmp rfl rfl rfl rfl) ?_) <;> (refine sops_nil ?_))
      | ((refine swp_region (id := 4) ?_) <;> (refine sops_pure (.free rfl rfl) rfl rfl (pix rfl (tyS rfl)) ?_) <;> (first | refine sops_pure (.free rfl rfl) rfl rfl (po_load_bx_agg rfl rfl (tyT rfl) rfl (vc (vc (vc (vc (vc .nil))))) rfl) ?_ | refine sops_pure (.free rfl rfl) rfl rfl (po_load_agg rfl rfl (tyT rfl) rfl rfl) ?_) <;> (refine sops_allocS str50 (.free rfl rfl) rfl rfl rfl rfl ?_) <;> (refine sops_store (.free rfl rfl) rfl rfl rfl rfl rfl rfl (tyT rfl) rfl rfl ?_) <;> (refine sops_nil ?_))
      | ((refine swp_region (id := 5) ?_) <;> (refine sops_pure (.free rfl rfl) rfl rfl (po_move rfl rfl) ?_) <;> (refine sops_pure (.free rfl rfl) rfl rfl (po_move rfl rfl) ?_) <;> (first | refine sops_pure (.free rfl rfl) rfl rfl (po_load_bx_agg rfl rfl (tyT rfl) rfl (vc (vc (vc (vc (vc .nil))))) rfl) ?_ | refine sops_pure (.free rfl rfl) rfl rfl (po_load_agg rfl rfl (tyT rfl) rfl rfl) ?_) <;> (refine sops_pure (.free rfl rfl) rfl rfl (po_call_clo rfl rfl (ac .nil) (c1)) ?_) <;> (refine sops_pure (.free rfl rfl) rfl rfl (po_buildSlice rfl (tyE rfl) (dc (.nil _)) rfl rfl rfl) ?_) <;> (first | refine sap rfl (tyE rfl) ?_ | refine san rfl (tyE rfl) ?_) <;> (refine sops_pure (.free rfl rfl) rfl rfl (po_assign rfl rfl) ?_) <;> (refine sops_nil ?_))
      | ((refine swp_region (id := 6) ?_) <;> (first | refine sops_pure (.free rfl rfl) rfl rfl (po_inc rfl rfl rfl (by omega)) ?_ | refine sops_pure (.free rfl rfl) rfl rfl (po_arith rfl rfl rfl (ar_add (by first | rfl | (refine wrap_i64 ?_; omega)) rfl)) ?_) <;> (refine sops_pure (.free rfl rfl) rfl rfl (po_move rfl rfl) ?_) <;> (refine sops_nil ?_))
      | refine swp_ret ?_
      | refine swp_skip ?_
      | refine swp_block ?_
      | refine swp_exit ?_
      | refine block_go ?_
      | refine block_exit ?_
      | refine block_far rfl ?_
      | refine block_ret ?_
      | refine then_ret ?_
      | refine then_exit ?_
      | refine for_ret ?_
      | refine for_exit ?_
      | refine ct ?_
      | refine cf ?_
      | refine swp_cond rfl (fun hc => ?_) (fun hc => ?_)
      | refine retq (by first | exact .inr rfl | exact .inl rfl) rfl (.tmp rfl (by first | exact .t _ | exact .own rfl (by first | rfl | assumption | (simp; done) | (simp; omega)) | exact .nil _ | exact .emp _ | exact .fn _) .nil) ?_)
  · obtain rfl : k = xs.length := by omega
    rw [List.take_length]
    repeat' (first
      | refine then_go ?_
      | refine swp_seq ?_
      | ((refine swp_region (id := 3) ?_) <;> (refine sops_pure (.free rfl rfl) rfl rfl (po_cmp rfl rfl rfl rfl) ?_) <;> (refine sops_nil ?_))
      | ((refine swp_region (id := 7) ?_) <;> (refine sops_pure (.free rfl rfl) rfl rfl (po_move rfl rfl) ?_) <;> (refine sops_pure (.free rfl rfl) rfl rfl (po_assign rfl rfl) ?_) <;> (refine sops_nil ?_))
      | refine swp_ret ?_
      | refine swp_skip ?_
      | refine swp_block ?_
      | refine swp_exit ?_
      | refine block_go ?_
      | refine block_exit ?_
      | refine block_far rfl ?_
      | refine block_ret ?_
      | refine then_ret ?_
      | refine then_exit ?_
      | refine for_ret ?_
      | refine for_exit ?_
      | refine ct ?_
      | refine cf ?_
      | refine swp_cond rfl (fun hc => ?_) (fun hc => ?_)
      | refine retq (by first | exact .inr rfl | exact .inl rfl) rfl (.tmp rfl (by first | exact .t _ | exact .own rfl (by first | rfl | assumption | (simp; done) | (simp; omega)) | exact .nil _ | exact .emp _ | exact .fn _) .nil) ?_)
    rfl
set_option maxRecDepth 100000 in
set_option maxHeartbeats 1000000 in
theorem fourth1_ (t : Pl.Target) : PCalls Tryz.prog 46 [.agg (targetT t)] (.agg (targetT (Pl.fourT t))) := by
  refine pcalls_of Tryz.func46 rfl rfl Tryz.ntmps46 rfl ?_
  repeat' (first
    | refine then_go ?_
    | refine swp_seq ?_
    | ((refine swp_region (id := 0) ?_) <;> (refine sops_box (.free rfl rfl) rfl rfl rfl rfl rfl rfl ?_) <;> (refine sops_allocS str80 (.free rfl rfl) rfl rfl rfl rfl ?_) <;> (refine sops_nil ?_))
    | ((refine swp_region (id := 1) ?_) <;> (first | refine sops_pure (.free rfl rfl) rfl rfl (po_field_bx rfl rfl (tyF rfl)) ?_ | refine sops_pure (.free rfl rfl) rfl rfl (po_field rfl rfl (tyF rfl)) ?_) <;> (first | refine sops_pure (.free rfl rfl) rfl rfl (po_load_bx rfl rfl (tyT rfl) rfl rfl) ?_ | refine sops_pure (.free rfl rfl) rfl rfl (po_load rfl rfl (tyT rfl) rfl) ?_) <;> (refine sops_pure (.free rfl rfl) rfl rfl (po_buildS str80 rfl (pc .nil) rfl) ?_) <;> (refine sops_store (.free rfl rfl) rfl rfl rfl rfl rfl rfl (tyT rfl) rfl rfl ?_) <;> (refine sops_nil ?_))
    | refine swp_ret ?_
    | refine swp_skip ?_
    | refine swp_block ?_
    | refine swp_exit ?_
    | refine block_go ?_
    | refine block_exit ?_
    | refine block_far rfl ?_
    | refine block_ret ?_
    | refine then_ret ?_
    | refine then_exit ?_
    | refine for_ret ?_
    | refine for_exit ?_
    | refine ct ?_
    | refine cf ?_
    | refine swp_cond rfl (fun hc => ?_) (fun hc => ?_)
    | exact retq1 (by first | exact .inr rfl | exact .inl rfl) rfl (.cell rfl rfl (tyT rfl) (vc (vc (vc (vc .nil)))) rfl .nil)
    | refine retq (by first | exact .inr rfl | exact .inl rfl) rfl (.cell rfl rfl (tyT rfl) (vc (vc (vc (vc .nil)))) rfl .nil) ?_)
set_option maxRecDepth 100000 in
set_option maxHeartbeats 1000000 in
theorem ownR_ (r : Pl.Rule) (h : FewR r) : PCalls Tryz.prog 44 [.agg (ruleT r)] (.agg (ruleT r)) := by
  have c1 := ownPolP ⟨0, ⟨#[]⟩, 0, 0, [r]⟩ ⟨by simp, fun x hx => by simp at hx; subst hx; exact h⟩
  refine pcalls_of Tryz.func44 rfl rfl Tryz.ntmps44 rfl ?_
  repeat' (first
    | refine then_go ?_
    | refine swp_seq ?_
    | ((refine swp_region (id := 0) ?_) <;> (refine sops_box (.free rfl rfl) rfl rfl rfl rfl rfl rfl ?_) <;> (refine sops_allocS str46 (.free rfl rfl) rfl rfl rfl rfl ?_) <;> (refine sops_nil ?_))
    | ((refine swp_region (id := 1) ?_) <;> (first | refine sops_pure (.free rfl rfl) rfl rfl (po_load_bx_agg rfl rfl (tyT rfl) rfl (vc (vc (vc .nil))) rfl) ?_ | refine sops_pure (.free rfl rfl) rfl rfl (po_load_agg rfl rfl (tyT rfl) rfl rfl) ?_) <;> (refine sops_pure (.free rfl rfl) rfl rfl (po_buildSlice rfl (tyE rfl) (dc (.nil _)) rfl rfl rfl) ?_) <;> (refine sops_pure (.free rfl rfl) rfl rfl (po_buildS str50 rfl (pc .nil) rfl) ?_) <;> (refine sops_pure (.free rfl rfl) rfl rfl (po_call (c1) rfl (ac .nil)) ?_) <;> (refine sops_allocS str50 (.free rfl rfl) rfl rfl rfl rfl ?_) <;> (refine sops_store (.free rfl rfl) rfl rfl rfl rfl rfl rfl (tyT rfl) rfl rfl ?_) <;> (refine sops_nil ?_))
    | ((refine swp_region (id := 2) ?_) <;> (first | refine sops_pure (.free rfl rfl) rfl rfl (po_field_bx rfl rfl (tyF rfl)) ?_ | refine sops_pure (.free rfl rfl) rfl rfl (po_field rfl rfl (tyF rfl)) ?_) <;> (first | refine sops_pure (.free rfl rfl) rfl rfl (po_load_bx rfl rfl (tyT rfl) rfl rfl) ?_ | refine sops_pure (.free rfl rfl) rfl rfl (po_load rfl rfl (tyT rfl) rfl) ?_) <;> (refine sops_pure (.free rfl rfl) rfl rfl (pix rfl (tyS rfl)) ?_) <;> (first | refine sops_pure (.free rfl rfl) rfl rfl (po_load_bx_agg rfl rfl (tyT rfl) rfl (vc (vc (vc .nil))) rfl) ?_ | refine sops_pure (.free rfl rfl) rfl rfl (po_load_agg rfl rfl (tyT rfl) rfl rfl) ?_) <;> (refine sops_store (.free rfl rfl) rfl rfl rfl rfl rfl rfl (tyT rfl) rfl rfl ?_) <;> (refine sops_nil ?_))
    | refine swp_ret ?_
    | refine swp_skip ?_
    | refine swp_block ?_
    | refine swp_exit ?_
    | refine block_go ?_
    | refine block_exit ?_
    | refine block_far rfl ?_
    | refine block_ret ?_
    | refine then_ret ?_
    | refine then_exit ?_
    | refine for_ret ?_
    | refine for_exit ?_
    | refine ct ?_
    | refine cf ?_
    | refine swp_cond rfl (fun hc => ?_) (fun hc => ?_)
    | exact retq1 (by first | exact .inr rfl | exact .inl rfl) rfl (.cell rfl rfl (tyT rfl) (vc (vc (vc .nil))) rfl .nil)
    | refine retq (by first | exact .inr rfl | exact .inl rfl) rfl (.cell rfl rfl (tyT rfl) (vc (vc (vc .nil))) rfl .nil) ?_)
set_option maxRecDepth 100000 in
set_option maxHeartbeats 1000000 in
theorem fourth_ (r : Pl.Rule) (h : FewR r) : PCalls Tryz.prog 20 [.agg (ruleT r)] (.agg (ruleT (Pl.four r))) := by
  have c1 := ownR_ r h
  have c2 := mapSTarget Pl.fourT 46 [] r.to_ (fun x hx => fourth1_ x) h.t
  refine pcalls_of Tryz.func20 rfl rfl Tryz.ntmps20 rfl ?_
  repeat' (first
    | refine then_go ?_
    | refine swp_seq ?_
    | ((refine swp_region (id := 0) ?_) <;> (refine sops_box (.free rfl rfl) rfl rfl rfl rfl rfl rfl ?_) <;> (refine sops_allocS str46 (.free rfl rfl) rfl rfl rfl rfl ?_) <;> (refine sops_nil ?_))
    | ((refine swp_region (id := 1) ?_) <;> (first | refine sops_pure (.free rfl rfl) rfl rfl (po_load_bx_agg rfl rfl (tyT rfl) rfl (vc (vc (vc .nil))) rfl) ?_ | refine sops_pure (.free rfl rfl) rfl rfl (po_load_agg rfl rfl (tyT rfl) rfl rfl) ?_) <;> (first | refine sops_pure (.free rfl rfl) rfl rfl (po_call (c1) rfl (ac .nil)) ?_ | refine sops_pure (.free rfl rfl) rfl rfl (po_call (c2) rfl (ac .nil)) ?_) <;> (refine sops_store (.free rfl rfl) rfl rfl rfl rfl rfl rfl (tyT rfl) rfl rfl ?_) <;> (refine sops_nil ?_))
    | ((refine swp_region (id := 2) ?_) <;> (first | refine sops_pure (.free rfl rfl) rfl rfl (po_field_bx rfl rfl (tyF rfl)) ?_ | refine sops_pure (.free rfl rfl) rfl rfl (po_field rfl rfl (tyF rfl)) ?_) <;> (refine sops_store (.free rfl rfl) rfl rfl rfl rfl rfl rfl (tyT rfl) rfl rfl ?_) <;> (refine sops_nil ?_))
    | ((refine swp_region (id := 3) ?_) <;> (first | refine sops_pure (.free rfl rfl) rfl rfl (po_field_bx rfl rfl (tyF rfl)) ?_ | refine sops_pure (.free rfl rfl) rfl rfl (po_field rfl rfl (tyF rfl)) ?_) <;> (first | refine sops_pure (.free rfl rfl) rfl rfl (po_load_bx rfl rfl (tyT rfl) rfl rfl) ?_ | refine sops_pure (.free rfl rfl) rfl rfl (po_load rfl rfl (tyT rfl) rfl) ?_) <;> (first | refine sops_pure (.free rfl rfl) rfl rfl (po_call (c1) rfl (ac (ac .nil))) ?_ | refine sops_pure (.free rfl rfl) rfl rfl (po_call (c2) rfl (ac (ac .nil))) ?_) <;> (first | refine sops_pure (.free rfl rfl) rfl rfl (po_field_bx rfl rfl (tyF rfl)) ?_ | refine sops_pure (.free rfl rfl) rfl rfl (po_field rfl rfl (tyF rfl)) ?_) <;> (refine sops_store (.free rfl rfl) rfl rfl rfl rfl rfl rfl (tyT rfl) rfl rfl ?_) <;> (refine sops_nil ?_))
    | ((refine swp_region (id := 4) ?_) <;> (first | refine sops_pure (.free rfl rfl) rfl rfl (po_load_bx_agg rfl rfl (tyT rfl) rfl (vc (vc (vc .nil))) rfl) ?_ | refine sops_pure (.free rfl rfl) rfl rfl (po_load_agg rfl rfl (tyT rfl) rfl rfl) ?_) <;> (refine sops_store (.free rfl rfl) rfl rfl rfl rfl rfl rfl (tyT rfl) rfl rfl ?_) <;> (refine sops_nil ?_))
    | refine swp_ret ?_
    | refine swp_skip ?_
    | refine swp_block ?_
    | refine swp_exit ?_
    | refine block_go ?_
    | refine block_exit ?_
    | refine block_far rfl ?_
    | refine block_ret ?_
    | refine then_ret ?_
    | refine then_exit ?_
    | refine for_ret ?_
    | refine for_exit ?_
    | refine ct ?_
    | refine cf ?_
    | refine swp_cond rfl (fun hc => ?_) (fun hc => ?_)
    | exact retq1 (by first | exact .inr rfl | exact .inl rfl) rfl (.cell rfl rfl (tyT rfl) (vc (vc (vc .nil))) rfl .nil)
    | refine retq (by first | exact .inr rfl | exact .inl rfl) rfl (.cell rfl rfl (tyT rfl) (vc (vc (vc .nil))) rfl .nil) ?_)
set_option maxRecDepth 100000 in
set_option maxHeartbeats 1000000 in
theorem halved_ (l : List Pl.Rule) (hn : l.length ≤ 1000) (h : ∀ r ∈ l, FewR r) : PCalls Tryz.prog 31 [.sl 3 (l.map ruleT)] (.sl 3 ((l.map Pl.four).map ruleT)) := by
  have c1 := mapSRule Pl.four 20 [] l (fun x hx => fourth_ x (h x hx)) hn
  refine pcalls_of Tryz.func31 rfl rfl Tryz.ntmps31 rfl ?_
  repeat' (first
    | refine then_go ?_
    | refine swp_seq ?_
    | ((refine swp_region (id := 0) ?_) <;> (refine sops_pure (.free rfl rfl) rfl rfl (po_assign rfl rfl) ?_) <;> (refine sops_nil ?_))
    | ((refine swp_region (id := 1) ?_) <;> (refine sops_pure (.free rfl rfl) rfl rfl (po_move rfl rfl) ?_) <;> (refine sops_pure (.free rfl rfl) rfl rfl (po_call (c1) rfl (ac (ac .nil))) ?_) <;> (refine sops_pure (.free rfl rfl) rfl rfl (po_assign rfl rfl) ?_) <;> (refine sops_nil ?_))
    | refine swp_ret ?_
    | refine swp_skip ?_
    | refine swp_block ?_
    | refine swp_exit ?_
    | refine block_go ?_
    | refine block_exit ?_
    | refine block_far rfl ?_
    | refine block_ret ?_
    | refine then_ret ?_
    | refine then_exit ?_
    | refine for_ret ?_
    | refine for_exit ?_
    | refine ct ?_
    | refine cf ?_
    | refine swp_cond rfl (fun hc => ?_) (fun hc => ?_)
    | exact retq1 (by first | exact .inr rfl | exact .inl rfl) rfl (.tmp rfl (by first | exact .t _ | exact .own rfl (by first | rfl | assumption | (simp; done) | (simp; omega)) | exact .nil _ | exact .emp _ | exact .fn _) .nil)
    | refine retq (by first | exact .inr rfl | exact .inl rfl) rfl (.tmp rfl (by first | exact .t _ | exact .own rfl (by first | rfl | assumption | (simp; done) | (simp; omega)) | exact .nil _ | exact .emp _ | exact .fn _) .nil) ?_)
set_option maxRecDepth 100000 in
set_option maxHeartbeats 1000000 in
theorem halvedL (l : List Pl.Rule) (hn : l.length ≤ 1000) (h : ∀ r ∈ l, FewR r) : LCalls Tryz.prog 31 [.own 1000 (l.map ruleT).length] [] [(1000, ⟨46, 3, l.map ruleT⟩)] (.t (.sl 3 ((Pl.what 1 l).map ruleT))) [] [] := by
  have c1 := mapSRule Pl.four 20 [] l (fun x hx => fourth_ x (h x hx)) hn
  refine lcalls_of Tryz.func31 rfl rfl Tryz.ntmps31 rfl ?_
  refine swp_weak (weak_show 1000 100 rfl rfl rfl rfl) ?_
  repeat' (first
    | refine then_go ?_
    | refine swp_seq ?_
    | ((refine swp_region (id := 0) ?_) <;> (refine sops_pure (.free rfl rfl) rfl rfl (po_assign rfl rfl) ?_) <;> (refine sops_nil ?_))
    | ((refine swp_region (id := 1) ?_) <;> (refine sops_pure (.free rfl rfl) rfl rfl (po_move rfl rfl) ?_) <;> (refine sops_pure (.free rfl rfl) rfl rfl (po_call (c1) rfl (ac (ac .nil))) ?_) <;> (refine sops_pure (.free rfl rfl) rfl rfl (po_assign rfl rfl) ?_) <;> (refine sops_nil ?_))
    | refine swp_ret ?_
    | refine swp_skip ?_
    | refine swp_block ?_
    | refine swp_exit ?_
    | refine block_go ?_
    | refine block_exit ?_
    | refine block_far rfl ?_
    | refine block_ret ?_
    | refine then_ret ?_
    | refine then_exit ?_
    | refine for_ret ?_
    | refine for_exit ?_
    | refine ct ?_
    | refine cf ?_
    | refine swp_cond rfl (fun hc => ?_) (fun hc => ?_)
    | exact retl1 (by first | exact .inr rfl | exact .inl rfl) rfl (.tmpT rfl (by first | exact .t _ | exact .own rfl (by first | rfl | assumption | (simp; done) | (simp; omega)) | exact .nil _ | exact .emp _ | exact .fn _) .nil) rfl .nil .nil
    | refine retl (by first | exact .inr rfl | exact .inl rfl) rfl (.tmpT rfl (by first | exact .t _ | exact .own rfl (by first | rfl | assumption | (simp; done) | (simp; omega)) | exact .nil _ | exact .emp _ | exact .fn _) .nil) ?_ rfl .nil .nil)
set_option maxRecDepth 100000 in
set_option maxHeartbeats 1000000 in
theorem wholeL (l : List Pl.Rule) : LCalls Tryz.prog 40 [.own 1000 (l.map ruleT).length] [] [(1000, ⟨46, 3, l.map ruleT⟩)] (.t (.sl 3 ((Pl.what 2 l).map ruleT))) [] [] := by
  refine lcalls_of Tryz.func40 rfl rfl Tryz.ntmps40 rfl ?_
  refine swp_weak (weak_show 1000 100 rfl rfl rfl rfl) ?_
  repeat' (first
    | refine then_go ?_
    | refine swp_seq ?_
    | ((refine swp_region (id := 0) ?_) <;> (refine sops_pure (.free rfl rfl) rfl rfl (po_assign rfl rfl) ?_) <;> (refine sops_nil ?_))
    | ((refine swp_region (id := 1) ?_) <;> (refine sops_pure (.free rfl rfl) rfl rfl (po_move rfl rfl) ?_) <;> (refine sops_pure (.free rfl rfl) rfl rfl (po_assign rfl rfl) ?_) <;> (refine sops_nil ?_))
    | refine swp_ret ?_
    | refine swp_skip ?_
    | refine swp_block ?_
    | refine swp_exit ?_
    | refine block_go ?_
    | refine block_exit ?_
    | refine block_far rfl ?_
    | refine block_ret ?_
    | refine then_ret ?_
    | refine then_exit ?_
    | refine for_ret ?_
    | refine for_exit ?_
    | refine ct ?_
    | refine cf ?_
    | refine swp_cond rfl (fun hc => ?_) (fun hc => ?_)
    | exact retl1 (by first | exact .inr rfl | exact .inl rfl) rfl (.tmpT rfl (by first | exact .t _ | exact .own rfl (by first | rfl | assumption | (simp; done) | (simp; omega)) | exact .nil _ | exact .emp _ | exact .fn _) .nil) rfl .nil .nil
    | refine retl (by first | exact .inr rfl | exact .inl rfl) rfl (.tmpT rfl (by first | exact .t _ | exact .own rfl (by first | rfl | assumption | (simp; done) | (simp; omega)) | exact .nil _ | exact .emp _ | exact .fn _) .nil) ?_ rfl .nil .nil)

end Go.Proofs.YtlcecabfmemfeaaGreat.Pol

/- slices.DeleteFunc over a row of rules that is handed over; split.blind. -/
namespace Go.Proofs.YtlcecabfmemfeaaGreat.Pol
set_option linter.unusedVariables false
set_option linter.unusedSimpArgs false
open Go.RowKit Mem Sim Opn
theorem idxP_cases {α : Type} (p : α → Bool) (l : List α) : (idxP p l = -1 ∧ ∀ x ∈ l, p x = false) ∨ ∃ k, ∃ h : k < l.length, idxP p l = (k : Int) ∧ p l[k] = true ∧ ∀ j, j < k → ∀ x, l[j]? = some x → p x = false := by
  cases h : l.any p with
  | false => exact .inl ⟨by unfold idxP; rw [if_neg (by simp [h])], fun x hx => by simpa using (List.any_eq_false.1 h) x hx⟩
  | true =>
    have hlt : l.findIdx p < l.length := by rw [List.findIdx_lt_length]; exact List.any_eq_true.1 h
    refine .inr ⟨l.findIdx p, hlt, by unfold idxP; rw [if_pos h], List.findIdx_getElem, fun j hj x hx => ?_⟩
    have hjl : j < l.length := by omega
    have := List.not_of_lt_findIdx hj
    rw [List.getElem?_eq_getElem hjl] at hx; injection hx with hx; subst hx
    simpa using this
def DS (p : Pl.Rule → Bool) (f : FuncId) (l : List Pl.Rule) (k0 : Nat) (k : Nat) : St := ⟨[(0, .own 1000 l.length), (1, .t (.clo f [])), (5, .t (.v (.int .i64 ((Pl.delS p l k0 k).2 : Int)))), (6, .t (.v (.int .i64 ((k0 + 1 + k : Nat) : Int))))], [], [(1000, ⟨46, 3, (Pl.delS p l k0 k).1.map ruleT⟩)]⟩
set_option maxRecDepth 100000 in
set_option maxHeartbeats 2000000 in
theorem deleteRules (p : Pl.Rule → Bool) (f : FuncId) (l : List Pl.Rule) (hK : ∀ x ∈ l, PCalls Tryz.prog f [.agg (ruleT x)] (.v (.bool (p x)))) (hn : l.length ≤ 1000) :
    LCalls Tryz.prog 60 [.own 1000 (l.map ruleT).length, .t (.clo f [])] [] [(1000, ⟨46, 3, l.map ruleT⟩)] (.t (.sl 3 ((l.filter fun x => !p x).map ruleT))) [] [] := by
  have hm1 : (l.map ruleT).length = l.length := List.length_map _
  have c1 := idxRule p f [] l (idxP p l) hK hn (idxP_hit p l) (idxP_miss p l)
  rw [hm1]
  refine lcalls_of Tryz.func60 rfl rfl Tryz.ntmps60 rfl ?_
  rcases idxP_cases p l with ⟨h1, h2⟩ | ⟨k0, h0, h1, h2, h3⟩
  · rw [h1] at c1
    rw [Pl.del_none h2]
    repeat' (first
      | refine then_go ?_
      | refine swp_seq ?_
      | refine swp_ret_weak (weak_show 1000 100 rfl rfl rfl rfl) ?_
      | ((refine swp_region (id := 0) ?_) <;> (refine sops_pure (.free rfl rfl) rfl rfl (po_assign rfl rfl) ?_) <;> (refine sops_nil ?_))
      | ((refine swp_region (id := 1) ?_) <;> (refine sops_pure (.free rfl rfl) rfl rfl (po_move rfl rfl) ?_) <;> (refine sops_pure (.free rfl rfl) rfl rfl (po_move rfl rfl) ?_) <;> (refine sops_pure (.free rfl rfl) rfl rfl (po_call_see (c1) rfl (.cons rfl (by first | exact .t _ | exact .own rfl (by first | rfl | assumption | omega | (simp; done) | (simp; omega) | (simp at *; omega)) | exact .nil _ | exact .emp _ | exact .fn _ | (repeat' first | exact .agn | refine .agc ?_ ?_ | exact .t _ | exact .own rfl rfl)) (.cons rfl (by first | exact .t _ | exact .own rfl (by first | rfl | assumption | omega | (simp; done) | (simp; omega) | (simp at *; omega)) | exact .nil _ | exact .emp _ | exact .fn _ | (repeat' first | exact .agn | refine .agc ?_ ?_ | exact .t _ | exact .own rfl rfl)) .nil)) rfl) ?_) <;> (refine sops_pure (.free rfl rfl) rfl rfl (po_assign rfl rfl) ?_) <;> (refine sops_nil ?_))
      | ((refine swp_region (id := 2) ?_) <;> (refine sops_pure (.free rfl rfl) rfl rfl (po_move rfl rfl) ?_) <;> (refine sops_pure (.free rfl rfl) rfl rfl (po_cmp rfl rfl rfl rfl) ?_) <;> (refine sops_nil ?_))
      | ((refine swp_region (id := 3) ?_) <;> (refine sops_pure (.free rfl rfl) rfl rfl (po_move rfl rfl) ?_) <;> (refine sops_pure (.free rfl rfl) rfl rfl (po_assign rfl rfl) ?_) <;> (refine sops_nil ?_))
      | refine swp_ret ?_
      | refine swp_skip ?_
      | refine swp_block ?_
      | refine swp_exit ?_
      | refine block_go ?_
      | refine block_exit ?_
      | refine block_far rfl ?_
      | refine block_ret ?_
      | refine then_ret ?_
      | refine then_exit ?_
      | refine for_ret ?_
      | refine for_exit ?_
      | refine ct ?_
      | refine cf ?_
      | refine swp_cond rfl (fun hc => ?_) (fun hc => ?_)
      | exact retl1 (by first | exact .inr rfl | exact .inl rfl) rfl (.tmpT rfl (by first | exact .t _ | exact .own rfl (by first | rfl | assumption | (simp; done) | (simp; omega)) | exact .nil _ | exact .emp _ | exact .fn _) .nil) rfl .nil .nil
      | refine retl (by first | exact .inr rfl | exact .inl rfl) rfl (.tmpT rfl (by first | exact .t _ | exact .own rfl (by first | rfl | assumption | (simp; done) | (simp; omega)) | exact .nil _ | exact .emp _ | exact .fn _) .nil) ?_ rfl .nil .nil)
  · rw [h1] at c1
    repeat' (first
      | refine then_go ?_
      | refine swp_seq ?_
      | ((refine swp_region (id := 0) ?_) <;> (refine sops_pure (.free rfl rfl) rfl rfl (po_assign rfl rfl) ?_) <;> (refine sops_nil ?_))
      | ((refine swp_region (id := 1) ?_) <;> (refine sops_pure (.free rfl rfl) rfl rfl (po_move rfl rfl) ?_) <;> (refine sops_pure (.free rfl rfl) rfl rfl (po_move rfl rfl) ?_) <;> (refine sops_pure (.free rfl rfl) rfl rfl (po_call_see (c1) rfl (.cons rfl (by first | exact .t _ | exact .own rfl (by first | rfl | assumption | omega | (simp; done) | (simp; omega) | (simp at *; omega)) | exact .nil _ | exact .emp _ | exact .fn _ | (repeat' first | exact .agn | refine .agc ?_ ?_ | exact .t _ | exact .own rfl rfl)) (.cons rfl (by first | exact .t _ | exact .own rfl (by first | rfl | assumption | omega | (simp; done) | (simp; omega) | (simp at *; omega)) | exact .nil _ | exact .emp _ | exact .fn _ | (repeat' first | exact .agn | refine .agc ?_ ?_ | exact .t _ | exact .own rfl rfl)) .nil)) rfl) ?_) <;> (refine sops_pure (.free rfl rfl) rfl rfl (po_assign rfl rfl) ?_) <;> (refine sops_nil ?_))
      | ((refine swp_region (id := 2) ?_) <;> (refine sops_pure (.free rfl rfl) rfl rfl (po_move rfl rfl) ?_) <;> (refine sops_pure (.free rfl rfl) rfl rfl (po_cmp rfl rfl rfl rfl) ?_) <;> (refine sops_nil ?_))
      | ((refine swp_region (id := 4) ?_) <;> (refine sops_pure (.free rfl rfl) rfl rfl (po_move rfl rfl) ?_) <;> (first | refine sops_pure (.free rfl rfl) rfl rfl (po_inc rfl rfl rfl (by omega)) ?_ | refine sops_pure (.free rfl rfl) rfl rfl (po_arith rfl rfl rfl (ar_add (by first | rfl | (refine wrap_i64 ?_; omega)) rfl)) ?_) <;> (refine sops_pure (.free rfl rfl) rfl rfl (po_assign rfl rfl) ?_) <;> (refine sops_nil ?_))
      | refine swp_ret ?_
      | refine swp_skip ?_
      | refine swp_block ?_
      | refine swp_exit ?_
      | refine block_go ?_
      | refine block_exit ?_
      | refine block_far rfl ?_
      | refine block_ret ?_
      | refine then_ret ?_
      | refine then_exit ?_
      | refine for_ret ?_
      | refine for_exit ?_
      | refine ct ?_
      | refine cf ?_
      | refine swp_cond rfl (fun hc => ?_) (fun hc => ?_)
      | refine retq (by first | exact .inr rfl | exact .inl rfl) rfl (.tmp rfl (by first | exact .t _ | exact .own rfl (by first | rfl | assumption | (simp; done) | (simp; omega)) | exact .nil _ | exact .emp _ | exact .fn _) .nil) ?_)
    refine swp_for (DS p f l k0) (fun _ => True) (l.length - (k0 + 1)) ?_ trivial ?_
    · exact (weak_sub (.cons rfl rfl rfl (.cons rfl rfl rfl (.cons rfl rfl rfl (.cons rfl rfl rfl .nil)))) .nil (.cons rfl rfl .nil))
    intro k hk _
    have hI := Pl.delS_spec h0 h2 h3 k (by omega)
    have hlen := hI.len
    have hlt0 := hI.lt
    have hl2 : ((Pl.delS p l k0 k).1.map ruleT).length = l.length := by rw [List.length_map]; exact hlen
    unfold DS
    by_cases hlt : k < l.length - (k0 + 1)
    · have hj : k0 + 1 + k < l.length := by omega
      have c2 := hK _ (List.getElem_mem hj)
      have hRj : ((Pl.delS p l k0 k).1.map ruleT)[k0 + 1 + k]? = some (ruleT l[k0 + 1 + k]) := by
        have := congrArg (fun q => q[0]?) hI.drop
        simp only [List.getElem?_drop, Nat.add_zero] at this
        rw [List.getElem?_map, this, List.getElem?_eq_getElem hj]; rfl
      have hRi : ((Pl.delS p l k0 k).1.map ruleT)[(Pl.delS p l k0 k).2]? = some (ruleT (Pl.delS p l k0 k).1[(Pl.delS p l k0 k).2]) := by
        rw [List.getElem?_map, List.getElem?_eq_getElem (by omega)]; rfl
      have e1 : l[k0 + 1 + k]? = some l[k0 + 1 + k] := List.getElem?_eq_getElem hj
      have hstep : Pl.delS p l k0 (k + 1) = if p l[k0 + 1 + k] = true then Pl.delS p l k0 k else ((Pl.delS p l k0 k).1.set (Pl.delS p l k0 k).2 l[k0 + 1 + k], (Pl.delS p l k0 k).2 + 1) := by
        conv => lhs; unfold Pl.delS
        rw [e1]
      cases hpx : p l[k0 + 1 + k] with
      | true =>
        rw [hpx, if_pos rfl] at hstep
        rw [hpx] at c2
        repeat' (first
          | refine then_go ?_
          | refine swp_seq ?_
          | refine for_next hlt (weak_sub (.cons rfl (by first | rfl | (rw [hstep])) rfl (.cons rfl (by first | rfl | (rw [hstep])) rfl (.cons rfl (by first | rfl | (rw [hstep])) rfl (.cons rfl (by first | rfl | (rw [hstep])) rfl .nil)))) .nil (.cons rfl (by first | rfl | (rw [hstep])) .nil)) trivial
          | ((refine swp_region (id := 5) ?_) <;> (refine sops_pure (.free rfl rfl) rfl rfl (po_move rfl rfl) ?_) <;> (refine sops_pure (.free rfl rfl) rfl rfl (po_move rfl rfl) ?_) <;> (first | refine sops_pure (.free rfl rfl) rfl rfl (po_len_own rfl rfl (tyS rfl)) ?_ | refine sops_pure (.free rfl rfl) rfl rfl (pln rfl (tyS rfl)) ?_) <;> (refine sops_pure (.free rfl rfl) rfl rfl (po_cmp rfl rfl rfl rfl) ?_) <;> (refine sops_nil ?_))
          | ((refine swp_region (id := 7) ?_) <;> (refine sops_pure (.free rfl rfl) rfl rfl (po_move rfl rfl) ?_) <;> (refine sops_pure (.free rfl rfl) rfl rfl (po_move rfl rfl) ?_) <;> (first | refine sops_pure (.free rfl rfl) rfl rfl (po_index_own rfl rfl rfl (by first | rfl | assumption | omega | (simp; done) | (simp; omega) | (simp at *; omega)) rfl (tyS rfl) (by first | rfl | omega) (by first | assumption | omega)) ?_ | refine sops_pure (.free rfl rfl) rfl rfl (pix rfl (tyS rfl)) ?_) <;> (first | refine sops_pure (.free rfl rfl) rfl rfl (po_load_bx_agg rfl rfl (tyT rfl) rfl (vc (vc (vc .nil))) rfl) ?_ | refine sops_pure (.free rfl rfl) rfl rfl (po_load_agg rfl rfl (tyT rfl) rfl rfl) ?_ | refine sops_pure (.free rfl rfl) rfl rfl (po_load_own_agg rfl rfl rfl (by first | rfl | assumption | omega | (simp; done) | (simp; omega) | (simp at *; omega)) (tyT rfl) (by first | rfl | assumption | exact map_at (by first | assumption | omega)) rfl rfl) ?_ | refine sops_pure (.free rfl rfl) rfl rfl (po_load_bx_ag rfl rfl (tyT rfl) rfl rfl rfl rfl) ?_) <;> (refine sops_allocS str46 (.free rfl rfl) rfl rfl rfl rfl ?_) <;> (first | refine sops_store (.free rfl rfl) rfl rfl rfl rfl rfl rfl (tyT rfl) rfl rfl ?_ | refine sops_store_own (by rfl) (.free rfl rfl) rfl rfl rfl rfl (by first | rfl | assumption | omega | (simp; done) | (simp; omega) | (simp at *; omega)) rfl (by first | exact .t _ | exact .own rfl (by first | rfl | assumption | (simp; done) | (simp; omega)) | exact .nil _ | exact .emp _ | exact .fn _) rfl rfl (tyT rfl) rfl (by first | rfl | assumption | exact map_at (by first | assumption | omega)) rfl ?_) <;> (refine sops_nil ?_))
          | ((refine swp_region (id := 8) ?_) <;> (refine sops_pure (.free rfl rfl) rfl rfl (po_move rfl rfl) ?_) <;> (first | refine sops_pure (.free rfl rfl) rfl rfl (po_load_bx_agg rfl rfl (tyT rfl) rfl (vc (vc (vc .nil))) rfl) ?_ | refine sops_pure (.free rfl rfl) rfl rfl (po_load_agg rfl rfl (tyT rfl) rfl rfl) ?_ | refine sops_pure (.free rfl rfl) rfl rfl (po_load_own_agg rfl rfl rfl (by first | rfl | assumption | omega | (simp; done) | (simp; omega) | (simp at *; omega)) (tyT rfl) (by first | rfl | assumption | exact map_at (by first | assumption | omega)) rfl rfl) ?_ | refine sops_pure (.free rfl rfl) rfl rfl (po_load_bx_ag rfl rfl (tyT rfl) rfl rfl rfl rfl) ?_) <;> (refine sops_pure (.free rfl rfl) rfl rfl (po_call_clo rfl rfl (ac .nil) (c2)) ?_) <;> (refine sops_pure (.free rfl rfl) rfl rfl (po_not rfl rfl) ?_) <;> (refine sops_nil ?_))
          | ((refine swp_region (id := 6) ?_) <;> (refine sops_pure (.free rfl rfl) rfl rfl (po_move rfl rfl) ?_) <;> (first | refine sops_pure (.free rfl rfl) rfl rfl (po_inc rfl rfl rfl (by omega)) ?_ | refine sops_pure (.free rfl rfl) rfl rfl (po_arith rfl rfl rfl (ar_add (by first | rfl | (refine wrap_i64 ?_; omega)) rfl)) ?_) <;> (refine sops_pure (.free rfl rfl) rfl rfl (po_assign rfl rfl) ?_) <;> (refine sops_nil ?_))
          | refine swp_ret ?_
          | refine swp_skip ?_
          | refine swp_block ?_
          | refine swp_exit ?_
          | refine block_go ?_
          | refine block_exit ?_
          | refine block_far rfl ?_
          | refine block_ret ?_
          | refine then_ret ?_
          | refine then_exit ?_
          | refine for_ret ?_
          | refine for_exit ?_
          | refine ct ?_
          | refine cf ?_
          | refine swp_cond rfl (fun hc => ?_) (fun hc => ?_)
          | refine retq (by first | exact .inr rfl | exact .inl rfl) rfl (.tmp rfl (by first | exact .t _ | exact .own rfl (by first | rfl | assumption | (simp; done) | (simp; omega)) | exact .nil _ | exact .emp _ | exact .fn _) .nil) ?_)
      | false =>
        rw [hpx, if_neg (by simp)] at hstep
        rw [hpx] at c2
        repeat' (first
          | refine then_go ?_
          | refine swp_seq ?_
          | refine for_next hlt (weak_sub (.cons rfl (by first | rfl | ((rw [hstep]; try first | rfl | (dsimp only; rw [List.map_set]; try rfl)))) rfl (.cons rfl (by first | rfl | ((rw [hstep]; try first | rfl | (dsimp only; rw [List.map_set]; try rfl)))) rfl (.cons rfl (by first | rfl | ((rw [hstep]; try first | rfl | (dsimp only; rw [List.map_set]; try rfl)))) rfl (.cons rfl (by first | rfl | ((rw [hstep]; try first | rfl | (dsimp only; rw [List.map_set]; try rfl)))) rfl .nil)))) .nil (.cons rfl (by first | rfl | ((rw [hstep]; try first | rfl | (dsimp only; rw [List.map_set]; try rfl)))) .nil)) trivial
          | ((refine swp_region (id := 5) ?_) <;> (refine sops_pure (.free rfl rfl) rfl rfl (po_move rfl rfl) ?_) <;> (refine sops_pure (.free rfl rfl) rfl rfl (po_move rfl rfl) ?_) <;> (first | refine sops_pure (.free rfl rfl) rfl rfl (po_len_own rfl rfl (tyS rfl)) ?_ | refine sops_pure (.free rfl rfl) rfl rfl (pln rfl (tyS rfl)) ?_) <;> (refine sops_pure (.free rfl rfl) rfl rfl (po_cmp rfl rfl rfl rfl) ?_) <;> (refine sops_nil ?_))
          | ((refine swp_region (id := 7) ?_) <;> (refine sops_pure (.free rfl rfl) rfl rfl (po_move rfl rfl) ?_) <;> (refine sops_pure (.free rfl rfl) rfl rfl (po_move rfl rfl) ?_) <;> (first | refine sops_pure (.free rfl rfl) rfl rfl (po_index_own rfl rfl rfl (by first | rfl | assumption | omega | (simp; done) | (simp; omega) | (simp at *; omega)) rfl (tyS rfl) (by first | rfl | omega) (by first | assumption | omega)) ?_ | refine sops_pure (.free rfl rfl) rfl rfl (pix rfl (tyS rfl)) ?_) <;> (first | refine sops_pure (.free rfl rfl) rfl rfl (po_load_bx_agg rfl rfl (tyT rfl) rfl (vc (vc (vc .nil))) rfl) ?_ | refine sops_pure (.free rfl rfl) rfl rfl (po_load_agg rfl rfl (tyT rfl) rfl rfl) ?_ | refine sops_pure (.free rfl rfl) rfl rfl (po_load_own_agg rfl rfl rfl (by first | rfl | assumption | omega | (simp; done) | (simp; omega) | (simp at *; omega)) (tyT rfl) (by first | rfl | assumption | exact map_at (by first | assumption | omega)) rfl rfl) ?_ | refine sops_pure (.free rfl rfl) rfl rfl (po_load_bx_ag rfl rfl (tyT rfl) rfl rfl rfl rfl) ?_) <;> (refine sops_allocS str46 (.free rfl rfl) rfl rfl rfl rfl ?_) <;> (first | refine sops_store (.free rfl rfl) rfl rfl rfl rfl rfl rfl (tyT rfl) rfl rfl ?_ | refine sops_store_own (by rfl) (.free rfl rfl) rfl rfl rfl rfl (by first | rfl | assumption | omega | (simp; done) | (simp; omega) | (simp at *; omega)) rfl (by first | exact .t _ | exact .own rfl (by first | rfl | assumption | (simp; done) | (simp; omega)) | exact .nil _ | exact .emp _ | exact .fn _) rfl rfl (tyT rfl) rfl (by first | rfl | assumption | exact map_at (by first | assumption | omega)) rfl ?_) <;> (refine sops_nil ?_))
          | ((refine swp_region (id := 8) ?_) <;> (refine sops_pure (.free rfl rfl) rfl rfl (po_move rfl rfl) ?_) <;> (first | refine sops_pure (.free rfl rfl) rfl rfl (po_load_bx_agg rfl rfl (tyT rfl) rfl (vc (vc (vc .nil))) rfl) ?_ | refine sops_pure (.free rfl rfl) rfl rfl (po_load_agg rfl rfl (tyT rfl) rfl rfl) ?_ | refine sops_pure (.free rfl rfl) rfl rfl (po_load_own_agg rfl rfl rfl (by first | rfl | assumption | omega | (simp; done) | (simp; omega) | (simp at *; omega)) (tyT rfl) (by first | rfl | assumption | exact map_at (by first | assumption | omega)) rfl rfl) ?_ | refine sops_pure (.free rfl rfl) rfl rfl (po_load_bx_ag rfl rfl (tyT rfl) rfl rfl rfl rfl) ?_) <;> (refine sops_pure (.free rfl rfl) rfl rfl (po_call_clo rfl rfl (ac .nil) (c2)) ?_) <;> (refine sops_pure (.free rfl rfl) rfl rfl (po_not rfl rfl) ?_) <;> (refine sops_nil ?_))
          | ((refine swp_region (id := 9) ?_) <;> (refine sops_pure (.free rfl rfl) rfl rfl (po_move rfl rfl) ?_) <;> (refine sops_pure (.free rfl rfl) rfl rfl (po_move rfl rfl) ?_) <;> (first | refine sops_pure (.free rfl rfl) rfl rfl (po_load_bx_agg rfl rfl (tyT rfl) rfl (vc (vc (vc .nil))) rfl) ?_ | refine sops_pure (.free rfl rfl) rfl rfl (po_load_agg rfl rfl (tyT rfl) rfl rfl) ?_ | refine sops_pure (.free rfl rfl) rfl rfl (po_load_own_agg rfl rfl rfl (by first | rfl | assumption | omega | (simp; done) | (simp; omega) | (simp at *; omega)) (tyT rfl) (by first | rfl | assumption | exact map_at (by first | assumption | omega)) rfl rfl) ?_ | refine sops_pure (.free rfl rfl) rfl rfl (po_load_bx_ag rfl rfl (tyT rfl) rfl rfl rfl rfl) ?_) <;> (first | refine sops_pure (.free rfl rfl) rfl rfl (po_index_own rfl rfl rfl (by first | rfl | assumption | omega | (simp; done) | (simp; omega) | (simp at *; omega)) rfl (tyS rfl) (by first | rfl | omega) (by first | assumption | omega)) ?_ | refine sops_pure (.free rfl rfl) rfl rfl (pix rfl (tyS rfl)) ?_) <;> (first | refine sops_store (.free rfl rfl) rfl rfl rfl rfl rfl rfl (tyT rfl) rfl rfl ?_ | refine sops_store_own (by rfl) (.free rfl rfl) rfl rfl rfl rfl (by first | rfl | assumption | omega | (simp; done) | (simp; omega) | (simp at *; omega)) rfl (by first | exact .t _ | exact .own rfl (by first | rfl | assumption | (simp; done) | (simp; omega)) | exact .nil _ | exact .emp _ | exact .fn _) rfl rfl (tyT rfl) rfl (by first | rfl | assumption | exact map_at (by first | assumption | omega)) rfl ?_) <;> (refine sops_nil ?_))
          | ((refine swp_region (id := 10) ?_) <;> (refine sops_pure (.free rfl rfl) rfl rfl (po_move rfl rfl) ?_) <;> (first | refine sops_pure (.free rfl rfl) rfl rfl (po_inc rfl rfl rfl (by omega)) ?_ | refine sops_pure (.free rfl rfl) rfl rfl (po_arith rfl rfl rfl (ar_add (by first | rfl | (refine wrap_i64 ?_; omega)) rfl)) ?_) <;> (refine sops_pure (.free rfl rfl) rfl rfl (po_assign rfl rfl) ?_) <;> (refine sops_nil ?_))
          | ((refine swp_region (id := 6) ?_) <;> (refine sops_pure (.free rfl rfl) rfl rfl (po_move rfl rfl) ?_) <;> (first | refine sops_pure (.free rfl rfl) rfl rfl (po_inc rfl rfl rfl (by omega)) ?_ | refine sops_pure (.free rfl rfl) rfl rfl (po_arith rfl rfl rfl (ar_add (by first | rfl | (refine wrap_i64 ?_; omega)) rfl)) ?_) <;> (refine sops_pure (.free rfl rfl) rfl rfl (po_assign rfl rfl) ?_) <;> (refine sops_nil ?_))
          | refine swp_ret ?_
          | refine swp_skip ?_
          | refine swp_block ?_
          | refine swp_exit ?_
          | refine block_go ?_
          | refine block_exit ?_
          | refine block_far rfl ?_
          | refine block_ret ?_
          | refine then_ret ?_
          | refine then_exit ?_
          | refine for_ret ?_
          | refine for_exit ?_
          | refine ct ?_
          | refine cf ?_
          | refine swp_cond rfl (fun hc => ?_) (fun hc => ?_)
          | refine retq (by first | exact .inr rfl | exact .inl rfl) rfl (.tmp rfl (by first | exact .t _ | exact .own rfl (by first | rfl | assumption | (simp; done) | (simp; omega)) | exact .nil _ | exact .emp _ | exact .fn _) .nil) ?_)
    · obtain rfl : k = l.length - (k0 + 1) := by omega
      have hjl : k0 + 1 + (l.length - (k0 + 1)) = l.length := by omega
      have hfin := hI.take
      rw [hjl, List.take_length] at hfin
      repeat' (first
        | refine then_go ?_
        | refine swp_seq ?_
        | refine swp_ret_weak (weak_show 1000 100 rfl rfl rfl rfl) ?_
        | ((refine swp_region (id := 5) ?_) <;> (refine sops_pure (.free rfl rfl) rfl rfl (po_move rfl rfl) ?_) <;> (refine sops_pure (.free rfl rfl) rfl rfl (po_move rfl rfl) ?_) <;> (first | refine sops_pure (.free rfl rfl) rfl rfl (po_len_own rfl rfl (tyS rfl)) ?_ | refine sops_pure (.free rfl rfl) rfl rfl (pln rfl (tyS rfl)) ?_) <;> (refine sops_pure (.free rfl rfl) rfl rfl (po_cmp rfl rfl rfl rfl) ?_) <;> (refine sops_nil ?_))
        | ((refine swp_region (id := 11) ?_) <;> (refine sops_pure (.free rfl rfl) rfl rfl (po_move rfl rfl) ?_) <;> (refine sops_pure (.free rfl rfl) rfl rfl (po_move rfl rfl) ?_) <;> (first | refine sops_pure (.free rfl rfl) rfl rfl (po_slice_sfx rfl rfl rfl (by first | rfl | assumption | omega | (simp; done) | (simp; omega) | (simp at *; omega)) (tyS rfl) rfl (by omega) (by omega)) ?_ | refine sops_shrink (by rfl) (by rfl) (.free rfl rfl) rfl rfl rfl rfl rfl (by first | rfl | assumption | omega | (simp; done) | (simp; omega) | (simp at *; omega)) (tyS rfl) rfl (by omega) ?_ | refine sops_pure (.free rfl rfl) rfl rfl (po_slice rfl rfl (by first | exact .t _ | exact .own rfl (by first | rfl | assumption | (simp; done) | (simp; omega)) | exact .nil _ | exact .emp _ | exact .fn _) (tyS rfl) (by first | rfl | exact ⟨_, rfl⟩) (by first | rfl | exact ⟨_, rfl⟩) (by omega) (by omega)) ?_) <;> (refine sops_clearS str46 (by rfl) (.free rfl rfl) rfl rfl rfl rfl (by first | rfl | assumption | omega | (simp; done) | (simp; omega) | (simp at *; omega)) (by omega) (tyE rfl) ?_) <;> (refine sops_nil ?_))
        | ((refine swp_region (id := 12) ?_) <;> (refine sops_pure (.free rfl rfl) rfl rfl (po_move rfl rfl) ?_) <;> (refine sops_pure (.free rfl rfl) rfl rfl (po_move rfl rfl) ?_) <;> (first | refine sops_pure (.free rfl rfl) rfl rfl (po_slice_sfx rfl rfl rfl (by first | rfl | assumption | omega | (simp; done) | (simp; omega) | (simp at *; omega)) (tyS rfl) rfl (by omega) (by omega)) ?_ | refine sops_shrink (by rfl) (by rfl) (.free rfl rfl) rfl rfl rfl rfl rfl (by first | rfl | assumption | omega | (simp; done) | (simp; omega) | (simp at *; omega)) (tyS rfl) rfl (by omega) ?_ | refine sops_pure (.free rfl rfl) rfl rfl (po_slice rfl rfl (by first | exact .t _ | exact .own rfl (by first | rfl | assumption | (simp; done) | (simp; omega)) | exact .nil _ | exact .emp _ | exact .fn _) (tyS rfl) (by first | rfl | exact ⟨_, rfl⟩) (by first | rfl | exact ⟨_, rfl⟩) (by omega) (by omega)) ?_) <;> (refine sops_pure (.free rfl rfl) rfl rfl (po_assign rfl rfl) ?_) <;> (refine sops_nil ?_))
        | refine swp_ret ?_
        | refine swp_skip ?_
        | refine swp_block ?_
        | refine swp_exit ?_
        | refine block_go ?_
        | refine block_exit ?_
        | refine block_far rfl ?_
        | refine block_ret ?_
        | refine then_ret ?_
        | refine then_exit ?_
        | refine for_ret ?_
        | refine for_exit ?_
        | refine ct ?_
        | refine cf ?_
        | refine swp_cond rfl (fun hc => ?_) (fun hc => ?_)
        | refine retl (by first | exact .inr rfl | exact .inl rfl) rfl (.tmpT rfl (by first | exact .t _ | exact .own rfl (by first | rfl | assumption | (simp; done) | (simp; omega)) | exact .nil _ | exact .emp _ | exact .fn _) .nil) ?_ rfl .nil .nil)
      rw [← hfin]
      show A.t (.sl 3 _) = .t (.sl 3 _)
      rw [List.take_append_of_le_length (by rw [List.length_take, List.length_map]; omega), List.take_take, Nat.min_self, List.map_take]
set_option maxRecDepth 100000 in
set_option maxHeartbeats 1000000 in
theorem blindL (l : List Pl.Rule) (hn : l.length ≤ 1000) (h : ∀ r ∈ l, FewR r) : LCalls Tryz.prog 39 [.own 1000 (l.map ruleT).length] [] [(1000, ⟨46, 3, l.map ruleT⟩)] (.t (.sl 3 ((Pl.what 0 l).map ruleT))) [] [] := by
  have c1 := deleteRules Pl.seventhP 61 l (fun x hx => seventh_ x (h x hx)) hn
  refine lcalls_of Tryz.func39 rfl rfl Tryz.ntmps39 rfl ?_
  repeat' (first
    | refine then_go ?_
    | refine swp_seq ?_
    | ((refine swp_region (id := 0) ?_) <;> (refine sops_pure (.free rfl rfl) rfl rfl (po_assign rfl rfl) ?_) <;> (refine sops_nil ?_))
    | ((refine swp_region (id := 1) ?_) <;> (refine sops_pure (.free rfl rfl) rfl rfl (po_move rfl rfl) ?_) <;> (refine sops_lcall (c1) (fun i => i) (fun i => i) (fun _ => false) (.free rfl rfl) rfl rfl rfl (by first | ((repeat' (first | exact .nil | refine .cons rfl rfl rfl ?_ | refine .vw rfl (by first | exact .t _ | exact .own rfl (by first | rfl | assumption | (simp; done) | (simp; omega)) | exact .nil _ | exact .emp _ | exact .fn _) ?_)) <;> fail) | fail) .nil (.cons rfl rfl .nil) rfl rfl (fun _ h => Bool.noConfusion h) ?_) <;> (refine sops_pure (.free rfl rfl) rfl rfl (po_assign rfl rfl) ?_) <;> (refine sops_nil ?_))
    | refine swp_ret ?_
    | refine swp_skip ?_
    | refine swp_block ?_
    | refine swp_exit ?_
    | refine block_go ?_
    | refine block_exit ?_
    | refine block_far rfl ?_
    | refine block_ret ?_
    | refine then_ret ?_
    | refine then_exit ?_
    | refine for_ret ?_
    | refine for_exit ?_
    | refine ct ?_
    | refine cf ?_
    | refine swp_cond rfl (fun hc => ?_) (fun hc => ?_)
    | exact retl1 (by first | exact .inr rfl | exact .inl rfl) rfl (.tmpT rfl (by first | exact .t _ | exact .own rfl (by first | rfl | assumption | (simp; done) | (simp; omega)) | exact .nil _ | exact .emp _ | exact .fn _) .nil) rfl .nil .nil
    | refine retl (by first | exact .inr rfl | exact .inl rfl) rfl (.tmpT rfl (by first | exact .t _ | exact .own rfl (by first | rfl | assumption | (simp; done) | (simp; omega)) | exact .nil _ | exact .emp _ | exact .fn _) .nil) ?_ rfl .nil .nil)
end Go.Proofs.YtlcecabfmemfeaaGreat.Pol
