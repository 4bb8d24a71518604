/- Merged by bundles.py: SimQ, SimR. -/
import Derived.Test.YtnclifgiakmmoaaGreatH9
import Derived.Test.YtnclifgiakmmoaaGreatH1
import Derived.Laws.CopyOwn
import Derived.Lib.AppendZerosOnto
import Derived.Lib.Overlaps
import Derived.Laws.Externs
/- A logic of states: calls that are lent rows and boxes, or hand back rows of the caller's own: at their places. -/
namespace Go.Proofs.YtnclifgiakmmoaaGreat.Sim
set_option linter.unusedVariables false
set_option linter.unusedSimpArgs false
open Go.RowKit Mem

def chgOf (fw : Nat → Nat) (kp : Nat → Bool) (ow0 : List (Nat × Own)) (j : Nat) : Bool := ow0.any fun r => Nat.beq (fw r.1) j && !(kp r.1)
def bxAft (fb fw : Nat → Nat) (q : Nat → Bool) (bx1 bx : List (Nat × List A)) : List (Nat × List A) := bx1.map (fun p => (fb p.1, p.2.map (A.ren fb fw))) ++ bx.map (fun p => (p.1, p.2.map (A.clr q)))
def owAft (fw : Nat → Nat) (ow0 ow1 ow : List (Nat × Own)) : List (Nat × Own) := ow1.map (fun p => (fw p.1, p.2)) ++ ow.filter (fun p => !(ow0.any fun r => Nat.beq (fw r.1) p.1))
theorem get_append {β : Type} (l1 l2 : List (Nat × β)) (i : Nat) : get (l1 ++ l2) i = match get l1 i with | some x => some x | none => get l2 i := by
  induction l1 with
  | nil => rfl
  | cons p l1 ih =>
    obtain ⟨k, x⟩ := p
    rw [List.cons_append, get_cons, get_cons]
    split
    · rfl
    · exact ih
theorem get_mapv {β γ : Type} (f : β → γ) (l : List (Nat × β)) (i : Nat) : get (l.map fun p => (p.1, f p.2)) i = (get l i).map f := by
  induction l with
  | nil => rfl
  | cons p l ih =>
    obtain ⟨k, x⟩ := p
    rw [List.map_cons, get_cons, get_cons]
    split
    · rfl
    · exact ih
theorem get_filter {β : Type} (f : Nat → Bool) (l : List (Nat × β)) (i : Nat) : get (l.filter fun p => f p.1) i = if f i then get l i else none := by
  induction l with
  | nil => simp [get]
  | cons p l ih =>
    obtain ⟨k, x⟩ := p
    rw [List.filter_cons]
    by_cases hk : k = i
    · subst hk
      cases hf : f k with
      | true => simp [get_cons]
      | false => simp only [hf, Bool.false_eq_true, if_false]; rw [ih, hf]; rfl
    · split
      · rw [get_cons, get_cons, if_neg hk, if_neg hk, ih]
      · rw [get_cons, if_neg hk, ih]
theorem get_ren {β γ : Type} {f : Nat → Nat} (g : β → γ) {l : List (Nat × β)} (hf : ∀ p ∈ l, ∀ r ∈ l, f p.1 = f r.1 → p.1 = r.1) {i : Nat} {x : β} (hi : get l i = some x) : get (l.map fun p => (f p.1, g p.2)) (f i) = some (g x) := by
  induction l with
  | nil => cases hi
  | cons p l ih =>
    obtain ⟨k, y⟩ := p
    rw [get_cons] at hi
    rw [List.map_cons, get_cons]
    by_cases hk : k = i
    · subst hk; rw [if_pos rfl] at hi ⊢; injection hi with hi; rw [hi]
    · rw [if_neg hk] at hi
      rw [if_neg fun e => hk (hf (k, y) (by simp) (i, x) (List.mem_cons_of_mem _ (get_mem hi)) e)]
      exact ih (fun p hp r hr => hf p (List.mem_cons_of_mem _ hp) r (List.mem_cons_of_mem _ hr)) hi
theorem get_ren_none {β γ : Type} {f : Nat → Nat} (g : β → γ) {l : List (Nat × β)} {j : Nat} (h : ∀ i x, get l i = some x → f i ≠ j) : get (l.map fun p => (f p.1, g p.2)) j = none := by
  cases hg : get (l.map fun p => (f p.1, g p.2)) j with
  | none => rfl
  | some y =>
    obtain ⟨p, hp, he⟩ := List.mem_map.1 (get_mem hg)
    obtain ⟨x, hx⟩ := mem_get hp
    injection he with e1 _
    exact absurd e1 (h p.1 x hx)
def injB (f : Nat → Nat) (l : List Nat) : Bool := l.all fun a => l.all fun b => Nat.beq a b || !(Nat.beq (f a) (f b))
theorem injB_spec {f : Nat → Nat} {l : List Nat} (h : injB f l = true) {a b : Nat} (ha : a ∈ l) (hb : b ∈ l) (e : f a = f b) : a = b := by
  have := (List.all_eq_true.1 ((List.all_eq_true.1 h) a ha)) b hb
  rw [Bool.or_eq_true] at this
  rcases this with h1 | h1
  · exact Nat.eq_of_beq_eq_true h1
  · rw [e, show Nat.beq (f b) (f b) = true from Nat.beq_refl _] at h1; cases h1
inductive LentX (fb fw : Nat → Nat) (bx : List (Nat × List A)) : List (Nat × List A) → Prop
  | nil : LentX fb fw bx []
  | cons {i : Nat} {cs cs' : List A} {l : List (Nat × List A)} (h : get bx (fb i) = some cs') (he : cs' = cs.map (A.ren fb fw)) (hl : LentX fb fw bx l) : LentX fb fw bx ((i, cs) :: l)
inductive LentW (fw : Nat → Nat) (ow : List (Nat × Own)) : List (Nat × Own) → Prop
  | nil : LentW fw ow []
  | cons {i : Nat} {o o' : Own} {l : List (Nat × Own)} (h : get ow (fw i) = some o') (he : o' = o) (hl : LentW fw ow l) : LentW fw ow ((i, o) :: l)
theorem LentX.get {fb fw : Nat → Nat} {bx l : List (Nat × List A)} (h : LentX fb fw bx l) {i : Nat} {cs : List A} (hi : get l i = some cs) : get bx (fb i) = some (cs.map (A.ren fb fw)) := by
  induction h with
  | nil => cases hi
  | cons h he _ ih =>
    rw [get_cons] at hi
    split at hi
    · rename_i e; subst e; injection hi with hi; subst hi he; exact h
    · exact ih hi
theorem LentW.get {fw : Nat → Nat} {ow l : List (Nat × Own)} (h : LentW fw ow l) {i : Nat} {o : Own} (hi : get l i = some o) : get ow (fw i) = some o := by
  induction h with
  | nil => cases hi
  | cons h he _ ih =>
    rw [get_cons] at hi
    split at hi
    · rename_i e; subst e; injection hi with hi; subst hi he; exact h
    · exact ih hi
def bnone {β : Type} : Option β → Bool
  | none => true
  | some _ => false
def kdB (f : Nat → Nat) (l : List Nat) : Bool := l.all fun i => (itB (f i) == itB i) && ((chB (f i) == chB i) && (wnB (f i) == wnB i))
theorem kdB_spec {f : Nat → Nat} {l : List Nat} (h : kdB f l = true) {i : Nat} (hi : i ∈ l) : itB (f i) = itB i ∧ chB (f i) = chB i ∧ wnB (f i) = wnB i := by
  have := (List.all_eq_true.1 h) i hi
  rw [Bool.and_eq_true, Bool.and_eq_true] at this
  exact ⟨beq_iff_eq.1 this.1, beq_iff_eq.1 this.2.1, beq_iff_eq.1 this.2.2⟩
def isLo : List A → Bool
  | [.lo _] => true
  | _ => false
theorem isLo_spec {cs : List A} (h : isLo cs = true) : ∃ n, cs = [.lo n] := by
  unfold isLo at h
  split at h
  · exact ⟨_, rfl⟩
  · cases h
def lendB (fb fw : Nat → Nat) (bx bx0 bx1 : List (Nat × List A)) (ow ow0 ow1 : List (Nat × Own)) : Bool :=
  (bx0.all fun p => Nat.ble 2000 p.1 && ((get bx1 p.1).isSome || (chB p.1 && isLo p.2))) && (bx1.all fun p => (get bx0 p.1).isSome || (bnone (get bx (fb p.1)) && !(Nat.ble 2000 (fb p.1)))) &&
  (ow1.all fun p => (get ow0 p.1).isSome || (bnone (get ow (fw p.1)) && !(Nat.ble 2000 (fw p.1)))) && (ow1.all fun p => (hid (fw p.1) == hid p.1) && (!(Nat.ble 2000 (fw p.1)) || Nat.ble 2000 p.1)) &&
  (ow0.all fun p => hid p.1 && hid (fw p.1)) && (injB fb (bx1.map (·.1)) && kdB fb (bx0.map (·.1) ++ bx1.map (·.1))) && injB fw (ow0.map (·.1) ++ ow1.map (·.1)) && (bx1.all fun p => !(chB p.1) || !(isLo p.2))
theorem bnone_spec {β : Type} {x : Option β} (h : bnone x = true) : x = none := by cases x with | none => rfl | some y => cases h
theorem lend_of {fb fw : Nat → Nat} {kp : Nat → Bool} {bx bx0 bx1 : List (Nat × List A)} {ow ow0 ow1 : List (Nat × Own)} (hx : LentX fb fw bx bx0) (hw : LentW fw ow ow0) (hl : (bx0.all fun p => p.2.all fun x => x.live bx0 ow0) = true) (hB : lendB fb fw bx bx0 bx1 ow ow0 ow1 = true)
    (hkp : ∀ i, kp i = true → Nat.ble 2000 i = true ∧ ∃ o0 o1, get ow0 i = some o0 ∧ get ow1 i = some o1 ∧ o1.rows.length = o0.rows.length) : Lend fb fw kp (chgOf fw kp ow0) bx ow bx0 ow0 bx1 ow1 (bxAft fb fw (chgOf fw kp ow0) bx1 bx) (owAft fw ow0 ow1 ow) := by
  unfold lendB at hB
  simp only [Bool.and_eq_true] at hB
  obtain ⟨⟨⟨⟨⟨⟨⟨h1, h2⟩, h3⟩, h4⟩, h5⟩, h6, hkd⟩, h7⟩, hlo⟩ := hB
  have inB : ∀ p ∈ bx1, ∀ r ∈ bx1, fb p.1 = fb r.1 → p.1 = r.1 := fun p hp r hr e => injB_spec h6 (List.mem_map.2 ⟨p, hp, rfl⟩) (List.mem_map.2 ⟨r, hr, rfl⟩) e
  have inO : ∀ p ∈ ow1, ∀ r ∈ ow1, fw p.1 = fw r.1 → p.1 = r.1 := fun p hp r hr e => injB_spec h7 (List.mem_append.2 (.inr (List.mem_map.2 ⟨p, hp, rfl⟩))) (List.mem_append.2 (.inr (List.mem_map.2 ⟨r, hr, rfl⟩))) e
  have hin : ∀ i o, (get ow0 i = some o ∨ get ow1 i = some o) → i ∈ ow0.map (·.1) ++ ow1.map (·.1) := fun i o h => by
    rcases h with h | h
    · exact List.mem_append.2 (.inl (List.mem_map.2 ⟨_, get_mem h, rfl⟩))
    · exact List.mem_append.2 (.inr (List.mem_map.2 ⟨_, get_mem h, rfl⟩))
  exact {
    hx0 := fun i cs hi => hx.get hi
    hw0 := fun i o hi => by
      have := (List.all_eq_true.1 h5) _ (get_mem hi)
      rw [Bool.and_eq_true] at this
      exact ⟨hw.get hi, this.1, this.2⟩
    hl0 := fun i cs hi x hx => (List.all_eq_true.1 ((List.all_eq_true.1 hl) _ (get_mem hi))) x hx
    hkd := fun i cs hi => by
      rcases hi with hi | hi
      · exact kdB_spec hkd (List.mem_append.2 (.inl (List.mem_map.2 ⟨_, get_mem hi, rfl⟩)))
      · exact kdB_spec hkd (List.mem_append.2 (.inr (List.mem_map.2 ⟨_, get_mem hi, rfl⟩)))
    hx1 := fun i cs hi => by
      have := (List.all_eq_true.1 h1) _ (get_mem hi)
      rw [Bool.and_eq_true, Bool.or_eq_true, Bool.and_eq_true] at this
      refine ⟨this.1, ?_⟩
      rcases this.2 with h8 | ⟨h8, h9⟩
      · exact .inl (Option.isSome_iff_exists.1 h8)
      · exact .inr ⟨h8, isLo_spec h9⟩
    hlo := fun i n hc hi => by
      have := (List.all_eq_true.1 hlo) _ (get_mem hi)
      simp [hc, isLo] at this
    hxn := fun i cs hi h0 => by
      have := (List.all_eq_true.1 h2) _ (get_mem hi)
      rw [Bool.or_eq_true, Bool.and_eq_true] at this
      rcases this with h8 | ⟨h8, h9⟩
      · dsimp only at h8; rw [h0] at h8; cases h8
      · exact ⟨bnone_spec h8, by simpa using h9⟩
    hwn := fun i cs hi h0 => by
      have := (List.all_eq_true.1 h3) _ (get_mem hi)
      rw [Bool.or_eq_true, Bool.and_eq_true] at this
      rcases this with h8 | ⟨h8, h9⟩
      · dsimp only at h8; rw [h0] at h8; cases h8
      · exact ⟨bnone_spec h8, by simpa using h9⟩
    hwh := fun i o hi => by
      have := (List.all_eq_true.1 h4) _ (get_mem hi)
      rw [Bool.and_eq_true] at this
      exact beq_iff_eq.1 this.1
    hwp := fun i o hi h0 => by
      have := (List.all_eq_true.1 h4) _ (get_mem hi)
      rw [Bool.and_eq_true, Bool.or_eq_true] at this
      rcases this.2 with h8 | h8
      · dsimp only at h8; rw [h0] at h8; cases h8
      · exact h8
    hbi := fun i j ci cj hi hj e => inB _ (get_mem hi) _ (get_mem hj) e
    hwi := fun i j oi oj hi hj e => injB_spec h7 (hin i oi hi) (hin j oj hj) e
    hkp := hkp
    hq := fun i o hi hk => List.any_eq_true.2 ⟨_, get_mem hi, by rw [Bool.and_eq_true]; exact ⟨Nat.beq_refl _, by simp [hk]⟩⟩
    b1 := fun i cs hi => by unfold bxAft; rw [get_append, get_ren (f := fb) (List.map (A.ren fb fw)) inB hi]
    b2 := fun j hj => by unfold bxAft; rw [get_append, get_ren_none (f := fb) (List.map (A.ren fb fw)) hj]; exact get_mapv _ _ _
    o1 := fun i o hi => by
      unfold owAft
      rw [get_append, get_ren (f := fw) (fun x : Own => x) inO hi]
    o2 := fun j hj hn => by
      unfold owAft
      rw [get_append, get_ren_none (f := fw) (fun x : Own => x) hj]
      refine (get_filter (fun k => !(ow0.any fun r => Nat.beq (fw r.1) k)) ow j).trans ?_
      rw [if_pos]
      cases ha : ow0.any fun r => Nat.beq (fw r.1) j with
      | false => rfl
      | true =>
        obtain ⟨p, hp, h8⟩ := List.any_eq_true.1 ha
        obtain ⟨x, hx⟩ := mem_get hp
        exact absurd (Nat.eq_of_beq_eq_true h8) (hn _ _ hx)
    o3 := fun j i o hi he hj => by
      unfold owAft
      rw [get_append, get_ren_none (f := fw) (fun x : Own => x) hj]
      refine (get_filter (fun k => !(ow0.any fun r => Nat.beq (fw r.1) k)) ow j).trans ?_
      rw [if_neg]
      rw [Bool.not_eq_true, Bool.not_eq_false']
      exact List.any_eq_true.2 ⟨_, get_mem hi, by subst he; exact Nat.beq_refl _⟩ }
/-- what operands hold, in the callee's numbers -/
inductive ArgsL (fb fw : Nat → Nat) (ow : List (Nat × Own)) (bx0 : List (Nat × List A)) (ow0 : List (Nat × Own)) (ρ : Operand → Option A) : List Operand → List A → Prop
  | nil : ArgsL fb fw ow bx0 ow0 ρ [] []
  | cons {x : Operand} {y a : A} {xs : List Operand} {zs : List A} (h : ρ x = some y) (he : y = a.ren fb fw) (hv : a.live bx0 ow0 = true) (hl : ArgsL fb fw ow bx0 ow0 ρ xs zs) : ArgsL fb fw ow bx0 ow0 ρ (x :: xs) (a :: zs)
  | vw {x : Operand} {y : A} {t : T} {xs : List Operand} {zs : List A} (h : ρ x = some y) (ht : Vw ow y t) (hl : ArgsL fb fw ow bx0 ow0 ρ xs zs) : ArgsL fb fw ow bx0 ow0 ρ (x :: xs) (.t t :: zs)
section
variable {P : Program} {N : Nat} {Q : Exit → St → Prop} {ops : Array Oper} {rest : List Oper} {o : Oper} {tm : List (Nat × A)} {bx bx0 bx1 : List (Nat × List A)} {ow ow0 ow1 : List (Nat × Own)} {fb fw : Nat → Nat} {kp : Nat → Bool}
theorem ArgsL.ok {C : Ctx} {w : World} {m : Mm} {g : Gh} {q : Nat → Bool} {bx' : List (Nat × List A)} {ow' : List (Nat × Own)} {xs : List Operand} {zs : List A} {ρ : Operand → Option A} (h : ArgsL fb fw ow bx0 ow0 ρ xs zs) (hL : Lend fb fw kp q bx ow bx0 ow0 bx1 ow1 bx' ow') (he : EnvG C bx ow w m g) {a : Act} (ha : ∀ x ∈ xs, ∀ y, ρ x = some y → AR m g y (a.eval x)) :
    xs.length = zs.length ∧ ∀ (i : Nat) x v, zs[i]? = some x → (xs.map a.eval)[i]? = some v → AR m (g.sub fb fw bx0 ow0) x v := by
  induction h with
  | nil => exact ⟨rfl, fun i t v h => by simp at h⟩
  | @cons x y z xs zs h hy hv hl ih =>
    obtain ⟨h1, h2⟩ := ih fun x hx => ha x (by simp [hx])
    refine ⟨by simp [h1], fun i t' v h3 h4 => ?_⟩
    cases i with
    | zero =>
      simp at h3 h4; subst h3 h4
      refine hL.ren_in he hv ?_
      rw [← hy]; exact ha x (by simp) y h
    | succ i => simp at h3; exact h2 i t' v h3 (by simpa using h4)
  | @vw x y t xs zs h ht hl ih =>
    obtain ⟨h1, h2⟩ := ih fun x hx => ha x (by simp [hx])
    refine ⟨by simp [h1], fun i t' v h3 h4 => ?_⟩
    cases i with
    | zero =>
      simp at h3 h4; subst h3 h4
      exact ht.ok he (ha x (by simp) _ h)
    | succ i => simp at h3; exact h2 i t' v h3 (by simpa using h4)
/-- a call with rows and boxes lent -/
theorem sops_lcall {f : FuncId} {xs : List Operand} {at_ : Array TypeId} {args : List A} {r : A} {d : Nat} (hc : LCalls P f args bx0 ow0 r bx1 ow1) (fb fw : Nat → Nat) (kp : Nat → Bool) (hg : GuardIs ops tm o true) (ho : o.op = .call { callee := .value (.func f), args := xs.toArray, argTypes := at_ }) (hd : o.dst = some d) (hN : Nat.blt d N = true)
    (ha : ArgsL fb fw ow bx0 ow0 (evA tm) xs args) (hx : LentX fb fw bx bx0) (hw : LentW fw ow ow0) (hl : (bx0.all fun p => p.2.all fun x => x.live bx0 ow0) = true) (hB : lendB fb fw bx bx0 bx1 ow ow0 ow1 = true)
    (hkp : ∀ i, kp i = true → Nat.ble 2000 i = true ∧ ∃ o0 o1, get ow0 i = some o0 ∧ get ow1 i = some o1 ∧ o1.rows.length = o0.rows.length)
    (h : SOps P N ops Q rest ⟨(d, r.ren fb fw) :: tm.map (fun p => (p.1, p.2.clr (chgOf fw kp ow0))), bxAft fb fw (chgOf fw kp ow0) bx1 bx, owAft fw ow0 ow1 ow⟩) : SOps P N ops Q (o :: rest) ⟨tm, bx, ow⟩ := by
  have hL := lend_of (kp := kp) hx hw hl hB hkp
  refine .mk fun C a w ⟨m, g, hr⟩ => ?_
  obtain ⟨h1, h2⟩ := ha.ok hL hr.env (a := a) (fun x _ y hy => hr.ev hy)
  have hrun : (execOp a.eval o).run P w = .ok (.enter f (xs.map a.eval).toArray) w := by
    have := hc.ent (xs.map a.eval).toArray w
    simp only [execOp, ho, resolve, Deferred.ofValue, Act.eval, invoke, Sem.run_bind, Sem.run_pure, Result.andThen_ok, List.map_toArray, Array.append_empty, Array.empty_append, Array.append_eq_append, List.append_nil, List.nil_append] at this ⊢
    simpa using this
  refine wpList_step fun K hK => ?_
  rw [if_pos (hg.wanted (m := m) (g := g) fun j want e _ _ y hy => hr.tmps e y hy)]
  refine wp_call_of hrun (hc.run m w _ _ (hL.env_in hr.env) (by simp [h1]) (fun i x v h3 h4 => h2 i x v h3 (by simpa using h4))) ?_
  rintro e w' ⟨v, m', g', rfl, henv, hv⟩
  obtain ⟨g'', e1, e2, e3⟩ := hL.env_out hr.env henv
  refine ⟨v, rfl, hK _ _ (h.go C _ _ ⟨m', g'', ?_⟩)⟩
  rw [hd]
  have hrel : RelG C N ⟨tm.map (fun p => (p.1, p.2.clr (chgOf fw kp ow0))), bxAft fb fw (chgOf fw kp ow0) bx1 bx, owAft fw ow0 ow1 ow⟩ a w' m' g'' := ⟨e1, hr.size, hr.defers, fun s x hx => by
    rw [show get (tm.map fun p => (p.1, p.2.clr (chgOf fw kp ow0))) s = _ from get_mapv _ _ _] at hx
    cases h5 : get tm s with
    | none => rw [h5] at hx; cases hx
    | some y => rw [h5] at hx; injection hx with hx; subst hx; exact e2 y _ (hr.tmps s y h5)⟩
  exact hrel.put e1 (fun x v h => h) (Nat.lt_of_succ_le (Nat.le_of_ble_eq_true hN)) (e3 r v hv)
/-- the same, through a value -/
theorem sops_lcall_clo {f : FuncId} {xz : Operand} {caps : List A} {xs : List Operand} {at_ : Array TypeId} {args caps0 : List A} {r : A} {d : Nat} (hc : LCalls P f (args ++ caps0) bx0 ow0 r bx1 ow1) (fb fw : Nat → Nat) (kp : Nat → Bool) (hg : GuardIs ops tm o true) (ho : o.op = .call { callee := .value xz, args := xs.toArray, argTypes := at_ }) (hd : o.dst = some d) (hN : Nat.blt d N = true)
    (hz : evA tm xz = some (.cl f caps)) (hcp : caps = caps0.map (A.ren fb fw)) (hcl : (caps0.all fun x => x.live bx0 ow0 && x.isLf) = true)
    (ha : ArgsL fb fw ow bx0 ow0 (evA tm) xs args) (hx : LentX fb fw bx bx0) (hw : LentW fw ow ow0) (hl : (bx0.all fun p => p.2.all fun x => x.live bx0 ow0) = true) (hB : lendB fb fw bx bx0 bx1 ow ow0 ow1 = true)
    (hkp : ∀ i, kp i = true → Nat.ble 2000 i = true ∧ ∃ o0 o1, get ow0 i = some o0 ∧ get ow1 i = some o1 ∧ o1.rows.length = o0.rows.length)
    (h : SOps P N ops Q rest ⟨(d, r.ren fb fw) :: tm.map (fun p => (p.1, p.2.clr (chgOf fw kp ow0))), bxAft fb fw (chgOf fw kp ow0) bx1 bx, owAft fw ow0 ow1 ow⟩) : SOps P N ops Q (o :: rest) ⟨tm, bx, ow⟩ := by
  have hL := lend_of (kp := kp) hx hw hl hB hkp
  refine .mk fun C a w ⟨m, g, hr⟩ => ?_
  obtain ⟨h1, h2⟩ := ha.ok hL hr.env (a := a) (fun x _ y hy => hr.ev hy)
  obtain ⟨vs, hvz, hvl, hvc⟩ := hr.ev hz
  subst hcp
  have hrun : (execOp a.eval o).run P w = .ok (.enter f ((xs.map a.eval).toArray ++ vs)) w := by
    have := hc.ent ((xs.map a.eval).toArray ++ vs) w
    simp only [execOp, ho, resolve, Deferred.ofValue, hvz, invoke, Sem.run_bind, Sem.run_pure, Result.andThen_ok, List.map_toArray, Array.append_empty, Array.empty_append] at this ⊢
    simpa using this
  refine wpList_step fun K hK => ?_
  rw [if_pos (hg.wanted (m := m) (g := g) fun j want e _ _ y hy => hr.tmps e y hy)]
  refine wp_call_of hrun (hc.run m w _ _ (hL.env_in hr.env) (by simp [h1, hvl]) (fun i x v h3 h4 => ?_)) ?_
  · rw [List.getElem?_append] at h3
    rw [Array.getElem?_append] at h4
    by_cases hi : i < args.length
    · rw [if_pos hi] at h3
      rw [if_pos (by simp; omega)] at h4
      exact h2 i x v h3 (by simpa using h4)
    · rw [if_neg hi] at h3
      rw [if_neg (by simp; omega)] at h4
      have h5 := (List.all_eq_true.1 hcl) x (List.mem_of_getElem? h3)
      rw [Bool.and_eq_true] at h5
      refine hL.ren_in hr.env h5.1 ?_
      have h6 := hvc (i - args.length) (x.ren fb fw) v (by rw [List.getElem?_map, h3]; rfl) (by rw [← h1]; simpa using h4)
      exact h6.two
  rintro e w' ⟨v, m', g', rfl, henv, hv⟩
  obtain ⟨g'', e1, e2, e3⟩ := hL.env_out hr.env henv
  refine ⟨v, rfl, hK _ _ (h.go C _ _ ⟨m', g'', ?_⟩)⟩
  rw [hd]
  have hrel : RelG C N ⟨tm.map (fun p => (p.1, p.2.clr (chgOf fw kp ow0))), bxAft fb fw (chgOf fw kp ow0) bx1 bx, owAft fw ow0 ow1 ow⟩ a w' m' g'' := ⟨e1, hr.size, hr.defers, fun s x hx => by
    rw [show get (tm.map fun p => (p.1, p.2.clr (chgOf fw kp ow0))) s = _ from get_mapv _ _ _] at hx
    cases h5 : get tm s with
    | none => rw [h5] at hx; cases hx
    | some y => rw [h5] at hx; injection hx with hx; subst hx; exact e2 y _ (hr.tmps s y h5)⟩
  exact hrel.put e1 (fun x v h => h) (Nat.lt_of_succ_le (Nat.le_of_ble_eq_true hN)) (e3 r v hv)
end
end Go.Proofs.YtnclifgiakmmoaaGreat.Sim

/- A logic of states: rows that are the call's alone: shown, shortened, cleared, counted. -/
namespace Go.Proofs.YtnclifgiakmmoaaGreat.Sim
set_option linter.unusedVariables false
set_option linter.unusedSimpArgs false
open Go.RowKit Mem
theorem run_clear_rowM {P : Program} {w : World} (t e ty : TypeId) (i : TypeInfo) (z : Value) (ht : P.underlying t = some (.slice e)) (hi : P.info? e = some i) (hz : i.zero = some z) (g o n c : Nat) (hn : 0 < n) (cur : Array Value) (t0 : TypeId) {fz : Nat × Nat} (hg : w.heap[g]? = some (.cells cur t0 fz)) (hf : FzOk fz cur.size)
    (hfit : o + n * z.cells.size ≤ cur.size) (h1 : ∀ u ∈ (Builtin.zeroCells z.cells n).toList, u.oneCell' = true) :
    (Builtin.clear_ #[t] ty #[.slice (some ⟨g, o, none⟩) n c]).run P w =
      .ok (.tuple #[]) (w.setRow g (cur.toList.take o ++ (Builtin.zeroCells z.cells n).toList ++ cur.toList.drop (o + (Builtin.zeroCells z.cells n).toList.length)).toArray) := by
  have hst := run_storeCells_atM P g o t0 fz (Builtin.zeroCells z.cells n).toList 0 cur w hg hf (by simpa [size_zeroCells] using hfit) h1
  obtain ⟨m, rfl⟩ : ∃ m, n = m + 1 := ⟨n - 1, by omega⟩
  simp only [Nat.add_zero] at hst
  simp [Builtin.clear_, run_underlying ht, zeroValue, typeInfo, hi, hz, hst]

def mv0 (i j : Nat) : A → A
  | .own k n => bif Nat.beq k i then .own j n else .own k n
  | .oe k n sz kk off => bif Nat.beq k i then .oe j n sz kk off else .oe k n sz kk off
  | .sfx k n sz kk => bif Nat.beq k i then .sfx j n sz kk else .sfx k n sz kk
  | .ev k n u => bif Nat.beq k i then .ev j n u else .ev k n u
  | x => x
def A.mv (i j : Nat) (x : A) : A := x.mapA (mv0 i j)
theorem get_map2 {l : List (Nat × List A)} (f : A → A) (i : Nat) : get (l.map fun p => (p.1, p.2.map f)) i = (get l i).map (List.map f) := get_mapv _ _ _
theorem allt (x : A) : x.allP (fun _ => true) = true := by
  cases x <;> simp [A.allP, A.all1]
  intro y _; cases y <;> simp [A.all1]
theorem mv0_rs {i j : Nat} (x : A) (R : Rsc) (h : mv0 i j x = .rs R) : x = .rs R := by
  cases x with
  | own k n => revert h; simp only [mv0]; cases Nat.beq k i <;> simp
  | oe k n sz kk off => revert h; simp only [mv0]; cases Nat.beq k i <;> simp
  | sfx k n sz kk => revert h; simp only [mv0]; cases Nat.beq k i <;> simp
  | ev k n u => revert h; simp only [mv0]; cases Nat.beq k i <;> simp
  | _ => exact h
theorem mv0_lo {i j : Nat} (x : A) (n : Nat) (h : mv0 i j x = .lo n) : x = .lo n := by
  cases x with
  | own k n => revert h; simp only [mv0]; cases Nat.beq k i <;> simp
  | oe k n sz kk off => revert h; simp only [mv0]; cases Nat.beq k i <;> simp
  | sfx k n sz kk => revert h; simp only [mv0]; cases Nat.beq k i <;> simp
  | ev k n u => revert h; simp only [mv0]; cases Nat.beq k i <;> simp
  | _ => exact h
theorem nb_map {C : Ctx} {bx : List (Nat × List A)} {f : A → A} (hf : ∀ x n, f x = .lo n → x = .lo n) (h : NbOk C bx) : NbOk C (bx.map fun p => (p.1, p.2.map (A.mapA f))) := fun k n hc hk b hb => by
  rw [get_map2] at hk
  cases h0 : get bx k with
  | none => rw [h0] at hk; cases hk
  | some c0 =>
    rw [h0] at hk; injection hk with hk
    have := lo_map hf hk
    subst this
    exact h k n hc h0 b hb
section
variable {C : Ctx} {bx : List (Nat × List A)} {ow : List (Nat × Own)} {w : World} {m : Mm} {g : Gh}
/-- a row under another number, seen from now on -/
theorem EnvG.show_ (he : EnvG C bx ow w m g) {i j : Nat} {o : Own} (hi : get ow i = some o) (hh : hid i = true) (h2 : Nat.ble 2000 j = false) (hj : get ow j = none) :
    ∃ m' g', EnvG C (bx.map fun p => (p.1, p.2.map (A.mv i j))) ((j, o) :: ow.filter (fun p => !(Nat.beq p.1 i))) w m' g' ∧ ∀ x v, AR m g x v → AR m' g' (x.mv i j) v := by
  obtain ⟨vs, hown, hrl, hca, hbk⟩ := he.owns i o hi
  have hij : j ≠ i := fun e => by subst e; rw [hi] at hj; cases hj
  have hmb : ∀ b, (g.go i).ownBlock = some b → ∀ k, m b k = none := fun b hb k => by rw [(hbk b hb).1 k, vis_hid hh]; rfl
  have hext : ∀ b k v, m b k = some v → rowm m (g.go i) (vis j vs) b k = some v := fun b k v hv => by
    unfold rowm
    split
    · rename_i hb; rw [hmb b hb k] at hv; cases hv
    · exact hv
  let g' : Gh := { g with go := fun k => if k = j then g.go i else g.go k, ln := fun k => if k = j then g.ln i else g.ln k, lw := fun k => if k = j then true else if k = i then false else g.lw k }
  have hgo : ∀ k, k ≠ j → g'.go k = g.go k ∧ g'.ln k = g.ln k := fun k hk => ⟨if_neg hk, if_neg hk⟩
  have hgj : g'.go j = g.go i ∧ g'.ln j = g.ln i := ⟨if_pos rfl, if_pos rfl⟩
  have hget : ∀ k, get ((j, o) :: ow.filter (fun p => !(Nat.beq p.1 i))) k = if j = k then some o else if k = i then none else get ow k := fun k => by
    rw [get_cons]
    split
    · rfl
    · refine (get_filter (fun k => !(Nat.beq k i)) ow k).trans ?_
      by_cases hk : k = i
      · subst hk; rw [if_pos rfl, if_neg]; rw [show Nat.beq k k = true from Nat.beq_refl _]; simp
      · rw [if_neg hk, if_pos]
        cases hb : Nat.beq k i with
        | true => exact absurd (Nat.eq_of_beq_eq_true hb) hk
        | false => rfl
  have hlj : ∀ k, g.lw k = true → k ≠ j := fun k hk e => by subst e; rw [he.lw, hj] at hk; cases hk
  have L0 : ∀ x v, AR0 m g x v → AR0 (rowm m (g.go i) (vis j vs)) g' (mv0 i j x) v := by
    intro x v hx
    cases x with
    | t x => exact TR.mono hext hx
    | own k n =>
      obtain ⟨h1, h2, h3, h4⟩ := hx
      show AR0 _ g' (bif Nat.beq k i then .own j n else .own k n) v
      cases hb : Nat.beq k i with
      | true =>
        obtain rfl := Nat.eq_of_beq_eq_true hb
        exact ⟨if_pos rfl, by rw [hgj.2]; exact h2, h3, by rw [hgj.1, hgj.2]; exact h4⟩
      | false =>
        have hk := hlj k h1
        exact ⟨by show (if k = j then true else if k = i then false else g.lw k) = true; rw [if_neg hk, if_neg (Nat.ne_of_beq_eq_false hb)]; exact h1, by rw [(hgo k hk).2]; exact h2, h3, by rw [(hgo k hk).1, (hgo k hk).2]; exact h4⟩
    | oe k n sz kk off =>
      obtain ⟨h1, h2, h3, h4⟩ := hx
      show AR0 _ g' (bif Nat.beq k i then .oe j n sz kk off else .oe k n sz kk off) v
      cases hb : Nat.beq k i with
      | true =>
        obtain rfl := Nat.eq_of_beq_eq_true hb
        exact ⟨if_pos rfl, by rw [hgj.2]; exact h2, h3, by rw [hgj.1, hgj.2]; exact h4⟩
      | false =>
        have hk := hlj k h1
        exact ⟨by show (if k = j then true else if k = i then false else g.lw k) = true; rw [if_neg hk, if_neg (Nat.ne_of_beq_eq_false hb)]; exact h1, by rw [(hgo k hk).2]; exact h2, h3, by rw [(hgo k hk).1, (hgo k hk).2]; exact h4⟩
    | sfx k n sz kk =>
      obtain ⟨h1, h2, h3, h4⟩ := hx
      show AR0 _ g' (bif Nat.beq k i then .sfx j n sz kk else .sfx k n sz kk) v
      cases hb : Nat.beq k i with
      | true =>
        obtain rfl := Nat.eq_of_beq_eq_true hb
        exact ⟨if_pos rfl, by rw [hgj.2]; exact h2, h3, by rw [hgj.1, hgj.2]; exact h4⟩
      | false =>
        have hk := hlj k h1
        exact ⟨by show (if k = j then true else if k = i then false else g.lw k) = true; rw [if_neg hk, if_neg (Nat.ne_of_beq_eq_false hb)]; exact h1, by rw [(hgo k hk).2]; exact h2, h3, by rw [(hgo k hk).1, (hgo k hk).2]; exact h4⟩
    | ev k n u =>
      obtain ⟨h1, h2, h3, h4⟩ := hx
      show AR0 _ g' (bif Nat.beq k i then .ev j n u else .ev k n u) v
      cases hb : Nat.beq k i with
      | true =>
        obtain rfl := Nat.eq_of_beq_eq_true hb
        exact ⟨if_pos rfl, by rw [hgj.2]; exact h2, h3, by rw [hgj.1, hgj.2]; exact h4⟩
      | false =>
        have hk := hlj k h1
        exact ⟨by show (if k = j then true else if k = i then false else g.lw k) = true; rw [if_neg hk, if_neg (Nat.ne_of_beq_eq_false hb)]; exact h1, by rw [(hgo k hk).2]; exact h2, h3, by rw [(hgo k hk).1, (hgo k hk).2]; exact h4⟩
    | _ => exact hx
  have L : ∀ x v, AR m g x v → AR (rowm m (g.go i) (vis j vs)) g' (x.mv i j) v := fun x v hx => hx.mp _ (fun _ => true) (fun x v _ => L0 x v) (allt x)
  have hbx : ∀ k cs, get bx k = some cs → chB k = false → (g.go i).ownBlock ≠ some (g.gb k) := fun k cs hk hck e => (hbk _ e).2.1 k cs hk hck rfl
  refine ⟨rowm m (g.go i) (vis j vs), g', {
    nb := nb_map (mv0_lo (i := i) (j := j)) he.nb
    nf := fun b k u hb hu => by
      unfold rowm at hu
      split at hu
      · rename_i hbb; exact hown.nf hbb (vis_get hu)
      · exact he.nf b k u hb hu
    lo := he.lo
    gm := he.gm
    sub := fun b k v hv => by
      unfold rowm at hv
      split at hv
      · rename_i hb
        have := hown.cells hb k v (vis_get hv)
        rwa [addr_add, Nat.zero_add] at this
      · exact he.sub b k v hv
    gt := fun b k v ht => hext b k v (he.gt b k v ht)
    ext := ⟨fun b k v hv => hext b k v (he.ext.keep b k v hv), fun b k hb hg => by
      unfold rowm
      split
      · rename_i hbb
        rcases (hbk b hbb).2.2 with h | h
        · omega
        · rw [hg] at h; cases h
      · exact he.ext.old b k hb hg⟩
    lb := fun k => by rw [get_map2]; rw [show (Option.map (List.map (A.mv i j)) (get bx k)).isSome = (get bx k).isSome by cases get bx k <;> rfl]; exact he.lb k
    lw := fun k => by
      rw [hget]
      show (if k = j then true else if k = i then false else g.lw k) = _
      by_cases hk : k = j
      · subst hk; rw [if_pos rfl, if_pos rfl]; rfl
      · have hk' : ¬ j = k := fun e => hk e.symm
        rw [if_neg hk, if_neg hk']
        split
        · rfl
        · exact he.lw k
    ln := fun k o' hk => by
      rw [hget] at hk
      by_cases hkj : k = j
      · subst hkj; rw [if_pos rfl] at hk; injection hk with hk; subst hk; rw [hgj.2]; exact he.ln i _ hi
      · have hkj' : ¬ j = k := fun e => hkj e.symm
        rw [if_neg hkj'] at hk
        split at hk
        · cases hk
        · rw [(hgo k hkj).2]; exact he.ln k o' hk
    boxes := fun k cs hk hck => by
      rw [get_map2] at hk
      cases hc : get bx k with
      | none => rw [hc] at hk; cases hk
      | some c0 =>
        rw [hc] at hk; injection hk with hk; subst hk
        obtain ⟨us, ty, h1, h2, h3, h4, h5⟩ := he.boxes k c0 hc hck
        refine ⟨us, ty, h1, by simpa using h2, fun q x u hx hu => ?_, h4, fun o => ?_⟩
        · rw [List.getElem?_map] at hx
          cases hq : c0[q]? with
          | none => rw [hq] at hx; cases hx
          | some y => rw [hq] at hx; injection hx with hx; subst hx; exact ⟨L y u (h3 q y u hq hu).1, (h3 q y u hq hu).2⟩
        · show rowm m (g.go i) (vis j vs) (g.gb k) o = none
          unfold rowm
          rw [if_neg (hbx k c0 hc hck)]; exact h5 o
    inj := fun p q cp cq hp hq hcp hcq e => by
      rw [get_map2] at hp hq
      cases hc : get bx p with
      | none => rw [hc] at hp; cases hp
      | some c0 =>
        cases hc2 : get bx q with
        | none => rw [hc2] at hq; cases hq
        | some c2 => exact he.inj p q c0 c2 hc hc2 hcp hcq e
    owns := fun k o' hk => by
      have hbxx : ∀ b : Nat, ∀ q cs, get (bx.map fun p => (p.1, p.2.map (A.mv i j))) q = some cs → ∃ c0, get bx q = some c0 := fun b q cs hq => by
        rw [get_map2] at hq
        cases hc : get bx q with
        | none => rw [hc] at hq; cases hq
        | some c0 => exact ⟨c0, rfl⟩
      rw [hget] at hk
      by_cases hkj : k = j
      · subst hkj
        rw [if_pos rfl] at hk; injection hk with hk; subst hk
        rw [hgj.1]
        refine ⟨vs, hown, hrl, hca.mono hext, fun b hb => ⟨fun q => ?_, fun q cs hq hcq => ?_, (hbk b hb).2.2⟩⟩
        · unfold rowm; rw [if_pos hb]
        · obtain ⟨c0, h1⟩ := hbxx b q cs hq
          exact (hbk b hb).2.1 q c0 h1 hcq
      · have hkj' : ¬ j = k := fun e => hkj e.symm
        rw [if_neg hkj'] at hk
        by_cases hki : k = i
        · rw [if_pos hki] at hk; cases hk
        · rw [if_neg hki] at hk
          rw [(hgo k hkj).1]
          obtain ⟨us, h1, h2, h3, h4⟩ := he.owns k o' hk
          refine ⟨us, h1, h2, h3.mono hext, fun b hb => ⟨fun q => ?_, fun q cs hq hcq => ?_, (h4 b hb).2.2⟩⟩
          · unfold rowm
            rw [if_neg (fun e => he.apart i k o o' hi hk (fun e => hki e.symm) b e hb)]; exact (h4 b hb).1 q
          · obtain ⟨c0, h5⟩ := hbxx b q cs hq
            exact (h4 b hb).2.1 q c0 h5 hcq
    apart := fun p q op oq hp hq hpq b hb => by
      rw [hget] at hp hq
      by_cases hpj : p = j
      · subst hpj
        rw [hgj.1] at hb
        rw [if_neg hpq] at hq
        split at hq
        · cases hq
        · rename_i hqi
          rw [(hgo q (fun e => hpq e.symm)).1]
          exact he.apart i q o oq hi hq (fun e => hqi e.symm) b hb
      · rw [if_neg (fun e => hpj e.symm)] at hp
        split at hp
        · cases hp
        · rename_i hpi
          rw [(hgo p hpj).1] at hb
          by_cases hqj : q = j
          · subst hqj; rw [hgj.1]; exact he.apart p i op o hp hi hpi b hb
          · rw [if_neg (fun e => hqj e.symm)] at hq
            split at hq
            · cases hq
            · rw [(hgo q hqj).1]; exact he.apart p q op oq hp hq hpq b hb
    pin := fun k o' hk hk2 => by
      rw [hget] at hk
      by_cases hkj : k = j
      · subst hkj; rw [h2] at hk2; cases hk2
      · have hkj' : ¬ j = k := fun e => hkj e.symm
        rw [if_neg hkj'] at hk
        split at hk
        · cases hk
        · rw [(hgo k hkj).1]; exact he.pin k o' hk hk2
    pinb := fun k cs hk hk2 => by
      rw [get_map2] at hk
      cases hc : get bx k with
      | none => rw [hc] at hk; cases hk
      | some c0 => exact he.pinb k c0 hc hk2
    rs := he.rsF (fun k => (g.go i).ownBlock = some k) (fun k R _ hk => ⟨rs_map mv0_rs (by rw [get_map2] at hk; exact hk), rfl, rfl⟩) (fun k cs _ hk _ => by
      rw [get_map2] at hk
      cases hc : get bx k with
      | none => rw [hc] at hk; cases hk
      | some c0 => exact ⟨rfl, c0, by first | exact hc | rfl⟩) (fun k hk => .inr ⟨i, o, hi, hk⟩) (fun _ _ _ => rfl) hext (fun b _ hnt hb q => by unfold rowm; rw [if_neg hnt]; exact hb q) (fun k cs hk hck => by
      rw [get_map2] at hk
      cases hc : get bx k with
      | none => rw [hc] at hk; cases hk
      | some c0 => exact .inl ⟨k, c0, by first | exact hc | rfl, hck, rfl⟩) (fun k o' hk b hb => by
      rw [hget] at hk
      by_cases hkj : k = j
      · subst hkj; rw [hgj.1] at hb; exact .inl ⟨i, o, hi, hb⟩
      · rw [if_neg (fun e => hkj e.symm)] at hk
        by_cases hki : k = i
        · rw [if_pos hki] at hk; cases hk
        · rw [if_neg hki] at hk
          rw [(hgo k hkj).1] at hb
          exact .inl ⟨k, o', hk, hb⟩) }, L⟩
end
theorem weak_show {N : Nat} {tm : List (Nat × A)} {bx : List (Nat × List A)} {ow : List (Nat × Own)} (i j : Nat) {o : Own} (hi : get ow i = some o) (hh : hid i = true) (h2 : Nat.ble 2000 j = false) (hj : get ow j = none) :
    Weak N ⟨tm, bx, ow⟩ ⟨tm.map fun p => (p.1, p.2.mv i j), bx.map fun p => (p.1, p.2.map (A.mv i j)), (j, o) :: ow.filter (fun p => !(Nat.beq p.1 i))⟩ := .mk fun C a w ⟨m, g, hr⟩ => by
  obtain ⟨m', g', h3, h4⟩ := hr.env.show_ hi hh h2 hj
  refine ⟨m', g', h3, hr.size, hr.defers, fun s x hx => ?_⟩
  rw [show get (tm.map fun p => (p.1, p.2.mv i j)) s = _ from get_mapv _ _ _] at hx
  cases h5 : get tm s with
  | none => rw [h5] at hx; cases hx
  | some y => rw [h5] at hx; injection hx with hx; subst hx; exact h4 y _ (hr.tmps s y h5)

section
variable {P : Program} {N : Nat} {Q : Exit → St → Prop} {ops : Array Oper} {rest : List Oper} {o : Oper} {tm : List (Nat × A)} {bx : List (Nat × List A)} {ow : List (Nat × Own)} {ρ : Operand → Option A}
theorem po_len_own {x : Operand} {i n : Nat} {t : TypeId} (ho : o.op = .call { callee := .builtin .len, args := #[x], argTypes := #[t] }) (hx : ρ x = some (.own i n)) {sz : Nat} (hT : sliceSz P t = some sz) : PureOp P bx ow o ρ (.t (.v (.int .i64 (n : Int)))) := pure_run fun C m g w a he h => by
  obtain ⟨_, _, ⟨A, c, h1⟩, _⟩ := h x (by simp [ho, Op.operands, Call.operands]) _ hx
  obtain ⟨e, ii, hu, _⟩ := sliceSz_spec hT
  refine ⟨.int .i64 n, ?_, .v _⟩
  simp [execOp, ho, resolve, invoke, builtin, h1, Builtin.len_, Builtin.lenOf, run_underlying hu, goInt]
/-- what stands behind in a row of the call's own -/
theorem po_slice_sfx {t e sz l : Nat} {x q : Operand} {i n : Nat} {ik : IntKind} {rows : List (List T)} (ho : o.op = .slice t x (some q) none none) (hx : ρ x = some (.own i n)) (hi : get ow i = some ⟨e, sz, rows⟩) (hn : n = rows.length) (hT : sliceSz P t = some sz) (hq : ρ q = some (.t (.v (.int ik l)))) (hl : l ≤ n) (h0 : 0 < n) : PureOp P bx ow o ρ (.sfx i n sz l) := pure_run fun C m g w a he h => by
  obtain ⟨h1, h2, h3, h4⟩ := h x (by simp [ho, Op.operands]) _ hx
  have h5 := tr_v (h q (by simp [ho, Op.operands]) _ hq)
  have hln := he.ln i _ hi
  have hv := h4 (by rw [hln]; exact hn)
  obtain ⟨e', ii, hu, hie, hs⟩ := sliceSz_spec hT
  obtain ⟨vs, hown, _⟩ := he.owns i _ hi
  dsimp only at hown
  obtain ⟨b, cap, cur, e1, _, _, e4, _⟩ := own_form hown (by omega)
  rw [e1] at hv
  have c1 : (l : Int) ≤ (n : Int) := by omega
  have hrun : (execOp a.eval o).run P w = .ok (.value (.slice (if cap = l then some ⟨b, 0, none⟩ else some ⟨b, l * sz, none⟩) (n - l) (cap - l))) w := by
    subst hn
    by_cases hcl : cap = l <;> simp [execOp, ho, hv, h5, Instr.sliceAt, run_underlying hu, Instr.slice, Instr.sliceBounds, Instr.sliceBound, asIntOf, sizeOf, typeInfo, hie, hs, c1, hl, hcl, add_mid]
  exact ⟨_, hrun, h1, h2, ⟨_, _, rfl⟩, fun _ => ⟨b, cap, by rw [e1, hn], rfl⟩⟩
theorem zero_flat (z : Array Value) (n : Nat) (h0 : 0 < z.size) : (Builtin.zeroCells z n).toList = (List.replicate n z.toList).flatten := by
  have hr : ∀ r ∈ List.replicate n z.toList, r.length = z.size := fun r hr => by rw [List.eq_of_mem_replicate hr]; simp
  have key : ∀ (n j : Nat), j < n * z.size → (List.replicate n z.toList).flatten[j]? = z[j % z.size]? := by
    intro n
    induction n with
    | zero => intro j hj; omega
    | succ n ih =>
      intro j hj
      rw [List.replicate_succ, List.flatten_cons]
      by_cases hlt : j < z.size
      · rw [List.getElem?_append_left (by simpa using hlt), Nat.mod_eq_of_lt hlt]; simp
      · rw [List.getElem?_append_right (by simp; omega), show z.toList.length = z.size by simp, ih (j - z.size) (by rw [Nat.succ_mul] at hj; omega), ← Nat.mod_eq_sub_mod (show z.size ≤ j by omega)]
  refine List.ext_getElem? fun j => ?_
  by_cases hj : j < n * z.size
  · rw [key n j hj]
    have hm : j % z.size < z.size := Nat.mod_lt _ h0
    simp [Builtin.zeroCells, hj, hm]
  · have h1 : (Builtin.zeroCells z n).toList.length = n * z.size := by simp [size_zeroCells]
    rw [List.getElem?_eq_none (by omega), List.getElem?_eq_none]
    have : (List.replicate n z.toList).flatten.length = n * z.size := by simp
    omega
theorem flat_take {α : Type} {sz : Nat} {rows : List (List α)} (hr : ∀ r ∈ rows, r.length = sz) (k : Nat) : (rows.take k).flatten = rows.flatten.take (k * sz) := by
  induction rows generalizing k with
  | nil => simp
  | cons r rs ih =>
    cases k with
    | zero => simp
    | succ k =>
      have hq := hr r (by simp)
      rw [List.take_succ_cons, List.flatten_cons, List.flatten_cons, ih (fun x hx => hr x (by simp [hx])), Nat.succ_mul, List.take_append, List.take_of_length_le (show r.length ≤ k * sz + sz by omega)]
      congr 2; omega
/-- a row's end cleared -/
theorem sops_clear {t e sz by_ : Nat} {x : Operand} {i n k : Nat} {rows : List (List T)} {zs : List Value} (hh : hid i = true) (hg : GuardIs ops tm o true) (ho : o.op = .call { callee := .builtin .clear, args := #[x], argTypes := #[t] }) (hd : o.dst = none) (hx : evA tm x = some (.sfx i n sz k)) (hi : get ow i = some ⟨e, sz, rows⟩) (hn : n = rows.length) (hk : k < n)
    (hT : sliceE P t = some (e, sz, by_)) (hz : ((P.info? e).bind (·.zero)).map (fun z => z.cells.toList) = some zs) (h1 : (zs.all fun v => v.oneCell') = true)
    (h : SOps P N ops Q rest ⟨tm, bx, (i, ⟨e, sz, rows.take k ++ List.replicate (rows.length - k) (zs.map T.v)⟩) :: ow⟩) : SOps P N ops Q (o :: rest) ⟨tm, bx, ow⟩ := by
  refine .mk fun C a w ⟨m, g, hr⟩ => ?_
  obtain ⟨_, _, _, h4⟩ := hr.ev hx
  have he := hr.env
  obtain ⟨b, cap, h5, h6⟩ := h4 (by rw [he.ln i _ hi]; exact hn)
  obtain ⟨ii, z, hu, hie, hzz, hsz, _, hzs, hpos⟩ := sliceE_spec hT
  have hzl : z.cells.toList = zs := by rw [hie] at hz; simp [hzz] at hz; exact hz
  obtain ⟨vs, hown, hrr, hc, hbk⟩ := he.owns i _ hi
  dsimp only at hown hrr hc
  obtain ⟨b', cap', cur, e1, e2, ⟨fz, e3, e3f⟩, e4, e5, e6, e7⟩ := own_form hown (by omega)
  rw [h5] at e1; injection e1 with e1 _ e8; injection e1 with e1; injection e1 with e1; subst e1 e8
  have hkc : cap ≠ k := by omega
  rw [if_neg hkc] at h6
  have hks : k * sz + (n - k) * sz = n * sz := by rw [← Nat.add_mul]; congr 1; omega
  have hns : n * sz ≤ cur.size := Nat.le_trans (Nat.mul_le_mul_right _ (by omega)) e6
  have hzc : (Builtin.zeroCells z.cells (n - k)).toList = (List.replicate (n - k) zs).flatten := by rw [zero_flat _ _ (by omega), hzl]
  have hone : ∀ u ∈ (Builtin.zeroCells z.cells (n - k)).toList, u.oneCell' = true := fun u hu' => by
    rw [hzc] at hu'
    obtain ⟨r, h7, h8⟩ := List.mem_flatten.1 hu'
    rw [List.eq_of_mem_replicate h7] at h8
    exact (List.all_eq_true.1 h1) u h8
  have hrun := run_clear_rowM (P := P) (w := w) t e o.type ii z hu hie hzz b (k * sz) (n - k) (cap - k) (by omega) cur e e3 e3f (by rw [hzs]; omega) hone
  have hexec : (execOp a.eval o).run P w = .ok (.value (.tuple #[])) (w.setRow b (cur.toList.take (k * sz) ++ (Builtin.zeroCells z.cells (n - k)).toList ++ cur.toList.drop (k * sz + (Builtin.zeroCells z.cells (n - k)).toList.length)).toArray) := by
    simp only [execOp, ho, resolve, invoke, builtin, Sem.run_bind, Sem.run_pure, Result.andThen_ok, List.map_toArray, List.map_cons, List.map_nil, h6, hrun]
  refine wpList_step fun K hK => ?_
  rw [if_pos (hg.wanted (m := m) (g := g) fun j want e _ _ y hy => hr.tmps e y hy)]
  refine wp_of_run hexec (hK _ _ (h.go C _ _ ⟨m, g, ?_⟩))
  rw [hd]
  have hzll : (Builtin.zeroCells z.cells (n - k)).toList.length = (n - k) * sz := by simp [size_zeroCells, hzs]
  have hzsl : zs.length = sz := by rw [← hzl]; simpa using hzs
  have hrz : ∀ r ∈ List.replicate (rows.length - k) (zs.map T.v), r.length = sz := fun r hr' => by rw [List.eq_of_mem_replicate hr']; simp [hzsl]
  have hpl : (cur.toList.take (k * sz)).length = k * sz := by simp; omega
  have hcell : CellsAre m (rows.take k ++ List.replicate (rows.length - k) (zs.map T.v)).flatten (vs.take (k * sz) ++ (Builtin.zeroCells z.cells (n - k)).toList) := by
    rw [List.flatten_append, flat_take hrr]
    refine (hc.take _).app ?_
    rw [hzc, hn]
    have : (List.replicate (rows.length - k) (zs.map T.v)).flatten = ((List.replicate (rows.length - k) zs).flatten).map T.v := by rw [List.map_flatten, List.map_replicate]
    rw [this]
    refine ⟨by simp, fun j t v h7 h8 => ?_⟩
    rw [List.getElem?_map, h8] at h7
    simp at h7; subst h7
    exact ⟨.v _, hone v (by rw [hzc, hn]; exact List.mem_of_getElem? h8)⟩
  refine hr.put_none (he.setE (b := b) (cap := cap) (cur := cur) hh hi (by simp; omega) (by rw [h5, hn]) e3 e3f (fun r hr' => ?_) hcell ?_ ?_) (fun x v h => h)
  · rcases List.mem_append.1 hr' with hr' | hr'
    · exact hrr r (List.mem_of_mem_take hr')
    · exact hrz r hr'
  · have h9 : cur.toList.length = cur.size := by simp
    simp only [List.size_toArray, List.length_append, List.length_take, List.length_drop, hzll, h9]; omega
  · simp only []
    rw [List.append_assoc, ← hn, List.take_append, hpl, List.take_of_length_le (show (cur.toList.take (k * sz)).length ≤ n * sz by omega), List.take_append, List.take_of_length_le (show (Builtin.zeroCells z.cells (n - k)).toList.length ≤ n * sz - k * sz by omega), hzll, show n * sz - k * sz - (n - k) * sz = 0 by omega, List.take_zero, List.append_nil, ← e7, List.take_take, Nat.min_eq_left (by rw [← hn]; omega)]
end
end Go.Proofs.YtnclifgiakmmoaaGreat.Sim
