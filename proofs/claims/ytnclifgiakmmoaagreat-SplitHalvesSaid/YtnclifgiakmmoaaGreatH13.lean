/- Merged by bundles.py: SimX. -/
import Derived.Test.YtnclifgiakmmoaaGreatH11
/- A logic of states: a region that draws its order, with operations that make and write boxes and rows among its operations. -/
namespace Go.Proofs.YtnclifgiakmmoaaGreat.Sim
set_option linter.unusedVariables false
set_option linter.unusedSimpArgs false
open Go.RowKit Mem

/-- what must have gone before each operation -/
def ancL (ops : Array Oper) : Nat → List (List Nat)
  | 0 => []
  | n + 1 => ancL ops n ++ [(deps ops n).foldl (fun acc j => bif acc.contains j then acc else j :: ((ancL ops n).getD j [] ++ acc)) []]
theorem ancL_len (ops : Array Oper) : ∀ n, (ancL ops n).length = n
  | 0 => rfl
  | n + 1 => by simp [ancL, ancL_len ops n]
theorem anc_fold {l : List (List Nat)} : ∀ (ds acc : List Nat) (x : Nat), x ∈ ds.foldl (fun acc j => bif acc.contains j then acc else j :: (l.getD j [] ++ acc)) acc → x ∈ acc ∨ ∃ j ∈ ds, x = j ∨ x ∈ l.getD j []
  | [], acc, x, h => .inl h
  | d :: ds, acc, x, h => by
    rw [List.foldl_cons] at h
    rcases anc_fold ds _ x h with h1 | ⟨j, h2, h3⟩
    · cases hc : acc.contains d with
      | true => rw [hc] at h1; exact .inl h1
      | false =>
        rw [hc] at h1
        simp only [cond_false, List.mem_cons, List.mem_append] at h1
        rcases h1 with h1 | h1 | h1
        · exact .inr ⟨d, by simp, .inl h1⟩
        · exact .inr ⟨d, by simp, .inr h1⟩
        · exact .inl h1
    · exact .inr ⟨j, by simp [h2], h3⟩
theorem ancL_get (ops : Array Oper) : ∀ (n k : Nat), k < n → (ancL ops n).getD k [] = (deps ops k).foldl (fun acc j => bif acc.contains j then acc else j :: ((ancL ops k).getD j [] ++ acc)) []
  | 0, k, h => by omega
  | n + 1, k, h => by
    rw [ancL]
    by_cases hk : k < n
    · rw [List.getD_eq_getElem?_getD, List.getElem?_append_left (by rw [ancL_len]; exact hk), ← List.getD_eq_getElem?_getD]
      exact ancL_get ops n k hk
    · obtain rfl : k = n := by omega
      rw [List.getD_eq_getElem?_getD, List.getElem?_append_right (by rw [ancL_len]; omega), ancL_len, Nat.sub_self]
      rfl
theorem anc_on {ops : Array Oper} {listed : Array Bool} (hcl : Closed ops listed) (hd : ∀ i, i < ops.size → ∀ j ∈ deps ops i, j < i) : ∀ (k : Nat), k < ops.size → (∀ j ∈ deps ops k, isOn listed j = true) → ∀ n, k < n → ∀ x, x ∈ (ancL ops n).getD k [] → isOn listed x = true ∧ x < k := by
  intro k
  induction k using Nat.strongRecOn with
  | ind k ih =>
    intro hk hon n hn x hx
    rw [ancL_get ops n k hn] at hx
    rcases anc_fold _ _ _ hx with h | ⟨j, h1, h2⟩
    · cases h
    · have hjk := hd k hk j h1
      rcases h2 with rfl | h2
      · exact ⟨hon _ h1, hjk⟩
      · have := ih j hjk (by omega) (fun y hy => hcl j y (hon j h1) hy) k hjk x h2
        exact ⟨this.1, by omega⟩
theorem anc_lt {ops : Array Oper} (hd : ∀ i, i < ops.size → ∀ j ∈ deps ops i, j < i) : ∀ (k : Nat), k < ops.size → ∀ n, k < n → ∀ x, x ∈ (ancL ops n).getD k [] → x < k := by
  intro k
  induction k using Nat.strongRecOn with
  | ind k ih =>
    intro hk n hn x hx
    rw [ancL_get ops n k hn] at hx
    rcases anc_fold _ _ _ hx with h | ⟨j, h1, h2⟩
    · cases h
    · have hjk := hd k hk j h1
      rcases h2 with rfl | h2
      · exact hjk
      · have := ih j hjk (by omega) k hjk x h2; omega
def ordB (A : List (List Nat)) (j k : Nat) : Bool := (A.getD k []).contains j || (A.getD j []).contains k
/-- the checks: of numbers written (W), and not looked at (X) -/
def anyB (ops : Array Oper) (M : Nat) (W X : List (List Nat)) : Bool :=
  ((List.range ops.size).all fun i => ((deps ops i).all fun j => decide (j < i)) && (match dstOf ops i with | some d => decide (writer ops d = some i) && decide (d < M) | none => true)) &&
  ((List.range ops.size).all fun i => match ops[i]? with
    | none => false
    | some o => ((slotsOf o).all fun s => match writer ops s with | none => true | some j => decide (j < i) && (deps ops i).contains j) && (match o.guard with | none => true | some (j, _) => decide (j < i) && (deps ops i).contains j)) &&
  ((List.range ops.size).all fun k => ((W.getD k []).all fun i => !((X.getD k []).contains i)) && (List.range ops.size).all fun j => Nat.beq j k || ordB (ancL ops ops.size) j k || ((W.getD j []).all fun i => (X.getD k []).contains i && !((W.getD k []).contains i)))
def rst {β : Type} (X : List Nat) (l : List (Nat × β)) : List (Nat × β) := l.filter fun p => !(X.contains p.1)
theorem get_rst {β : Type} (X : List Nat) (l : List (Nat × β)) (i : Nat) : get (rst X l) i = if X.contains i then none else get l i := by
  refine (get_filter (fun k => !(X.contains k)) l i).trans ?_
  cases X.contains i <;> rfl
def tput (d : Option Nat) (x : A) (tm : List (Nat × A)) : List (Nat × A) := match d with
  | some d => (d, x) :: tm
  | none => tm
/-- the operation hands back r; it leaves other boxes and rows -/
structure EStep (P : Program) (bx : List (Nat × List A)) (ow : List (Nat × Own)) (o : Oper) (ρ : Operand → Option A) (r : A) (bx' : List (Nat × List A)) (ow' : List (Nat × Own)) : Prop where
  go : ∀ (C : Ctx) (m : Mm) (g : Gh) (w : World) (a : Act) (Q : Exit → Act → World → Prop), EnvG C bx ow w m g → (∀ x ∈ o.op.operands.toList, ∀ y, ρ x = some y → AR m g y (a.eval x)) →
    o.wp P a w (fun a' w' => ∃ v m' g', a' = a.put o.dst v ∧ EnvG C bx' ow' w' m' g' ∧ AR m' g' r v ∧ ∀ x u, AR m g x u → AR m' g' x u) Q
inductive ERun (P : Program) (ops : Array Oper) (W X : List (List Nat)) : Nat → List Oper → List (Nat × A) → List (Nat × List A) → List (Nat × Own) → List (Nat × A) → List (Nat × List A) → List (Nat × Own) → Prop
  | nil (k : Nat) (tm : List (Nat × A)) (bx : List (Nat × List A)) (ow : List (Nat × Own)) : ERun P ops W X k [] tm bx ow tm bx ow
  | on {k : Nat} {o : Oper} {rest : List Oper} {tm tm' : List (Nat × A)} {bx bx' : List (Nat × List A)} {ow ow' : List (Nat × Own)} {r : A} (hg : GuardIs ops tm o true) (hW : W.getD k [] = []) (hp : ∀ bxr owr, PureOp P (rst (X.getD k []) bx ++ bxr) (rst (X.getD k []) ow ++ owr) o (evA tm) r) (h : ERun P ops W X (k + 1) rest (tput o.dst r tm) bx ow tm' bx' ow') : ERun P ops W X k (o :: rest) tm bx ow tm' bx' ow'
  | off {k : Nat} {o : Oper} {rest : List Oper} {tm tm' : List (Nat × A)} {bx bx' : List (Nat × List A)} {ow ow' : List (Nat × Own)} (hg : GuardIs ops tm o false) (hW : W.getD k [] = []) (h : ERun P ops W X (k + 1) rest (tput o.dst (.t (.v undef)) tm) bx ow tm' bx' ow') : ERun P ops W X k (o :: rest) tm bx ow tm' bx' ow'
  | eff {k : Nat} {o : Oper} {rest : List Oper} {tm tm' : List (Nat × A)} {bx bx' : List (Nat × List A)} {ow ow' : List (Nat × Own)} {r : A} (wb : List (Nat × List A)) (wo : List (Nat × Own)) (hg : GuardIs ops tm o true) (hW1 : (wb.all fun p => (W.getD k []).contains p.1) = true) (hW2 : (wo.all fun p => (W.getD k []).contains p.1) = true)
      (he : ∀ bxr owr, (∀ i, (X.getD k []).contains i = false → get bx i = none → get bxr i = none) → (∀ i, (X.getD k []).contains i = false → get ow i = none → get owr i = none) → EStep P (rst (X.getD k []) bx ++ bxr) (rst (X.getD k []) ow ++ owr) o (evA tm) r (wb ++ (rst (X.getD k []) bx ++ bxr)) (wo ++ (rst (X.getD k []) ow ++ owr)))
      (h : ERun P ops W X (k + 1) rest (tput o.dst r tm) (wb ++ bx) (wo ++ ow) tm' bx' ow') : ERun P ops W X k (o :: rest) tm bx ow tm' bx' ow'
/-- what one operation of such a run is -/
structure EAt (P : Program) (ops : Array Oper) (W X : List (List Nat)) (i : Nat) (o : Oper) (tm : List (Nat × A)) (bx bx' : List (Nat × List A)) (ow ow' : List (Nat × Own)) (x : A) : Prop where
  go : (GuardIs ops tm o true ∧ W.getD i [] = [] ∧ bx' = bx ∧ ow' = ow ∧ ∀ bxr owr, PureOp P (rst (X.getD i []) bx ++ bxr) (rst (X.getD i []) ow ++ owr) o (evA tm) x) ∨
    (GuardIs ops tm o false ∧ W.getD i [] = [] ∧ bx' = bx ∧ ow' = ow ∧ x = .t (.v undef)) ∨
    (GuardIs ops tm o true ∧ ∃ wb wo, (wb.all fun p => (W.getD i []).contains p.1) = true ∧ (wo.all fun p => (W.getD i []).contains p.1) = true ∧ bx' = wb ++ bx ∧ ow' = wo ++ ow ∧
      ∀ bxr owr, (∀ j, (X.getD i []).contains j = false → get bx j = none → get bxr j = none) → (∀ j, (X.getD i []).contains j = false → get ow j = none → get owr j = none) → EStep P (rst (X.getD i []) bx ++ bxr) (rst (X.getD i []) ow ++ owr) o (evA tm) x (wb ++ (rst (X.getD i []) bx ++ bxr)) (wo ++ (rst (X.getD i []) ow ++ owr)))
theorem erun_at {P : Program} {ops : Array Oper} {W X : List (List Nat)} {k : Nat} {l : List Oper} {tm tm' : List (Nat × A)} {bx bx' : List (Nat × List A)} {ow ow' : List (Nat × Own)} (h : ERun P ops W X k l tm bx ow tm' bx' ow') :
    ∃ (val : Nat → A) (tms : Nat → List (Nat × A)) (bxs : Nat → List (Nat × List A)) (ows : Nat → List (Nat × Own)), tms k = tm ∧ bxs k = bx ∧ ows k = ow ∧ tms (k + l.length) = tm' ∧ bxs (k + l.length) = bx' ∧ ows (k + l.length) = ow' ∧
      ∀ (i : Nat) o, l[i]? = some o → tms (k + i + 1) = tput o.dst (val (k + i)) (tms (k + i)) ∧ EAt P ops W X (k + i) o (tms (k + i)) (bxs (k + i)) (bxs (k + i + 1)) (ows (k + i)) (ows (k + i + 1)) (val (k + i)) := by
  have glue : ∀ {k : Nat} {o : Oper} {rest : List Oper} {tm tm' : List (Nat × A)} {bx bx1 bx' : List (Nat × List A)} {ow ow1 ow' : List (Nat × Own)} {r : A}, EAt P ops W X k o tm bx bx1 ow ow1 r →
      (∃ (val : Nat → A) (tms : Nat → List (Nat × A)) (bxs : Nat → List (Nat × List A)) (ows : Nat → List (Nat × Own)), tms (k + 1) = tput o.dst r tm ∧ bxs (k + 1) = bx1 ∧ ows (k + 1) = ow1 ∧ tms (k + 1 + rest.length) = tm' ∧ bxs (k + 1 + rest.length) = bx' ∧ ows (k + 1 + rest.length) = ow' ∧
        ∀ (i : Nat) o, rest[i]? = some o → tms (k + 1 + i + 1) = tput o.dst (val (k + 1 + i)) (tms (k + 1 + i)) ∧ EAt P ops W X (k + 1 + i) o (tms (k + 1 + i)) (bxs (k + 1 + i)) (bxs (k + 1 + i + 1)) (ows (k + 1 + i)) (ows (k + 1 + i + 1)) (val (k + 1 + i))) →
      ∃ (val : Nat → A) (tms : Nat → List (Nat × A)) (bxs : Nat → List (Nat × List A)) (ows : Nat → List (Nat × Own)), tms k = tm ∧ bxs k = bx ∧ ows k = ow ∧ tms (k + (o :: rest).length) = tm' ∧ bxs (k + (o :: rest).length) = bx' ∧ ows (k + (o :: rest).length) = ow' ∧
        ∀ (i : Nat) o', (o :: rest)[i]? = some o' → tms (k + i + 1) = tput o'.dst (val (k + i)) (tms (k + i)) ∧ EAt P ops W X (k + i) o' (tms (k + i)) (bxs (k + i)) (bxs (k + i + 1)) (ows (k + i)) (ows (k + i + 1)) (val (k + i)) := by
    rintro k o rest tm tm' bx bx1 bx' ow ow1 ow' r hat ⟨val, tms, bxs, ows, h1, h2, h3, h4, h5, h6, h7⟩
    have ne : ∀ q, k + 1 + q ≠ k := fun q => by omega
    refine ⟨fun j => if j = k then r else val j, fun j => if j = k then tm else tms j, fun j => if j = k then bx else bxs j, fun j => if j = k then ow else ows j, if_pos rfl, if_pos rfl, if_pos rfl, ?_, ?_, ?_, ?_⟩
    · show (if k + (o :: rest).length = k then tm else tms (k + (o :: rest).length)) = _
      rw [if_neg (by rw [List.length_cons]; omega), List.length_cons, show k + (rest.length + 1) = k + 1 + rest.length by omega]; exact h4
    · show (if k + (o :: rest).length = k then bx else bxs (k + (o :: rest).length)) = _
      rw [if_neg (by rw [List.length_cons]; omega), List.length_cons, show k + (rest.length + 1) = k + 1 + rest.length by omega]; exact h5
    · show (if k + (o :: rest).length = k then ow else ows (k + (o :: rest).length)) = _
      rw [if_neg (by rw [List.length_cons]; omega), List.length_cons, show k + (rest.length + 1) = k + 1 + rest.length by omega]; exact h6
    · intro i o' ho
      cases i with
      | zero =>
        simp at ho; subst ho
        simp only [Nat.add_zero, if_pos, if_neg (show ¬ (k + 1 = k) by omega)]
        rw [h1, h2, h3]
        exact ⟨rfl, hat⟩
      | succ i =>
        simp at ho
        have := h7 i o' ho
        rw [show k + (i + 1) = k + 1 + i by omega]
        simp only [if_neg (ne i), if_neg (show ¬ (k + 1 + i + 1 = k) by omega)]
        exact this
  induction h with
  | nil k tm bx ow => exact ⟨fun _ => default, fun _ => tm, fun _ => bx, fun _ => ow, rfl, rfl, rfl, rfl, rfl, rfl, fun i o h => by simp at h⟩
  | on hg hW hp _ ih => exact glue ⟨.inl ⟨hg, hW, rfl, rfl, hp⟩⟩ ih
  | off hg hW _ ih => exact glue ⟨.inr (.inl ⟨hg, hW, rfl, rfl, rfl⟩)⟩ ih
  | eff wb wo hg hW1 hW2 he _ ih => exact glue ⟨.inr (.inr ⟨hg, wb, wo, hW1, hW2, rfl, rfl, he⟩)⟩ ih
theorem tms_getE {ops : Array Oper} {val : Nat → A} {tms : Nat → List (Nat × A)} {n : Nat} (h : ∀ i, i < n → tms (i + 1) = tput (dstOf ops i) (val i) (tms i)) : ∀ i, i ≤ n → ∀ s x, get (tms i) s = some x → (∃ j, j < i ∧ dstOf ops j = some s ∧ x = val j) ∨ (get (tms 0) s = some x ∧ ∀ j, j < i → dstOf ops j ≠ some s)
  | 0, _, s, x, hx => .inr ⟨hx, fun j hj => by omega⟩
  | i + 1, hi, s, x, hx => by
    have ht := h i (by omega)
    have step : ∀ {y}, get (tms i) s = some y → dstOf ops i ≠ some s → (∃ j, j < i + 1 ∧ dstOf ops j = some s ∧ y = val j) ∨ (get (tms 0) s = some y ∧ ∀ j, j < i + 1 → dstOf ops j ≠ some s) := fun hy hn => by
      rcases tms_getE h i (by omega) s _ hy with ⟨j, h1, h2, h3⟩ | ⟨h1, h2⟩
      · exact .inl ⟨j, by omega, h2, h3⟩
      · refine .inr ⟨h1, fun j hj => ?_⟩
        rcases Nat.lt_or_ge j i with h3 | h3
        · exact h2 j h3
        · obtain rfl : j = i := by omega
          exact hn
    cases hd : dstOf ops i with
    | none => rw [ht, hd] at hx; exact step hx (by rw [hd]; simp)
    | some d =>
      rw [ht, hd] at hx
      change get ((d, val i) :: tms i) s = some x at hx
      rw [get_cons] at hx
      by_cases hds : d = s
      · rw [if_pos hds] at hx; injection hx with hx; subst hds
        exact .inl ⟨i, by omega, hd, hx.symm⟩
      · rw [if_neg hds] at hx
        exact step hx (by rw [hd]; simp [hds])
structure SAny (P : Program) (N : Nat) (ops : Array Oper) (W X : List (List Nat)) (Q : Exit → St → Prop) (k : Nat) (l : List Oper) (st : St) : Prop where
  go : ∃ tm' bx' ow', ERun P ops W X k l st.tm st.bx st.ow tm' bx' ow' ∧ Q .normal ⟨tm', bx', ow'⟩
section
variable {P : Program} {N : Nat} {Q : Exit → St → Prop} {ops : Array Oper} {W X : List (List Nat)} {k : Nat} {rest : List Oper} {o : Oper} {tm : List (Nat × A)} {bx : List (Nat × List A)} {ow : List (Nat × Own)}
theorem sany_nil {st : St} (h : Q .normal st) : SAny P N ops W X Q k [] st := ⟨⟨_, _, _, .nil k _ _ _, h⟩⟩
theorem sany_pure {d : Nat} {r : A} (hg : GuardIs ops tm o true) (hd : o.dst = some d) (hW : W.getD k [] = []) (hp : ∀ bxr owr, PureOp P (rst (X.getD k []) bx ++ bxr) (rst (X.getD k []) ow ++ owr) o (evA tm) r) (h : SAny P N ops W X Q (k + 1) rest ⟨(d, r) :: tm, bx, ow⟩) : SAny P N ops W X Q k (o :: rest) ⟨tm, bx, ow⟩ := by
  obtain ⟨tm', bx', ow', h1, h2⟩ := h
  exact ⟨⟨tm', bx', ow', .on hg hW hp (by rw [hd]; exact h1), h2⟩⟩
theorem sany_eff {r : A} (wb : List (Nat × List A)) (wo : List (Nat × Own)) (hg : GuardIs ops tm o true) (hW1 : (wb.all fun p => (W.getD k []).contains p.1) = true) (hW2 : (wo.all fun p => (W.getD k []).contains p.1) = true)
    (he : ∀ bxr owr, (∀ i, (X.getD k []).contains i = false → get bx i = none → get bxr i = none) → (∀ i, (X.getD k []).contains i = false → get ow i = none → get owr i = none) → EStep P (rst (X.getD k []) bx ++ bxr) (rst (X.getD k []) ow ++ owr) o (evA tm) r (wb ++ (rst (X.getD k []) bx ++ bxr)) (wo ++ (rst (X.getD k []) ow ++ owr)))
    (h : SAny P N ops W X Q (k + 1) rest ⟨tput o.dst r tm, wb ++ bx, wo ++ ow⟩) : SAny P N ops W X Q k (o :: rest) ⟨tm, bx, ow⟩ := by
  obtain ⟨tm', bx', ow', h1, h2⟩ := h
  exact ⟨⟨tm', bx', ow', .eff wb wo hg hW1 hW2 he h1, h2⟩⟩
end
/-- what holds while such a region runs -/
structure AnyI (C : Ctx) (n : Nat) (W : List (List Nat)) (val : Nat → A) (bxs : Nat → List (Nat × List A)) (ows : Nat → List (Nat × Own)) (tm : List (Nat × A)) (a : Act) (vals : Nat → Option Value) (w' : World) (m' : Mm) (g' : Gh) (bxc : List (Nat × List A)) (owc : List (Nat × Own)) : Prop where
  env : EnvG C bxc owc w' m' g'
  vs : ∀ i v, vals i = some v → i < n → AR m' g' (val i) v
  old : ∀ s x, get tm s = some x → AR m' g' x (a.eval (.tmp s))
  pb : ∀ x, ∃ p, p ≤ n ∧ (∀ j, j < n → x ∈ W.getD j [] → ((vals j).isSome = true ↔ j < p)) ∧ get bxc x = get (bxs p) x
  po : ∀ x, ∃ p, p ≤ n ∧ (∀ j, j < n → x ∈ W.getD j [] → ((vals j).isSome = true ↔ j < p)) ∧ get owc x = get (ows p) x
theorem no_write {β : Type} {W : List (List Nat)} {f : Nat → List (Nat × β)} {n : Nat} (h : ∀ i, i < n → ∀ x, x ∉ W.getD i [] → get (f (i + 1)) x = get (f i) x) {x : Nat} : ∀ (d p : Nat), p + d ≤ n → (∀ j, p ≤ j → j < p + d → x ∉ W.getD j []) → get (f (p + d)) x = get (f p) x
  | 0, p, _, _ => rfl
  | d + 1, p, hn, hw => by
    rw [show p + (d + 1) = (p + d) + 1 by omega, h (p + d) (by omega) x (hw _ (by omega) (by omega))]
    exact no_write h d p (by omega) fun j h1 h2 => hw j h1 (by omega)
set_option maxHeartbeats 2000000 in
/-- a region that draws its order: whatever the order, what its operations leave in the text's order -/
theorem swp_any {P : Program} {N : Nat} {Q : Exit → St → Prop} {id : Nat} {l : List Oper} {tm : List (Nat × A)} {bx : List (Nat × List A)} {ow : List (Nat × Own)} (W X : List (List Nat)) (hm : P.follows .mixedOrders = true) (hB : anyB l.toArray N W X = true)
    (h : SAny P N l.toArray W X Q 0 l ⟨tm, bx, ow⟩) : SWp P N (.region id l.toArray true) Q ⟨tm, bx, ow⟩ := by
  obtain ⟨tm', bx', ow', hrun, hQ⟩ := h
  obtain ⟨val, tms, bxs, ows, ht0, hb0, ho0, htn, hbn, hon_, hstep⟩ := erun_at hrun
  rw [Nat.zero_add] at htn hbn hon_
  generalize hops' : l.toArray = ops at *
  have hlsz : l.length = ops.size := by rw [← hops']; simp
  rw [hlsz] at htn hbn hon_
  unfold anyB at hB
  simp only [Bool.and_eq_true] at hB
  obtain ⟨⟨hB1, hB2⟩, hB3⟩ := hB
  rw [List.all_eq_true] at hB1 hB2 hB3
  have hdl : ∀ i, i < ops.size → ∀ j ∈ deps ops i, j < i := fun i hi j hj => by
    have := hB1 i (by simpa using hi)
    simp only [Bool.and_eq_true] at this
    simpa using (List.all_eq_true.1 this.1) j hj
  have hwr : ∀ i d, i < ops.size → dstOf ops i = some d → writer ops d = some i ∧ d < N := fun i d hi hd => by
    have := hB1 i (by simpa using hi)
    simp only [Bool.and_eq_true] at this
    have h2 := this.2
    rw [hd] at h2
    simpa only [Bool.and_eq_true, decide_eq_true_eq] using h2
  have hops : ∀ i, i < ops.size → ∃ o, ops[i]? = some o ∧ l[i]? = some o := by
    intro i hi
    have hil : i < l.length := by omega
    refine ⟨l[i], ?_, List.getElem?_eq_getElem hil⟩
    have h0 : l.toArray[i]? = some l[i] := by simp [List.getElem?_eq_getElem hil]
    rwa [hops'] at h0
  have hat : ∀ i o, ops[i]? = some o → tms (i + 1) = tput o.dst (val i) (tms i) ∧ EAt P ops W X i o (tms i) (bxs i) (bxs (i + 1)) (ows i) (ows (i + 1)) (val i) := fun i o ho => by
    have hi : i < ops.size := by
      rcases Nat.lt_or_ge i ops.size with h | h
      · exact h
      · rw [Array.getElem?_eq_none h] at ho; cases ho
    obtain ⟨o', h1, h2⟩ := hops i hi
    rw [ho] at h1; injection h1 with h1; subst h1
    have := hstep i o h2
    rwa [Nat.zero_add] at this
  have htput : ∀ i, i < ops.size → tms (i + 1) = tput (dstOf ops i) (val i) (tms i) := fun i hi => by
    obtain ⟨o, h1, _⟩ := hops i hi
    have := (hat i o h1).1
    unfold dstOf; rw [h1]; exact this
  have hnwb : ∀ i, i < ops.size → ∀ x, x ∉ W.getD i [] → get (bxs (i + 1)) x = get (bxs i) x := fun i hi x hx => by
    obtain ⟨o, h1, _⟩ := hops i hi
    rcases (hat i o h1).2.go with ⟨_, _, h2, _⟩ | ⟨_, _, h2, _⟩ | ⟨_, wb, wo, h2, _, h3, _⟩
    · rw [h2]
    · rw [h2]
    · rw [h3, get_append]
      cases hg : get wb x with
      | none => rfl
      | some y => exact absurd (by simpa using (List.all_eq_true.1 h2) _ (get_mem hg)) hx
  have hnwo : ∀ i, i < ops.size → ∀ x, x ∉ W.getD i [] → get (ows (i + 1)) x = get (ows i) x := fun i hi x hx => by
    obtain ⟨o, h1, _⟩ := hops i hi
    rcases (hat i o h1).2.go with ⟨_, _, _, h2, _⟩ | ⟨_, _, _, h2, _⟩ | ⟨_, wb, wo, _, h2, _, h3, _⟩
    · rw [h2]
    · rw [h2]
    · rw [h3, get_append]
      cases hg : get wo x with
      | none => rfl
      | some y => exact absurd (by simpa using (List.all_eq_true.1 h2) _ (get_mem hg)) hx
  -- an operation's numbers, and the others'
  have hord : ∀ k j x, k < ops.size → j < ops.size → j ≠ k → x ∈ W.getD j [] → ((X.getD k []).contains x = false ∨ x ∈ W.getD k []) → ordB (ancL ops ops.size) j k = true := by
    intro k j x hk hj hjk hx hor
    have h1 := hB3 k (by simpa using hk)
    simp only [Bool.and_eq_true] at h1
    have h2 := (List.all_eq_true.1 h1.2) j (by simpa using hj)
    simp only [Bool.or_eq_true] at h2
    rcases h2 with (h2 | h2) | h2
    · exact absurd (Nat.eq_of_beq_eq_true h2) hjk
    · exact h2
    · have h3 := (List.all_eq_true.1 h2) x hx
      simp only [Bool.and_eq_true, Bool.not_eq_true'] at h3
      rcases hor with h4 | h4
      · rw [h4] at h3; exact absurd h3.1 (by simp)
      · have h5 : (W.getD k []).contains x = true := by simpa using h4
        rw [h5] at h3; exact absurd h3.2 (by simp)
  have hWX : ∀ k x, k < ops.size → x ∈ W.getD k [] → (X.getD k []).contains x = false := fun k x hk hx => by
    have h1 := hB3 k (by simpa using hk)
    simp only [Bool.and_eq_true] at h1
    simpa using (List.all_eq_true.1 h1.1) x hx
  refine .mk fun C a w ⟨m, g, hr⟩ => ?_
  have hfn := frame_none ops a
  have hev : ∀ {vals : Nat → Option Value} {i d v}, i < ops.size → dstOf ops i = some d → vals i = some v → (frame ops a vals).eval (.tmp d) = v := fun {vals i d v} hi hd hv => by
    obtain ⟨h1, h2⟩ := hwr i d hi hd
    exact frame_eval h1 hv (by rw [hr.size]; exact h2)
  have hslot : ∀ (vals : Nat → Option Value) (w' : World) (m' : Mm) (g' : Gh) (bxc : List (Nat × List A)) (owc : List (Nat × Own)), AnyI C ops.size W val bxs ows tm a vals w' m' g' bxc owc → ∀ i, i ≤ ops.size → ∀ s, (match writer ops s with | none => true | some j => (decide (j < i) && (vals j).isSome)) = true → ∀ y, get (tms i) s = some y → AR m' g' y ((frame ops a vals).eval (.tmp s)) := by
    intro vals w' m' g' bxc owc hI i hi s hs y hy
    rcases tms_getE htput i hi s y hy with ⟨j, hj1, hj2, rfl⟩ | ⟨hg0, hnone⟩
    · have hw := (hwr j s (by omega) hj2).1
      rw [hw] at hs
      simp only [Bool.and_eq_true, decide_eq_true_eq] at hs
      obtain ⟨v, hv⟩ := Option.isSome_iff_exists.1 hs.2
      rw [hev (by omega) hj2 hv]
      exact hI.vs j v hv (by omega)
    · rw [ht0] at hg0
      cases hw : writer ops s with
      | none => rw [frame_old hw]; exact hI.old s y hg0
      | some j =>
        rw [hw] at hs
        simp only [Bool.and_eq_true, decide_eq_true_eq] at hs
        exact absurd (writer_spec hw) (hnone j hs.1)
  have hput : ∀ (vals : Nat → Option Value) (i : Nat) (o : Oper) (v : Value), ops[i]? = some o → (frame ops a vals).put o.dst v = frame ops a (setV vals i v) := by
    intro vals i o v ho
    have hi : i < ops.size := by
      rcases Nat.lt_or_ge i ops.size with h | h
      · exact h
      · rw [Array.getElem?_eq_none h] at ho; cases ho
    cases hd : o.dst with
    | some d => exact frame_put (hwr i d hi (by unfold dstOf; rw [ho]; exact hd)).1 v
    | none =>
      refine frame_put_none (fun s hs => ?_) v v
      have := writer_spec hs
      rw [ho] at this
      simp only [Option.bind_some, hd] at this
      cases this
  have hd0 : Lo w w.drew := (Lo.refl w).drew
  refine wk_of <| wp_region_any hm (wpAny_inv (fun listed a' w' => listed.size = ops.size ∧ Closed ops listed ∧ ∃ vals m' g' bxc owc, a' = frame ops a vals ∧ (∀ i, isOn listed i = (vals i).isSome) ∧ AnyI C ops.size W val bxs ows tm a vals w' m' g' bxc owc) ?_ ?_ _ _ _ _ ⟨by simp, ?_, fun _ => none, m, g, bx, ow, hfn.symm, ?_, ⟨hr.env.step hd0 (Ext.refl _ _) (hr.env.sub.lo hd0) (NFx.refl _ _), fun i v h => (by cases h), hr.tmps, fun x => ⟨0, Nat.zero_le _, fun j _ _ => by simp, by rw [hb0]⟩, fun x => ⟨0, Nat.zero_le _, fun j _ _ => by simp, by rw [ho0]⟩⟩⟩ (by simp) (by simp [List.countP_replicate]))
  · rintro listed a' w' i ⟨hsz, hcl, vals, m', g', bxc, owc, rfl, hon, hI⟩ _ hrd
    obtain ⟨hlt, hoff, hdeps⟩ := ready_spec hrd
    have hcl' : Closed ops (listed.setIfInBounds i true) := by
      intro x y hx hy
      rw [isOn_set (by omega)] at hx ⊢
      by_cases hxi : x = i
      · subst hxi; rw [hdeps y hy]; simp
      · simp [hxi] at hx
        rw [hcl x y hx hy]; simp
    have hon' : ∀ v x, isOn (listed.setIfInBounds i true) x = (setV vals i v x).isSome := by
      intro v x
      rw [isOn_set (by omega)]
      by_cases hx : x = i
      · subst hx; simp [setV]
      · simp [setV, hx, hon x]
    have hvi : vals i = none := by rw [hon i] at hoff; simpa using hoff
    have hfin : ∀ v w'' m'' g'' bx2 ow2, AnyI C ops.size W val bxs ows tm a (setV vals i v) w'' m'' g'' bx2 ow2 → (listed.setIfInBounds i true).size = ops.size ∧ Closed ops (listed.setIfInBounds i true) ∧ ∃ vals' m' g' bxc owc, frame ops a (setV vals i v) = frame ops a vals' ∧ (∀ x, isOn (listed.setIfInBounds i true) x = (vals' x).isSome) ∧ AnyI C ops.size W val bxs ows tm a vals' w'' m' g' bxc owc :=
      fun v w'' m'' g'' bx2 ow2 h => ⟨by simpa using hsz, hcl', _, m'', g'', bx2, ow2, rfl, hon' v, h⟩
    obtain ⟨o, ho⟩ : ∃ o, ops[i]? = some o := ⟨_, Array.getElem?_eq_getElem hlt⟩
    unfold wpOp
    rw [ho]
    simp only
    -- who writes what this one looks at has gone before, or comes behind
    have hpos : ∀ j x, j < ops.size → j ≠ i → x ∈ W.getD j [] → ((X.getD i []).contains x = false ∨ x ∈ W.getD i []) → ((vals j).isSome = true ↔ j < i) := by
      intro j x hj hji hx hor
      have h1 := hord i j x hlt hj hji hx hor
      unfold ordB at h1
      rw [Bool.or_eq_true] at h1
      rcases h1 with h1 | h1
      · have h2 := anc_on hcl hdl i hlt hdeps ops.size hlt j (by simpa using h1)
        exact ⟨fun _ => h2.2, fun _ => by rw [← hon j]; exact h2.1⟩
      · have h1' : i ∈ (ancL ops ops.size).getD j [] := by simpa using h1
        have h2 := anc_lt hdl j hj ops.size hj i h1'
        refine ⟨fun h3 => ?_, fun h3 => by omega⟩
        rw [← hon j] at h3
        have h4 := (anc_on hcl hdl j hj (fun y hy => hcl j y h3 hy) ops.size hj i h1').1
        rw [hoff] at h4; cases h4
    have hposB : ∀ x, (X.getD i []).contains x = false → get bxc x = get (bxs i) x := by
      intro x hx
      obtain ⟨p, hp, h1, h2⟩ := hI.pb x
      rw [h2]
      have hw : ∀ j, j < ops.size → x ∈ W.getD j [] → (j < p ↔ j < i) ∨ j = i := fun j hj hxj => by
        by_cases hji : j = i
        · exact .inr hji
        · exact .inl ((h1 j hj hxj).symm.trans (hpos j x hj hji hxj (.inl hx)))
      have hwi : x ∈ W.getD i [] → ¬ i < p := fun h3 h4 => by
        have := (h1 i hlt h3).2 h4
        rw [hvi] at this; cases this
      rcases Nat.le_total p i with hpi | hpi
      · obtain ⟨d, rfl⟩ : ∃ d, i = p + d := ⟨i - p, by omega⟩
        exact (no_write hnwb d p (by omega) fun j h3 h4 hxj => by
          rcases hw j (by omega) hxj with h5 | h5
          · have := h5.2 h4; omega
          · omega).symm
      · obtain ⟨d, rfl⟩ : ∃ d, p = i + d := ⟨p - i, by omega⟩
        exact no_write hnwb d i (by omega) fun j h3 h4 hxj => by
          rcases hw j (by omega) hxj with h5 | h5
          · have := h5.1 h4; omega
          · subst h5; exact hwi hxj h4
    have hposO : ∀ x, (X.getD i []).contains x = false → get owc x = get (ows i) x := by
      intro x hx
      obtain ⟨p, hp, h1, h2⟩ := hI.po x
      rw [h2]
      have hw : ∀ j, j < ops.size → x ∈ W.getD j [] → (j < p ↔ j < i) ∨ j = i := fun j hj hxj => by
        by_cases hji : j = i
        · exact .inr hji
        · exact .inl ((h1 j hj hxj).symm.trans (hpos j x hj hji hxj (.inl hx)))
      have hwi : x ∈ W.getD i [] → ¬ i < p := fun h3 h4 => by
        have := (h1 i hlt h3).2 h4
        rw [hvi] at this; cases this
      rcases Nat.le_total p i with hpi | hpi
      · obtain ⟨d, rfl⟩ : ∃ d, i = p + d := ⟨i - p, by omega⟩
        exact (no_write hnwo d p (by omega) fun j h3 h4 hxj => by
          rcases hw j (by omega) hxj with h5 | h5
          · have := h5.2 h4; omega
          · omega).symm
      · obtain ⟨d, rfl⟩ : ∃ d, p = i + d := ⟨p - i, by omega⟩
        exact no_write hnwo d i (by omega) fun j h3 h4 hxj => by
          rcases hw j (by omega) hxj with h5 | h5
          · have := h5.1 h4; omega
          · subst h5; exact hwi hxj h4
    have hgetB : ∀ x, get (rst (X.getD i []) (bxs i) ++ bxc) x = get bxc x := fun x => by
      rw [get_append, get_rst]
      cases hx : (X.getD i []).contains x with
      | true => rfl
      | false =>
        rw [hposB x hx]
        cases get (bxs i) x <;> rfl
    have hgetO : ∀ x, get (rst (X.getD i []) (ows i) ++ owc) x = get owc x := fun x => by
      rw [get_append, get_rst]
      cases hx : (X.getD i []).contains x with
      | true => rfl
      | false =>
        rw [hposO x hx]
        cases get (ows i) x <;> rfl
    have henv : EnvG C (rst (X.getD i []) (bxs i) ++ bxc) (rst (X.getD i []) (ows i) ++ owc) w' m' g' := hI.env.same hgetB hgetO
    have hB2' := hB2 i (by simpa using hlt)
    rw [ho] at hB2'
    simp only [Bool.and_eq_true] at hB2'
    have hdv : ∀ j, (deps ops i).contains j = true → (vals j).isSome = true := fun j hj => by rw [← hon j]; exact hdeps j (by simpa using hj)
    have hs1 : ∀ s, (match writer ops s with | none => true | some j => decide (j < i) && (deps ops i).contains j) = true → ∀ y, get (tms i) s = some y → AR m' g' y ((frame ops a vals).eval (.tmp s)) := by
      intro s hs y hy
      refine hslot vals w' m' g' bxc owc hI i (by omega) s ?_ y hy
      cases hw : writer ops s with
      | none => rfl
      | some j =>
        rw [hw] at hs
        simp only [Bool.and_eq_true] at hs ⊢
        exact ⟨hs.1, hdv j hs.2⟩
    have hgd : ∀ j want e, o.guard = some (j, want) → dstOf ops j = some e → ∀ y, get (tms i) e = some y → AR m' g' y ((frame ops a vals).eval (.tmp e)) := by
      intro j want e hg he y hy
      have h3 := hB2'.2
      rw [hg] at h3
      refine hs1 e ?_ y hy
      have hji : j < i := by simp only [Bool.and_eq_true, decide_eq_true_eq] at h3; exact h3.1
      rw [(hwr j e (by omega) he).1]
      exact h3
    have hops' : ∀ x ∈ o.op.operands.toList, ∀ y, evA (tms i) x = some y → AR m' g' y ((frame ops a vals).eval x) := by
      intro x hx y hy
      cases x with
      | tmp s => exact hs1 s ((List.all_eq_true.1 hB2'.1) s (mem_slots hx)) y hy
      | const v => injection hy with hy; subst hy; exact TR.v v
      | func f => injection hy with hy; subst hy; exact TR.v _
      | global i => cases hy
    have hset : ∀ v j, j ≠ i → setV vals i v j = vals j := fun v j hj => setV_other _ hj v
    -- what is added and turns nothing
    have hquiet : ∀ v w'' m'', W.getD i [] = [] → Lo w' w'' → Ext m' m'' w'.heap.size → Sub m'' w'' → NFx m' m'' w'' → AR m'' g' (val i) v → AnyI C ops.size W val bxs ows tm a (setV vals i v) w'' m'' g' bxc owc := by
      intro v w'' m'' hW hl he hs hnf hv
      refine ⟨hI.env.step hl he hs hnf, fun x u hu hx => ?_, fun s x hx => (hI.old s x hx).mono he.1, fun x => ?_, fun x => ?_⟩
      · by_cases hxi : x = i
        · subst hxi; rw [setV_same] at hu; injection hu with hu; subst hu; exact hv
        · rw [hset v x hxi] at hu; exact (hI.vs x u hu hx).mono he.1
      · obtain ⟨p, h1, h2, h3⟩ := hI.pb x
        refine ⟨p, h1, fun j hj hxj => ?_, h3⟩
        have hji : j ≠ i := fun e => by subst e; rw [hW] at hxj; cases hxj
        rw [hset v j hji]; exact h2 j hj hxj
      · obtain ⟨p, h1, h2, h3⟩ := hI.po x
        refine ⟨p, h1, fun j hj hxj => ?_, h3⟩
        have hji : j ≠ i := fun e => by subst e; rw [hW] at hxj; cases hxj
        rw [hset v j hji]; exact h2 j hj hxj
    rcases (hat i o ho).2.go with ⟨hg, hW, _, _, hp⟩ | ⟨hg, hW, _, _, hv⟩ | ⟨hg, wb, wo, hW1, hW2, hbe, hoe, he⟩
    · rw [if_pos (hg.wanted hgd)]
      refine .inl (Oper.wp_mono ?_ ((hp bxc owc).go C m' g' w' (frame ops a vals) _ henv hops'))
      rintro a2 w2 ⟨v, m2, rfl, hl2, he2, hs2, hn2, hv2⟩
      rw [hput vals i o v ho]
      exact hfin v w2 m2 g' bxc owc (hquiet v w2 m2 hW hl2 he2 hs2 hn2 hv2)
    · rw [if_neg (by rw [hg.wanted hgd]; simp)]
      rw [hput vals i o _ ho]
      exact hfin _ w' m' g' bxc owc (hquiet _ w' m' hW (Lo.refl _) (Ext.refl _ _) hI.env.sub (NFx.refl _ _) (by rw [hv]; exact TR.v _))
    · rw [if_pos (hg.wanted hgd)]
      refine .inl (Oper.wp_mono ?_ ((he bxc owc (fun x hx hn => by rw [hposB x hx]; exact hn) (fun x hx hn => by rw [hposO x hx]; exact hn)).go C m' g' w' (frame ops a vals) _ henv hops'))
      rintro a2 w2 ⟨v, m2, g2, rfl, henv2, hv2, hk2⟩
      rw [hput vals i o v ho]
      refine hfin v w2 m2 g2 _ _ ⟨henv2, fun x u hu hx => ?_, fun s x hx => hk2 _ _ (hI.old s x hx), fun x => ?_, fun x => ?_⟩
      · by_cases hxi : x = i
        · subst hxi; rw [setV_same] at hu; injection hu with hu; subst hu; exact hv2
        · rw [hset v x hxi] at hu; exact hk2 _ _ (hI.vs x u hu hx)
      · by_cases hxW : x ∈ W.getD i []
        · refine ⟨i + 1, by omega, fun j hj hxj => ?_, ?_⟩
          · by_cases hji : j = i
            · subst hji; rw [setV_same]; simp
            · rw [hset v j hji, hpos j x hj hji hxj (.inr hxW)]; omega
          · rw [hbe, get_append wb (rst (X.getD i []) (bxs i) ++ bxc), hgetB, hposB x (hWX i x hlt hxW), get_append wb (bxs i)]
        · obtain ⟨p, h1, h2, h3⟩ := hI.pb x
          refine ⟨p, h1, fun j hj hxj => ?_, ?_⟩
          · have hji : j ≠ i := fun e => by subst e; exact hxW hxj
            rw [hset v j hji]; exact h2 j hj hxj
          · rw [get_append]
            cases hgw : get wb x with
            | none => simp only; rw [hgetB]; exact h3
            | some y => exact absurd (by simpa using (List.all_eq_true.1 hW1) _ (get_mem hgw)) hxW
      · by_cases hxW : x ∈ W.getD i []
        · refine ⟨i + 1, by omega, fun j hj hxj => ?_, ?_⟩
          · by_cases hji : j = i
            · subst hji; rw [setV_same]; simp
            · rw [hset v j hji, hpos j x hj hji hxj (.inr hxW)]; omega
          · rw [hoe, get_append wo (rst (X.getD i []) (ows i) ++ owc), hgetO, hposO x (hWX i x hlt hxW), get_append wo (ows i)]
        · obtain ⟨p, h1, h2, h3⟩ := hI.po x
          refine ⟨p, h1, fun j hj hxj => ?_, ?_⟩
          · have hji : j ≠ i := fun e => by subst e; exact hxW hxj
            rw [hset v j hji]; exact h2 j hj hxj
          · rw [get_append]
            cases hgw : get wo x with
            | none => simp only; rw [hgetO]; exact h3
            | some y => exact absurd (by simpa using (List.all_eq_true.1 hW2) _ (get_mem hgw)) hxW
  · rintro listed a' w' ⟨hsz, hcl, vals, m', g', bxc, owc, rfl, hon, hI⟩ hrd
    have hall : ∀ k, ∀ i, i < k → i < ops.size → isOn listed i = true := by
      intro k
      induction k with
      | zero => intro i hi; omega
      | succ k ih =>
        intro i hi hs
        rcases Nat.lt_or_ge i k with h | h
        · exact ih i h hs
        · have hik : i = k := by omega
          subst hik
          rcases Bool.eq_false_or_eq_true (isOn listed i) with h1 | h1
          · exact h1
          · exfalso
            have hmem : i ∈ Region.ready .any ops listed := by
              unfold Region.ready
              rw [List.mem_filter, List.mem_range]
              refine ⟨hs, ?_⟩
              simp only [Bool.and_eq_true, Bool.not_eq_true']
              constructor
              · unfold isOn at h1
                rw [Array.getD_eq_getD_getElem?, Array.getElem?_eq_getElem (by omega)] at h1 ⊢
                simpa using h1
              · rw [Array.getElem?_eq_getElem hs]
                simp only [Option.map_some, Option.getD_some]
                rw [Array.all_eq_true_iff_forall_mem]
                intro e he
                rcases Bool.eq_false_or_eq_true (Region.binds .any e) with hb | hb
                · have hj : e.on ∈ deps ops i := by
                    unfold deps
                    rw [Array.getElem?_eq_getElem hs]
                    simp only [Option.map_some, Option.getD_some, List.mem_map, List.mem_filter]
                    exact ⟨e, ⟨by simpa using he, hb⟩, rfl⟩
                  have := ih e.on (hdl i hs _ hj) (by have := hdl i hs _ hj; omega)
                  unfold isOn at this
                  simp [this]
                · simp [hb]
            rw [hrd] at hmem; cases hmem
    have hvs : ∀ i, i < ops.size → (vals i).isSome = true := fun i hi => by rw [← hon i]; exact hall (i + 1) i (by omega) hi
    have hendB : ∀ x, get bx' x = get bxc x := fun x => by
      obtain ⟨p, h1, h2, h3⟩ := hI.pb x
      rw [h3, ← hbn]
      obtain ⟨d, hd⟩ : ∃ d, ops.size = p + d := ⟨ops.size - p, by omega⟩
      rw [hd]
      exact no_write hnwb d p (by omega) fun j h4 h5 hxj => by
        have := (h2 j (by omega) hxj).1 (hvs j (by omega)); omega
    have hendO : ∀ x, get ow' x = get owc x := fun x => by
      obtain ⟨p, h1, h2, h3⟩ := hI.po x
      rw [h3, ← hon_]
      obtain ⟨d, hd⟩ : ∃ d, ops.size = p + d := ⟨ops.size - p, by omega⟩
      rw [hd]
      exact no_write hnwo d p (by omega) fun j h4 h5 hxj => by
        have := (h2 j (by omega) hxj).1 (hvs j (by omega)); omega
    refine ⟨_, ⟨m', g', hI.env.same hendB hendO, by simp [frame, hr.size], hr.defers, fun s x hx => ?_⟩, hQ⟩
    refine hslot vals w' m' g' bxc owc hI ops.size (Nat.le_refl _) s ?_ x (by rw [htn]; exact hx)
    cases hw : writer ops s with
    | none => rfl
    | some j =>
      have hjs := writer_spec hw
      have hjlt : j < ops.size := by
        rcases Nat.lt_or_ge j ops.size with h | h
        · exact h
        · rw [Array.getElem?_eq_none h] at hjs; cases hjs
      simp only [Bool.and_eq_true, decide_eq_true_eq]
      exact ⟨hjlt, hvs j hjlt⟩
  · intro i j h
    unfold isOn at h
    rw [Array.getD_eq_getD_getElem?] at h
    simp only [Array.getElem?_replicate] at h
    split at h <;> cases h
  · intro i
    unfold isOn
    rw [Array.getD_eq_getD_getElem?]
    simp only [Array.getElem?_replicate]
    split <;> rfl
end Go.Proofs.YtnclifgiakmmoaaGreat.Sim
