/- Merged by bundles.py: SimRen, SimFs, SimMa, SimTn. -/
import Derived.Test.YtnclifgiakmmoaaGreatH11
import Derived.Test.YtnclifgiakmmoaaGreatH14
/- A logic of states: a row gets another number: a lent one becomes the call's own, a hidden one may be seen from then on. -/
namespace Go.Proofs.YtnclifgiakmmoaaGreat.Sim
set_option linter.unusedVariables false
set_option linter.unusedSimpArgs false
open Go.RowKit Mem

def rn (i i' j : Nat) : Nat := bif Nat.beq j i then i' else j
theorem rn_same (i i' : Nat) : rn i i' i = i' := by unfold rn; rw [Nat.beq_refl]; rfl
theorem rn_other {i i' j : Nat} (h : j ≠ i) : rn i i' j = j := by
  unfold rn
  cases e : Nat.beq j i with
  | true => exact absurd (Nat.eq_of_beq_eq_true e) h
  | false => rfl
def renO (i i' : Nat) (ow : List (Nat × Own)) : List (Nat × Own) := ow.map fun p => (rn i i' p.1, p.2)
def renX (i i' : Nat) (bx : List (Nat × List A)) : List (Nat × List A) := bx.map fun p => (p.1, p.2.map (A.ren (fun k => k) (rn i i')))
theorem get_renO {i i' : Nat} {ow : List (Nat × Own)} (hn : get ow i' = none) (hne : i ≠ i') (j : Nat) : get (renO i i' ow) j = if j = i' then get ow i else if j = i then none else get ow j := by
  induction ow with
  | nil => simp [renO, get]
  | cons p r ih =>
    obtain ⟨k, x⟩ := p
    rw [get_cons] at hn
    split at hn
    · cases hn
    rename_i hk
    have ih := ih hn
    show get ((rn i i' k, x) :: renO i i' r) j = _
    rw [get_cons, get_cons, get_cons, ih]
    by_cases hki : k = i
    · subst hki
      rw [rn_same]
      by_cases hj : i' = j
      · subst hj; simp
      · have hj' : ¬ j = i' := fun e => hj e.symm
        by_cases hjk : j = k
        · subst hjk; simp [hj, hj']
        · have hkj : ¬ k = j := fun e => hjk e.symm
          simp [hj, hj', hjk, hkj]
    · rw [rn_other hki]
      by_cases hkj : k = j
      · subst hkj; simp [hk, hki]
      · simp [hkj, hki]
theorem get_renX {i i' : Nat} {bx : List (Nat × List A)} (j : Nat) : get (renX i i' bx) j = (get bx j).map fun cs => cs.map (A.ren (fun k => k) (rn i i')) := by
  induction bx with
  | nil => rfl
  | cons p r ih =>
    obtain ⟨k, x⟩ := p
    show get ((k, _) :: renX i i' r) j = _
    rw [get_cons, get_cons, ih]
    by_cases hkj : k = j
    · rw [if_pos hkj, if_pos hkj]; rfl
    · rw [if_neg hkj, if_neg hkj]
theorem EnvG.ren' {C : Ctx} {bx : List (Nat × List A)} {ow : List (Nat × Own)} {w : World} {m : Mm} {g : Gh} (he : EnvG C bx ow w m g) {i i' : Nat} {o : Own} (hi : get ow i = some o) (hh : hid i = true ∨ hid i' = false) (hn : get ow i' = none) (h2 : Nat.ble 2000 i' = false) :
    ∃ m' g', EnvG C (renX i i' bx) (renO i i' ow) w m' g' ∧ ∀ x v, AR m g x v → AR m' g' (x.ren (fun k => k) (rn i i')) v := by
  have hne : i ≠ i' := fun e => by rw [e, hn] at hi; cases hi
  obtain ⟨vs, hrow, hsz, hcells, hblk⟩ := he.owns i o hi
  have hO := fun j => get_renO hn hne j
  have hX := fun j => get_renX (i := i) (i' := i') (bx := bx) j
  have hlwi : g.lw i' = false := by rw [he.lw, hn]; rfl
  have hmm : ∀ b q u, m b q = some u → rowm m (g.go i) (vis i' vs) b q = some u := fun b q u hu => by
    unfold rowm
    split
    · rename_i hb
      rw [(hblk b hb).1 q] at hu
      rcases hh with hh | hh
      · rw [vis_hid hh] at hu; simp at hu
      · rw [vis_see hh]; exact vis_get hu
    · exact hu
  have hgoO : ∀ j, j ≠ i' → (if j = i' then g.go i else g.go j) = g.go j := fun j h => if_neg h
  have hlw' : ∀ j, g.lw j = true → j ≠ i' := fun j hj e => by rw [e, hlwi] at hj; cases hj
  have hget : ∀ j, g.lw j = true → (get (renO i i' ow) (rn i i' j)).isSome = true := fun j hj => by
    rw [hO]
    by_cases hji : j = i
    · subst hji; rw [rn_same, if_pos rfl, hi]; rfl
    · rw [rn_other hji, if_neg (hlw' j hj), if_neg hji, ← he.lw j]; exact hj
  let g' : Gh := { g with go := fun j => if j = i' then g.go i else g.go j, ln := fun j => if j = i' then g.ln i else g.ln j, lw := fun j => (get (renO i i' ow) j).isSome }
  have hgo : ∀ j, g.lw j = true → g'.go (rn i i' j) = g.go j := fun j hj => by
    by_cases hji : j = i
    · subst hji; rw [rn_same]; exact if_pos rfl
    · rw [rn_other hji]; exact if_neg (hlw' j hj)
  have hln : ∀ j, g.lw j = true → g'.ln (rn i i' j) = g.ln j := fun j hj => by
    by_cases hji : j = i
    · subst hji; rw [rn_same]; exact if_pos rfl
    · rw [rn_other hji]; exact if_neg (hlw' j hj)
  have hAR : ∀ x v, AR m g x v → AR (rowm m (g.go i) (vis i' vs)) g' (x.ren (fun k => k) (rn i i')) v := fun x v hx => by
    refine AR.mp (ren0 (fun k => k) (rn i i')) (fun _ => true) (fun x v _ hx => ?_) (by
      cases x <;> simp [A.allP, A.all1]
      intro y _; cases y <;> simp [A.all1]) hx
    cases x with
    | t x => exact TR.mono hmm hx
    | bp k off => exact hx
    | sb k n sz e => exact hx
    | rs R => exact hx
    | rp k n => exact hx
    | lo n => exact hx
    | pr k n => exact hx
    | own j n =>
      obtain ⟨h1, h3, h4, h5⟩ := hx
      exact ⟨hget j h1, by rw [hln j h1]; exact h3, h4, fun e => by rw [hgo j h1]; exact h5 (by rw [hln j h1] at e; exact e)⟩
    | ev j n u =>
      obtain ⟨h1, h3, h4, h5⟩ := hx
      exact ⟨hget j h1, by rw [hln j h1]; exact h3, h4, fun e => by rw [hgo j h1]; exact h5 (by rw [hln j h1] at e; exact e)⟩
    | emp => exact hx
    | oe j n sz k off =>
      obtain ⟨h1, h3, h4, h5⟩ := hx
      exact ⟨hget j h1, by rw [hln j h1]; exact h3, h4, fun e => by rw [hgo j h1]; exact h5 (by rw [hln j h1] at e; exact e)⟩
    | any => trivial
    | sfx j n sz k =>
      obtain ⟨h1, h3, h4, h5⟩ := hx
      exact ⟨hget j h1, by rw [hln j h1]; exact h3, h4, fun e => by rw [hgo j h1]; exact h5 (by rw [hln j h1] at e; exact e)⟩
    | ag cs => exact hx
    | tu cs => exact hx
    | cl f cs => exact hx
  have hown : ∀ j oj, get (renO i i' ow) j = some oj → (j = i' ∧ oj = o) ∨ (j ≠ i' ∧ j ≠ i ∧ get ow j = some oj) := fun j oj hj => by
    rw [hO] at hj
    by_cases h1 : j = i'
    · rw [if_pos h1, hi] at hj; injection hj with hj; exact .inl ⟨h1, hj.symm⟩
    · rw [if_neg h1] at hj
      by_cases h3 : j = i
      · rw [if_pos h3] at hj; cases hj
      · rw [if_neg h3] at hj; exact .inr ⟨h1, h3, hj⟩
  have hgo1 : g'.go i' = g.go i := if_pos rfl
  have hgo2 : ∀ j, j ≠ i' → g'.go j = g.go j := fun j h => if_neg h
  refine ⟨rowm m (g.go i) (vis i' vs), g', {
    nb := nb_map ren0_lo he.nb
    nf := fun b q u hb hu => by
      unfold rowm at hu
      split at hu
      · rename_i hbb; exact hrow.nf hbb (vis_get hu)
      · exact he.nf b q u hb hu
    lo := he.lo
    gm := he.gm
    sub := fun b q u hu => by
      unfold rowm at hu
      split at hu
      · rename_i hb
        have := hrow.cells hb q u (vis_get hu)
        rwa [addr_add, Nat.zero_add] at this
      · exact he.sub b q u hu
    gt := fun b q u ht => hmm b q u (he.gt b q u ht)
    ext := ⟨fun b q u hu => hmm b q u (he.ext.keep b q u hu), fun b q hb hgb => by
      unfold rowm
      by_cases hvv : (g.go i).ownBlock = some b
      · rcases (hblk b hvv).2.2 with h1 | h1
        · omega
        · rw [hgb] at h1; cases h1
      · rw [if_neg hvv]; exact he.ext.old b q hb hgb⟩
    lb := fun j => by
      rw [hX, Option.isSome_map]; exact he.lb j
    lw := fun j => rfl
    ln := fun j oj hj => by
      rcases hown j oj hj with ⟨h1, h3⟩ | ⟨h1, h3, h4⟩
      · subst h1 h3; show (if j = j then g.ln i else g.ln j) = _; rw [if_pos rfl]; exact he.ln i _ hi
      · show (if j = i' then g.ln i else g.ln j) = _; rw [if_neg h1]; exact he.ln j _ h4
    boxes := fun j cs hj hcj => by
      rw [hX] at hj
      cases hb : get bx j with
      | none => rw [hb] at hj; cases hj
      | some cs0 =>
        rw [hb] at hj
        have hj : cs0.map (A.ren (fun k => k) (rn i i')) = cs := by simpa using hj
        subst hj
        obtain ⟨vs2, ty, h1, h3, h4, h5, h6⟩ := he.boxes j cs0 hb hcj
        refine ⟨vs2, ty, h1, by simpa using h3, fun q x u hx hu => ?_, h5, fun q => ?_⟩
        · rw [List.getElem?_map] at hx
          cases hc : cs0[q]? with
          | none => rw [hc] at hx; cases hx
          | some y =>
            rw [hc] at hx
            have hx : A.ren (fun k => k) (rn i i') y = x := by simpa using hx
            subst hx
            exact ⟨hAR _ _ (h4 q y u hc hu).1, (h4 q y u hc hu).2⟩
        · show rowm m (g.go i) (vis i' vs) (g.gb j) q = none
          unfold rowm
          rw [if_neg (fun e => (hblk _ e).2.1 j cs0 hb hcj rfl)]
          exact h6 q
    inj := fun j k cj ck hj hk hcj hck e => by
      rw [hX] at hj hk
      cases hb : get bx j with
      | none => rw [hb] at hj; cases hj
      | some c1 =>
        cases hb2 : get bx k with
        | none => rw [hb2] at hk; cases hk
        | some c2 => exact he.inj j k c1 c2 hb hb2 hcj hck e
    owns := fun j oj hj => by
      rcases hown j oj hj with ⟨h1, h3⟩ | ⟨h1, h3, h4⟩
      · subst h1 h3
        rw [hgo1]
        refine ⟨vs, hrow, hsz, hcells.mono hmm, fun b hb => ⟨fun k => ?_, fun q cs hq hcq => ?_, (hblk b hb).2.2⟩⟩
        · unfold rowm; rw [if_pos hb]
        · rw [hX] at hq
          cases hb2 : get bx q with
          | none => rw [hb2] at hq; cases hq
          | some c2 => exact (hblk b hb).2.1 q c2 hb2 hcq
      · rw [hgo2 j h1]
        obtain ⟨vs2, k1, k2, k3, k4⟩ := he.owns j oj h4
        refine ⟨vs2, k1, k2, k3.mono hmm, fun b hb => ⟨fun k => ?_, fun q cs hq hcq => ?_, (k4 b hb).2.2⟩⟩
        · unfold rowm
          rw [if_neg (fun e => he.apart i j o oj hi h4 (fun e => h3 e.symm) b e hb)]
          exact (k4 b hb).1 k
        · rw [hX] at hq
          cases hb2 : get bx q with
          | none => rw [hb2] at hq; cases hq
          | some c2 => exact (k4 b hb).2.1 q c2 hb2 hcq
    apart := fun j k oj ok hj hk hjk b hb => by
      rcases hown j oj hj with ⟨h1, h3⟩ | ⟨h1, h3, h4⟩
      · rcases hown k ok hk with ⟨k1, k3⟩ | ⟨k1, k3, k4⟩
        · exact absurd (h1.trans k1.symm) hjk
        · subst h1; rw [hgo1] at hb; rw [hgo2 k k1]
          exact he.apart i k o ok hi k4 (fun e => k3 e.symm) b hb
      · rw [hgo2 j h1] at hb
        rcases hown k ok hk with ⟨k1, k3⟩ | ⟨k1, k3, k4⟩
        · subst k1; rw [hgo1]
          exact he.apart j i oj o h4 hi h3 b hb
        · rw [hgo2 k k1]
          exact he.apart j k oj ok h4 k4 hjk b hb
    pin := fun j oj hj hj2 => by
      rcases hown j oj hj with ⟨h1, h3⟩ | ⟨h1, h3, h4⟩
      · rw [h1, h2] at hj2; cases hj2
      · rw [hgo2 j h1]; exact he.pin j oj h4 hj2
    pinb := fun j cs hj hj2 => by
      rw [hX] at hj
      cases hb : get bx j with
      | none => rw [hb] at hj; cases hj
      | some c1 => exact he.pinb j c1 hb hj2
    rs := he.rsF (fun k => (g.go i).ownBlock = some k) (fun k R _ hk => ⟨rs_map ren0_rs (by rw [hX] at hk; exact hk), rfl, rfl⟩) (fun k cs _ hk _ => by
      rw [hX] at hk
      cases hc : get bx k with
      | none => rw [hc] at hk; cases hk
      | some c0 => exact ⟨rfl, c0, by first | exact hc | rfl⟩) (fun k hk => .inr ⟨i, o, hi, hk⟩) (fun _ _ _ => rfl) hmm (fun b _ hnt hb q => by unfold rowm; rw [if_neg hnt]; exact hb q) (fun k cs hk hck => by
      rw [hX] at hk
      cases hc : get bx k with
      | none => rw [hc] at hk; cases hk
      | some c0 => exact .inl ⟨k, c0, by first | exact hc | rfl, hck, rfl⟩) (fun j oj hj b hb => by
      rcases hown j oj hj with ⟨h1, h3⟩ | ⟨h1, h3, h4⟩
      · subst h1; rw [hgo1] at hb; exact .inl ⟨i, o, hi, hb⟩
      · rw [hgo2 j h1] at hb; exact .inl ⟨j, oj, h4, hb⟩) }, hAR⟩
theorem EnvG.ren {C : Ctx} {bx : List (Nat × List A)} {ow : List (Nat × Own)} {w : World} {m : Mm} {g : Gh} (he : EnvG C bx ow w m g) {i i' : Nat} {o : Own} (hi : get ow i = some o) (hh : hid i = true) (hn : get ow i' = none) (h2 : Nat.ble 2000 i' = false) :
    ∃ m' g', EnvG C (renX i i' bx) (renO i i' ow) w m' g' ∧ ∀ x v, AR m g x v → AR m' g' (x.ren (fun k => k) (rn i i')) v := he.ren' hi (.inl hh) hn h2
end Go.Proofs.YtnclifgiakmmoaaGreat.Sim

/- A logic of states: an empty family; a family that is seen from now on; calls whose answers are chosen. -/
namespace Go.Proofs.YtnclifgiakmmoaaGreat.Sim
set_option linter.unusedVariables false
set_option linter.unusedSimpArgs false
open Go.RowKit Mem
section
variable {C : Ctx} {bx : List (Nat × List A)} {ow : List (Nat × Own)} {w : World} {m : Mm} {g : Gh}
/-- cells of slices that a family has, read as slices -/
inductive UpL (fs : List (Value × Own)) : List T → List T → Prop
  | nil : UpL fs [] []
  | keep (x : T) {l l' : List T} (h : UpL fs l l') : UpL fs (x :: l) (x :: l')
  | up (p : Value × Own) (hp : p ∈ fs) {l l' : List T} (h : UpL fs l l') : UpL fs (.v p.1 :: l) (.sl p.2.sz p.2.rows :: l')
theorem UpL.app {fs : List (Value × Own)} {a b a' b' : List T} (h : UpL fs a b) (k : UpL fs a' b') : UpL fs (a ++ a') (b ++ b') := by
  induction h with
  | nil => exact k
  | keep x _ ih => exact .keep x ih
  | up p hp _ ih => exact .up p hp ih
theorem UpL.mono {fs fs' : List (Value × Own)} {a b : List T} (h : UpL fs a b) (hs : ∀ p ∈ fs, p ∈ fs') : UpL fs' a b := by
  induction h with
  | nil => exact .nil
  | keep x _ ih => exact .keep x ih
  | up p hp _ ih => exact .up p (hs p hp) ih
theorem UpL.cells {fs : List (Value × Own)} {a b : List T} (h : UpL fs a b) (hT : ∀ p ∈ fs, TR m (.sl p.2.sz p.2.rows) p.1) {vs : List Value} (hc : CellsAre m a vs) : CellsAre m b vs := by
  induction h generalizing vs with
  | nil => exact hc
  | @keep x l l' _ ih =>
    obtain ⟨h1, h2⟩ := hc
    cases vs with
    | nil => simp at h1
    | cons v vs =>
      obtain ⟨h3, h4⟩ := ih (vs := vs) ⟨by simpa using h1, fun j t u h3 h4 => h2 (j + 1) t u (by simpa using h3) (by simpa using h4)⟩
      exact ⟨by simp [h3], fun j t u h5 h6 => by
        cases j with
        | zero => simp at h5 h6; subst h5 h6; exact h2 0 _ _ rfl rfl
        | succ j => exact h4 j t u (by simpa using h5) (by simpa using h6)⟩
  | @up p hp l l' _ ih =>
    obtain ⟨h1, h2⟩ := hc
    cases vs with
    | nil => simp at h1
    | cons v vs =>
      obtain ⟨h3, h4⟩ := ih (vs := vs) ⟨by simpa using h1, fun j t u h3 h4 => h2 (j + 1) t u (by simpa using h3) (by simpa using h4)⟩
      exact ⟨by simp [h3], fun j t u h5 h6 => by
        cases j with
        | zero =>
          simp at h5 h6; subst h5 h6
          obtain ⟨h7, h8⟩ := h2 0 _ _ rfl rfl
          have := tr_v h7
          subst this
          exact ⟨hT p hp, h8⟩
        | succ j => exact h4 j t u (by simpa using h5) (by simpa using h6)⟩
open Classical in
end
section
variable {N : Nat} {tm : List (Nat × A)} {bx : List (Nat × List A)} {ow : List (Nat × Own)}
end
/-- a call whose answer is chosen -/
structure ECalls (P : Program) (f : FuncId) (args : List A) (bx0 : List (Nat × List A)) (ow0 : List (Nat × Own)) {ι : Type} (r : ι → A) (bx1 : ι → List (Nat × List A)) (ow1 : ι → List (Nat × Own)) : Prop where
  ent : ∀ (args : Array Value) (w : World), (callFunc f args).run P w = .ok (.enter f args) w
  run : ∀ (m : Mm) (w : World) (g : Gh) (vals : Array Value), EnvG (lentC w m g bx0 ow0) bx0 ow0 w m g → vals.size = args.length → (∀ (i : Nat) x v, args[i]? = some x → vals[i]? = some v → AR m g x v) →
    Calls P f vals w fun e w' => ∃ i v m' g', e = .returned v ∧ EnvG (lentC w m g bx0 ow0) (bx1 i) (ow1 i) w' m' g' ∧ AR m' g' (r i) v
theorem LCalls.e {P : Program} {f : FuncId} {args : List A} {bx0 bx1 : List (Nat × List A)} {ow0 ow1 : List (Nat × Own)} {r : A} (h : LCalls P f args bx0 ow0 r bx1 ow1) : ECalls P f args bx0 ow0 (fun _ : Unit => r) (fun _ => bx1) (fun _ => ow1) := ⟨h.ent, fun m w g vals he hl hv => (h.run m w g vals he hl hv).mono fun _ _ ⟨v, m', g', h1, h2, h3⟩ => ⟨(), v, m', g', h1, h2, h3⟩⟩
section
variable {P : Program} {N : Nat} {Q : Exit → St → Prop} {ops : Array Oper} {rest : List Oper} {o : Oper} {tm : List (Nat × A)} {bx bx0 : List (Nat × List A)} {ow ow0 : List (Nat × Own)}
end
end Go.Proofs.YtnclifgiakmmoaaGreat.Sim

/- Contracts without anything lent; slices that are known to be new. -/
namespace Go.Proofs.YtnclifgiakmmoaaGreat.Sim
set_option linter.unusedVariables false
set_option linter.unusedSimpArgs false
open Go.RowKit Mem
/-- a call whose answer's slices may be told to lie at n or above, for an n that is there -/
structure PCallsA (P : Program) (f : FuncId) (args : List T) (n : Nat) (r : T) : Prop where
  ent : ∀ (args : Array Value) (w : World), (callFunc f args).run P w = .ok (.enter f args) w
  run : ∀ (m : Mm) (w : World) (vals : Array Value), Sub m w → vals.size = args.length → (∀ (i : Nat) t v, args[i]? = some t → vals[i]? = some v → TR m t v) → GT m → n ≤ w.heap.size →
    Calls P f vals w fun e w' => ∃ v m', e = .returned v ∧ Lo w w' ∧ Ext m m' w.heap.size ∧ Sub m' w' ∧ TR m' r v ∧ NFx m m' w'
def loG (n : Nat) : Gh := ⟨fun _ => 0, fun _ => undef, fun _ => 0, fun i => (get [(3899, [Sim.A.lo n])] i).isSome, fun _ => false, fun _ => (0, 0), fun _ _ => false, fun _ _ => undef⟩
def loC (n : Nat) (w : World) (m : Mm) : Ctx := lentC w m (loG n) [(3899, [.lo n])] []
theorem env_lo {m : Mm} {w : World} {n : Nat} (hs : Sub m w) (hT : GT m) (hn : n ≤ w.heap.size) : EnvG (loC n w m) [(3899, [.lo n])] [] w m (loG n) := by
  have hg : ∀ i cs, get [(3899, [Sim.A.lo n])] i = some cs → i = 3899 ∧ cs = [.lo n] := fun i cs h => by
    rw [get_cons] at h
    split at h
    · rename_i e; injection h with h; exact ⟨e.symm, h.symm⟩
    · cases h
  exact {
    lo := .of_lo (Lo.refl _), gm := fun b o h => by cases h
    sub := hs, ext := ExtX.refl _ _ _, gt := hT, lb := fun i => rfl, lw := fun i => rfl
    ln := fun i o h => by cases h
    boxes := fun i cs h hc => by rw [(hg i cs h).1] at hc; cases hc
    inj := fun i j ci cj h _ hc => by rw [(hg i ci h).1] at hc; cases hc
    owns := fun i o h => by cases h
    apart := fun i j oi oj h => by cases h
    pin := fun i o h => by cases h
    pinb := fun i o h _ => rfl
    rs := ⟨fun i R _ h => by (have := (hg i _ h).2; cases this), fun i j R R' _ _ h => by (have := (hg i _ h).2; cases this), fun i cs _ h _ => rfl⟩
    nb := fun i k _ h b hb => by
      have := (hg i _ h).2
      injection this with this; injection this with this
      subst this
      rcases hb with hb | hb
      · exact Nat.le_trans hn hb
      · cases hb
    nf := fun b o u hb hu => absurd (hs.lt hu) (by rcases hb with hb | hb; exact Nat.not_lt.2 hb; cases hb) }
theorem pcallsA_of {P : Program} {f : FuncId} {fn : Func} {c : Code} {args : List T} {n : Nat} {r : T} {N : Nat} (hf : P.funcs[f]? = some fn) (hb : fn.body = some c) (hname : (fn.name == "runtime.NumGoroutine") = false) (hN : fn.ntmps = N) (hargs : Nat.ble args.length N = true)
    (h : SWp P N c (RetQ P fn r) ⟨argTm 0 args, [(3899, [.lo n])], []⟩) : PCallsA P f args n r where
  ent := fun vals w => by
    have hname' : ¬ fn.name = "runtime.NumGoroutine" := by simpa using hname
    simp [callFunc, hf, hname', hb]
  run := fun m w vals hs hl hv hT hn => by
    refine calls_of_wk hf hb ?_
    have hal := Nat.le_of_ble_eq_true hargs
    have hrel : Rel (loC n w m) N ⟨argTm 0 args, [(3899, [.lo n])], []⟩ { tmps := vals ++ Array.replicate (fn.ntmps - vals.size) undef, defers := [] } w := by
      refine ⟨m, loG n, env_lo hs hT hn, by simp [hN]; omega, rfl, fun s x hx => ?_⟩
      obtain ⟨t, _, h2, rfl⟩ := argTm_get args 0 s x hx
      rw [Nat.sub_zero] at h2
      have hlt : s < vals.size := by rw [hl]; exact (List.getElem?_eq_some_iff.1 h2).1
      have : (Act.eval { tmps := vals ++ Array.replicate (fn.ntmps - vals.size) undef, defers := [] } (.tmp s)) = vals[s] := by
        show (vals ++ Array.replicate (fn.ntmps - vals.size) undef).getD s undef = _
        rw [Array.getD_eq_getD_getElem?, Array.getElem?_append_left hlt, Array.getElem?_eq_getElem hlt]; rfl
      rw [this]
      exact hv s t _ h2 (Array.getElem?_eq_getElem hlt)
    refine wk_mono ?_ (h.go _ _ w hrel)
    rintro e a' w' ⟨st, ⟨m', g, hr⟩, ⟨he, ts, hres, rt⟩⟩
    obtain ⟨v, h1, h2⟩ := results_ok hr hres
    rw [← rt] at h2
    rcases he with rfl | rfl <;> exact ⟨hr.defers, v, h1, v, m', rfl, hr.env.lo.lo (fun _ => rfl), hr.env.ext.ext (fun _ => rfl), hr.env.sub, h2, .of (hr.env.ext.ext (fun _ => rfl)) fun b o u hb => hr.env.nf b o u (.inl hb)⟩
/-- a tree says at least as much as another one -/
def TLe (t t' : T) : Prop := ∀ m v, TR m t v → TR m t' v
theorem TLe.r {t : T} : TLe t t := fun _ _ h => h
theorem TLe.fr {n : Nat} {t t' : T} (h : TLe t t') : TLe (.fr n t) t' := fun m v hv => by cases hv with | fr _ _ _ h1 _ => exact h m v h1
inductive LeL : List T → List T → Prop
  | nil : LeL [] []
  | cons {t t' : T} {l l' : List T} (h : TLe t t') (hl : LeL l l') : LeL (t :: l) (t' :: l')
theorem LeL.len {l l' : List T} (h : LeL l l') : l'.length = l.length := by
  induction h with
  | nil => rfl
  | cons _ _ ih => rw [List.length_cons, List.length_cons, ih]
theorem LeL.at {l l' : List T} (h : LeL l l') {j : Nat} {t' : T} (hj : l'[j]? = some t') : ∃ t, l[j]? = some t ∧ TLe t t' := by
  induction h generalizing j with
  | nil => simp at hj
  | cons h _ ih =>
    cases j with
    | zero => simp at hj; subst hj; exact ⟨_, rfl, h⟩
    | succ j => exact ih (by simpa using hj)
theorem TLe.agg {l l' : List T} (h : LeL l l') : TLe (.agg l) (.agg l') := fun m v hv => by
  cases hv with
  | agg _ vs h1 h2 h3 =>
    refine .agg _ vs (by rw [h1, h.len]) h2 fun j t' v hj hv => ?_
    obtain ⟨t, k1, k2⟩ := h.at hj
    exact k2 m v (h3 j t v k1 hv)
theorem TLe.sl {sz : Nat} {rows rows' : List (List T)} (hl : rows'.length = rows.length) (h : ∀ (k : Nat) r r', rows[k]? = some r → rows'[k]? = some r' → LeL r r') : TLe (.sl sz rows) (.sl sz rows') := fun m v hv => by
  cases hv with
  | sl _ _ A b off cap u hc hm hA hr hu ht =>
    have hat : ∀ (k : Nat) r', rows'[k]? = some r' → ∃ r, rows[k]? = some r ∧ LeL r r' := fun k r' hk => by
      have hlt : k < rows.length := by rw [← hl]; exact (List.getElem?_eq_some_iff.1 hk).1
      exact ⟨_, List.getElem?_eq_getElem hlt, h k _ _ (List.getElem?_eq_getElem hlt) hk⟩
    rw [← hl]
    refine .sl sz rows' A b off cap u (by rw [hl]; exact hc) hm (fun hne => hA fun e => hne (by rw [e] at hl; exact List.eq_nil_of_length_eq_zero hl)) (fun r' hr' => ?_) (fun k j r' t' hk hj => ?_) fun k j r' t' hk hj => ?_
    · obtain ⟨k, hk⟩ := List.getElem?_of_mem hr'
      obtain ⟨r, h1, h2⟩ := hat k r' hk
      rw [h2.len]; exact hr r (List.mem_of_getElem? h1)
    · obtain ⟨r, h1, h2⟩ := hat k r' hk
      obtain ⟨t, h3, _⟩ := h2.at hj
      exact hu k j r t h1 h3
    · obtain ⟨r, h1, h2⟩ := hat k r' hk
      obtain ⟨t, h3, h4⟩ := h2.at hj
      exact h4 m _ (ht k j r t h1 h3)
theorem TLe.map {α : Type} {sz : Nat} {f f' : α → List T} {xs : List α} (h : ∀ x, LeL (f x) (f' x)) : TLe (.sl sz (xs.map f)) (.sl sz (xs.map f')) := .sl (by simp) fun k r r' h1 h2 => by
  rw [List.getElem?_map] at h1 h2
  cases hx : xs[k]? with
  | none => rw [hx] at h1; cases h1
  | some x => rw [hx] at h1 h2; injection h1 with h1; injection h2 with h2; subst h1 h2; exact h x
theorem LeL.ok {l l' : List T} (h : LeL l' l) {m : Mm} {vals : Array Value} (hv : ∀ (i : Nat) t v, l'[i]? = some t → vals[i]? = some v → TR m t v) : ∀ (i : Nat) t v, l[i]? = some t → vals[i]? = some v → TR m t v := fun i t v h1 h2 => by
  obtain ⟨t', k1, k2⟩ := h.at h1
  exact k2 m v (hv i t' v k1 h2)
theorem PCallsA.p {P : Program} {f : FuncId} {args : List T} {r r' : T} (h : PCallsA P f args 0 r) (hr : TLe r r') : PCalls P f args r' where
  ent := h.ent
  run := fun m w vals hs hl hv hT => (h.run m w vals hs hl hv hT (Nat.zero_le _)).mono fun e w' ⟨v, m', h1, h2, h3, h4, h5, h6⟩ => ⟨v, m', h1, h2, h3, h4, hr m' v h5, h6⟩
theorem PCallsA.le {P : Program} {f : FuncId} {args args' : List T} {n : Nat} {r r' : T} (h : PCallsA P f args n r) (ha : LeL args' args) (hr : TLe r r') : PCallsA P f args' n r' where
  ent := h.ent
  run := fun m w vals hs hl hv hT hn => (h.run m w vals hs (by rw [hl, ha.len]) (ha.ok hv) hT hn).mono fun e w' ⟨v, m', h1, h2, h3, h4, h5, h6⟩ => ⟨v, m', h1, h2, h3, h4, hr m' v h5, h6⟩
theorem PCalls.le {P : Program} {f : FuncId} {args args' : List T} {r r' : T} (h : PCalls P f args r) (ha : LeL args' args) (hr : TLe r r') : PCalls P f args' r' where
  ent := h.ent
  run := fun m w vals hs hl hv hT => (h.run m w vals hs (by rw [hl, ha.len]) (ha.ok hv) hT).mono fun e w' ⟨v, m', h1, h2, h3, h4, h5, h6⟩ => ⟨v, m', h1, h2, h3, h4, hr m' v h5, h6⟩
theorem PCalls.a {P : Program} {f : FuncId} {args : List T} {r : T} (h : PCalls P f args r) (n : Nat) : PCallsA P f args n r where
  ent := h.ent
  run := fun m w vals hs hl hv hT _ => h.run m w vals hs hl hv hT
section
variable {P : Program} {N : Nat} {tm : List (Nat × A)} {bx : List (Nat × List A)} {ow : List (Nat × Own)} {o : Oper} {ρ : Operand → Option A}
theorem po_callA {f : FuncId} {xs : List Operand} {at_ : Array TypeId} {ts : List T} {r : T} (k n : Nat) (hb : get bx k = some [.lo n]) (hc : PCallsA P f ts n r) (ho : o.op = .call { callee := .value (.func f), args := xs.toArray, argTypes := at_ }) (ha : Args ow ρ xs ts) (hk : chB k = true := by rfl) : PureOp P bx ow o ρ (.t r) := by
  refine .mk fun C m g w a Q he h => ?_
  obtain ⟨hl, hv⟩ := ha.ok he (a := a) (fun x hx y hy => h x (by simp [ho, Op.operands, Call.operands, hx]) y hy)
  have hrun : (execOp a.eval o).run P w = .ok (.enter f (xs.map a.eval).toArray) w := by
    have := hc.ent (xs.map a.eval).toArray w
    simp only [execOp, ho, resolve, Deferred.ofValue, Act.eval, invoke, Sem.run_bind, Sem.run_pure, Result.andThen_ok, List.map_toArray, Array.append_empty, Array.empty_append, Array.append_eq_append, List.append_nil, List.nil_append] at this ⊢
    simpa using this
  exact wp_call_of hrun (hc.run m w _ he.sub (by simp [hl]) (fun i t v h1 h2 => hv i t v h1 (by simpa using h2)) he.gt (he.nb k n hk hb _ (.inl he.lo.size))) fun e w' ⟨v, m', h1, h2, h3, h4, h5, h6⟩ => ⟨v, h1, v, m', rfl, h2, h3, h4, h6, h5⟩
theorem po_callA_clo {f : FuncId} {x : Operand} {xs : List Operand} {at_ : Array TypeId} {ts caps : List T} {r : T} (k n : Nat) (hb : get bx k = some [.lo n]) (ho : o.op = .call { callee := .value x, args := xs.toArray, argTypes := at_ }) (hx : ρ x = some (.t (.clo f caps))) (ha : Args ow ρ xs ts) (hc : PCallsA P f (ts ++ caps) n r) (hk : chB k = true := by rfl) : PureOp P bx ow o ρ (.t r) := by
  refine .mk fun C m g w a Q he h => ?_
  obtain ⟨hl, hv⟩ := ha.ok he (a := a) (fun x hx y hy => h x (by simp [ho, Op.operands, Call.operands, hx]) y hy)
  have h1 : TR m (.clo f caps) (a.eval x) := h x (by simp [ho, Op.operands, Call.operands]) _ hx
  generalize hvx : a.eval x = v at h1
  cases h1 with
  | clo f caps vs hs ht =>
    have hrun : (execOp a.eval o).run P w = .ok (.enter f ((xs.map a.eval).toArray ++ vs)) w := by
      have := hc.ent ((xs.map a.eval).toArray ++ vs) w
      simp only [execOp, ho, resolve, Deferred.ofValue, hvx, invoke, Sem.run_bind, Sem.run_pure, Result.andThen_ok, List.map_toArray, Array.append_empty, Array.empty_append] at this ⊢
      simpa using this
    refine wp_call_of hrun (hc.run m w _ he.sub (by simp [hl, hs]) ?_ he.gt (he.nb k n hk hb _ (.inl he.lo.size))) fun e w' ⟨v, m', h1, h2, h3, h4, h5, h6⟩ => ⟨v, h1, v, m', rfl, h2, h3, h4, h6, h5⟩
    intro i t v h1 h2
    rw [List.getElem?_append] at h1
    rw [Array.getElem?_append] at h2
    by_cases hi : i < ts.length
    · rw [if_pos hi] at h1
      rw [if_pos (by simpa [hl] using hi)] at h2
      exact hv i t v h1 (by simpa using h2)
    · rw [if_neg hi] at h1
      rw [if_neg (by simpa [hl] using hi)] at h2
      refine ht _ t v h1 ?_
      simpa [hl] using h2
/-- rows seen, now said to be new -/
inductive MkA (bx : List (Nat × List A)) (ow : List (Nat × Own)) : A → A → Prop
  | keep (x : A) : MkA bx ow x x
  | own {i n lo k : Nat} {e : TypeId} {sz : Nat} {rows : List (List T)} (h : get ow i = some ⟨e, sz, rows⟩) (hk : get bx k = some [.lo lo]) (hn : n = rows.length) (hv : hid i = false := by rfl) (hc : chB k = true := by rfl) : MkA bx ow (.own i n) (.t (.fr lo (.sl sz rows)))
inductive MkL (bx : List (Nat × List A)) (ow : List (Nat × Own)) : List A → List A → Prop
  | nil : MkL bx ow [] []
  | cons {x y : A} {l l' : List A} (h : MkA bx ow x y) (hl : MkL bx ow l l') : MkL bx ow (x :: l) (y :: l')
theorem MkL.len {l l' : List A} (h : MkL bx ow l l') : l'.length = l.length := by
  induction h with
  | nil => rfl
  | cons _ _ ih => rw [List.length_cons, List.length_cons, ih]
theorem MkL.at {l l' : List A} (h : MkL bx ow l l') {j : Nat} {y : A} (hj : l'[j]? = some y) : ∃ x, l[j]? = some x ∧ MkA bx ow x y := by
  induction h generalizing j with
  | nil => simp at hj
  | cons h _ ih =>
    cases j with
    | zero => simp at hj; subst hj; exact ⟨_, rfl, h⟩
    | succ j => simp at hj; simpa using ih hj
theorem MkA.ok0 {C : Ctx} {w : World} {m : Mm} {g : Gh} (he : EnvG C bx ow w m g) {x y : A} (h : MkA bx ow x y) {v : Value} (hx : AR m g x v) : AR m g y v := by
  cases h with
  | keep => exact hx
  | @own i n lo k e sz rows h hk hn hv hc =>
    have h1 : TR m (.sl sz rows) v := Vw.ok (ow := ow) (.own h hn hv) he hx
    refine TR.fr lo _ v h1 fun b off l c hvb hl => ?_
    obtain ⟨_, _, _, hvg⟩ := hx
    have hg := hvg (by rw [he.ln i _ h]; exact hn)
    obtain ⟨vs, ho, _, _, hbk⟩ := he.owns i _ h
    refine he.nb k lo hc hk b ((hbk b ?_).2.2)
    rw [← hg, hvb]
    obtain ⟨_, h2 | ⟨g', cap, cur, h2, _⟩⟩ := ho
    · rw [← hg, hvb] at h2; injection h2.1 with e1; cases e1
    · rw [← hg, hvb] at h2; injection h2 with e1; injection e1 with e1; injection e1 with e1 e2; subst e1 e2; rfl
theorem weak_tmM (s : Nat) {x y : A} (hs : get tm s = some x) (h : MkA bx ow x y) : Weak N ⟨tm, bx, ow⟩ ⟨(s, y) :: tm, bx, ow⟩ := .mk fun C a w ⟨m, g, hr⟩ =>
  ⟨m, g, hr.env, hr.size, hr.defers, fun s' z hz => by
    rw [get_cons] at hz
    split at hz
    · rename_i e; subst e; injection hz with hz; subst hz; exact h.ok0 hr.env (hr.tmps s x hs)
    · exact hr.tmps s' z hz⟩
/-- the end of a function whose answer is a row of its own, marked -/
theorem swp_retM {P : Program} {N : Nat} {fn : Func} {st : St} {r : T} {s i n lo sz : Nat} {e : TypeId} {rows : List (List T)} (hr : r = .fr lo (.sl sz rows)) (hl : fn.results.toList = [.tmp s] := by exact rfl) (hs : get st.tm s = some (.own i n) := by exact rfl) (h : get st.ow i = some ⟨e, sz, rows⟩ := by exact rfl) (hk : get st.bx 3899 = some [.lo lo] := by exact rfl) (hn : n = rows.length := by first | rfl | (simp; done)) (hv : hid i = false := by rfl) : SWp P N .ret (RetQ P fn r) st :=
  swp_ret_weak (weak_tmM s hs (.own h hk hn hv)) (retq (.inr rfl) hl (.tmp (by rw [get_cons, if_pos rfl]) (.t _) .nil) hr)
theorem Vw.frnil {ow : List (Nat × Own)} (n sz : Nat) : Vw ow (.t (.v (.slice none 0 0))) (.fr n (.sl sz [])) := .le fun m v h => by
  rw [tr_v h]
  exact .fr _ _ _ (tr_nil m sz (Nat.zero_le _)) fun b o l c e hl => by injection e; simp_all
end
end Go.Proofs.YtnclifgiakmmoaaGreat.Sim

/- A resource said otherwise; a resource more. -/
namespace Go.Proofs.YtnclifgiakmmoaaGreat.Sim
set_option linter.unusedVariables false
set_option linter.unusedSimpArgs false
open Go.RowKit Mem
section
variable {C : Ctx} {bx : List (Nat × List A)} {ow : List (Nat × Own)} {w : World} {m : Mm} {g : Gh}
theorem EnvG.turn (he : EnvG C bx ow w m g) {i : Nat} {R R' : Rsc} (hc : chB i = true) (hb : get bx i = some [.rs R]) (hR : ∀ w m S rp, R.R w m S rp → R'.R w m S rp) : EnvG C ((i, [.rs R']) :: bx) ow w m g := by
  obtain ⟨r1, r2, r3⟩ := he.rs
  have hbx : ∀ k cs, get ((i, [A.rs R']) :: bx) k = some cs → (k = i ∧ cs = [A.rs R']) ∨ (k ≠ i ∧ get bx k = some cs) := fun k cs hk => by
    rw [get_cons] at hk
    by_cases e : i = k
    · subst e; rw [if_pos rfl] at hk; injection hk with hk; exact .inl ⟨rfl, hk.symm⟩
    · rw [if_neg e] at hk; exact .inr ⟨fun e' => e e'.symm, hk⟩
  have hbc : ∀ k cs, get ((i, [A.rs R']) :: bx) k = some cs → chB k = false → get bx k = some cs := fun k cs hk hck => by
    rcases hbx k cs hk with ⟨rfl, _⟩ | ⟨_, h⟩
    · rw [hc] at hck; cases hck
    · exact h
  have hrs : ∀ k R1, get ((i, [A.rs R']) :: bx) k = some [.rs R1] → ∃ R0, get bx k = some [.rs R0] ∧ ∀ w m S rp, R0.R w m S rp → R1.R w m S rp := fun k R1 hk => by
    rcases hbx k _ hk with ⟨rfl, h2⟩ | ⟨_, h⟩
    · injection h2 with h2; injection h2 with h2; subst h2; exact ⟨R, hb, hR⟩
    · exact ⟨R1, h, fun _ _ _ _ h => h⟩
  exact {
    lo := he.lo, gm := he.gm, sub := he.sub, ext := he.ext, gt := he.gt, nb := nb_cons he.nb (.inr fun n h => by cases h), nf := he.nf
    lb := fun k => by
      rw [get_cons]
      by_cases e : i = k
      · subst e; rw [if_pos rfl, he.lb i, hb]; rfl
      · rw [if_neg e]; exact he.lb k
    lw := he.lw, ln := he.ln
    boxes := fun k cs hk hck => he.boxes k cs (hbc k cs hk hck) hck
    inj := fun p q cp cq h1 h2 h3 h4 => he.inj p q cp cq (hbc p cp h1 h3) (hbc q cq h2 h4) h3 h4
    owns := fun k ok hk => by
      obtain ⟨us, h1, h2, h3, h4⟩ := he.owns k ok hk
      exact ⟨us, h1, h2, h3, fun c hcu => ⟨(h4 c hcu).1, fun q cs hq hcq => (h4 c hcu).2.1 q cs (hbc q cs hq hcq) hcq, (h4 c hcu).2.2⟩⟩
    apart := he.apart
    pin := he.pin
    pinb := fun k cs hk hk2 => by
      rcases hbx k cs hk with ⟨rfl, _⟩ | ⟨_, h⟩
      · exact he.pinb k _ hb hk2
      · exact he.pinb k cs h hk2
    rs := by
      refine ⟨fun k R1 hck hk => ?_, fun p q R1 R2 hcp hcq h1 h2 hpq c hcc => ?_, fun k cs hck hk hk2 => ?_⟩
      · obtain ⟨R0, h0, h1⟩ := hrs k R1 hk
        obtain ⟨e1, e2⟩ := r1 k R0 hck h0
        refine ⟨h1 _ _ _ _ e1, fun c hcs => ?_⟩
        obtain ⟨e3, e4, e5, e6⟩ := e2 c hcs
        exact ⟨e3, e4, fun q cs hq hcq => e5 q cs (hbc q cs hq hcq) hcq, e6⟩
      · obtain ⟨R01, h01, _⟩ := hrs p R1 h1
        obtain ⟨R02, h02, _⟩ := hrs q R2 h2
        exact r2 p q R01 R02 hcp hcq h01 h02 hpq c hcc
      · rcases hbx k cs hk with ⟨rfl, _⟩ | ⟨_, h⟩
        · exact r3 k _ hck hb hk2
        · exact r3 k cs hck h hk2 }
def Gh.addR (g : Gh) (i : Nat) (S : Nat → Bool) (rp : Key → Value) : Gh := { g with lb := fun k => if k = i then true else g.lb k, sf := fun k => if k = i then S else g.sf k, rp := fun k => if k = i then rp else g.rp k }
theorem ar_addR {x : A} {v : Value} {i : Nat} {S : Nat → Bool} {rp : Key → Value} (hi : g.lb i = false) (h : AR m g x v) : AR m (g.addR i S rp) x v := h.lift fun x v h => by
  have key : ∀ k, g.lb k = true → (g.addR i S rp).lb k = true := fun k hk => by show (if k = i then true else g.lb k) = true; rw [hk]; split <;> rfl
  have key2 : ∀ k, g.lb k = true → (g.addR i S rp).rp k = g.rp k := fun k hk => if_neg fun e => by rw [e, hi] at hk; cases hk
  cases x with
  | bp k off => exact ⟨key k h.1, h.2⟩
  | sb k n sz e => exact ⟨key k h.1, h.2⟩
  | rp k q => exact ⟨h.1, key k h.2.1, by rw [key2 k h.2.1]; exact h.2.2⟩
  | pr k q => exact ⟨h.1, key k h.2.1, by rw [key2 k h.2.1]; exact h.2.2⟩
  | _ => exact h
theorem EnvG.addR (he : EnvG C bx ow w m g) {i : Nat} {R : Rsc} {S : Nat → Bool} {rp : Key → Value} (hc : chB i = true) (hp : Nat.ble 2000 i = false) (hi : get bx i = none) (hR : R.R w m S rp)
    (hS : ∀ k, S k = true → C.mine k ∧ (∀ o, m k o = none) ∧ (∀ j cs, get bx j = some cs → chB j = false → g.gb j ≠ k) ∧ (∀ j o, get ow j = some o → (g.go j).ownBlock ≠ some k) ∧ ∀ j R', chB j = true → get bx j = some [.rs R'] → g.sf j k = false) :
    EnvG C ((i, [.rs R]) :: bx) ow w m (g.addR i S rp) := by
  obtain ⟨r1, r2, r3⟩ := he.rs
  have hli : g.lb i = false := by rw [he.lb, hi]; rfl
  have hbx : ∀ k cs, get ((i, [A.rs R]) :: bx) k = some cs → (k = i ∧ cs = [A.rs R]) ∨ (k ≠ i ∧ get bx k = some cs) := fun k cs hk => by
    rw [get_cons] at hk
    by_cases e : i = k
    · subst e; rw [if_pos rfl] at hk; injection hk with hk; exact .inl ⟨rfl, hk.symm⟩
    · rw [if_neg e] at hk; exact .inr ⟨fun e' => e e'.symm, hk⟩
  have hbc : ∀ k cs, get ((i, [A.rs R]) :: bx) k = some cs → chB k = false → get bx k = some cs := fun k cs hk hck => by
    rcases hbx k cs hk with ⟨rfl, _⟩ | ⟨_, h⟩
    · rw [hc] at hck; cases hck
    · exact h
  exact {
    lo := he.lo, gm := he.gm, sub := he.sub, ext := he.ext, gt := he.gt, nb := nb_cons he.nb (.inr fun n h => by cases h), nf := he.nf
    lb := fun k => by
      rw [get_cons]
      show (if k = i then true else g.lb k) = _
      by_cases e : k = i
      · subst e; simp
      · rw [if_neg e, if_neg (fun e' => e e'.symm)]; exact he.lb k
    lw := he.lw, ln := he.ln
    boxes := fun k cs hk hck => by
      obtain ⟨us, ty, h1, h2, h3, h4⟩ := he.boxes k cs (hbc k cs hk hck) hck
      exact ⟨us, ty, h1, h2, fun q x v hx hv => ⟨ar_addR hli (h3 q x v hx hv).1, (h3 q x v hx hv).2⟩, h4⟩
    inj := fun p q cp cq h1 h2 h3 h4 => he.inj p q cp cq (hbc p cp h1 h3) (hbc q cq h2 h4) h3 h4
    owns := fun k ok hk => by
      obtain ⟨us, h1, h2, h3, h4⟩ := he.owns k ok hk
      exact ⟨us, h1, h2, h3, fun c hcu => ⟨(h4 c hcu).1, fun q cs hq hcq => (h4 c hcu).2.1 q cs (hbc q cs hq hcq) hcq, (h4 c hcu).2.2⟩⟩
    apart := he.apart
    pin := he.pin
    pinb := fun k cs hk hk2 => by
      rcases hbx k cs hk with ⟨rfl, _⟩ | ⟨_, h⟩
      · rw [hp] at hk2; cases hk2
      · exact he.pinb k cs h hk2
    rs := by
      have hsf : ∀ k, (g.addR i S rp).sf k = if k = i then S else g.sf k := fun k => rfl
      have hrp : ∀ k, (g.addR i S rp).rp k = if k = i then rp else g.rp k := fun k => rfl
      have hrs : ∀ k R1, get ((i, [A.rs R]) :: bx) k = some [.rs R1] → (k = i ∧ R1 = R) ∨ (k ≠ i ∧ get bx k = some [.rs R1]) := fun k R1 hk => by
        rcases hbx k _ hk with ⟨h1, h2⟩ | h
        · injection h2 with h2; injection h2 with h2; exact .inl ⟨h1, h2⟩
        · exact .inr h
      refine ⟨fun k R1 hck hk => ?_, fun p q R1 R2 hcp hcq h1 h2 hpq c hcc => ?_, fun k cs hck hk hk2 => ?_⟩
      · rcases hrs k R1 hk with ⟨rfl, rfl⟩ | ⟨hne, hk⟩
        · rw [hsf, hrp, if_pos rfl, if_pos rfl]
          refine ⟨hR, fun c h => ?_⟩
          obtain ⟨e3, e4, e5, e6, _⟩ := hS c h
          exact ⟨e3, e4, fun q cs hq hcq => e5 q cs (hbc q cs hq hcq) hcq, e6⟩
        · rw [hsf, hrp, if_neg hne, if_neg hne]
          obtain ⟨e1, e2⟩ := r1 k R1 hck hk
          refine ⟨e1, fun c hcs => ?_⟩
          obtain ⟨e3, e4, e5, e6⟩ := e2 c hcs
          exact ⟨e3, e4, fun q cs hq hcq => e5 q cs (hbc q cs hq hcq) hcq, e6⟩
      · rcases hrs p R1 h1 with ⟨rfl, rfl⟩ | ⟨hne, k1⟩
        · rw [hsf, if_pos rfl] at hcc
          rcases hrs q R2 h2 with ⟨rfl, _⟩ | ⟨hne2, k2⟩
          · exact absurd rfl hpq
          · rw [hsf, if_neg hne2]; exact (hS c hcc).2.2.2.2 q R2 hcq k2
        · rw [hsf, if_neg hne] at hcc
          rcases hrs q R2 h2 with ⟨rfl, rfl⟩ | ⟨hne2, k2⟩
          · rw [hsf, if_pos rfl]
            cases hs : S c with
            | false => rfl
            | true => rw [(hS c hs).2.2.2.2 p R1 hcp k1] at hcc; cases hcc
          · rw [hsf, if_neg hne2]; exact r2 p q R1 R2 hcp hcq k1 k2 hpq c hcc
      · rcases hbx k cs hk with ⟨rfl, _⟩ | ⟨hne, h⟩
        · rw [hp] at hk2; cases hk2
        · rw [hrp, if_neg hne]; exact r3 k cs hck h hk2 }
/-- memory of a resource written -/
theorem EnvG.wrR (he : EnvG C bx ow w m g) {i b : Nat} {R : Rsc} {w' : World} (hc : chB i = true) (hb : get bx i = some [.rs R]) (hs : g.sf i b = true) (hgw : w.grownBy w' (some b)) (hR : R.R w' m (g.sf i) (g.rp i)) : EnvG C bx ow w' m g := by
  obtain ⟨r1, r2, r3⟩ := he.rs
  obtain ⟨_, hS⟩ := r1 i R hc hb
  obtain ⟨s1, s2, s3, s4⟩ := hS b hs
  have hother : ∀ k, k < w.heap.size → k ≠ b → w'.heap[k]? = w.heap[k]? := fun k hk hne => hgw.block k hk (fun e => hne (by injection e))
  have hmb : ∀ b' o u, m b' o = some u → b' ≠ b := fun b' o u hu e => by rw [e, s2 o] at hu; cases hu
  exact {
    lo := he.lo.grown hgw (fun k hk => by injection hk with hk; subst hk; exact s1)
    gm := he.gm
    sub := fun b' o u hu => by rw [World.cell?_of_block (a := ⟨b', o, none⟩) (hother b' (he.sub.lt hu) (hmb b' o u hu))]; exact he.sub b' o u hu
    ext := he.ext, gt := he.gt, lb := he.lb, lw := he.lw, ln := he.ln
    boxes := fun j cs hj hcj => by
      obtain ⟨vs, ty, h1, h2⟩ := he.boxes j cs hj hcj
      exact ⟨vs, ty, by rw [hother _ (block_lt h1) (s3 j cs hj hcj)]; exact h1, h2⟩
    inj := he.inj
    owns := fun j o hj => by
      obtain ⟨vs, h1, h2⟩ := he.owns j o hj
      refine ⟨vs, h1.kept hgw ?_, h2⟩
      cases hb : (g.go j).ownBlock with
      | none => exact .inl rfl
      | some c => exact .inr fun e => s4 j o hj (hb.trans e)
    apart := he.apart, pin := he.pin, pinb := he.pinb, nb := he.nb
    nf := fun b' o u hmi hu => by rw [nfB_eq (hother b' (he.sub.lt hu) (hmb b' o u hu))]; exact he.nf b' o u hmi hu
    rs := by
      refine ⟨fun k R1 hck hk => ?_, r2, r3⟩
      obtain ⟨e1, e2⟩ := r1 k R1 hck hk
      by_cases hki : k = i
      · subst hki
        rw [hb] at hk; injection hk with hk; injection hk with hk; injection hk with hk; subst hk
        exact ⟨hR, e2⟩
      · refine ⟨R1.loc (fun c hcs => hother c (R1.lt e1 hcs) (fun e => ?_)) (fun _ _ _ h => h) e1, e2⟩
        subst e
        rw [r2 k i R1 R hck hc hk hb hki c hcs] at hs; cases hs }
end
end Go.Proofs.YtnclifgiakmmoaaGreat.Sim
