/- Merged by bundles.py: SimRen, SimBld, SimFam, PlPath, SimPath1. -/
import Derived.Test.YtkmhaijefpgfiaaDoorQ8
import Derived.Scope
import Derived.Test.YtkmhaijefpgfiaaDoorQ0
import Derived.Test.YtkmhaijefpgfiaaDoorQ9
/- A logic of states: a row gets another number: a lent one becomes the call's own, a hidden one may be seen from then on. -/
namespace Go.Proofs.YtkmhaijefpgfiaaDoor.Sim
set_option linter.unusedVariables false
set_option linter.unusedSimpArgs false
open Go.RowKit Mem

def rn (i i' j : Nat) : Nat := bif Nat.beq j i then i' else j
theorem rn_same (i i' : Nat) : rn i i' i = i' := by unfold rn; rw [Nat.beq_refl]; rfl
theorem rn_other {i i' j : Nat} (h : j ≠ i) : rn i i' j = j := by
  unfold rn
  cases e : Nat.beq j i with
  | true => exact absurd (Nat.eq_of_beq_eq_true e) h
  | false => rfl
def renO (i i' : Nat) (ow : List (Nat × Own)) : List (Nat × Own) := ow.map fun p => (rn i i' p.1, p.2)
def renX (i i' : Nat) (bx : List (Nat × List A)) : List (Nat × List A) := bx.map fun p => (p.1, p.2.map (A.ren (fun k => k) (rn i i')))
def renT (i i' : Nat) (tm : List (Nat × A)) : List (Nat × A) := tm.map fun p => (p.1, A.ren (fun k => k) (rn i i') p.2)
theorem get_renO {i i' : Nat} {ow : List (Nat × Own)} (hn : get ow i' = none) (hne : i ≠ i') (j : Nat) : get (renO i i' ow) j = if j = i' then get ow i else if j = i then none else get ow j := by
  induction ow with
  | nil => simp [renO, get]
  | cons p r ih =>
    obtain ⟨k, x⟩ := p
    rw [get_cons] at hn
    split at hn
    · cases hn
    rename_i hk
    have ih := ih hn
    show get ((rn i i' k, x) :: renO i i' r) j = _
    rw [get_cons, get_cons, get_cons, ih]
    by_cases hki : k = i
    · subst hki
      rw [rn_same]
      by_cases hj : i' = j
      · subst hj; simp
      · have hj' : ¬ j = i' := fun e => hj e.symm
        by_cases hjk : j = k
        · subst hjk; simp [hj, hj']
        · have hkj : ¬ k = j := fun e => hjk e.symm
          simp [hj, hj', hjk, hkj]
    · rw [rn_other hki]
      by_cases hkj : k = j
      · subst hkj; simp [hk, hki]
      · simp [hkj, hki]
theorem get_renX {i i' : Nat} {bx : List (Nat × List A)} (j : Nat) : get (renX i i' bx) j = (get bx j).map fun cs => cs.map (A.ren (fun k => k) (rn i i')) := by
  induction bx with
  | nil => rfl
  | cons p r ih =>
    obtain ⟨k, x⟩ := p
    show get ((k, _) :: renX i i' r) j = _
    rw [get_cons, get_cons, ih]
    by_cases hkj : k = j
    · rw [if_pos hkj, if_pos hkj]; rfl
    · rw [if_neg hkj, if_neg hkj]
theorem get_renT {i i' : Nat} {tm : List (Nat × A)} (j : Nat) : get (renT i i' tm) j = (get tm j).map (A.ren (fun k => k) (rn i i')) := by
  induction tm with
  | nil => rfl
  | cons p r ih =>
    obtain ⟨k, x⟩ := p
    show get ((k, _) :: renT i i' r) j = _
    rw [get_cons, get_cons, ih]
    by_cases hkj : k = j
    · rw [if_pos hkj, if_pos hkj]; rfl
    · rw [if_neg hkj, if_neg hkj]
theorem EnvG.ren' {C : Ctx} {bx : List (Nat × List A)} {ow : List (Nat × Own)} {w : World} {m : Mm} {g : Gh} (he : EnvG C bx ow w m g) {i i' : Nat} {o : Own} (hi : get ow i = some o) (hh : hid i = true ∨ hid i' = false) (hn : get ow i' = none) (h2 : Nat.ble 2000 i' = false) :
    ∃ m' g', EnvG C (renX i i' bx) (renO i i' ow) w m' g' ∧ ∀ x v, AR m g x v → AR m' g' (x.ren (fun k => k) (rn i i')) v := by
  have hne : i ≠ i' := fun e => by rw [e, hn] at hi; cases hi
  obtain ⟨vs, hrow, hsz, hcells, hblk⟩ := he.owns i o hi
  have hO := fun j => get_renO hn hne j
  have hX := fun j => get_renX (i := i) (i' := i') (bx := bx) j
  have hlwi : g.lw i' = false := by rw [he.lw, hn]; rfl
  have hmm : ∀ b q u, m b q = some u → rowm m (g.go i) (vis i' vs) b q = some u := fun b q u hu => by
    unfold rowm
    split
    · rename_i hb
      rw [(hblk b hb).1 q] at hu
      rcases hh with hh | hh
      · rw [vis_hid hh] at hu; simp at hu
      · rw [vis_see hh]; exact vis_get hu
    · exact hu
  have hgoO : ∀ j, j ≠ i' → (if j = i' then g.go i else g.go j) = g.go j := fun j h => if_neg h
  have hlw' : ∀ j, g.lw j = true → j ≠ i' := fun j hj e => by rw [e, hlwi] at hj; cases hj
  have hget : ∀ j, g.lw j = true → (get (renO i i' ow) (rn i i' j)).isSome = true := fun j hj => by
    rw [hO]
    by_cases hji : j = i
    · subst hji; rw [rn_same, if_pos rfl, hi]; rfl
    · rw [rn_other hji, if_neg (hlw' j hj), if_neg hji, ← he.lw j]; exact hj
  let g' : Gh := { g with go := fun j => if j = i' then g.go i else g.go j, ln := fun j => if j = i' then g.ln i else g.ln j, lw := fun j => (get (renO i i' ow) j).isSome }
  have hgo : ∀ j, g.lw j = true → g'.go (rn i i' j) = g.go j := fun j hj => by
    by_cases hji : j = i
    · subst hji; rw [rn_same]; exact if_pos rfl
    · rw [rn_other hji]; exact if_neg (hlw' j hj)
  have hln : ∀ j, g.lw j = true → g'.ln (rn i i' j) = g.ln j := fun j hj => by
    by_cases hji : j = i
    · subst hji; rw [rn_same]; exact if_pos rfl
    · rw [rn_other hji]; exact if_neg (hlw' j hj)
  have hAR : ∀ x v, AR m g x v → AR (rowm m (g.go i) (vis i' vs)) g' (x.ren (fun k => k) (rn i i')) v := fun x v hx => by
    refine AR.mp (ren0 (fun k => k) (rn i i')) (fun _ => true) (fun x v _ hx => ?_) (by
      cases x <;> simp [A.allP, A.all1]
      intro y _; cases y <;> simp [A.all1]) hx
    cases x with
    | t x => exact TR.mono hmm hx
    | bp k off => exact hx
    | own j n =>
      obtain ⟨h1, h3, h4, h5⟩ := hx
      exact ⟨hget j h1, by rw [hln j h1]; exact h3, h4, fun e => by rw [hgo j h1]; exact h5 (by rw [hln j h1] at e; exact e)⟩
    | emp => exact hx
    | oe j n sz k off =>
      obtain ⟨h1, h3, h4, h5⟩ := hx
      exact ⟨hget j h1, by rw [hln j h1]; exact h3, h4, fun e => by rw [hgo j h1]; exact h5 (by rw [hln j h1] at e; exact e)⟩
    | any => trivial
    | sfx j n sz k =>
      obtain ⟨h1, h3, h4, h5⟩ := hx
      exact ⟨hget j h1, by rw [hln j h1]; exact h3, h4, fun e => by rw [hgo j h1]; exact h5 (by rw [hln j h1] at e; exact e)⟩
    | ag cs => exact hx
    | tu cs => exact hx
    | cl f cs => exact hx
  have hown : ∀ j oj, get (renO i i' ow) j = some oj → (j = i' ∧ oj = o) ∨ (j ≠ i' ∧ j ≠ i ∧ get ow j = some oj) := fun j oj hj => by
    rw [hO] at hj
    by_cases h1 : j = i'
    · rw [if_pos h1, hi] at hj; injection hj with hj; exact .inl ⟨h1, hj.symm⟩
    · rw [if_neg h1] at hj
      by_cases h3 : j = i
      · rw [if_pos h3] at hj; cases hj
      · rw [if_neg h3] at hj; exact .inr ⟨h1, h3, hj⟩
  have hgo1 : g'.go i' = g.go i := if_pos rfl
  have hgo2 : ∀ j, j ≠ i' → g'.go j = g.go j := fun j h => if_neg h
  refine ⟨rowm m (g.go i) (vis i' vs), g', {
    lo := he.lo
    gm := he.gm
    sub := fun b q u hu => by
      unfold rowm at hu
      split at hu
      · rename_i hb
        have := hrow.cells hb q u (vis_get hu)
        rwa [addr_add, Nat.zero_add] at this
      · exact he.sub b q u hu
    ext := ⟨fun b q u hu => hmm b q u (he.ext.keep b q u hu), fun b q hb hgb => by
      unfold rowm
      by_cases hvv : (g.go i).ownBlock = some b
      · rcases (hblk b hvv).2.2 with h1 | h1
        · omega
        · rw [hgb] at h1; cases h1
      · rw [if_neg hvv]; exact he.ext.old b q hb hgb⟩
    lb := fun j => by
      rw [hX, Option.isSome_map]; exact he.lb j
    lw := fun j => rfl
    ln := fun j oj hj => by
      rcases hown j oj hj with ⟨h1, h3⟩ | ⟨h1, h3, h4⟩
      · subst h1 h3; show (if j = j then g.ln i else g.ln j) = _; rw [if_pos rfl]; exact he.ln i _ hi
      · show (if j = i' then g.ln i else g.ln j) = _; rw [if_neg h1]; exact he.ln j _ h4
    boxes := fun j cs hj => by
      rw [hX] at hj
      cases hb : get bx j with
      | none => rw [hb] at hj; cases hj
      | some cs0 =>
        rw [hb] at hj
        have hj : cs0.map (A.ren (fun k => k) (rn i i')) = cs := by simpa using hj
        subst hj
        obtain ⟨vs2, ty, h1, h3, h4, h5, h6⟩ := he.boxes j cs0 hb
        refine ⟨vs2, ty, h1, by simpa using h3, fun q x u hx hu => ?_, h5, fun q => ?_⟩
        · rw [List.getElem?_map] at hx
          cases hc : cs0[q]? with
          | none => rw [hc] at hx; cases hx
          | some y =>
            rw [hc] at hx
            have hx : A.ren (fun k => k) (rn i i') y = x := by simpa using hx
            subst hx
            exact ⟨hAR _ _ (h4 q y u hc hu).1, (h4 q y u hc hu).2⟩
        · show rowm m (g.go i) (vis i' vs) (g.gb j) q = none
          unfold rowm
          rw [if_neg (fun e => (hblk _ e).2.1 j cs0 hb rfl)]
          exact h6 q
    inj := fun j k cj ck hj hk e => by
      rw [hX] at hj hk
      cases hb : get bx j with
      | none => rw [hb] at hj; cases hj
      | some c1 =>
        cases hb2 : get bx k with
        | none => rw [hb2] at hk; cases hk
        | some c2 => exact he.inj j k c1 c2 hb hb2 e
    owns := fun j oj hj => by
      rcases hown j oj hj with ⟨h1, h3⟩ | ⟨h1, h3, h4⟩
      · subst h1 h3
        rw [hgo1]
        refine ⟨vs, hrow, hsz, hcells.mono hmm, fun b hb => ⟨fun k => ?_, fun q cs hq => ?_, (hblk b hb).2.2⟩⟩
        · unfold rowm; rw [if_pos hb]
        · rw [hX] at hq
          cases hb2 : get bx q with
          | none => rw [hb2] at hq; cases hq
          | some c2 => exact (hblk b hb).2.1 q c2 hb2
      · rw [hgo2 j h1]
        obtain ⟨vs2, k1, k2, k3, k4⟩ := he.owns j oj h4
        refine ⟨vs2, k1, k2, k3.mono hmm, fun b hb => ⟨fun k => ?_, fun q cs hq => ?_, (k4 b hb).2.2⟩⟩
        · unfold rowm
          rw [if_neg (fun e => he.apart i j o oj hi h4 (fun e => h3 e.symm) b e hb)]
          exact (k4 b hb).1 k
        · rw [hX] at hq
          cases hb2 : get bx q with
          | none => rw [hb2] at hq; cases hq
          | some c2 => exact (k4 b hb).2.1 q c2 hb2
    apart := fun j k oj ok hj hk hjk b hb => by
      rcases hown j oj hj with ⟨h1, h3⟩ | ⟨h1, h3, h4⟩
      · rcases hown k ok hk with ⟨k1, k3⟩ | ⟨k1, k3, k4⟩
        · exact absurd (h1.trans k1.symm) hjk
        · subst h1; rw [hgo1] at hb; rw [hgo2 k k1]
          exact he.apart i k o ok hi k4 (fun e => k3 e.symm) b hb
      · rw [hgo2 j h1] at hb
        rcases hown k ok hk with ⟨k1, k3⟩ | ⟨k1, k3, k4⟩
        · subst k1; rw [hgo1]
          exact he.apart j i oj o h4 hi h3 b hb
        · rw [hgo2 k k1]
          exact he.apart j k oj ok h4 k4 hjk b hb
    pin := fun j oj hj hj2 => by
      rcases hown j oj hj with ⟨h1, h3⟩ | ⟨h1, h3, h4⟩
      · rw [h1, h2] at hj2; cases hj2
      · rw [hgo2 j h1]; exact he.pin j oj h4 hj2
    pinb := fun j cs hj hj2 => by
      rw [hX] at hj
      cases hb : get bx j with
      | none => rw [hb] at hj; cases hj
      | some c1 => exact he.pinb j c1 hb hj2 }, hAR⟩
theorem EnvG.ren {C : Ctx} {bx : List (Nat × List A)} {ow : List (Nat × Own)} {w : World} {m : Mm} {g : Gh} (he : EnvG C bx ow w m g) {i i' : Nat} {o : Own} (hi : get ow i = some o) (hh : hid i = true) (hn : get ow i' = none) (h2 : Nat.ble 2000 i' = false) :
    ∃ m' g', EnvG C (renX i i' bx) (renO i i' ow) w m' g' ∧ ∀ x v, AR m g x v → AR m' g' (x.ren (fun k => k) (rn i i')) v := he.ren' hi (.inl hh) hn h2
/-- a box's cell, read in another way -/
theorem weak_renv {N : Nat} {tm tm' : List (Nat × A)} {bx bx' : List (Nat × List A)} {ow ow' : List (Nat × Own)} (i i' : Nat) {o : Own} (hi : get ow i = some o) (hh : hid i' = false) (hn : get ow i' = none) (h2 : Nat.ble 2000 i' = false)
    (h3 : renT i i' tm = tm') (h4 : renX i i' bx = bx') (h5 : renO i i' ow = ow') : Weak N ⟨tm, bx, ow⟩ ⟨tm', bx', ow'⟩ := .mk fun C a w ⟨m, g, hr⟩ => by
  subst h3 h4 h5
  obtain ⟨m', g', h6, h7⟩ := hr.env.ren' hi (.inr hh) hn h2
  refine ⟨m', g', h6, hr.size, hr.defers, fun s x hx => ?_⟩
  rw [get_renT] at hx
  cases ht : get tm s with
  | none => rw [ht] at hx; cases hx
  | some y =>
    rw [ht] at hx
    have hx : A.ren (fun k => k) (rn i i') y = x := by simpa using hx
    subst hx
    exact h7 _ _ (hr.tmps s y ht)
end Go.Proofs.YtkmhaijefpgfiaaDoor.Sim

/- A logic of states: a literal that holds what the call owns. -/
namespace Go.Proofs.YtkmhaijefpgfiaaDoor.Sim
set_option linter.unusedVariables false
set_option linter.unusedSimpArgs false
open Go.RowKit Mem
section
variable {P : Program} {bx : List (Nat × List A)} {ow : List (Nat × Own)} {o : Oper} {ρ : Operand → Option A} {r : A}
end
/-- a scope through which the run goes without a jump -/
def nogF (Q : Exit → St → Prop) : Exit → St → Prop
  | .goto _, _ => False
  | e, st => Q e st
structure NoG (Q : Exit → St → Prop) (e : Exit) (st : St) : Prop where
  go : nogF Q e st
theorem swp_scope {P : Program} {N : Nat} {Q : Exit → St → Prop} {c : Code} {st : St} (h : SWp P N c (NoG Q) st) : SWp P N (.scope c) Q st := .mk fun C a w hr =>
  wp_scope_straight (Code.wp_mono (fun e a' w' ⟨st', hr', hq⟩ => by
    cases e with
    | goto l => exact absurd hq.go id
    | _ => exact ⟨st', hr', hq.go⟩) (h.go C a w hr))
theorem nog_r {Q : Exit → St → Prop} {st : St} (h : Q .ret st) : NoG Q .ret st := ⟨h⟩
end Go.Proofs.YtkmhaijefpgfiaaDoor.Sim

/- A logic of states: a loop whose rounds bear data. -/
namespace Go.Proofs.YtkmhaijefpgfiaaDoor.Sim
set_option linter.unusedVariables false
set_option linter.unusedSimpArgs false
open Go.RowKit Mem
section
variable {P : Program} {N : Nat} {Q : Exit → St → Prop} {st : St}
def famF {α : Type} (N : Nat) (S : α → St) (I : α → Prop) (μ : α → Nat) (x : α) (Q : Exit → St → Prop) : Exit → St → Prop
  | .normal, s' => ∃ y, μ y < μ x ∧ I y ∧ Weak N s' (S y)
  | e, s' => Q e s'
structure FamQ {α : Type} (N : Nat) (S : α → St) (I : α → Prop) (μ : α → Nat) (x : α) (Q : Exit → St → Prop) (e : Exit) (s' : St) : Prop where
  go : famF N S I μ x Q e s'
theorem fam_next {α : Type} {S : α → St} {I : α → Prop} {μ : α → Nat} {x : α} {s' : St} (y : α) (hm : μ y < μ x) (hw : Weak N s' (S y)) (hI : I y) : FamQ N S I μ x Q .normal s' := ⟨⟨y, hm, hI, hw⟩⟩
theorem fam_ret {α : Type} {S : α → St} {I : α → Prop} {μ : α → Nat} {x : α} {s' : St} (h : Q .ret s') : FamQ N S I μ x Q .ret s' := ⟨h⟩
theorem fam_exit {α : Type} {S : α → St} {I : α → Prop} {μ : α → Nat} {x : α} {s' : St} {id : Nat} (h : Q (.exit id) s') : FamQ N S I μ x Q (.exit id) s' := ⟨h⟩
/-- a loop whose rounds bear data that a measure counts down -/
theorem swp_fam {α : Type} {c : Code} (S : α → St) (I : α → Prop) (μ : α → Nat) (x0 : α) (h0 : Weak N st (S x0)) (hI : I x0) (hround : ∀ x, I x → SWp P N c (FamQ N S I μ x Q) (S x)) : SWp P N (.loop c) Q st := by
  refine .mk fun C a w hr => ?_
  have key : ∀ n x a w, μ x = n → I x → Rel C N (S x) a w → ∀ (b : Frame) (k : List Item) (cs : List Frame), ∃ e a' w', Good C N Q e a' w' ∧ Arrives P (lone (b.at a (.code c :: .inLoop c :: k)) cs w) b k cs e a' w' := by
    intro n
    induction n using Nat.strongRecOn with
    | _ n ih =>
      intro x a w hn hi hr b k cs
      obtain ⟨e, a1, w1, ⟨s1, hr1, hq⟩, harr⟩ := (hround x hi).go C a w hr b (.inLoop c :: k) cs
      cases e with
      | normal =>
        obtain ⟨y, hm, hi', hw⟩ := hq.go
        obtain ⟨e2, a2, w2, hq2, harr2⟩ := ih (μ y) (by omega) y a1 w1 rfl hi' (hw.go C a1 w1 hr1) b k cs
        exact ⟨e2, a2, w2, hq2, .of_steps (Steps.trans harr (.one step_inLoop)) harr2⟩
      | exit id => exact ⟨_, a1, w1, ⟨s1, hr1, hq.go⟩, .pass (x := .inLoop c) rfl (fun _ _ => .inl (by simp)) harr⟩
      | goto l => exact ⟨_, a1, w1, ⟨s1, hr1, hq.go⟩, .pass (x := .inLoop c) rfl (fun _ _ => .inl (by simp)) harr⟩
      | ret => exact ⟨_, a1, w1, ⟨s1, hr1, hq.go⟩, .pass (x := .inLoop c) rfl (fun _ _ => .inl (by simp)) harr⟩
      | panic ch => exact ⟨_, a1, w1, ⟨s1, hr1, hq.go⟩, .pass (x := .inLoop c) rfl (fun _ _ => .inl (by simp)) harr⟩
      | outgrown => exact ⟨_, a1, w1, ⟨s1, hr1, hq.go⟩, .pass (x := .inLoop c) rfl (fun _ _ => .inl (by simp)) harr⟩
  intro b k cs
  obtain ⟨e, a', w', hq, harr⟩ := key _ x0 a w rfl hI (h0.go C a w hr) b k cs
  exact ⟨e, a', w', hq, .of_steps (.one step_loop) harr⟩
end
end Go.Proofs.YtkmhaijefpgfiaaDoor.Sim

/- Targets' paths, in plain Lean. -/
namespace Go.Proofs.YtkmhaijefpgfiaaDoor.Pth
set_option linter.unusedVariables false
set_option linter.unusedSimpArgs false
open Mem
abbrev L8 := List UInt8
/-- a hexadecimal digit's number -/
def dig (c : UInt8) : Int := if 48 ≤ c.toNat ∧ c.toNat ≤ 57 then (c.toNat : Int) - 48 else if 97 ≤ c.toNat ∧ c.toNat ≤ 102 then (c.toNat : Int) - 97 + 10 else if 65 ≤ c.toNat ∧ c.toNat ≤ 70 then (c.toNat : Int) - 65 + 10 else -1
theorem dig_rng (c : UInt8) : -1 ≤ dig c ∧ dig c ≤ 15 := by unfold dig; split <;> (try split) <;> (try split) <;> omega
def plainB (c : UInt8) : Bool := (decide (97 ≤ c.toNat) && decide (c.toNat ≤ 122)) || (decide (65 ≤ c.toNat) && decide (c.toNat ≤ 90)) || (decide (48 ≤ c.toNat) && decide (c.toNat ≤ 57)) || [45, 46, 95, 126].any (· == c)
def hiddenB (c : UInt8) : Bool := decide (c.toNat < 32) || decide (c.toNat = 127) || decide (c.toNat = 47) || decide (c.toNat = 92)
def badC (c : UInt8) : Bool := decide (c.toNat < 33) || decide (126 < c.toNat) || [34, 35, 60, 62, 92, 94, 96, 123, 124, 125].any (· == c)
/-- two digits that a % wants behind it -/
def pctB : L8 → Bool
  | a :: b :: _ => decide (0 ≤ dig a) && decide (0 ≤ dig b)
  | _ => false
def okL : L8 → Bool
  | [] => true
  | c :: l => !badC c && (!decide (c = 37) || pctB l) && okL l
def mayL (s : L8) : Bool := decide (s.length ≤ 512) && decide (s.head? = some 47) && okL s
def hexU (n : Int) : UInt8 := if n < 10 then (48 + n).toNat.toUInt8 else (55 + n).toNat.toUInt8
def num2 (a b : UInt8) : UInt8 := (16 * dig a + dig b).toNat.toUInt8
/-- what a text says by %: the bytes; false: one may not be -/
def saidL (bad : UInt8 → Bool) : L8 → L8 × Bool
  | [] => ([], true)
  | c :: l => if c = 37 then match l with
      | a :: b :: l' =>
        if bad (num2 a b) then ([], false)
        else if plainB (num2 a b) then (num2 a b :: (saidL bad l').1, (saidL bad l').2)
        else (37 :: hexU (dig a) :: hexU (dig b) :: (saidL bad l').1, (saidL bad l').2)
      | _ => ([], true)
    else (c :: (saidL bad l).1, (saidL bad l).2)
/-- the segments of a road behind its first byte -/
def splL : L8 → List L8
  | [] => [[]]
  | c :: l => if c = 47 then [] :: splL l else match splL l with
    | [] => [[c]]
    | h :: t => (c :: h) :: t
def dotB (s : L8) : Bool := decide (s = []) || decide (s = [46]) || decide (s = [46, 46])
/-- one segment more -/
def keep1 (left : List L8) (s : L8) : Option (List L8) := if s = [46, 46] then (if left = [] then none else some left.dropLast) else if dotB s then some left else some (left ++ [s])
def keptF : List L8 → Bool → List L8 → Option (List L8 × Bool)
  | left, dir, [] => some (left, dir)
  | left, _, s :: l => match keep1 left s with
    | none => none
    | some left' => keptF left' (dotB s) l
def keptL (road : L8) : Option (List L8 × Bool) := (keptF [] false (splL (road.drop 1))).map fun x => (x.1, x.2 && decide (x.1 ≠ []))
def joinL (dir : Bool) (l : List L8) : L8 := 47 :: ([47] : L8).intercalate l ++ (if dir && decide (l ≠ []) then [47] else [])
def cutL (s : L8) : L8 × L8 := (s.takeWhile (· != 63), (s.dropWhile (· != 63)).drop 1)
def normL (s : L8) : Option (L8 × L8) :=
  if mayL s then
    match keptL (saidL hiddenB (cutL s).1).1 with
    | none => none
    | some (left, dir) => if (saidL hiddenB (cutL s).1).2 then some (joinL dir left, (saidL (fun _ => false) (cutL s).2).1) else none
  else none
theorem splL_cons (c : UInt8) (l : L8) : splL (c :: l) = if c = 47 then [] :: splL l else match splL l with
    | [] => [[c]]
    | h :: t => (c :: h) :: t := rfl
theorem splL_yes : ∀ l : L8, l.findIdx (· == 47) < l.length → splL l = l.take (l.findIdx (· == 47)) :: splL (l.drop (l.findIdx (· == 47) + 1))
  | [], h => by simp at h
  | c :: l, h => by
    rw [List.findIdx_cons] at h ⊢
    rw [splL_cons]
    by_cases hc : c = 47
    · subst hc; simp
    · rw [if_neg hc]
      have e : (c == 47) = false := by simpa using hc
      rw [e] at h ⊢
      simp only [cond_false, List.length_cons] at h ⊢
      rw [splL_yes l (by omega)]
      simp
theorem splL_no : ∀ l : L8, ¬ l.findIdx (· == 47) < l.length → splL l = [l]
  | [], _ => rfl
  | c :: l, h => by
    rw [List.findIdx_cons] at h
    rw [splL_cons]
    by_cases hc : c = 47
    · subst hc; simp at h
    · rw [if_neg hc]
      have e : (c == 47) = false := by simpa using hc
      rw [e] at h
      simp only [cond_false, List.length_cons] at h
      rw [splL_no l (by omega)]
theorem splL_ne (l : L8) : splL l ≠ [] := by
  by_cases h : l.findIdx (· == 47) < l.length
  · rw [splL_yes l h]; simp
  · rw [splL_no l h]; simp
end Go.Proofs.YtkmhaijefpgfiaaDoor.Pth

/- Targets: digits, bytes, what may be, what is said by %: walks. -/
namespace Go.Proofs.YtkmhaijefpgfiaaDoor.Pth
set_option linter.unusedVariables false
set_option linter.unusedSimpArgs false
open Go.RowKit Mem Sim Opn Str
theorem idx_any (l : List UInt8) (c : UInt8) : decide (0 ≤ Lib.indexByte l c) = l.any (· == c) := by
  rw [idx_list]
  by_cases h : l.findIdx (· == c) < l.length
  · rw [if_pos h, decide_eq_true (by omega)]
    exact (List.any_eq_true.2 (by
      have := List.findIdx_getElem (w := h)
      exact ⟨_, List.getElem_mem h, this⟩)).symm
  · rw [if_neg h, decide_eq_false (by decide)]
    refine (List.any_eq_false.2 fun x hx hc => h ?_).symm
    exact List.findIdx_lt_length_of_exists ⟨x, hx, hc⟩
theorem dig_ways (n : Nat) : n < 48 ∨ (48 ≤ n ∧ n ≤ 57) ∨ (57 < n ∧ n < 65) ∨ (65 ≤ n ∧ n ≤ 70) ∨ (70 < n ∧ n < 97) ∨ (97 ≤ n ∧ n ≤ 102) ∨ 102 < n := by omega
theorem let_ways (n : Nat) : n < 48 ∨ (48 ≤ n ∧ n ≤ 57) ∨ (57 < n ∧ n < 65) ∨ (65 ≤ n ∧ n ≤ 90) ∨ (90 < n ∧ n < 97) ∨ (97 ≤ n ∧ n ≤ 122) ∨ 122 < n := by omega
theorem ext_bs (l : List UInt8) (a b : Nat) : (bs l).extract a b = bs ((l.take b).drop a) := bs_inj (by
  rw [bs_toList, ByteArray.toList_eq, ByteArray.data_extract]
  simp [bs, List.extract_eq_take_drop, List.drop_take])
set_option maxRecDepth 100000 in
theorem digit_ (c : UInt8) : PCalls Tryd.prog 30 [.v (.int .u8 (c.toNat : Int))] (.v (.int .i64 (dig c))) := by
  have hlt := c.toNat_lt
  unfold dig
  generalize c.toNat = n at *
  refine pcalls_of Tryd.func30 rfl rfl Tryd.ntmps30 rfl ?_
  rcases dig_ways n with h | h | h | h | h | h | h
  all_goals
    repeat' (first | (refine rg 0 ?_; refine oAs ?_; refine oN ?_) | (refine rg 1 ?_; refine oMv ?_; refine oCm ?_; refine oMv ?_; (first | refine oMv ?_ | refine oK ?_ | ((refine ssp (fun hc => ?_) (fun hc => ?_)) <;> first | refine oMv ?_ | refine oK ?_)) <;> (first | refine oCm ?_ | refine oK ?_) <;> (first | refine oPt ?_ | refine oPf ?_) <;> (refine oAs ?_) <;> (refine oN ?_)) | (refine rg 2 ?_; refine oMv ?_; (first | refine sp (po_dec rfl rfl rfl (by omega)) ?_ | refine sp (po_arith rfl rfl rfl (ar_sub (by first | rfl | (refine wrap_i64 ?_; omega) | (refine wrap_u8 ?_; omega)) rfl)) ?_); refine sp (po_conv_int rfl rfl (tyK rfl) (tyK rfl) (by first | (refine wrap_i64 ?_; omega) | (refine wrap_u8 ?_; omega) | rfl)) ?_; refine oAs ?_; refine oN ?_) | (refine rg 3 ?_; refine oMv ?_; refine oCm ?_; refine oMv ?_; (first | refine oMv ?_ | refine oK ?_ | ((refine ssp (fun hc => ?_) (fun hc => ?_)) <;> first | refine oMv ?_ | refine oK ?_)) <;> (first | refine oCm ?_ | refine oK ?_) <;> (first | refine oPt ?_ | refine oPf ?_) <;> (refine oAs ?_) <;> (refine oN ?_)) | (refine rg 4 ?_; refine oMv ?_; (first | refine sp (po_dec rfl rfl rfl (by omega)) ?_ | refine sp (po_arith rfl rfl rfl (ar_sub (by first | rfl | (refine wrap_i64 ?_; omega) | (refine wrap_u8 ?_; omega)) rfl)) ?_); refine sp (po_conv_int rfl rfl (tyK rfl) (tyK rfl) (by first | (refine wrap_i64 ?_; omega) | (refine wrap_u8 ?_; omega) | rfl)) ?_; (first | refine sp (xinc rfl) ?_ | refine sp (po_arith rfl rfl rfl (ar_add (by first | rfl | (refine wrap_i64 ?_; omega) | (refine wrap_u8 ?_; omega)) rfl)) ?_); refine oAs ?_; refine oN ?_) | (refine rg 5 ?_; refine oMv ?_; refine oCm ?_; refine oMv ?_; (first | refine oMv ?_ | refine oK ?_ | ((refine ssp (fun hc => ?_) (fun hc => ?_)) <;> first | refine oMv ?_ | refine oK ?_)) <;> (first | refine oCm ?_ | refine oK ?_) <;> (first | refine oPt ?_ | refine oPf ?_) <;> (refine oAs ?_) <;> (refine oN ?_)) | (refine rg 6 ?_; refine oMv ?_; (first | refine sp (po_dec rfl rfl rfl (by omega)) ?_ | refine sp (po_arith rfl rfl rfl (ar_sub (by first | rfl | (refine wrap_i64 ?_; omega) | (refine wrap_u8 ?_; omega)) rfl)) ?_); refine sp (po_conv_int rfl rfl (tyK rfl) (tyK rfl) (by first | (refine wrap_i64 ?_; omega) | (refine wrap_u8 ?_; omega) | rfl)) ?_; (first | refine sp (xinc rfl) ?_ | refine sp (po_arith rfl rfl rfl (ar_add (by first | rfl | (refine wrap_i64 ?_; omega) | (refine wrap_u8 ?_; omega)) rfl)) ?_); refine oAs ?_; refine oN ?_) | (refine rg 7 ?_; refine oAs ?_; refine oN ?_) | refine gc ?_ | refine ct ?_ | refine cf ?_ | refine swp_cond rfl (fun hc => ?_) (fun hc => ?_) | refine rq rfl (rt .nil) ?_)
    first
      | (rw [if_pos (by omega)]; rfl)
      | (rw [if_neg (by omega), if_pos (by omega)]; rfl)
      | (rw [if_neg (by omega), if_neg (by omega), if_pos (by omega)]; rfl)
      | (rw [if_neg (by omega), if_neg (by omega), if_neg (by omega)]; rfl)
set_option maxRecDepth 100000 in
theorem plain_ (c : UInt8) : PCalls Tryd.prog 32 [.v (.int .u8 (c.toNat : Int))] (.v (.bool (plainB c))) := by
  have hc := indexByte_ (bs [45, 46, 95, 126]) c
  have hi : decide (0 ≤ Lib.indexByte (bs [45, 46, 95, 126]).data.toList c) = ([45, 46, 95, 126] : List UInt8).any (· == c) := idx_any _ c
  unfold plainB
  generalize ([45, 46, 95, 126] : List UInt8).any (· == c) = b at *
  generalize Lib.indexByte (bs [45, 46, 95, 126]).data.toList c = z at *
  generalize c.toNat = n at *
  refine pcalls_of Tryd.func32 rfl rfl Tryd.ntmps32 rfl ?_
  rcases let_ways n with h | h | h | h | h | h | h
  all_goals
    repeat' (first | (refine rg 0 ?_; refine oAs ?_; refine oN ?_) | (refine rg 1 ?_; refine oMv ?_; refine oCm ?_; refine oMv ?_; (first | refine oMv ?_ | refine oK ?_ | ((refine ssp (fun hc => ?_) (fun hc => ?_)) <;> first | refine oMv ?_ | refine oK ?_)) <;> (first | refine oCm ?_ | refine oK ?_) <;> (first | refine oPt ?_ | refine oPf ?_) <;> (refine oMv ?_) <;> (first | refine oMv ?_ | refine oK ?_ | ((refine ssp (fun hc => ?_) (fun hc => ?_)) <;> first | refine oMv ?_ | refine oK ?_)) <;> (first | refine oCm ?_ | refine oK ?_) <;> (first | refine oMv ?_ | refine oK ?_) <;> (first | refine oMv ?_ | refine oK ?_ | ((refine ssp (fun hc => ?_) (fun hc => ?_)) <;> first | refine oMv ?_ | refine oK ?_)) <;> (first | refine oCm ?_ | refine oK ?_) <;> (first | refine oPt ?_ | refine oPf ?_ | refine oK ?_) <;> (first | refine oPt ?_ | refine oPf ?_) <;> (refine oMv ?_) <;> (first | refine oMv ?_ | refine oK ?_ | ((refine ssp (fun hc => ?_) (fun hc => ?_)) <;> first | refine oMv ?_ | refine oK ?_)) <;> (first | refine oCm ?_ | refine oK ?_) <;> (first | refine oMv ?_ | refine oK ?_) <;> (first | refine oMv ?_ | refine oK ?_ | ((refine ssp (fun hc => ?_) (fun hc => ?_)) <;> first | refine oMv ?_ | refine oK ?_)) <;> (first | refine oCm ?_ | refine oK ?_) <;> (first | refine oPt ?_ | refine oPf ?_ | refine oK ?_) <;> (first | refine oPt ?_ | refine oPf ?_) <;> (refine oMv ?_) <;> (first | refine oMv ?_ | refine oK ?_ | ((refine ssp (fun hc => ?_) (fun hc => ?_)) <;> first | refine oMv ?_ | refine oK ?_)) <;> (first | refine oC (hc) rfl (ac (ac .nil)) ?_ | refine oK ?_) <;> (first | refine oCm ?_ | refine oK ?_) <;> (first | refine oPt ?_ | refine oPf ?_) <;> (refine oAs ?_) <;> (refine oN ?_)) | refine gc ?_ | refine ct ?_ | refine cf ?_ | refine swp_cond rfl (fun hc => ?_) (fun hc => ?_) | refine rq rfl (rt .nil) ?_)
    refine eq_b ?_
    subst hi
    rw [Bool.eq_iff_iff]
    simp at *; try omega
set_option maxRecDepth 100000 in
theorem hidden_ (c : UInt8) : PCalls Tryd.prog 22 [.v (.int .u8 (c.toNat : Int))] (.v (.bool (hiddenB c))) := by
  unfold hiddenB
  generalize c.toNat = n at *
  refine pcalls_of Tryd.func22 rfl rfl Tryd.ntmps22 rfl ?_
  repeat' (first | (refine rg 0 ?_; refine oAs ?_; refine oN ?_) | (refine rg 1 ?_; refine oMv ?_; refine oCm ?_; refine oMv ?_; (first | refine oMv ?_ | refine oK ?_ | ((refine ssp (fun hc => ?_) (fun hc => ?_)) <;> first | refine oMv ?_ | refine oK ?_)) <;> (first | refine oCm ?_ | refine oK ?_) <;> (first | refine oPt ?_ | refine oPf ?_) <;> (refine oMv ?_) <;> (first | refine oMv ?_ | refine oK ?_ | ((refine ssp (fun hc => ?_) (fun hc => ?_)) <;> first | refine oMv ?_ | refine oK ?_)) <;> (first | refine oCm ?_ | refine oK ?_) <;> (first | refine oPt ?_ | refine oPf ?_) <;> (refine oMv ?_) <;> (first | refine oMv ?_ | refine oK ?_ | ((refine ssp (fun hc => ?_) (fun hc => ?_)) <;> first | refine oMv ?_ | refine oK ?_)) <;> (first | refine oCm ?_ | refine oK ?_) <;> (first | refine oPt ?_ | refine oPf ?_) <;> (refine oAs ?_) <;> (refine oN ?_)) | refine gc ?_ | refine ct ?_ | refine cf ?_ | refine swp_cond rfl (fun hc => ?_) (fun hc => ?_) | refine rq rfl (rt .nil) ?_)
  all_goals
    refine eq_b ?_
    rw [Bool.eq_iff_iff]
    simp at *; try omega
set_option maxRecDepth 100000 in
theorem none_ (c : UInt8) : PCalls Tryd.prog 23 [.v (.int .u8 (c.toNat : Int))] (.v (.bool false)) := by
  refine pcalls_of Tryd.func23 rfl rfl Tryd.ntmps23 rfl ?_
  repeat' (first | (refine rg 0 ?_; refine oAs ?_; refine oN ?_) | (refine rg 1 ?_; refine oAs ?_; refine oN ?_) | refine gc ?_ | refine ct ?_ | refine cf ?_ | refine swp_cond rfl (fun hc => ?_) (fun hc => ?_) | refine rq rfl (rt .nil) ?_)
  rfl
end Go.Proofs.YtkmhaijefpgfiaaDoor.Pth
