/- Merged by bundles.py: SimRen, SimSb. -/
import Derived.Test.YtnclifgiakmmoaaC11
import Derived.Lib.SliceRun
import Derived.Test.YtnclifgiakmmoaaC13
/- A logic of states: a row gets another number: a lent one becomes the call's own, a hidden one may be seen from then on. -/
namespace Go.Proofs.Ytnclifgiakmmoaa.Sim
set_option linter.unusedVariables false
set_option linter.unusedSimpArgs false
open Go.RowKit Mem

def rn (i i' j : Nat) : Nat := bif Nat.beq j i then i' else j
theorem rn_same (i i' : Nat) : rn i i' i = i' := by unfold rn; rw [Nat.beq_refl]; rfl
theorem rn_other {i i' j : Nat} (h : j ≠ i) : rn i i' j = j := by
  unfold rn
  cases e : Nat.beq j i with
  | true => exact absurd (Nat.eq_of_beq_eq_true e) h
  | false => rfl
def renO (i i' : Nat) (ow : List (Nat × Own)) : List (Nat × Own) := ow.map fun p => (rn i i' p.1, p.2)
def renX (i i' : Nat) (bx : List (Nat × List A)) : List (Nat × List A) := bx.map fun p => (p.1, p.2.map (A.ren (fun k => k) (rn i i')))
theorem get_renO {i i' : Nat} {ow : List (Nat × Own)} (hn : get ow i' = none) (hne : i ≠ i') (j : Nat) : get (renO i i' ow) j = if j = i' then get ow i else if j = i then none else get ow j := by
  induction ow with
  | nil => simp [renO, get]
  | cons p r ih =>
    obtain ⟨k, x⟩ := p
    rw [get_cons] at hn
    split at hn
    · cases hn
    rename_i hk
    have ih := ih hn
    show get ((rn i i' k, x) :: renO i i' r) j = _
    rw [get_cons, get_cons, get_cons, ih]
    by_cases hki : k = i
    · subst hki
      rw [rn_same]
      by_cases hj : i' = j
      · subst hj; simp
      · have hj' : ¬ j = i' := fun e => hj e.symm
        by_cases hjk : j = k
        · subst hjk; simp [hj, hj']
        · have hkj : ¬ k = j := fun e => hjk e.symm
          simp [hj, hj', hjk, hkj]
    · rw [rn_other hki]
      by_cases hkj : k = j
      · subst hkj; simp [hk, hki]
      · simp [hkj, hki]
theorem get_renX {i i' : Nat} {bx : List (Nat × List A)} (j : Nat) : get (renX i i' bx) j = (get bx j).map fun cs => cs.map (A.ren (fun k => k) (rn i i')) := by
  induction bx with
  | nil => rfl
  | cons p r ih =>
    obtain ⟨k, x⟩ := p
    show get ((k, _) :: renX i i' r) j = _
    rw [get_cons, get_cons, ih]
    by_cases hkj : k = j
    · rw [if_pos hkj, if_pos hkj]; rfl
    · rw [if_neg hkj, if_neg hkj]
theorem EnvG.ren' {C : Ctx} {bx : List (Nat × List A)} {ow : List (Nat × Own)} {w : World} {m : Mm} {g : Gh} (he : EnvG C bx ow w m g) {i i' : Nat} {o : Own} (hi : get ow i = some o) (hh : hid i = true ∨ hid i' = false) (hn : get ow i' = none) (h2 : Nat.ble 2000 i' = false) :
    ∃ m' g', EnvG C (renX i i' bx) (renO i i' ow) w m' g' ∧ ∀ x v, AR m g x v → AR m' g' (x.ren (fun k => k) (rn i i')) v := by
  have hne : i ≠ i' := fun e => by rw [e, hn] at hi; cases hi
  obtain ⟨vs, hrow, hsz, hcells, hblk⟩ := he.owns i o hi
  have hO := fun j => get_renO hn hne j
  have hX := fun j => get_renX (i := i) (i' := i') (bx := bx) j
  have hlwi : g.lw i' = false := by rw [he.lw, hn]; rfl
  have hmm : ∀ b q u, m b q = some u → rowm m (g.go i) (vis i' vs) b q = some u := fun b q u hu => by
    unfold rowm
    split
    · rename_i hb
      rw [(hblk b hb).1 q] at hu
      rcases hh with hh | hh
      · rw [vis_hid hh] at hu; simp at hu
      · rw [vis_see hh]; exact vis_get hu
    · exact hu
  have hgoO : ∀ j, j ≠ i' → (if j = i' then g.go i else g.go j) = g.go j := fun j h => if_neg h
  have hlw' : ∀ j, g.lw j = true → j ≠ i' := fun j hj e => by rw [e, hlwi] at hj; cases hj
  have hget : ∀ j, g.lw j = true → (get (renO i i' ow) (rn i i' j)).isSome = true := fun j hj => by
    rw [hO]
    by_cases hji : j = i
    · subst hji; rw [rn_same, if_pos rfl, hi]; rfl
    · rw [rn_other hji, if_neg (hlw' j hj), if_neg hji, ← he.lw j]; exact hj
  let g' : Gh := { g with go := fun j => if j = i' then g.go i else g.go j, ln := fun j => if j = i' then g.ln i else g.ln j, lw := fun j => (get (renO i i' ow) j).isSome }
  have hgo : ∀ j, g.lw j = true → g'.go (rn i i' j) = g.go j := fun j hj => by
    by_cases hji : j = i
    · subst hji; rw [rn_same]; exact if_pos rfl
    · rw [rn_other hji]; exact if_neg (hlw' j hj)
  have hln : ∀ j, g.lw j = true → g'.ln (rn i i' j) = g.ln j := fun j hj => by
    by_cases hji : j = i
    · subst hji; rw [rn_same]; exact if_pos rfl
    · rw [rn_other hji]; exact if_neg (hlw' j hj)
  have hAR : ∀ x v, AR m g x v → AR (rowm m (g.go i) (vis i' vs)) g' (x.ren (fun k => k) (rn i i')) v := fun x v hx => by
    refine AR.mp (ren0 (fun k => k) (rn i i')) (fun _ => true) (fun x v _ hx => ?_) (by
      cases x <;> simp [A.allP, A.all1]
      intro y _; cases y <;> simp [A.all1]) hx
    cases x with
    | t x => exact TR.mono hmm hx
    | bp k off => exact hx
    | sb k n sz e => exact hx
    | own j n =>
      obtain ⟨h1, h3, h4, h5⟩ := hx
      exact ⟨hget j h1, by rw [hln j h1]; exact h3, h4, fun e => by rw [hgo j h1]; exact h5 (by rw [hln j h1] at e; exact e)⟩
    | emp => exact hx
    | oe j n sz k off =>
      obtain ⟨h1, h3, h4, h5⟩ := hx
      exact ⟨hget j h1, by rw [hln j h1]; exact h3, h4, fun e => by rw [hgo j h1]; exact h5 (by rw [hln j h1] at e; exact e)⟩
    | any => trivial
    | sfx j n sz k =>
      obtain ⟨h1, h3, h4, h5⟩ := hx
      exact ⟨hget j h1, by rw [hln j h1]; exact h3, h4, fun e => by rw [hgo j h1]; exact h5 (by rw [hln j h1] at e; exact e)⟩
    | ag cs => exact hx
    | tu cs => exact hx
    | cl f cs => exact hx
  have hown : ∀ j oj, get (renO i i' ow) j = some oj → (j = i' ∧ oj = o) ∨ (j ≠ i' ∧ j ≠ i ∧ get ow j = some oj) := fun j oj hj => by
    rw [hO] at hj
    by_cases h1 : j = i'
    · rw [if_pos h1, hi] at hj; injection hj with hj; exact .inl ⟨h1, hj.symm⟩
    · rw [if_neg h1] at hj
      by_cases h3 : j = i
      · rw [if_pos h3] at hj; cases hj
      · rw [if_neg h3] at hj; exact .inr ⟨h1, h3, hj⟩
  have hgo1 : g'.go i' = g.go i := if_pos rfl
  have hgo2 : ∀ j, j ≠ i' → g'.go j = g.go j := fun j h => if_neg h
  refine ⟨rowm m (g.go i) (vis i' vs), g', {
    lo := he.lo
    gm := he.gm
    sub := fun b q u hu => by
      unfold rowm at hu
      split at hu
      · rename_i hb
        have := hrow.cells hb q u (vis_get hu)
        rwa [addr_add, Nat.zero_add] at this
      · exact he.sub b q u hu
    gt := fun b q u ht => hmm b q u (he.gt b q u ht)
    ext := ⟨fun b q u hu => hmm b q u (he.ext.keep b q u hu), fun b q hb hgb => by
      unfold rowm
      by_cases hvv : (g.go i).ownBlock = some b
      · rcases (hblk b hvv).2.2 with h1 | h1
        · omega
        · rw [hgb] at h1; cases h1
      · rw [if_neg hvv]; exact he.ext.old b q hb hgb⟩
    lb := fun j => by
      rw [hX, Option.isSome_map]; exact he.lb j
    lw := fun j => rfl
    ln := fun j oj hj => by
      rcases hown j oj hj with ⟨h1, h3⟩ | ⟨h1, h3, h4⟩
      · subst h1 h3; show (if j = j then g.ln i else g.ln j) = _; rw [if_pos rfl]; exact he.ln i _ hi
      · show (if j = i' then g.ln i else g.ln j) = _; rw [if_neg h1]; exact he.ln j _ h4
    boxes := fun j cs hj => by
      rw [hX] at hj
      cases hb : get bx j with
      | none => rw [hb] at hj; cases hj
      | some cs0 =>
        rw [hb] at hj
        have hj : cs0.map (A.ren (fun k => k) (rn i i')) = cs := by simpa using hj
        subst hj
        obtain ⟨vs2, ty, h1, h3, h4, h5, h6⟩ := he.boxes j cs0 hb
        refine ⟨vs2, ty, h1, by simpa using h3, fun q x u hx hu => ?_, h5, fun q => ?_⟩
        · rw [List.getElem?_map] at hx
          cases hc : cs0[q]? with
          | none => rw [hc] at hx; cases hx
          | some y =>
            rw [hc] at hx
            have hx : A.ren (fun k => k) (rn i i') y = x := by simpa using hx
            subst hx
            exact ⟨hAR _ _ (h4 q y u hc hu).1, (h4 q y u hc hu).2⟩
        · show rowm m (g.go i) (vis i' vs) (g.gb j) q = none
          unfold rowm
          rw [if_neg (fun e => (hblk _ e).2.1 j cs0 hb rfl)]
          exact h6 q
    inj := fun j k cj ck hj hk e => by
      rw [hX] at hj hk
      cases hb : get bx j with
      | none => rw [hb] at hj; cases hj
      | some c1 =>
        cases hb2 : get bx k with
        | none => rw [hb2] at hk; cases hk
        | some c2 => exact he.inj j k c1 c2 hb hb2 e
    owns := fun j oj hj => by
      rcases hown j oj hj with ⟨h1, h3⟩ | ⟨h1, h3, h4⟩
      · subst h1 h3
        rw [hgo1]
        refine ⟨vs, hrow, hsz, hcells.mono hmm, fun b hb => ⟨fun k => ?_, fun q cs hq => ?_, (hblk b hb).2.2⟩⟩
        · unfold rowm; rw [if_pos hb]
        · rw [hX] at hq
          cases hb2 : get bx q with
          | none => rw [hb2] at hq; cases hq
          | some c2 => exact (hblk b hb).2.1 q c2 hb2
      · rw [hgo2 j h1]
        obtain ⟨vs2, k1, k2, k3, k4⟩ := he.owns j oj h4
        refine ⟨vs2, k1, k2, k3.mono hmm, fun b hb => ⟨fun k => ?_, fun q cs hq => ?_, (k4 b hb).2.2⟩⟩
        · unfold rowm
          rw [if_neg (fun e => he.apart i j o oj hi h4 (fun e => h3 e.symm) b e hb)]
          exact (k4 b hb).1 k
        · rw [hX] at hq
          cases hb2 : get bx q with
          | none => rw [hb2] at hq; cases hq
          | some c2 => exact (k4 b hb).2.1 q c2 hb2
    apart := fun j k oj ok hj hk hjk b hb => by
      rcases hown j oj hj with ⟨h1, h3⟩ | ⟨h1, h3, h4⟩
      · rcases hown k ok hk with ⟨k1, k3⟩ | ⟨k1, k3, k4⟩
        · exact absurd (h1.trans k1.symm) hjk
        · subst h1; rw [hgo1] at hb; rw [hgo2 k k1]
          exact he.apart i k o ok hi k4 (fun e => k3 e.symm) b hb
      · rw [hgo2 j h1] at hb
        rcases hown k ok hk with ⟨k1, k3⟩ | ⟨k1, k3, k4⟩
        · subst k1; rw [hgo1]
          exact he.apart j i oj o h4 hi h3 b hb
        · rw [hgo2 k k1]
          exact he.apart j k oj ok h4 k4 hjk b hb
    pin := fun j oj hj hj2 => by
      rcases hown j oj hj with ⟨h1, h3⟩ | ⟨h1, h3, h4⟩
      · rw [h1, h2] at hj2; cases hj2
      · rw [hgo2 j h1]; exact he.pin j oj h4 hj2
    pinb := fun j cs hj hj2 => by
      rw [hX] at hj
      cases hb : get bx j with
      | none => rw [hb] at hj; cases hj
      | some c1 => exact he.pinb j c1 hb hj2 }, hAR⟩
theorem EnvG.ren {C : Ctx} {bx : List (Nat × List A)} {ow : List (Nat × Own)} {w : World} {m : Mm} {g : Gh} (he : EnvG C bx ow w m g) {i i' : Nat} {o : Own} (hi : get ow i = some o) (hh : hid i = true) (hn : get ow i' = none) (h2 : Nat.ble 2000 i' = false) :
    ∃ m' g', EnvG C (renX i i' bx) (renO i i' ow) w m' g' ∧ ∀ x v, AR m g x v → AR m' g' (x.ren (fun k => k) (rn i i')) v := he.ren' hi (.inl hh) hn h2
end Go.Proofs.Ytnclifgiakmmoaa.Sim

/- A logic of states: a row of the call's own, seen as a box. -/
namespace Go.Proofs.Ytnclifgiakmmoaa.Sim
set_option linter.unusedVariables false
set_option linter.unusedSimpArgs false
open Go.RowKit Mem

theorem fz_ok {i : Nat} (h : wnB i = true) (n : Nat) (t : Tag) : FzOk (fzOf i n t) n := by
  unfold fzOf; rw [h]
  cases e : Nat.beq t.cap 0
  · exact .inr (Nat.le_add_right _ _)
  · exact .inl rfl
theorem fz_tag {i : Nat} (h : wnB i = true) {fz : Nat × Nat} {n : Nat} (hf : FzOk fz n) (ty : TypeId) : ∃ t : Tag, t.ty = ty ∧ fzOf i n t = fz := by
  rcases hf with h1 | h1
  · refine ⟨⟨ty, 0, fz.1, 0⟩, rfl, ?_⟩
    unfold fzOf; rw [h]; show (fz.1, 0) = fz; rw [← h1]
  · refine ⟨⟨ty, 1, fz.1 - n, fz.2⟩, rfl, ?_⟩
    unfold fzOf; rw [h]; show (n + (fz.1 - n), fz.2) = fz
    rw [show n + (fz.1 - n) = fz.1 by omega]
section
variable {P : Program} {bx : List (Nat × List A)} {ow : List (Nat × Own)} {o : Oper} {ρ : Operand → Option A} {r : A}
theorem po_index_sb {t : TypeId} {x ix : Operand} {i nn sz k : Nat} {n : Int} {ik : IntKind} (ho : o.op = .indexAddr t x ix) {e : TypeId} (hx : ρ x = some (.sb i nn sz e)) (hix : ρ ix = some (.t (.v (.int ik n)))) (hT : sliceSz P t = some sz) (hn : n = (k : Int)) (hk : k < nn) : PureOp P bx ow o ρ (.bp i (k * sz)) := pure_run fun C m g w a he h => by
  obtain ⟨h1, cap, h2, _⟩ := h x (by simp [ho, Op.operands]) _ hx
  have h5 := tr_v (h ix (by simp [ho, Op.operands]) _ hix)
  obtain ⟨e', ii, hu, hie, hs⟩ := sliceSz_spec hT
  subst hn
  have hlt : (k : Int) < (nn : Int) := by omega
  refine ⟨.pointer (some ⟨g.gb i, k * sz, none⟩), ?_, h1, rfl⟩
  simp [execOp, ho, h2, h5, Instr.indexAt, asIntOf, run_underlying hu, sizeOf, typeInfo, hie, hs, hk, addr_add]
theorem po_load_wn {ty : TypeId} {x : Operand} {i off n : Nat} {cs : List A} (ho : o.op = .load ty x) (hx : ρ x = some (.bp i off)) (hT : tyI P ty = some (false, n)) (hb : get bx i = some cs) (ht : cs[off]? = some r) (hq : wnB i = true := by rfl) : PureOp P bx ow o ρ r := pure_run fun C m g w a he h => by
  obtain ⟨_, h1⟩ := h x (by simp [ho, Op.operands]) _ hx
  obtain ⟨vs, ty', hh, hs, hc, _, _⟩ := he.boxes i cs hb
  rw [ob_win hq] at hh
  have hlt : off < vs.size := Nat.lt_of_lt_of_le (List.getElem?_eq_some_iff.1 ht).1 hs.1
  have hcell : w.cell? ⟨g.gb i, off, none⟩ = some vs[off] := by simp [World.cell?, hh, hlt]
  exact ⟨vs[off], by simp [execOp, ho, h1, run_load_scalar hT hcell], (hc off r _ ht (by simp [hlt])).1⟩
end
section
variable {P : Program} {N : Nat} {Q : Exit → St → Prop} {ops : Array Oper} {rest : List Oper} {o : Oper} {tm : List (Nat × A)} {bx : List (Nat × List A)} {ow : List (Nat × Own)}
theorem sops_store_wn {ty : TypeId} {x z : Operand} {y : A} {i off n : Nat} {ag : Bool} {cs : List A} (hg : GuardIs ops tm o true) (ho : o.op = .store ty x z) (hd : o.dst = none) (hx : evA tm x = some (.bp i off)) (hz : evA tm z = some y) (hk : y.okB = true)
    (hb : get bx i = some cs) (hT : tyI P ty = some (ag, n)) (hn : y.cells.length = n) (hfit : off + n ≤ cs.length)
    (h : SOps P N ops Q rest ⟨tm, (i, spl cs off y.cells) :: bx, ow⟩) (hq : wnB i = true := by rfl) : SOps P N ops Q (o :: rest) ⟨tm, bx, ow⟩ := by
  refine .mk fun C a w ⟨m, g, hr⟩ => ?_
  obtain ⟨_, h1⟩ := hr.ev hx
  have hv := acells_ok (hr.ev hz) hk
  obtain ⟨vs, ty', hh, hs, hc, hw0, hm⟩ := hr.env.boxes i cs hb
  rw [ob_win hq] at hh
  obtain ⟨d', i', hu, hi', _, hsz⟩ := tyI_spec hT
  have hlen : (a.eval z).cells.toList.length = n := by rw [hv.1, hn]
  have hst := run_storeCells_atM P (g.gb i) off ty'.ty (fzOf i vs.size ty') (a.eval z).cells.toList 0 vs w hh (fz_ok hq _ _) (by rw [hlen, Nat.add_zero]; exact Nat.le_trans hfit hs.1) hv.one
  rw [Nat.add_zero] at hst
  generalize hvs' : (vs.toList.take off ++ (a.eval z).cells.toList ++ vs.toList.drop (off + (a.eval z).cells.toList.length)).toArray = vs' at hst
  have hle := hs.1
  have hsize : vs'.size = vs.size := by rw [← hvs']; simp; simp at hlen; omega
  have hcl : (spl cs off y.cells).length = cs.length := by unfold spl; simp; omega
  have hcells : ∀ (k : Nat) x v, (spl cs off y.cells)[k]? = some x → vs'[k]? = some v → AR m g x v ∧ v.oneCell' = true := by
    have hc' : ACells m g cs (vs.toList.take cs.length) := ⟨by simp; omega, fun j t v h2 h3 => by
      rw [List.getElem?_take] at h3
      split at h3
      · exact hc j t v h2 (by simpa using h3)
      · cases h3⟩
    have hca : ACells m g (spl cs off y.cells) ((vs.toList.take cs.length).take off ++ ((a.eval z).cells.toList ++ (vs.toList.take cs.length).drop (off + y.cells.length))) := by
      unfold spl
      exact (hc'.take off).app (hv.app (hc'.drop _))
    intro k x v hx hv'
    refine hca.2 k x v hx ?_
    have hkl : k < cs.length := by rw [← hcl]; exact (List.getElem?_eq_some_iff.1 hx).1
    rw [← hvs'] at hv'
    simp only [List.getElem?_toArray] at hv'
    rw [hv.1, List.append_assoc] at hv'
    by_cases h1' : k < off
    · rw [List.getElem?_append_left (by simp; omega)] at hv'
      rw [List.getElem?_append_left (by simp; omega), List.getElem?_take_of_lt h1', List.getElem?_take_of_lt hkl]
      rw [List.getElem?_take_of_lt h1'] at hv'
      exact hv'
    · rw [List.getElem?_append_right (by simp; omega)] at hv' ⊢
      have e1 : (vs.toList.take off).length = off := by simp; omega
      have e2 : ((vs.toList.take cs.length).take off).length = off := by simp; omega
      rw [e1] at hv'
      rw [e2]
      by_cases h2' : k - off < y.cells.length
      · rw [List.getElem?_append_left (by rw [hv.1]; exact h2')] at hv' ⊢
        exact hv'
      · rw [List.getElem?_append_right (by rw [hv.1]; omega)] at hv' ⊢
        rw [List.getElem?_drop] at hv' ⊢
        rw [hv.1] at hv' ⊢
        rw [List.getElem?_take_of_lt (by omega)]
        exact hv'
  refine wpList_step fun K hK => ?_
  rw [if_pos (hg.wanted (m := m) (g := g) fun j want e _ _ y hy => hr.tmps e y hy)]
  have hrun : (execOp a.eval o).run P w = .ok .skip (w.setRow (g.gb i) vs') := by
    have hsz' : (a.eval z).cells.size = i'.size := by rw [hsz]; simpa using hlen
    have hsv : (storeVar ty ⟨g.gb i, off, none⟩ (a.eval z)).run P w = .ok () (w.setRow (g.gb i) vs') := by
      generalize a.eval z = u at *
      simp [storeVar, sizeOf, typeInfo, hi', hsz']
      simpa [hsz'] using hst
    simp only [execOp, ho, h1, Instr.storeAt, Instr.sureAddr, Sem.run_bind, Sem.run_pure, Result.andThen_ok, hsv]
  unfold Oper.wp
  rw [hrun, Oper.upon_skip]
  refine hK _ _ (h.go C _ _ ⟨m, g, ?_⟩)
  rw [hd]
  refine hr.put_none (hr.env.setAtW (ty := ty') hb (grown_setRow w (g.gb i) vs') ?_ ⟨by omega, fun h => (by rw [hq] at h; cases h), fun h => by rw [hsize]; exact hs.2.2 h⟩ hcells) (fun x v h => h)
  rw [ob_win hq, hsize]
  exact setRow_heap w (g.gb i) vs vs' ty'.ty _ hh
end
/-- a leaf where row i has become box j -/
def sb0 (i j len sz : Nat) (e : TypeId) : A → A
  | .own k n => bif Nat.beq k i then (bif Nat.beq n len then .sb j n sz e else .any) else .own k n
  | .oe k n sz kk off => bif Nat.beq k i then .any else .oe k n sz kk off
  | .sfx k n sz kk => bif Nat.beq k i then .any else .sfx k n sz kk
  | x => x
def A.tsb (i j len sz : Nat) (e : TypeId) (x : A) := x.mapA (sb0 i j len sz e)
section
variable {C : Ctx} {bx : List (Nat × List A)} {ow : List (Nat × Own)} {w : World} {m : Mm} {g : Gh}
/-- a row that is the call's alone, seen as a box -/
theorem EnvG.toBox (he : EnvG C bx ow w m g) {i j : Nat} {o : Own} (hi : get ow i = some o) (hh : hid i = true) (h2 : Nat.ble 2000 i = false) (hn : 0 < o.rows.length) (hj : get bx j = none) (hw : wnB j = true) :
    ∃ g', EnvG C ((j, o.rows.flatten.map .t) :: bx.map fun p => (p.1, p.2.map (A.tsb i j o.rows.length o.sz o.e))) (ow.filter (fun p => !(Nat.beq p.1 i))) w m g' ∧ ∀ x v, AR m g x v → AR m g' (x.tsb i j o.rows.length o.sz o.e) v := by
  obtain ⟨vs, hown, hrl, hca, hbk⟩ := he.owns i o hi
  obtain ⟨b, cap, cur, e1, e2, ⟨fz, e3, e3f⟩, e4, e5, e6, e7⟩ := own_form hown hn
  have hob : (g.go i).ownBlock = some b := by rw [e1]; rfl
  obtain ⟨hmv, hbx, hmine⟩ := hbk b hob
  have hmb : ∀ k, m b k = none := fun k => by rw [hmv k, vis_hid hh]; rfl
  have hlbj : g.lb j = false := by rw [he.lb, hj]; rfl
  let g' : Gh := { g with gb := fun k => if k = j then b else g.gb k, lb := fun k => if k = j then true else g.lb k, lw := fun k => if k = i then false else g.lw k, cz := fun k => if k = j then (cap * o.sz, o.e) else g.cz k }
  have hgb : ∀ k, k ≠ j → g'.gb k = g.gb k := fun k hk => if_neg hk
  have hgj : g'.gb j = b := if_pos rfl
  have hget : ∀ k, get (ow.filter (fun p => !(Nat.beq p.1 i))) k = if k = i then none else get ow k := fun k => by
    refine (get_filter (fun k => !(Nat.beq k i)) ow k).trans ?_
    by_cases hk : k = i
    · subst hk; rw [if_pos rfl, if_neg]; rw [show Nat.beq k k = true from Nat.beq_refl _]; simp
    · rw [if_neg hk, if_pos]
      cases hb : Nat.beq k i with
      | true => exact absurd (Nat.eq_of_beq_eq_true hb) hk
      | false => rfl
  have hlw : ∀ k, k ≠ i → g.lw k = true → g'.lw k = true := fun k hk h => by show (if k = i then false else g.lw k) = true; rw [if_neg hk]; exact h
  have L0 : ∀ x v, AR0 m g x v → AR0 m g' (sb0 i j o.rows.length o.sz o.e x) v := by
    intro x v hx
    cases x with
    | bp k off =>
      obtain ⟨h1, h2⟩ := hx
      have hk : k ≠ j := fun e => by subst e; rw [hlbj] at h1; cases h1
      exact ⟨by show (if k = j then true else g.lb k) = true; rw [if_neg hk]; exact h1, by rw [hgb k hk]; exact h2⟩
    | sb k n sz e =>
      obtain ⟨h1, cap', h2, h3, h4, h5⟩ := hx
      have hk : k ≠ j := fun e => by subst e; rw [hlbj] at h1; cases h1
      exact ⟨by show (if k = j then true else g.lb k) = true; rw [if_neg hk]; exact h1, cap', by rw [hgb k hk]; exact h2, h3, h4, fun hw => by show _ ≤ (if k = j then (cap * o.sz, o.e) else g.cz k).1 ∧ (if k = j then (cap * o.sz, o.e) else g.cz k).2 = e; rw [if_neg hk]; exact h5 hw⟩
    | own k n =>
      show AR0 m g' (bif Nat.beq k i then (bif Nat.beq n o.rows.length then .sb j n o.sz o.e else .any) else .own k n) v
      obtain ⟨h1, h2, h3, h4⟩ := hx
      cases hb : Nat.beq k i with
      | true =>
        obtain rfl := Nat.eq_of_beq_eq_true hb
        cases hl : Nat.beq n o.rows.length with
        | false => trivial
        | true =>
          obtain rfl := Nat.eq_of_beq_eq_true hl
          refine ⟨if_pos rfl, cap, ?_, e4, e5, fun _ => by show _ ≤ (if j = j then (cap * o.sz, o.e) else g.cz j).1 ∧ (if j = j then (cap * o.sz, o.e) else g.cz j).2 = o.e; rw [if_pos rfl]; exact ⟨Nat.le_refl _, rfl⟩⟩
          rw [h4 (he.ln k o hi).symm, e1, hgj]
      | false => exact ⟨hlw k (Nat.ne_of_beq_eq_false hb) h1, h2, h3, h4⟩
    | oe k n sz kk off =>
      show AR0 m g' (bif Nat.beq k i then .any else .oe k n sz kk off) v
      obtain ⟨h1, h2, h3, h4⟩ := hx
      cases hb : Nat.beq k i with
      | true => trivial
      | false => exact ⟨hlw k (Nat.ne_of_beq_eq_false hb) h1, h2, h3, h4⟩
    | sfx k n sz kk =>
      show AR0 m g' (bif Nat.beq k i then .any else .sfx k n sz kk) v
      obtain ⟨h1, h2, h3, h4⟩ := hx
      cases hb : Nat.beq k i with
      | true => trivial
      | false => exact ⟨hlw k (Nat.ne_of_beq_eq_false hb) h1, h2, h3, h4⟩
    | _ => exact hx
  have L : ∀ x v, AR m g x v → AR m g' (x.tsb i j o.rows.length o.sz o.e) v := fun x v hx => hx.mp _ (fun _ => true) (fun x v _ => L0 x v) (allt x)
  have hbx' : ∀ k cs, get (bx.map fun p => (p.1, p.2.map (A.tsb i j o.rows.length o.sz o.e))) k = some cs → ∃ c0, get bx k = some c0 ∧ cs = c0.map (A.tsb i j o.rows.length o.sz o.e) := fun k cs hk => by
    rw [get_map2] at hk
    cases hc : get bx k with
    | none => rw [hc] at hk; cases hk
    | some c0 => rw [hc] at hk; injection hk with hk; exact ⟨c0, rfl, hk.symm⟩
  have hne : ∀ k c0, get bx k = some c0 → k ≠ j := fun k c0 hk e => by subst e; rw [hj] at hk; cases hk
  obtain ⟨tg, ht1, ht2⟩ := fz_tag hw e3f o.e
  have hlen : o.rows.flatten.length = o.rows.length * o.sz := flat_len hrl
  have hvl : vs.length = o.rows.flatten.length := hca.1
  have hcs : o.rows.length * o.sz ≤ cur.size := Nat.le_trans (Nat.mul_le_mul_right _ e4) e6
  refine ⟨g', {
    lo := he.lo, gm := he.gm, sub := he.sub, gt := he.gt, ext := he.ext
    lb := fun k => by
      rw [get_cons, get_map2]
      show (if k = j then true else g.lb k) = _
      by_cases hk : k = j
      · rw [if_pos hk, if_pos hk.symm]; rfl
      · rw [if_neg hk, if_neg (fun e => hk e.symm), show (Option.map (List.map (A.tsb i j o.rows.length o.sz o.e)) (get bx k)).isSome = (get bx k).isSome by cases get bx k <;> rfl]; exact he.lb k
    lw := fun k => by
      rw [hget]
      show (if k = i then false else g.lw k) = _
      by_cases hk : k = i
      · rw [if_pos hk, if_pos hk]; rfl
      · rw [if_neg hk, if_neg hk]; exact he.lw k
    ln := fun k o' hk => by
      rw [hget] at hk
      split at hk
      · cases hk
      · exact he.ln k o' hk
    boxes := fun k cs hk => by
      rw [get_cons] at hk
      by_cases hkj : j = k
      · subst hkj
        rw [if_pos rfl] at hk; injection hk with hk; subst hk
        refine ⟨cur, tg, ?_, ⟨by simp only [List.length_map]; omega, fun h => (by rw [hw] at h; cases h), fun _ => by show (if j = j then (cap * o.sz, o.e) else g.cz j).1 ≤ _ ∧ (if j = j then (cap * o.sz, o.e) else g.cz j).2 = tg.ty; rw [if_pos rfl]; exact ⟨e6, ht1.symm⟩⟩, fun q x u hx hu => ?_, ?_, fun q => ?_⟩
        · rw [hgj, ob_win hw, ht1, ht2]; exact e3
        · rw [List.getElem?_map] at hx
          cases hq : o.rows.flatten[q]? with
          | none => rw [hq] at hx; cases hx
          | some t =>
            rw [hq] at hx; injection hx with hx; subst hx
            have hql : q < o.rows.length * o.sz := by rw [← hlen]; exact (List.getElem?_eq_some_iff.1 hq).1
            have hvq : vs[q]? = some u := by rw [← e7, List.getElem?_take_of_lt hql]; simpa using hu
            exact hca.2 q t u hq hvq
        · rw [hgj]; exact hmine
        · rw [hgj]; exact hmb q
      · rw [if_neg hkj] at hk
        obtain ⟨c0, hc, rfl⟩ := hbx' k cs hk
        rw [hgb k (hne k c0 hc)]
        obtain ⟨us, ty, h1, h3, h4, h5, h6⟩ := he.boxes k c0 hc
        refine ⟨us, ty, h1, .ce (c := g.cz) (by simpa using h3) (if_neg (hne k c0 hc)), fun q x u hx hu => ?_, h5, h6⟩
        rw [List.getElem?_map] at hx
        cases hq : c0[q]? with
        | none => rw [hq] at hx; cases hx
        | some y => rw [hq] at hx; injection hx with hx; subst hx; exact ⟨L y u (h4 q y u hq hu).1, (h4 q y u hq hu).2⟩
    inj := fun p q cp cq hp hq e => by
      rw [get_cons] at hp hq
      by_cases hpj : j = p <;> by_cases hqj : j = q
      · omega
      · rw [if_neg hqj] at hq
        obtain ⟨c0, hc, _⟩ := hbx' q cq hq
        rw [← hpj, hgj, hgb q (hne q c0 hc)] at e
        exact absurd e.symm (hbx q c0 hc)
      · rw [if_neg hpj] at hp
        obtain ⟨c0, hc, _⟩ := hbx' p cp hp
        rw [← hqj, hgj, hgb p (hne p c0 hc)] at e
        exact absurd e (hbx p c0 hc)
      · rw [if_neg hpj] at hp; rw [if_neg hqj] at hq
        obtain ⟨c0, hc, _⟩ := hbx' p cp hp
        obtain ⟨c2, hc2, _⟩ := hbx' q cq hq
        rw [hgb p (hne p c0 hc), hgb q (hne q c2 hc2)] at e
        exact he.inj p q c0 c2 hc hc2 e
    owns := fun k o' hk => by
      rw [hget] at hk
      split at hk
      · cases hk
      · rename_i hki
        obtain ⟨us, h1, h3, h4, h5⟩ := he.owns k o' hk
        refine ⟨us, h1, h3, h4, fun b' hb' => ⟨(h5 b' hb').1, fun q cs hq => ?_, (h5 b' hb').2.2⟩⟩
        rw [get_cons] at hq
        by_cases hqj : j = q
        · rw [← hqj, hgj]
          exact fun e => he.apart i k o o' hi hk (fun e => hki e.symm) b hob (by rw [hb', e])
        · rw [if_neg hqj] at hq
          obtain ⟨c0, hc, _⟩ := hbx' q cs hq
          rw [hgb q (hne q c0 hc)]
          exact (h5 b' hb').2.1 q c0 hc
    apart := fun p q op oq hp hq hpq b' hb' => by
      rw [hget] at hp hq
      split at hp
      · cases hp
      · split at hq
        · cases hq
        · exact he.apart p q op oq hp hq hpq b' hb'
    pin := fun k o' hk hk2 => by
      rw [hget] at hk
      split at hk
      · cases hk
      · exact he.pin k o' hk hk2
    pinb := fun k cs hk hk2 => by
      rw [get_cons] at hk
      by_cases hkj : j = k
      · subst hkj
        have h1 : j < 2000 := by unfold wnB at hw; simp [Nat.blt_eq] at hw; omega
        have := Nat.le_of_ble_eq_true hk2; omega
      · rw [if_neg hkj] at hk
        obtain ⟨c0, hc, _⟩ := hbx' k cs hk
        rw [hgb k (hne k c0 hc)]; exact he.pinb k c0 hc hk2 }, L⟩
end
theorem weak_tobox {N : Nat} {tm : List (Nat × A)} {bx : List (Nat × List A)} {ow : List (Nat × Own)} (i j : Nat) {o : Own} (hi : get ow i = some o) (hn : 0 < o.rows.length) (hj : get bx j = none) (hh : hid i = true := by rfl) (h2 : Nat.ble 2000 i = false := by rfl) (hw : wnB j = true := by rfl) :
    Weak N ⟨tm, bx, ow⟩ ⟨tm.map fun p => (p.1, p.2.tsb i j o.rows.length o.sz o.e), (j, o.rows.flatten.map .t) :: bx.map fun p => (p.1, p.2.map (A.tsb i j o.rows.length o.sz o.e)), ow.filter (fun p => !(Nat.beq p.1 i))⟩ := .mk fun C a w ⟨m, g, hr⟩ => by
  obtain ⟨g', h3, h4⟩ := hr.env.toBox hi hh h2 hn hj hw
  refine ⟨m, g', h3, hr.size, hr.defers, fun s x hx => ?_⟩
  rw [show get (tm.map fun p => (p.1, p.2.tsb i j o.rows.length o.sz o.e)) s = _ from get_mapv _ _ _] at hx
  cases h5 : get tm s with
  | none => rw [h5] at hx; cases hx
  | some y => rw [h5] at hx; injection hx with hx; subst hx; exact h4 y _ (hr.tmps s y h5)
/-- a leaf where box j has become data -/
def fb0 (j n : Nat) (t : T) : A → A
  | .sb k q z e => bif Nat.beq k j then (bif Nat.beq q n then .t t else .any) else .sb k q z e
  | .bp k off => bif Nat.beq k j then .any else .bp k off
  | x => x
def A.fsb (j n : Nat) (t : T) (x : A) := x.mapA (fb0 j n t)
section
variable {C : Ctx} {bx : List (Nat × List A)} {ow : List (Nat × Own)} {w : World} {m : Mm} {g : Gh}
end
/-- a leaf where box j is gone -/
def gnb0 (j : Nat) : A → A
  | .sb k q z e => bif Nat.beq k j then .any else .sb k q z e
  | .bp k off => bif Nat.beq k j then .any else .bp k off
  | x => x
def A.gnb (j : Nat) (x : A) := x.mapA (gnb0 j)
section
variable {C : Ctx} {bx : List (Nat × List A)} {ow : List (Nat × Own)} {w : World} {m : Mm} {g : Gh}
/-- a box that was a row is a row of the call's alone again -/
theorem EnvG.toRow (he : EnvG C bx ow w m g) {i j : Nat} {cs : List A} {sz : Nat} {e : TypeId} {rows : List (List T)} {v : Value} (hb : get bx j = some cs) (hw : wnB j = true) (hr : ∀ r ∈ rows, r.length = sz) (hv : VwL ow cs rows.flatten) (hx : AR0 m g (.sb j rows.length sz e) v) (hi : get ow i = none) (hh : hid i = true) (h2 : Nat.ble 2000 i = false) :
    ∃ g', EnvG C ((bx.filter fun p => !(Nat.beq p.1 j)).map fun p => (p.1, p.2.map (A.gnb j))) ((i, ⟨e, sz, rows⟩) :: ow) w m g' ∧ (∀ x u, AR m g x u → AR m g' (x.gnb j) u) ∧ AR m g' (.own i rows.length) v := by
  obtain ⟨vs, ty, hhp, hsz, hc, hmine, hmn⟩ := he.boxes j cs hb
  rw [ob_win hw] at hhp
  obtain ⟨hvl, hva⟩ := hv.at
  have hle := hsz.1
  obtain ⟨hc1, hc2⟩ := hsz.2.2 hw
  obtain ⟨_, cap, hve, hcap, hmax, hcz⟩ := hx
  obtain ⟨hcz1, hcz2⟩ := hcz hw
  have hfl := flat_len hr
  let us : List Value := vs.toList.take cs.length
  have hus : us.length = cs.length := by simp [us]; omega
  have hus2 : ∀ (k : Nat) u, us[k]? = some u → k < cs.length ∧ vs[k]? = some u := fun k u h => by
    have hk : k < cs.length := by rw [← hus]; exact (List.getElem?_eq_some_iff.1 h).1
    simp only [us] at h
    rw [List.getElem?_take_of_lt hk] at h
    exact ⟨hk, by simpa using h⟩
  have hlwi : g.lw i = false := by rw [he.lw, hi]; rfl
  let g' : Gh := { g with lb := fun k => if k = j then false else g.lb k, go := fun k => if k = i then v else g.go k, ln := fun k => if k = i then rows.length else g.ln k, lw := fun k => if k = i then true else g.lw k }
  have hgi : g'.go i = v ∧ g'.ln i = rows.length := ⟨if_pos rfl, if_pos rfl⟩
  have hgk : ∀ k, k ≠ i → g'.go k = g.go k ∧ g'.ln k = g.ln k := fun k hk => ⟨if_neg hk, if_neg hk⟩
  have hlwk : ∀ k, g.lw k = true → k ≠ i ∧ g'.lw k = true := fun k hk => by
    have hki : k ≠ i := fun e => by subst e; rw [hlwi] at hk; cases hk
    exact ⟨hki, by show (if k = i then true else g.lw k) = true; rw [if_neg hki]; exact hk⟩
  have hlb : ∀ k, k ≠ j → g.lb k = true → g'.lb k = true := fun k hk h => by show (if k = j then false else g.lb k) = true; rw [if_neg hk]; exact h
  have hget : ∀ k, get ((bx.filter fun p => !(Nat.beq p.1 j)).map fun p => (p.1, p.2.map (A.gnb j))) k = if k = j then none else (get bx k).map (List.map (A.gnb j)) := fun k => by
    rw [get_map2]
    have := get_filter (fun k => !(Nat.beq k j)) bx k
    rw [this]
    by_cases hk : k = j
    · subst hk; rw [if_pos rfl, if_neg]; · rfl
      rw [show Nat.beq k k = true from Nat.beq_refl _]; simp
    · rw [if_neg hk, if_pos]
      cases hb : Nat.beq k j with
      | true => exact absurd (Nat.eq_of_beq_eq_true hb) hk
      | false => rfl
  have hbx' : ∀ k cs', get ((bx.filter fun p => !(Nat.beq p.1 j)).map fun p => (p.1, p.2.map (A.gnb j))) k = some cs' → k ≠ j ∧ ∃ c0, get bx k = some c0 ∧ cs' = c0.map (A.gnb j) := fun k cs' hk => by
    rw [hget] at hk
    split at hk
    · cases hk
    · rename_i hkj
      cases hc : get bx k with
      | none => rw [hc] at hk; cases hk
      | some c0 => rw [hc] at hk; injection hk with hk; exact ⟨hkj, c0, rfl, hk.symm⟩
  have L0 : ∀ x u, AR0 m g x u → AR0 m g' (gnb0 j x) u := by
    intro x u hx
    cases x with
    | bp k off =>
      show AR0 m g' (bif Nat.beq k j then .any else .bp k off) u
      cases hb : Nat.beq k j with
      | true => trivial
      | false => exact ⟨hlb k (Nat.ne_of_beq_eq_false hb) hx.1, hx.2⟩
    | sb k q z e' =>
      show AR0 m g' (bif Nat.beq k j then .any else .sb k q z e') u
      cases hb : Nat.beq k j with
      | true => trivial
      | false => exact ⟨hlb k (Nat.ne_of_beq_eq_false hb) hx.1, hx.2⟩
    | own k n =>
      obtain ⟨h1, h3, h4, h5⟩ := hx
      obtain ⟨hk, h6⟩ := hlwk k h1
      exact ⟨h6, by rw [(hgk k hk).2]; exact h3, h4, by rw [(hgk k hk).1, (hgk k hk).2]; exact h5⟩
    | oe k n sz' kk off =>
      obtain ⟨h1, h3, h4, h5⟩ := hx
      obtain ⟨hk, h6⟩ := hlwk k h1
      exact ⟨h6, by rw [(hgk k hk).2]; exact h3, h4, by rw [(hgk k hk).1, (hgk k hk).2]; exact h5⟩
    | sfx k n sz' kk =>
      obtain ⟨h1, h3, h4, h5⟩ := hx
      obtain ⟨hk, h6⟩ := hlwk k h1
      exact ⟨h6, by rw [(hgk k hk).2]; exact h3, h4, by rw [(hgk k hk).1, (hgk k hk).2]; exact h5⟩
    | _ => exact hx
  have L : ∀ x u, AR m g x u → AR m g' (x.gnb j) u := fun x u hx => hx.mp _ (fun _ => true) (fun x u _ => L0 x u) (allt x)
  have hob : v.ownBlock = some (g.gb j) := by rw [hve]; rfl
  refine ⟨g', {
    lo := he.lo, gm := he.gm, sub := he.sub, gt := he.gt, ext := he.ext
    lb := fun k => by
      rw [hget]
      show (if k = j then false else g.lb k) = _
      by_cases hk : k = j
      · rw [if_pos hk, if_pos hk]; rfl
      · rw [if_neg hk, if_neg hk, show ∀ f : List A → List A, (Option.map f (get bx k)).isSome = (get bx k).isSome from fun f => by cases get bx k <;> rfl]; exact he.lb k
    lw := fun k => by
      rw [get_cons]
      show (if k = i then true else g.lw k) = _
      by_cases hk : k = i
      · rw [if_pos hk, if_pos hk.symm]; rfl
      · rw [if_neg hk, if_neg (fun e => hk e.symm)]; exact he.lw k
    ln := fun k o' hk => by
      rw [get_cons] at hk
      by_cases hki : k = i
      · subst hki; rw [if_pos rfl] at hk; injection hk with hk; subst hk; rw [hgi.2]
      · rw [if_neg (fun e => hki e.symm)] at hk; rw [(hgk k hki).2]; exact he.ln k o' hk
    boxes := fun k cs' hk => by
      obtain ⟨hkj, c0, hc0, rfl⟩ := hbx' k cs' hk
      obtain ⟨us', ty', h1, h3, h4, h5, h6⟩ := he.boxes k c0 hc0
      refine ⟨us', ty', h1, by simpa using h3, fun q x u hx hu => ?_, h5, h6⟩
      rw [List.getElem?_map] at hx
      cases hq : c0[q]? with
      | none => rw [hq] at hx; cases hx
      | some y => rw [hq] at hx; injection hx with hx; subst hx; exact ⟨L y u (h4 q y u hq hu).1, (h4 q y u hq hu).2⟩
    inj := fun p q cp cq hp hq e => by
      obtain ⟨_, c0, h1, _⟩ := hbx' p cp hp
      obtain ⟨_, c2, h3, _⟩ := hbx' q cq hq
      exact he.inj p q c0 c2 h1 h3 e
    owns := fun k o' hk => by
      rw [get_cons] at hk
      by_cases hki : k = i
      · subst hki
        rw [if_pos rfl] at hk; injection hk with hk; subst hk
        rw [hgi.1]
        refine ⟨us, ⟨by rw [hus, hvl, hfl], .inr ⟨g.gb j, cap, vs, hve, Nat.zero_le _, ⟨_, by rw [← hcz2, hc2]; exact hhp, fz_ok hw _ _⟩, hcap, hmax, Nat.le_trans hcz1 hc1, by show vs.toList.take (rows.length * sz) = us; rw [← hfl, ← hvl]⟩⟩, hr, ⟨by rw [hus, hvl], fun q t u h1 h3 => ?_⟩, fun b hb' => ?_⟩
        · obtain ⟨x, h4, h5⟩ := hva q t h1
          obtain ⟨h6, h7⟩ := hc q x u h4 (hus2 q u h3).2
          exact ⟨h5.ok he h6, h7⟩
        · rw [hob] at hb'; injection hb' with hb'; subst hb'
          refine ⟨fun q => by rw [hmn q, vis_hid hh]; rfl, fun q cs' hq e' => ?_, hmine⟩
          obtain ⟨hqj, c0, h1, _⟩ := hbx' q cs' hq
          exact hqj (he.inj q j c0 cs h1 hb e')
      · rw [if_neg (fun e => hki e.symm)] at hk
        rw [(hgk k hki).1]
        obtain ⟨us', h1, h3, h4, h5⟩ := he.owns k o' hk
        refine ⟨us', h1, h3, h4, fun b' hb' => ⟨(h5 b' hb').1, fun q cs' hq => ?_, (h5 b' hb').2.2⟩⟩
        obtain ⟨_, c0, h6, _⟩ := hbx' q cs' hq
        exact (h5 b' hb').2.1 q c0 h6
    apart := fun p q op oq hp hq hpq b' hb' => by
      rw [get_cons] at hp hq
      by_cases hpi : p = i
      · subst hpi
        rw [hgi.1, hob] at hb'; injection hb' with hb'; subst hb'
        rw [if_neg hpq] at hq
        rw [(hgk q (fun e => hpq e.symm)).1]
        obtain ⟨_, _, _, _, h5⟩ := he.owns q oq hq
        exact fun e' => (h5 _ e').2.1 j cs hb rfl
      · rw [if_neg (fun e => hpi e.symm)] at hp
        rw [(hgk p hpi).1] at hb'
        by_cases hqi : q = i
        · subst hqi
          rw [hgi.1, hob]
          obtain ⟨_, _, _, _, h5⟩ := he.owns p op hp
          exact fun e' => by injection e' with e'; exact (h5 b' hb').2.1 j cs hb e'
        · rw [if_neg (fun e => hqi e.symm)] at hq
          rw [(hgk q hqi).1]; exact he.apart p q op oq hp hq hpq b' hb'
    pin := fun k o' hk hk2 => by
      rw [get_cons] at hk
      by_cases hki : k = i
      · subst hki; rw [h2] at hk2; cases hk2
      · rw [if_neg (fun e => hki e.symm)] at hk
        rw [(hgk k hki).1]; exact he.pin k o' hk hk2
    pinb := fun k cs' hk hk2 => by
      obtain ⟨_, c0, h1, _⟩ := hbx' k cs' hk
      exact he.pinb k c0 h1 hk2 }, L, ?_⟩
  exact AR0.two (x := .own i rows.length) ⟨if_pos rfl, by rw [hgi.2]; exact Nat.le_refl _, ⟨_, _, hve⟩, fun _ => hgi.1.symm⟩
end
theorem weak_torow {N : Nat} {tm : List (Nat × A)} {bx : List (Nat × List A)} {ow : List (Nat × Own)} (s j i : Nat) (rows : List (List T)) {sz : Nat} {e : TypeId} {cs : List A} (hs : get tm s = some (.sb j rows.length sz e)) (hb : get bx j = some cs) (hr : ∀ r ∈ rows, r.length = sz) (hv : VwL ow cs rows.flatten) (hi : get ow i = none) (hw : wnB j = true := by rfl) (hh : hid i = true := by rfl) (h2 : Nat.ble 2000 i = false := by rfl) :
    Weak N ⟨tm, bx, ow⟩ ⟨(s, .own i rows.length) :: tm.map fun p => (p.1, p.2.gnb j), (bx.filter fun p => !(Nat.beq p.1 j)).map fun p => (p.1, p.2.map (A.gnb j)), (i, ⟨e, sz, rows⟩) :: ow⟩ := .mk fun C a w ⟨m, g, hr'⟩ => by
  obtain ⟨g', h3, h4, h6⟩ := hr'.env.toRow hb hw hr hv (lf0 rfl (hr'.tmps s _ hs)) hi hh h2
  refine ⟨m, g', h3, hr'.size, hr'.defers, fun q x hx => ?_⟩
  rw [get_cons] at hx
  split at hx
  · rename_i e'; subst e'; injection hx with hx; subst hx; exact h6
  · rw [show get (tm.map fun p => (p.1, p.2.gnb j)) q = _ from get_mapv _ _ _] at hx
    cases h5 : get tm q with
    | none => rw [h5] at hx; cases hx
    | some y => rw [h5] at hx; injection hx with hx; subst hx; exact h4 y _ (hr'.tmps q y h5)

section
variable {P : Program} {bx : List (Nat × List A)} {ow : List (Nat × Own)} {o : Oper} {ρ : Operand → Option A} {r : A}
theorem mid_get {a b c : List A} {j : Nat} (h : b[j]? = some r) : (a ++ (b ++ c))[a.length + j]? = some r := by
  rw [List.getElem?_append_right (by omega), Nat.add_sub_cancel_left, List.getElem?_append_left (List.getElem?_eq_some_iff.1 h).1]; exact h
theorem mid_spl {a b c ys : List A} {j : Nat} (h : j + ys.length ≤ b.length) : spl (a ++ (b ++ c)) (a.length + j) ys = a ++ (spl b j ys ++ c) := by
  unfold spl
  rw [List.take_append, List.drop_append, List.take_append, List.drop_append]
  have h1 : a.length + j - a.length = j := by omega
  have h2 : a.length + j + ys.length - a.length = j + ys.length := by omega
  rw [h1, h2, List.take_of_length_le (by omega : a.length ≤ a.length + j), List.drop_of_length_le (by omega : a.length ≤ a.length + j + ys.length)]
  have h3 : j - b.length = 0 := by omega
  have h4 : j + ys.length - b.length = 0 := by omega
  rw [h3, h4]; simp
theorem po_index_mid {t : TypeId} {x ix : Operand} {i nn sz k : Nat} {n : Int} {ik : IntKind} {a : List A} (ha : a.length = k * sz) (ho : o.op = .indexAddr t x ix) {e : TypeId} (hx : ρ x = some (.sb i nn sz e)) (hix : ρ ix = some (.t (.v (.int ik n)))) (hT : sliceSz P t = some sz) (hn : n = (k : Int)) (hk : k < nn) : PureOp P bx ow o ρ (.bp i a.length) := by
  rw [ha]; exact po_index_sb ho hx hix hT hn hk
theorem po_load_mid {ty : TypeId} {x : Operand} {i j n : Nat} {a b c : List A} (ho : o.op = .load ty x) (hx : ρ x = some (.bp i (a.length + j))) (hT : tyI P ty = some (false, n)) (hb : get bx i = some (a ++ (b ++ c))) (ht : b[j]? = some r) (hq : wnB i = true := by rfl) : PureOp P bx ow o ρ r :=
  po_load_wn ho hx hT hb (mid_get ht) hq
end
section
variable {P : Program} {N : Nat} {Q : Exit → St → Prop} {ops : Array Oper} {rest : List Oper} {o : Oper} {tm : List (Nat × A)} {bx : List (Nat × List A)} {ow : List (Nat × Own)}
/-- the whole of an element written -/
theorem sops_store_mid {ty : TypeId} {x z : Operand} {y : A} {i n : Nat} {ag : Bool} {a b c : List A} (hg : GuardIs ops tm o true) (ho : o.op = .store ty x z) (hd : o.dst = none) (hx : evA tm x = some (.bp i a.length)) (hz : evA tm z = some y) (hk : y.okB = true)
    (hb : get bx i = some (a ++ (b ++ c))) (hT : tyI P ty = some (ag, n)) (hn : y.cells.length = n) (hl : b.length = n)
    (h : SOps P N ops Q rest ⟨tm, (i, a ++ (y.cells ++ c)) :: bx, ow⟩) (hq : wnB i = true := by rfl) : SOps P N ops Q (o :: rest) ⟨tm, bx, ow⟩ := by
  refine sops_store_wn hg ho hd hx hz hk hb hT hn (by simp; omega) ?_ hq
  have := mid_spl (a := a) (b := b) (c := c) (ys := y.cells) (j := 0) (by omega)
  rw [Nat.add_zero] at this
  rw [this]
  have h2 : spl b 0 y.cells = y.cells := by unfold spl; rw [hn, Nat.zero_add, ← hl]; simp
  rw [h2]; exact h
end
end Go.Proofs.Ytnclifgiakmmoaa.Sim
