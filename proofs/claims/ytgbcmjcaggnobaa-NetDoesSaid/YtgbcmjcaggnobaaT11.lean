/- Merged by bundles.py: SimY, SimZ, SimCm, SimBy. -/
import Derived.Test.YtgbcmjcaggnobaaT10
import Derived.Test.YtgbcmjcaggnobaaT9
import Derived.Conc.LoneCalls
import Derived.Conc.LoneSelectN
import Derived.Conc.LoneSelect
import Derived.Test.YtgbcmjcaggnobaaT6
import Derived.Lib.ConvBytes
import Derived.Laws.BytesString
/- A logic of states: operations that make and write boxes and rows, in a region that draws its order. -/
namespace Go.Proofs.Ytgbcmjcaggnobaa.Sim
set_option linter.unusedVariables false
set_option linter.unusedSimpArgs false
open Go.RowKit Mem
section
variable {P : Program} {bx bx' : List (Nat × List A)} {ow ow' : List (Nat × Own)} {o : Oper} {ρ : Operand → Option A} {r : A}
theorem e_run (h : ∀ (C : Ctx) (m : Mm) (g : Gh) (w : World) (a : Act), EnvG C bx ow w m g → (∀ x ∈ o.op.operands.toList, ∀ y, ρ x = some y → AR m g y (a.eval x)) →
    ∃ v w' m' g', (execOp a.eval o).run P w = .ok (.value v) w' ∧ EnvG C bx' ow' w' m' g' ∧ AR m' g' r v ∧ ∀ x u, AR m g x u → AR m' g' x u) : EStep P bx ow o ρ r bx' ow' := .mk fun C m g w a Q he ho => by
  obtain ⟨v, w', m', g', h1, h2, h3, h4⟩ := h C m g w a he ho
  exact wp_of_run h1 ⟨v, m', g', rfl, h2, h3, h4⟩
/-- a literal of none: a row of the call's own -/
theorem e_build0 {t e sz by_ d : Nat} (ho : o.op = .buildSlice t 0 #[]) (hT : sliceE P t = some (e, sz, by_)) (hi : get ow d = none) (hp : Nat.ble 2000 d = false := by rfl) : EStep P bx ow o ρ (.own d 0) bx ((d, ⟨e, sz, []⟩) :: ow) := e_run fun C m g w a he _ => by
  obtain ⟨i', zv, hu, hi', _⟩ := sliceE_spec hT
  have hlw : g.lw d = false := by rw [he.lw, hi]; rfl
  obtain ⟨h8, h9⟩ := he.setO (hp := hp) (w' := w.alloc (.cells #[] e)) (i := d) (v := .slice (some ⟨w.heap.size, 0, none⟩) 0 0) (e := e) (sz := sz) (rows := []) (vs := []) (.of (World.ownsRow_made w #[] 0 (Nat.zero_le _) (Nat.zero_le _) (by simp))) (fun r h => by cases h) ⟨rfl, fun j t v h => by simp at h⟩ (.inr hi) (.inr ⟨fun b hb => by injection hb with hb; subst hb; exact Nat.le_refl _, (Lo.refl w).alloc _⟩)
  refine ⟨.slice (some ⟨w.heap.size, 0, none⟩) 0 0, w.alloc (.cells #[] e), _, _, ?_, h8, ⟨by simp [Gh.setO], by simp [Gh.setO], ⟨_, _, rfl⟩, fun _ => by simp [Gh.setO]⟩, fun x u h => h.setO h9 (.inl hlw)⟩
  simp [execOp, ho, Instr.buildSlice, run_underlying hu, sizeOf, typeInfo, hi', Instr.fill, newRow]
  congr 2
  exact Array.eq_empty_of_size_eq_zero (by simp)
/-- an append to a row of the call's own -/
theorem e_append {t e sz by_ : Nat} {x z : Operand} {i n : Nat} {y' : A} {rows rows2 : List (List T)} (ho : o.op = .call { callee := .builtin .append, args := #[x, z], argTypes := #[t, t] })
    (hx : ρ x = some (.own i n)) (hi : get ow i = some ⟨e, sz, rows⟩) (hn : n = rows.length) (hz : ρ z = some y') (hz' : Vw ow y' (.sl sz rows2)) (hT : sliceE P t = some (e, sz, by_))
    (hb : (rows.length + rows2.length) * by_ ≤ 140737488355328) (hm : rows.length + rows2.length ≤ maxLen) (hp : Nat.ble 2000 i = false := by rfl) : EStep P bx ow o ρ (.own i (rows ++ rows2).length) bx ((i, ⟨e, sz, rows ++ rows2⟩) :: ow) := e_run fun C m g w a he hop => by
  obtain ⟨i', zv, hu, hi', hzz, h4, h5, h6, h7⟩ := sliceE_spec hT
  have hop1 := hop x (by simp [ho, Op.operands, Call.operands]) _ hx
  obtain ⟨hlw, _, hAx, hgo⟩ := hop1
  have hln := he.ln i _ hi
  have hvx := hgo (by rw [hln]; exact hn)
  have hvz : TR m (.sl sz rows2) (a.eval z) := hz'.ok he (hop z (by simp [ho, Op.operands, Call.operands]) _ hz)
  obtain ⟨vs, ho1, hrl, hc, hbk⟩ := he.owns i _ hi
  dsimp only at ho1 hrl hc hbk
  have hrl2 : ∀ r ∈ rows2, r.length = sz := by generalize a.eval z = vz at hvz; cases hvz with | sl _ _ A b off cap u hc hm' hA hr hu' ht => exact hr
  have hform : ∃ A cap, a.eval z = .slice A rows2.length cap := by generalize a.eval z = vz at hvz; cases hvz with | sl _ _ A b off cap => exact ⟨A, cap, rfl⟩
  obtain ⟨Az, capz, hvv⟩ := hform
  have hexec : ∀ v' w', (Builtin.append_ #[t, t] o.type #[a.eval x, a.eval z]).run P w = .ok v' w' → (execOp a.eval o).run P w = .ok (.value v') w' := fun v' w' hh => by
    simp only [execOp, ho, resolve, invoke, builtin, Sem.run_bind, Sem.run_pure, Result.andThen_ok, List.map_toArray, List.map_cons, List.map_nil, hh]
  rcases Nat.eq_zero_or_pos rows2.length with h0 | h0
  · have hr0 : rows2 = [] := List.eq_nil_of_length_eq_zero h0
    subst hr0
    obtain ⟨A, c, hA⟩ := hAx
    have hnc : n ≤ c := by
      obtain ⟨_, hcase⟩ := ho1
      rcases hcase with ⟨e1, e2⟩ | ⟨q, cap, cur, e1, _, _, e2, _⟩
      · omega
      · rw [← hvx, hA] at e1; injection e1 with e3 e4 e5; omega
    refine ⟨a.eval x, w, m, g, hexec _ _ (by rw [hvv, hA]; exact run_append_nothing (P := P) (w := w) t o.type e i' hu hi' A Az n c capz hnc), ?_, ?_, fun x u h => h⟩
    · rw [List.append_nil]
      refine he.same (fun j => rfl) fun j => ?_
      rw [get_cons]
      split
      · rename_i e'; subst e'; exact hi.symm
      · rfl
    · rw [List.append_nil, ← hn]
      exact hop x (by simp [ho, Op.operands, Call.operands]) _ hx
  · obtain ⟨b, off, us, rfl, hcu, hlu, hcell⟩ := TR.flat (hvv ▸ hvz) h0 h7
    obtain ⟨v', w', hrun, hown, hcase⟩ := run_append_own3 (P := P) w 0 t o.type e i' zv sz by_ hu hi' hzz h4 h5 h6 h7 (g.go i) rows.length vs ho1 ⟨b, off, none⟩ rows2.length capz us hlu (fun j u hj => by rw [addr_add]; exact he.sub _ _ _ (hcell j u hj)) hcu.one hm hb (Nat.zero_le _)
    obtain ⟨h8, h9⟩ := he.setO (hp := hp) (i := i) (v := v') (e := e) (sz := sz) (rows := rows ++ rows2) (vs := vs ++ us) (by rw [List.length_append]; exact hown) (fun r hr' => by
        rcases List.mem_append.1 hr' with hr' | hr'
        · exact hrl r hr'
        · exact hrl2 r hr') (by rw [List.flatten_append]; exact hc.app hcu) (.inl ⟨_, hi, by simp; omega⟩) (by
        rcases hcase with ⟨e1, e2⟩ | hf
        · exact .inl ⟨_, vis i vs, hi, e1, e2, vis_pre fun k u hk => by rw [List.getElem?_append_left (List.getElem?_eq_some_iff.1 hk).1]; exact hk, fun b hb k => (hbk b hb).1 k⟩
        · exact .inr hf)
    refine ⟨v', w', _, _, hexec _ _ (by rw [hvv, hvx]; exact hrun), h8, ?_, fun x u h => h.setO h9 (.inr (by rw [hln]; simp; omega))⟩
    refine ⟨by simp [Gh.setO], by simp [Gh.setO], ?_, fun _ => by simp [Gh.setO]⟩
    obtain ⟨_, hq⟩ := hown
    rcases hq with ⟨rfl, e2⟩ | ⟨q, cap, cur, rfl, _⟩
    · omega
    · exact ⟨some ⟨q, 0, none⟩, cap, by rw [List.length_append]⟩
/-- a struct's variable, its zero in it -/
theorem e_allocS {ty : TypeId} {d : Nat} {pl : List (Nat × Nat)} {zs : List Value} (hS : strI P ty = some (pl, zs)) (ho : o.op = .alloc ty) (hi : get bx d = none) (hp : Nat.ble 2000 d = false := by rfl) (hq : cellB d = true := by rfl) : EStep P bx ow o ρ (.bp d 0) ((d, zs.map fun v => A.t (T.v v)) :: bx) ow := e_run fun C m g w a he _ => by
  obtain ⟨it, z, h1, h2, h3, h4⟩ := strI_zero hS
  have hlb : g.lb d = false := by rw [he.lb, hi]; rfl
  refine ⟨.pointer (some ⟨w.heap.size, 0, none⟩), w.alloc (.cells z.cells ty), m, g.addB d w.heap.size, ?_, he.box hp hq hi (vs := z.cells) (ty := ty) ⟨by rw [h3]; simp, fun j x v hx hv => ?_⟩, ⟨by simp [Gh.addB], by simp [Gh.addB]⟩, fun x v h => h.addB hlb⟩
  · simp [execOp, ho, Instr.alloc, zeroValue, typeInfo, h1, h2, newVar, newRow]
  · rw [h3] at hv
    rw [List.getElem?_map, hv] at hx
    simp at hx; subst hx
    exact ⟨TR.v _, h4 v (List.mem_of_getElem? hv)⟩
/-- cells of a box written -/
theorem e_store {ty : TypeId} {x z : Operand} {y : A} {i off n : Nat} {ag : Bool} {cs : List A} (ho : o.op = .store ty x z) (hd : o.dst = none) (hx : ρ x = some (.bp i off)) (hz : ρ z = some y) (hk : y.okB = true)
    (hb : get bx i = some cs) (hT : tyI P ty = some (ag, n)) (hn : y.cells.length = n) (hf : Nat.ble (off + n) cs.length = true) (hq : cellB i = true := by rfl) : EStep P bx ow o ρ .any ((i, spl cs off y.cells) :: bx) ow := .mk fun C m g w a Q he hop => by
  obtain ⟨_, h1⟩ := hop x (by simp [ho, Op.operands]) _ hx
  have hv := acells_ok (hop z (by simp [ho, Op.operands]) _ hz) hk
  obtain ⟨vs, ty', hh, hs, hc, hw0, hm⟩ := he.boxes i cs hb
  rw [ob_cells hq] at hh
  replace hs := hs.cell hq
  obtain ⟨d', i', hu, hi', _, hsz⟩ := tyI_spec hT
  have hlen : (a.eval z).cells.toList.length = n := by rw [hv.1, hn]
  have hfit := Nat.le_of_ble_eq_true hf
  have hst := run_storeCells_at P (g.gb i) off ty'.ty (a.eval z).cells.toList 0 vs w hh (by rw [hlen, Nat.add_zero, hs]; exact hfit) hv.one
  rw [Nat.add_zero] at hst
  have hca : ACells m g (spl cs off y.cells) (vs.toList.take off ++ (a.eval z).cells.toList ++ vs.toList.drop (off + (a.eval z).cells.toList.length)) := by
    have hc' : ACells m g cs vs.toList := ⟨by simpa using hs, fun j t v h2 h3 => hc j t v h2 (by simpa using h3)⟩
    rw [List.append_assoc]
    unfold spl
    rw [hv.1]
    exact (hc'.take off).app (hv.app (hc'.drop _))
  have hrun : (execOp a.eval o).run P w = .ok .skip (w.setRow (g.gb i) (vs.toList.take off ++ (a.eval z).cells.toList ++ vs.toList.drop (off + (a.eval z).cells.toList.length)).toArray) := by
    have hsz' : (a.eval z).cells.size = i'.size := by rw [hsz]; simpa using hlen
    have hsv : (storeVar ty ⟨g.gb i, off, none⟩ (a.eval z)).run P w = .ok () (w.setRow (g.gb i) (vs.toList.take off ++ (a.eval z).cells.toList ++ vs.toList.drop (off + (a.eval z).cells.toList.length)).toArray) := by
      generalize a.eval z = u at *
      simp [storeVar, sizeOf, typeInfo, hi', hsz']
      simpa [hsz'] using hst
    simp only [execOp, ho, h1, Instr.storeAt, Instr.sureAddr, Sem.run_bind, Sem.run_pure, Result.andThen_ok, hsv]
  unfold Oper.wp
  rw [hrun, Oper.upon_skip]
  refine ⟨undef, m, g, (by rw [hd]; try rfl), he.setB hb hh (by simpa using hca) hq, trivial, fun x u h => h⟩
end
end Go.Proofs.Ytgbcmjcaggnobaa.Sim

/- A logic of states: calls that are lent rows, or hand back rows of the caller's own, in a region that draws its order. -/
namespace Go.Proofs.Ytgbcmjcaggnobaa.Sim
set_option linter.unusedVariables false
set_option linter.unusedSimpArgs false
open Go.RowKit Mem
theorem clr_no {q : Nat → Bool} (h : ∀ i, q i = false) (x : A) : x.clr q = x := by
  have h0 : clr0 q = fun y => y := by
    funext y
    cases y <;> simp [clr0, h]
  unfold A.clr
  rw [h0]
  exact mapA_id x
inductive FreshB (fb : Nat → Nat) (bx bx0 : List (Nat × List A)) : List (Nat × List A) → Prop
  | nil : FreshB fb bx bx0 []
  | old {p : Nat × List A} {l : List (Nat × List A)} (h : (get bx0 p.1).isSome = true) (hl : FreshB fb bx bx0 l) : FreshB fb bx bx0 (p :: l)
  | new {p : Nat × List A} {l : List (Nat × List A)} (h : get bx (fb p.1) = none) (hl : FreshB fb bx bx0 l) : FreshB fb bx bx0 (p :: l)
inductive FreshW (fw : Nat → Nat) (ow ow0 : List (Nat × Own)) : List (Nat × Own) → Prop
  | nil : FreshW fw ow ow0 []
  | old {p : Nat × Own} {l : List (Nat × Own)} (h : (get ow0 p.1).isSome = true) (hl : FreshW fw ow ow0 l) : FreshW fw ow ow0 (p :: l)
  | new {p : Nat × Own} {l : List (Nat × Own)} (h : get ow (fw p.1) = none) (hl : FreshW fw ow ow0 l) : FreshW fw ow ow0 (p :: l)
inductive SameLen (ow1 : List (Nat × Own)) : List (Nat × Own) → Prop
  | nil : SameLen ow1 []
  | cons {i : Nat} {o o1 : Own} {l : List (Nat × Own)} (h : get ow1 i = some o1) (he : o1.rows.length = o.rows.length) (hl : SameLen ow1 l) : SameLen ow1 ((i, o) :: l)
theorem FreshB.all {fb : Nat → Nat} {bx bx0 l : List (Nat × List A)} (h : FreshB fb bx bx0 l) : ∀ p ∈ l, (get bx0 p.1).isSome = true ∨ get bx (fb p.1) = none := by
  induction h with
  | nil => intro p hp; cases hp
  | old h _ ih => intro p hp; rcases List.mem_cons.1 hp with rfl | hp; exact .inl h; exact ih p hp
  | new h _ ih => intro p hp; rcases List.mem_cons.1 hp with rfl | hp; exact .inr h; exact ih p hp
theorem FreshW.all {fw : Nat → Nat} {ow ow0 l : List (Nat × Own)} (h : FreshW fw ow ow0 l) : ∀ p ∈ l, (get ow0 p.1).isSome = true ∨ get ow (fw p.1) = none := by
  induction h with
  | nil => intro p hp; cases hp
  | old h _ ih => intro p hp; rcases List.mem_cons.1 hp with rfl | hp; exact .inl h; exact ih p hp
  | new h _ ih => intro p hp; rcases List.mem_cons.1 hp with rfl | hp; exact .inr h; exact ih p hp
theorem SameLen.at {ow1 l : List (Nat × Own)} (h : SameLen ow1 l) {i : Nat} {o : Own} (hi : get l i = some o) : ∃ o1, get ow1 i = some o1 ∧ o1.rows.length = o.rows.length := by
  induction h with
  | nil => cases hi
  | cons h he _ ih =>
    rw [get_cons] at hi
    split at hi
    · rename_i e; subst e; injection hi with hi; subst hi; exact ⟨_, h, he⟩
    · exact ih hi
/-- the checks without who is new -/
def lendC (fb fw : Nat → Nat) (bx0 bx1 : List (Nat × List A)) (ow0 ow1 : List (Nat × Own)) : Bool :=
  (bx0.all fun p => Nat.ble 2000 p.1 && (get bx1 p.1).isSome) && (bx1.all fun p => (get bx0 p.1).isSome || !(Nat.ble 2000 (fb p.1))) &&
  (ow1.all fun p => (get ow0 p.1).isSome || !(Nat.ble 2000 (fw p.1))) && (ow1.all fun p => (hid (fw p.1) == hid p.1) && (!(Nat.ble 2000 (fw p.1)) || Nat.ble 2000 p.1)) &&
  (ow0.all fun p => Nat.ble 2000 p.1 && (hid p.1 && hid (fw p.1))) && (injB fb (bx1.map (·.1)) && kdB fb (bx0.map (·.1) ++ bx1.map (·.1))) && injB fw (ow0.map (·.1) ++ ow1.map (·.1))
theorem lendB_of {fb fw : Nat → Nat} {bx bx0 bx1 : List (Nat × List A)} {ow ow0 ow1 : List (Nat × Own)} (h : lendC fb fw bx0 bx1 ow0 ow1 = true) (hb : FreshB fb bx bx0 bx1) (ho : FreshW fw ow ow0 ow1) : lendB fb fw bx bx0 bx1 ow ow0 ow1 = true ∧ ∀ i o, get ow0 i = some o → Nat.ble 2000 i = true := by
  unfold lendC at h
  unfold lendB
  simp only [Bool.and_eq_true] at h ⊢
  obtain ⟨⟨⟨⟨⟨⟨h1, h2⟩, h3⟩, h4⟩, h5⟩, h6⟩, h7⟩ := h
  refine ⟨⟨⟨⟨⟨⟨⟨h1, ?_⟩, ?_⟩, h4⟩, ?_⟩, h6⟩, h7⟩, fun i o hi => ?_⟩
  · rw [List.all_eq_true]
    intro p hp
    rcases hb.all p hp with h | h
    · rw [h]; rfl
    · have := (List.all_eq_true.1 h2) p hp
      rw [Bool.or_eq_true] at this ⊢
      exact this.imp id fun h9 => by rw [h, h9]; rfl
  · rw [List.all_eq_true]
    intro p hp
    rcases ho.all p hp with h | h
    · rw [h]; rfl
    · have := (List.all_eq_true.1 h3) p hp
      rw [Bool.or_eq_true] at this ⊢
      exact this.imp id fun h9 => by rw [h, h9]; rfl
  · rw [List.all_eq_true]
    intro p hp
    have := (List.all_eq_true.1 h5) p hp
    rw [Bool.and_eq_true] at this
    exact this.2
  · have := (List.all_eq_true.1 h5) _ (get_mem hi)
    rw [Bool.and_eq_true] at this
    exact this.1
section
variable {P : Program} {bx bx0 bx1 : List (Nat × List A)} {ow ow0 ow1 : List (Nat × Own)} {o : Oper} {ρ : Operand → Option A} {r : A}
theorem e_lcall {f : FuncId} {xs : List Operand} {at_ : Array TypeId} {args : List A} (hc : LCalls P f args bx0 ow0 r bx1 ow1) (fb fw : Nat → Nat) (ho : o.op = .call { callee := .value (.func f), args := xs.toArray, argTypes := at_ })
    (ha : ArgsL fb fw ow bx0 ow0 ρ xs args) (hx : LentX fb fw bx bx0) (hw : LentW fw ow ow0) (hl : (bx0.all fun p => p.2.all fun x => x.live bx0 ow0) = true) (hB : lendC fb fw bx0 bx1 ow0 ow1 = true)
    (hfb : FreshB fb bx bx0 bx1) (hfw : FreshW fw ow ow0 ow1) (hln : SameLen ow1 ow0) :
    EStep P bx ow o ρ (r.ren fb fw) (bx1.map (fun p => (fb p.1, p.2.map (A.ren fb fw))) ++ bx) (ow1.map (fun p => (fw p.1, p.2)) ++ ow) := by
  obtain ⟨hB', hpin⟩ := lendB_of hB hfb hfw
  let kp : Nat → Bool := fun i => (get ow0 i).isSome
  have hL := lend_of (kp := kp) hx hw hl hB' fun i hi => by
    obtain ⟨o0, h0⟩ := Option.isSome_iff_exists.1 hi
    obtain ⟨o1, h1, h2⟩ := hln.at h0
    exact ⟨hpin i o0 h0, o0, o1, h0, h1, h2⟩
  have hq : ∀ j, chgOf fw kp ow0 j = false := fun j => by
    unfold chgOf
    rw [List.any_eq_false]
    intro p hp
    obtain ⟨x, hx⟩ := mem_get hp
    simp [kp, hx]
  refine .mk fun C m g w a Q he hop => ?_
  obtain ⟨h1, h2⟩ := ha.ok hL he (a := a) (fun x hx y hy => hop x (by simp [ho, Op.operands, Call.operands, hx]) y hy)
  have hrun : (execOp a.eval o).run P w = .ok (.enter f (xs.map a.eval).toArray) w := by
    have := hc.ent (xs.map a.eval).toArray w
    simp only [execOp, ho, resolve, Deferred.ofValue, Act.eval, invoke, Sem.run_bind, Sem.run_pure, Result.andThen_ok, List.map_toArray, Array.append_empty, Array.empty_append, Array.append_eq_append, List.append_nil, List.nil_append] at this ⊢
    simpa using this
  refine wp_call_of hrun (hc.run m w _ _ (hL.env_in he) (by simp [h1]) (fun i x v h3 h4 => h2 i x v h3 (by simpa using h4))) ?_
  rintro e w' ⟨v, m', g', rfl, henv, hv⟩
  obtain ⟨g'', e1, e2, e3⟩ := hL.env_out he henv
  refine ⟨v, rfl, v, m', g'', rfl, e1.same (fun j => ?_) (fun j => ?_), e3 r v hv, fun x u hxu => ?_⟩
  · unfold bxAft
    rw [get_append, get_append]
    cases get (bx1.map fun p => (fb p.1, p.2.map (A.ren fb fw))) j with
    | some x => rfl
    | none =>
      have h3 := get_mapv (fun cs : List A => cs.map (A.clr (chgOf fw kp ow0))) bx j
      have h4 : (fun cs : List A => cs.map (A.clr (chgOf fw kp ow0))) = fun cs => cs := by
        funext cs
        exact (List.map_congr_left fun x _ => clr_no hq x).trans (List.map_id' cs)
      refine Eq.trans ?_ h3.symm
      rw [h4]
      cases get bx j <;> rfl
  · have h3 : get (owAft fw ow0 ow1 ow) j = match get (ow1.map fun p => (fw p.1, p.2)) j with | some x => some x | none => get (ow.filter fun p => !(ow0.any fun r => Nat.beq (fw r.1) p.1)) j := by unfold owAft; exact (get_append _ _ _).trans (by cases get (ow1.map fun p => (fw p.1, p.2)) j <;> rfl)
    rw [get_append]
    cases hg : get (ow1.map fun p => (fw p.1, p.2)) j with
    | some x => rw [h3, hg]
    | none =>
      rw [hg] at h3
      dsimp only at h3 ⊢
      have h4 : get (ow.filter fun p => !(ow0.any fun r => Nat.beq (fw r.1) p.1)) j = _ := get_filter (fun k => !(ow0.any fun r => Nat.beq (fw r.1) k)) ow j
      cases ha' : ow0.any fun r => Nat.beq (fw r.1) j with
      | false => rw [h3, h4, ha']; rfl
      | true =>
        obtain ⟨p, hp, h8⟩ := List.any_eq_true.1 ha'
        obtain ⟨x, hx'⟩ := mem_get hp
        obtain ⟨o1, h9, _⟩ := hln.at hx'
        have h10 := hL.o1 p.1 o1 h9
        rw [Nat.eq_of_beq_eq_true h8, h3, h4, ha'] at h10
        cases h10
  · have := e2 x u hxu
    rwa [clr_no hq] at this
end
end Go.Proofs.Ytgbcmjcaggnobaa.Sim

/- A logic of states: regions that hold a communication; a resource written. -/
namespace Go.Proofs.Ytgbcmjcaggnobaa.Sim
set_option linter.unusedVariables false
set_option linter.unusedSimpArgs false
open Go.RowKit Mem Go.Conc

/-- as wpOps, in a frame that is not a package's beginning -/
def LOps (P : Program) (ops : Array Oper) (Q : Exit → Act → World → Prop) (is : List Nat) (a : Act) (w : World) : Prop :=
  ∀ (b : Frame) (k : List Item) (cs : List Frame), b.kind ≠ .early → ∃ e a' w', Q e a' w' ∧ Arrives P (lone (b.at a (.inRegion ops is :: k)) cs w) b k cs e a' w'
section
variable {P : Program} {ops : Array Oper} {Q : Exit → Act → World → Prop} {a : Act} {w w' : World} {i : Nat} {is : List Nat} {o : Oper} {v : Value}
theorem lops_of (h : wpOps P ops Q is a w) : LOps P ops Q is a w := fun b k cs _ => wp_ops is a w h b k cs
theorem lops_val (ho : ops[i]? = some o) (hg : o.guard = none) (hr : (execOp a.eval o).run P w = .ok (.value v) w') (h : LOps P ops Q is (a.put o.dst v) w') : LOps P ops Q (i :: is) a w := fun b k cs hb => by
  obtain ⟨e, a', w2, hq, harr⟩ := h b k cs hb
  refine ⟨e, a', w2, hq, .of_steps (.one (step_lone_go ?_)) harr⟩
  have hfin : (b.at a (.inRegion ops (i :: is) :: k)).finish v = b.at (a.put o.dst v) (.inRegion ops is :: k) := by rw [Frame.finish_at, ho]; rfl
  rw [stepG_op (P := P) (b := b) (k := k) (cs := cs) (w := w) (rest := is) ho (wanted_free hg), ← hfin]
  simp [stepG.apply, hr]
theorem lops_comm {cases : Array CommCase} {blocking : Bool} {shape : CommShape} (ho : ops[i]? = some o) (hg : o.guard = none) (hr : (execOp a.eval o).run P w = .ok (.comm cases blocking shape) w)
    (hs : ∀ (fr : Frame) (cs : List Frame) (es : Array Event), stepG P true (G fr cs) w = .comm (G fr cs) cases blocking shape w es → step P (solo (G fr cs) w) = .next (solo (G (fr.finish v) cs) w'))
    (h : LOps P ops Q is (a.put o.dst v) w') : LOps P ops Q (i :: is) a w := fun b k cs hb => by
  obtain ⟨e, a', w2, hq, harr⟩ := h b k cs hb
  refine ⟨e, a', w2, hq, .of_steps (.one ?_) harr⟩
  have hfin : (b.at a (.inRegion ops (i :: is) :: k)).finish v = b.at (a.put o.dst v) (.inRegion ops is :: k) := by rw [Frame.finish_at, ho]; rfl
  have := hs _ cs _ (stepG_comm (P := P) (main := true) (b := b) (k := k) (cs := cs) (w := w) (rest := is) ho (wanted_free hg) hb hr)
  rw [hfin] at this
  exact this
theorem wk_region {id : Nat} (h : LOps P ops Q (List.range ops.size) a w) : wk P (.region id ops false) Q a w := fun b k cs hb =>
  let ⟨e, a', w', q, r⟩ := h b k cs hb; ⟨e, a', w', q, .of_steps (.one step_region) r⟩
end
section
variable {P : Program} {N : Nat} {Q : Exit → St → Prop} {st : St}
/-- a region that begins with a communication -/
theorem swp_comm {id : Nat} {o : Oper} {l : List Oper} {cases : Array CommCase} {blocking : Bool} {shape : CommShape} (hg : o.guard = none) (st' : St)
    (hr : ∀ C a w, Rel C N st a w → ∃ v w', (∃ cases blocking shape, (execOp a.eval o).run P w = .ok (.comm cases blocking shape) w ∧
      ∀ (fr : Frame) (cs : List Frame) (es : Array Event), stepG P true (G fr cs) w = .comm (G fr cs) cases blocking shape w es → step P (solo (G fr cs) w) = .next (solo (G (fr.finish v) cs) w')) ∧ Rel C N st' (a.put o.dst v) w')
    (h : SOps P N (o :: l).toArray Q l st') : SWp P N (.region id (o :: l).toArray false) Q st := .mk fun C a w hrel => by
  obtain ⟨v, w', ⟨cs, bl, sh, h1, h2⟩, h3⟩ := hr C a w hrel
  refine wk_region ?_
  rw [show List.range (o :: l).toArray.size = 0 :: List.range' 1 l.length by
    rw [List.size_toArray, List.length_cons, List.range_eq_range', List.range'_succ]]
  refine lops_comm (i := 0) (o := o) rfl hg h1 h2 (lops_of ?_)
  rw [wpOps_eq_wpList l 1 (fun j => by rw [Nat.add_comm]; simp)]
  exact h.go C _ _ h3
/-- two moves, and a send -/
theorem swp_send {id : Nat} {o1 o2 o : Oper} {x y : Operand} {d1 d2 : Nat} {tm : List (Nat × A)} {bx : List (Nat × List A)} {ow : List (Nat × Own)} {z1 z2 : A} (ho1 : o1.op = .move x) (ho2 : o2.op = .move y) (hg1 : o1.guard = none) (hg2 : o2.guard = none) (hg : o.guard = none)
    (hd1 : o1.dst = some d1) (hd2 : o2.dst = some d2) (hd : o.dst = none) (hN : Nat.blt d1 N = true) (hN2 : Nat.blt d2 N = true) (hx : evA tm x = some z1) (hy : evA ((d1, z1) :: tm) y = some z2) (st' : St)
    (hr : ∀ C a w, Rel C N ⟨(d2, z2) :: (d1, z1) :: tm, bx, ow⟩ a w → ∃ v w', (∃ cases blocking shape, (execOp a.eval o).run P w = .ok (.comm cases blocking shape) w ∧
      ∀ (fr : Frame) (cs : List Frame) (es : Array Event), stepG P true (G fr cs) w = .comm (G fr cs) cases blocking shape w es → step P (solo (G fr cs) w) = .next (solo (G (fr.finish v) cs) w')) ∧ Rel C N st' a w')
    (h : Q .normal st') : SWp P N (.region id #[o1, o2, o] false) Q ⟨tm, bx, ow⟩ := .mk fun C a w ⟨m, g, hrel⟩ => by
  refine wk_region ?_
  have e1 : (execOp a.eval o1).run P w = .ok (.value (a.eval x)) w := by simp [execOp, ho1]
  have r1 : RelG C N ⟨(d1, z1) :: tm, bx, ow⟩ (a.put (some d1) (a.eval x)) w m g := hrel.put hrel.env (fun x v h => h) (Nat.lt_of_succ_le (Nat.le_of_ble_eq_true hN)) (hrel.ev hx)
  have e2 : (execOp (a.put (some d1) (a.eval x)).eval o2).run P w = .ok (.value ((a.put (some d1) (a.eval x)).eval y)) w := by simp [execOp, ho2]
  have r2 := r1.put r1.env (fun x v h => h) (Nat.lt_of_succ_le (Nat.le_of_ble_eq_true hN2)) (r1.ev hy)
  obtain ⟨v, w', ⟨cs, bl, sh, h1, h2⟩, h3⟩ := hr C _ w ⟨m, g, r2⟩
  refine lops_val (i := 0) (o := o1) rfl hg1 e1 ?_
  rw [hd1]
  refine lops_val (i := 1) (o := o2) rfl hg2 e2 ?_
  rw [hd2]
  refine lops_comm (i := 2) (o := o) rfl hg h1 h2 (lops_of ?_)
  rw [hd]
  exact ⟨st', h3, h⟩
end

section
variable {C : Ctx} {bx : List (Nat × List A)} {ow : List (Nat × Own)} {w : World} {m : Mm} {g : Gh}
/-- one of a resource's blocks turned -/
theorem EnvG.setR (he : EnvG C bx ow w m g) {i p : Nat} {R R' : Rsc} (hc : chB i = true) (hi : get bx i = some [.rs R]) {w' : World} (hgw : w.grownBy w' (some p)) (hp : g.sf i p = true) (hR : R'.R w' m (g.gb i) (g.sf i) (g.rp i)) : EnvG C ((i, [.rs R']) :: bx) ow w' m g := by
  obtain ⟨r1, r2, r3⟩ := he.rs
  obtain ⟨hR0, hS⟩ := r1 i R hc hi
  obtain ⟨hmine, hmn, hnb, hno⟩ := hS p hp
  have hother : ∀ k, k < w.heap.size → k ≠ p → w'.heap[k]? = w.heap[k]? := fun k hk hne => hgw.block k hk (fun e => hne (by injection e))
  have hlb : ∀ j cj, get ((i, [A.rs R']) :: bx) j = some cj → ∃ c0, get bx j = some c0 := fun j cj hj => by
    rw [get_cons] at hj
    by_cases hji : i = j
    · subst hji; exact ⟨_, hi⟩
    · rw [if_neg hji] at hj; exact ⟨cj, hj⟩
  exact {
    lo := he.lo.grown hgw (fun k hk => by injection hk with hk; subst hk; exact hmine)
    gm := he.gm
    sub := fun b o v hv => by
      have hb : b ≠ p := fun e => by rw [e, hmn o] at hv; cases hv
      rw [World.cell?_of_block (a := ⟨b, o, none⟩) (hother b (he.sub.lt hv) hb)]; exact he.sub b o v hv
    ext := he.ext
    gt := he.gt
    lb := fun j => by
      rw [get_cons, he.lb j]
      by_cases hji : i = j
      · subst hji; rw [if_pos rfl, hi]; rfl
      · rw [if_neg hji]
    lw := he.lw, ln := he.ln
    boxes := fun j cj hj => by
      rw [get_cons] at hj
      by_cases hji : i = j
      · subst hji
        rw [if_pos rfl] at hj; injection hj with hj; subst hj
        obtain ⟨vs2, ty2, h6, h7, h8, h9⟩ := he.boxes i _ hi
        refine ⟨vs2, ty2, by rw [hother _ (block_lt h6) (hnb i _ hi)]; exact h6, h7, fun k x v hk hv => ?_, h9⟩
        cases k with
        | zero => injection hk with hk; subst hk; exact ⟨trivial, (h8 0 _ v rfl hv).2⟩
        | succ k => simp at hk
      · rw [if_neg hji] at hj
        obtain ⟨vs2, ty2, h6, h7⟩ := he.boxes j cj hj
        exact ⟨vs2, ty2, by rw [hother _ (block_lt h6) (hnb j cj hj)]; exact h6, h7⟩
    inj := fun j k cj ck hj hk h => by
      obtain ⟨c1, hj'⟩ := hlb j cj hj
      obtain ⟨c2, hk'⟩ := hlb k ck hk
      exact he.inj j k c1 c2 hj' hk' h
    owns := fun j o hj => by
      obtain ⟨vs2, h6, h7, h8, h9⟩ := he.owns j o hj
      refine ⟨vs2, h6.kept hgw ?_, h7, h8, fun b hb => ⟨(h9 b hb).1, fun k ck hk => ?_, (h9 b hb).2.2⟩⟩
      · cases hb : (g.go j).ownBlock with
        | none => exact .inl rfl
        | some b => exact .inr fun e => by injection e with e; exact hno j o hj (by rw [hb, e])
      · obtain ⟨c2, hk'⟩ := hlb k ck hk
        exact (h9 b hb).2.1 k c2 hk'
    apart := he.apart
    pin := he.pin
    pinb := fun j cj hj hj2 => by
      obtain ⟨c1, hj'⟩ := hlb j cj hj
      exact he.pinb j c1 hj' hj2
    rs := by
      have hsp : ∀ j Rj, get ((i, [A.rs R']) :: bx) j = some [.rs Rj] → (j = i ∧ Rj = R') ∨ (j ≠ i ∧ get bx j = some [.rs Rj]) := fun j Rj hj => by
        rw [get_cons] at hj
        by_cases hji : i = j
        · rw [if_pos hji] at hj; injection hj with hj; injection hj with hj; injection hj with hj; exact .inl ⟨hji.symm, hj.symm⟩
        · rw [if_neg hji] at hj; exact .inr ⟨fun e => hji e.symm, hj⟩
      have hpick : ∀ j Rj, get ((i, [A.rs R']) :: bx) j = some [.rs Rj] → ∃ R0, get bx j = some [.rs R0] := fun j Rj hj => by
        rcases hsp j Rj hj with ⟨rfl, _⟩ | ⟨_, h⟩
        · exact ⟨R, hi⟩
        · exact ⟨Rj, h⟩
      refine ⟨fun j Rj hcj hj => ?_, fun j k Rj Rk hcj hck hj hk hjk => ?_, fun j cs hcj hj hj2 => ?_⟩
      · obtain ⟨R0, h0⟩ := hpick j Rj hj
        obtain ⟨q1, q2⟩ := r1 j R0 hcj h0
        have q3 : ∀ k, g.sf j k = true → C.mine k ∧ (∀ o, m k o = none) ∧ (∀ q cs, get ((i, [A.rs R']) :: bx) q = some cs → g.gb q ≠ k) ∧ ∀ q o, get ow q = some o → (g.go q).ownBlock ≠ some k := fun k hk => by
          obtain ⟨e1, e2, e3, e4⟩ := q2 k hk
          exact ⟨e1, e2, fun q cs hq => by obtain ⟨c1, hq'⟩ := hlb q cs hq; exact e3 q c1 hq', e4⟩
        rcases hsp j Rj hj with ⟨rfl, rfl⟩ | ⟨hne, h⟩
        · exact ⟨hR, q3⟩
        · rw [h] at h0; injection h0 with h0; injection h0 with h0; injection h0 with h0; subst h0
          obtain ⟨vs2, ty2, h6, _⟩ := he.boxes j _ h
          refine ⟨Rj.loc (fun k hk => ?_) (fun _ _ _ h => h) q1, q3⟩
          rcases hk with hk | rfl
          · refine hother k (Rj.lt q1 hk) fun e => ?_
            subst e
            have := r2 i j R Rj hc hcj hi h (fun e => hne e.symm) k hp
            rw [this] at hk; cases hk
          · exact hother _ (block_lt h6) (hnb j _ h)
      · obtain ⟨R1, h1⟩ := hpick j Rj hj
        obtain ⟨R2, h2⟩ := hpick k Rk hk
        exact r2 j k R1 R2 hcj hck h1 h2 hjk
      · obtain ⟨c1, hj'⟩ := hlb j cs hj
        exact r3 j c1 hcj hj' hj2 }
end
end Go.Proofs.Ytgbcmjcaggnobaa.Sim

/- A logic of states: a text as a row of bytes, a row of bytes as a text. -/
namespace Go.Proofs.Ytgbcmjcaggnobaa.Sim
set_option linter.unusedVariables false
set_option linter.unusedSimpArgs false
open Go.RowKit Mem

def byteT (b : UInt8) : List T := [.v (.int .u8 (b.toNat : Int))]
/-- a type of rows of bytes: the element's -/
def byE (P : Program) (t : TypeId) : Option TypeId := match P.underlying t with
  | some (.slice e) => match P.underlying e with
    | some (.int .u8) => some e
    | _ => none
  | _ => none
theorem byE_spec {P : Program} {t e : TypeId} (h : byE P t = some e) : P.underlying t = some (.slice e) ∧ P.underlying e = some (.int .u8) := by
  unfold byE at h
  split at h
  · rename_i e' he
    split at h
    · rename_i h1; injection h with h; subst h; exact ⟨he, h1⟩
    · cases h
  · cases h
theorem bytesWorld_lo (w : World) (e : TypeId) (s : ByteArray) : Lo w (Lib.bytesWorld w e s) :=
  ⟨rfl, rfl, rfl, by rw [Lib.bytesWorld_size]; omega, fun k hk => Lib.bytesWorld_at_old w e s k hk⟩
theorem bytesCells_size (w : World) (e : TypeId) (s : ByteArray) : (Lib.bytesCells w e s).size = grownCap w s.size 0 e := by
  have := grownCap_ge w s.size 0 e
  have h : s.data.size = s.size := rfl
  simp [Lib.bytesCells, h]; omega
theorem flat_bytes (l : List UInt8) : (l.map byteT).flatten = l.map fun b => T.v (.int .u8 (b.toNat : Int)) := by
  induction l with
  | nil => rfl
  | cons b l ih => rw [List.map_cons, List.flatten_cons, ih]; rfl
theorem cells_bytes (m : Mm) (l : List UInt8) : CellsAre m (l.map byteT).flatten (l.map fun b => Value.int .u8 (b.toNat : Int)) := by
  rw [flat_bytes]
  refine ⟨by simp, fun j t v h1 h2 => ?_⟩
  rw [List.getElem?_map] at h1 h2
  cases h : l[j]? with
  | none => rw [h] at h1; cases h1
  | some b => rw [h] at h1 h2; injection h1 with h1; injection h2 with h2; subst h1 h2; exact ⟨.v _, rfl⟩
theorem foldl_push (l : List UInt8) : ∀ (acc : ByteArray), ((l.map fun b => (b.toNat : Int)).foldl (fun r n => r.push (UInt8.ofNat n.toNat)) acc) = ⟨acc.data ++ l.toArray⟩ := by
  induction l with
  | nil => intro acc; simp
  | cons b l ih =>
    intro acc
    rw [List.map_cons, List.foldl_cons, ih]
    congr 1
    apply Array.ext'
    simp [ByteArray.push]
theorem foldl_bs (l : List UInt8) : ((l.map fun b => (b.toNat : Int)).foldl (fun r n => r.push (UInt8.ofNat n.toNat)) ByteArray.empty) = bs l := by
  rw [foldl_push]
  unfold bs
  congr 1
  show #[] ++ l.toArray = l.toArray
  simp
section
variable {P : Program} {N : Nat} {Q : Exit → St → Prop} {ops : Array Oper} {rest : List Oper} {o : Oper} {tm : List (Nat × A)} {bx : List (Nat × List A)} {ow : List (Nat × Own)} {ρ : Operand → Option A}
/-- a text's bytes: a row of the call's own -/
theorem sops_str_bytes {src dst e d : Nat} {x : Operand} {s : ByteArray} (i : Nat) (hg : GuardIs ops tm o true) (ho : o.op = .convert src dst x) (hd : o.dst = some d) (hN : Nat.blt d N = true) (hx : evA tm x = some (.t (.v (.string s)))) (hS : isStr P src = true) (hT : byE P dst = some e) (hsz : s.size ≤ maxLen) (hi : get ow i = none)
    (h : SOps P N ops Q rest ⟨(d, .own i (s.toList.map byteT).length) :: tm, bx, (i, ⟨e, 1, s.toList.map byteT⟩) :: ow⟩) (hp : Nat.ble 2000 i = false := by rfl) : SOps P N ops Q (o :: rest) ⟨tm, bx, ow⟩ := by
  refine sops_run hg (fun C a w m g hr => ?_) h
  have hv := tr_v (hr.ev hx)
  obtain ⟨h1, h2⟩ := byE_spec hT
  have hlo := bytesWorld_lo w e s
  have hlw : g.lw i = false := by rw [hr.env.lw, hi]; rfl
  have hge := grownCap_ge w s.size 0 e
  have hln : (s.toList.map byteT).length = s.size := by rw [List.length_map, toList_len]
  let v : Value := .slice (some ⟨w.heap.size, 0, none⟩) s.size (grownCap w s.size 0 e)
  have hrow : RowM (Lib.bytesWorld w e s) 0 e 1 v (s.toList.map byteT).length (s.toList.map fun b => Value.int .u8 (b.toNat : Int)) := by
    refine ⟨by simp, .inr ⟨w.heap.size, grownCap w s.size 0 e, Lib.bytesCells w e s, by rw [hln], Nat.zero_le _, ⟨_, Lib.bytesWorld_at_new w e s, .inr (Nat.le_refl _)⟩, by rw [hln]; exact hge, grownCap_le_maxLen w _ _ e hsz, by rw [bytesCells_size]; omega, ?_⟩⟩
    rw [hln]
    simp only [Lib.bytesCells, Array.toList_append, Array.toList_map]
    rw [List.take_append_of_le_length (by simp)]
    rw [List.take_of_length_le (by simp), ByteArray.toList_eq]
  obtain ⟨he, hm⟩ := hr.env.setO (hp := hp) (w' := Lib.bytesWorld w e s) (i := i) (v := v) (e := e) (sz := 1) (rows := s.toList.map byteT) (vs := s.toList.map fun b => Value.int .u8 (b.toNat : Int)) hrow
    (fun r hr => by obtain ⟨b, _, rfl⟩ := List.mem_map.1 hr; rfl) (cells_bytes _ _) (.inr hi) (.inr ⟨fun b hb => by simp [v, Value.ownBlock] at hb; omega, hlo⟩)
  have hput := hr.put (d := d) (x := .own i (s.toList.map byteT).length) (v := v) he (fun x u h => h.setO hm (.inl hlw)) (Nat.lt_of_succ_le (Nat.le_of_ble_eq_true hN)) ⟨by simp [Gh.setO], by simp [Gh.setO], ⟨some ⟨w.heap.size, 0, none⟩, grownCap w s.size 0 e, by rw [hln]⟩, fun _ => by simp [Gh.setO]⟩
  rw [← hd] at hput
  exact ⟨v, _, by simp [execOp, ho, hv, Lib.run_convert_string_bytes w src dst e s (isStr_spec hS) h1 h2, v], _, _, hput⟩
/-- a row of bytes as a text -/
theorem po_bytes_str {src dst e : Nat} {x : Operand} {y : A} {l : List UInt8} (ho : o.op = .convert src dst x) (hx : ρ x = some y) (hy : VwS ow y (.sl 1 (l.map byteT))) (hS : byE P src = some e) (hD : isStr P dst = true) : PureOp P bx ow o ρ (.t (.v (.string (bs l)))) := pure_run fun C m g w a he h => by
  have hv := hy.ok he (h x (by simp [ho, Op.operands]) _ hx)
  obtain ⟨h1, h2⟩ := byE_spec hS
  suffices hr : (convert src dst (a.eval x)).run P w = .ok (.string (bs l)) w from ⟨_, by simp [execOp, ho, hr], .v _⟩
  revert hv; generalize a.eval x = v; intro hv
  generalize hrows : l.map byteT = rows at hv
  cases hv with
  | sl _ _ A b off cap u hc hm hA hr hu ht =>
    rw [run_convert_bytes_string w src dst e A _ _ h1 h2 (isStr_spec hD)]
    cases A with
    | none =>
      have hl : l = [] := by
        cases l with
        | nil => rfl
        | cons b l => have := hA (by rw [← hrows]; simp); cases this
      subst hl
      simp [Conv.bytesToString]; rfl
    | some a' =>
      have hld : (loadCells a' rows.length).run P w = .ok ((l.map fun b => (b.toNat : Int)).map (Value.int .u8)).toArray w := by
        rw [show rows.length = ((l.map fun b => (b.toNat : Int)).map (Value.int .u8)).length by rw [← hrows]; simp]
        refine run_loadCells_list w a' _ fun j v hj => ?_
        rw [List.getElem?_map, List.getElem?_map] at hj
        cases hb : l[j]? with
        | none => rw [hb] at hj; cases hj
        | some c =>
          rw [hb] at hj; injection hj with hj; subst hj
          have hrk : rows[j]? = some (byteT c) := by rw [← hrows, List.getElem?_map, hb]; rfl
          have e1 := hA (by intro e; rw [e] at hrk; simp at hrk)
          injection e1 with e1; subst e1
          have q := (hu j 0 _ _ hrk rfl).1
          rw [tr_v (ht j 0 _ _ hrk rfl)] at q
          have q : w.cell? ⟨b, off + (j * 1 + 0), none⟩ = _ := q
          rw [add_mid]
          rw [show off + j = off + (j * 1 + 0) by omega]; exact q
      rw [run_bytesToString w a' _ _ _ hld, foldl_bs]
end
end Go.Proofs.Ytgbcmjcaggnobaa.Sim
