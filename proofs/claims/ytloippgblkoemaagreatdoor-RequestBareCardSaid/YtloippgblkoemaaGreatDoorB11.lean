/- Merged by bundles.py: SimY, SimW, SimZ, SimIt, SimBy, SimExt, SimArr. -/
import Derived.Test.YtloippgblkoemaaGreatDoorB10
import Derived.Test.YtloippgblkoemaaGreatDoorB9
import Derived.Test.YtloippgblkoemaaGreatDoorB6
import Derived.Laws.RangeAny
import Derived.Test.YtloippgblkoemaaGreatDoorB7
import Derived.Lib.ConvBytes
import Derived.Laws.BytesString
import Derived.Lib.Bytealg
/- A logic of states: operations that make and write boxes and rows, in a region that draws its order. -/
namespace Go.Proofs.YtloippgblkoemaaGreatDoor.Sim
set_option linter.unusedVariables false
set_option linter.unusedSimpArgs false
open Go.RowKit Mem
section
variable {P : Program} {bx bx' : List (Nat × List A)} {ow ow' : List (Nat × Own)} {o : Oper} {ρ : Operand → Option A} {r : A}
theorem e_run (h : ∀ (C : Ctx) (m : Mm) (g : Gh) (w : World) (a : Act), EnvG C bx ow w m g → (∀ x ∈ o.op.operands.toList, ∀ y, ρ x = some y → AR m g y (a.eval x)) →
    ∃ v w' m' g', (execOp a.eval o).run P w = .ok (.value v) w' ∧ EnvG C bx' ow' w' m' g' ∧ AR m' g' r v ∧ ∀ x u, AR m g x u → AR m' g' x u) : EStep P bx ow o ρ r bx' ow' := .mk fun C m g w a Q he ho => by
  obtain ⟨v, w', m', g', h1, h2, h3, h4⟩ := h C m g w a he ho
  exact wp_of_run h1 ⟨v, m', g', rfl, h2, h3, h4⟩
theorem e_build0 {t e sz by_ d : Nat} (ho : o.op = .buildSlice t 0 #[]) (hT : sliceE P t = some (e, sz, by_)) (hi : get ow d = none) (hp : Nat.ble 2000 d = false := by rfl) : EStep P bx ow o ρ (.own d 0) bx ((d, ⟨e, sz, []⟩) :: ow) := e_run fun C m g w a he _ => by
  obtain ⟨i', zv, hu, hi', _⟩ := sliceE_spec hT
  have hlw : g.lw d = false := by rw [he.lw, hi]; rfl
  obtain ⟨h8, h9⟩ := he.setO (hp := hp) (w' := w.alloc (.cells #[] e)) (i := d) (v := .slice (some ⟨w.heap.size, 0, none⟩) 0 0) (e := e) (sz := sz) (rows := []) (vs := []) (.of (World.ownsRow_made w #[] 0 (Nat.zero_le _) (Nat.zero_le _) (by simp))) (fun r h => by cases h) ⟨rfl, fun j t v h => by simp at h⟩ (.inr hi) (.inr ⟨fun b hb => by injection hb with hb; subst hb; exact Nat.le_refl _, (Lo.refl w).alloc _⟩)
  refine ⟨.slice (some ⟨w.heap.size, 0, none⟩) 0 0, w.alloc (.cells #[] e), _, _, ?_, h8, ⟨by simp [Gh.setO], by simp [Gh.setO], ⟨_, _, rfl⟩, fun _ => by simp [Gh.setO]⟩, fun x u h => h.setO h9 (.inl hlw)⟩
  simp [execOp, ho, Instr.buildSlice, run_underlying hu, sizeOf, typeInfo, hi', Instr.fill, newRow]
  congr 2
  exact Array.eq_empty_of_size_eq_zero (by simp)
theorem e_append {t e sz by_ : Nat} {x z : Operand} {i n : Nat} {y' : A} {rows rows2 : List (List T)} (ho : o.op = .call { callee := .builtin .append, args := #[x, z], argTypes := #[t, t] })
    (hx : ρ x = some (.own i n)) (hi : get ow i = some ⟨e, sz, rows⟩) (hn : n = rows.length) (hz : ρ z = some y') (hz' : Vw ow y' (.sl sz rows2)) (hT : sliceE P t = some (e, sz, by_))
    (hb : (rows.length + rows2.length) * by_ ≤ 140737488355328) (hm : rows.length + rows2.length ≤ maxLen) (hp : Nat.ble 2000 i = false := by rfl) : EStep P bx ow o ρ (.own i (rows ++ rows2).length) bx ((i, ⟨e, sz, rows ++ rows2⟩) :: ow) := e_run fun C m g w a he hop => by
  obtain ⟨i', zv, hu, hi', hzz, h4, h5, h6, h7⟩ := sliceE_spec hT
  have hop1 := hop x (by simp [ho, Op.operands, Call.operands]) _ hx
  obtain ⟨hlw, _, hAx, hgo⟩ := hop1
  have hln := he.ln i _ hi
  have hvx := hgo (by rw [hln]; exact hn)
  have hvz : TR m (.sl sz rows2) (a.eval z) := hz'.ok he (hop z (by simp [ho, Op.operands, Call.operands]) _ hz)
  obtain ⟨vs, ho1, hrl, hc, hbk⟩ := he.owns i _ hi
  dsimp only at ho1 hrl hc hbk
  have hrl2 : ∀ r ∈ rows2, r.length = sz := by generalize a.eval z = vz at hvz; cases hvz with | sl _ _ A b off cap u hc hm' hA hr hu' ht => exact hr
  have hform : ∃ A cap, a.eval z = .slice A rows2.length cap := by generalize a.eval z = vz at hvz; cases hvz with | sl _ _ A b off cap => exact ⟨A, cap, rfl⟩
  obtain ⟨Az, capz, hvv⟩ := hform
  have hexec : ∀ v' w', (Builtin.append_ #[t, t] o.type #[a.eval x, a.eval z]).run P w = .ok v' w' → (execOp a.eval o).run P w = .ok (.value v') w' := fun v' w' hh => by
    simp only [execOp, ho, resolve, invoke, builtin, Sem.run_bind, Sem.run_pure, Result.andThen_ok, List.map_toArray, List.map_cons, List.map_nil, hh]
  rcases Nat.eq_zero_or_pos rows2.length with h0 | h0
  · have hr0 : rows2 = [] := List.eq_nil_of_length_eq_zero h0
    subst hr0
    obtain ⟨A, c, hA⟩ := hAx
    have hnc : n ≤ c := by
      obtain ⟨_, hcase⟩ := ho1
      rcases hcase with ⟨e1, e2⟩ | ⟨q, cap, cur, e1, _, _, e2, _⟩
      · omega
      · rw [← hvx, hA] at e1; injection e1 with e3 e4 e5; omega
    refine ⟨a.eval x, w, m, g, hexec _ _ (by rw [hvv, hA]; exact run_append_nothing (P := P) (w := w) t o.type e i' hu hi' A Az n c capz hnc), ?_, ?_, fun x u h => h⟩
    · rw [List.append_nil]
      refine he.same (fun j => rfl) fun j => ?_
      rw [get_cons]
      split
      · rename_i e'; subst e'; exact hi.symm
      · rfl
    · rw [List.append_nil, ← hn]
      exact hop x (by simp [ho, Op.operands, Call.operands]) _ hx
  · obtain ⟨b, off, us, rfl, hcu, hlu, hcell⟩ := TR.flat (hvv ▸ hvz) h0 h7
    obtain ⟨v', w', hrun, hown, hcase⟩ := run_append_own3 (P := P) w 0 t o.type e i' zv sz by_ hu hi' hzz h4 h5 h6 h7 (g.go i) rows.length vs ho1 ⟨b, off, none⟩ rows2.length capz us hlu (fun j u hj => by rw [addr_add]; exact he.sub _ _ _ (hcell j u hj)) hcu.one hm hb (Nat.zero_le _)
    obtain ⟨h8, h9⟩ := he.setO (hp := hp) (i := i) (v := v') (e := e) (sz := sz) (rows := rows ++ rows2) (vs := vs ++ us) (by rw [List.length_append]; exact hown) (fun r hr' => by
        rcases List.mem_append.1 hr' with hr' | hr'
        · exact hrl r hr'
        · exact hrl2 r hr') (by rw [List.flatten_append]; exact hc.app hcu) (.inl ⟨_, hi, by simp; omega⟩) (by
        rcases hcase with ⟨e1, e2⟩ | hf
        · exact .inl ⟨_, vis i vs, hi, e1, e2, vis_pre fun k u hk => by rw [List.getElem?_append_left (List.getElem?_eq_some_iff.1 hk).1]; exact hk, fun b hb k => (hbk b hb).1 k⟩
        · exact .inr hf)
    refine ⟨v', w', _, _, hexec _ _ (by rw [hvv, hvx]; exact hrun), h8, ?_, fun x u h => h.setO h9 (.inr (by rw [hln]; simp; omega))⟩
    refine ⟨by simp [Gh.setO], by simp [Gh.setO], ?_, fun _ => by simp [Gh.setO]⟩
    obtain ⟨_, hq⟩ := hown
    rcases hq with ⟨rfl, e2⟩ | ⟨q, cap, cur, rfl, _⟩
    · omega
    · exact ⟨some ⟨q, 0, none⟩, cap, by rw [List.length_append]⟩
theorem e_allocS {ty : TypeId} {d : Nat} {pl : List (Nat × Nat)} {zs : List Value} (hS : strI P ty = some (pl, zs)) (ho : o.op = .alloc ty) (hi : get bx d = none) (hp : Nat.ble 2000 d = false := by rfl) (hq : cellB d = true := by rfl) : EStep P bx ow o ρ (.bp d 0) ((d, zs.map fun v => A.t (T.v v)) :: bx) ow := e_run fun C m g w a he _ => by
  obtain ⟨it, z, h1, h2, h3, h4⟩ := strI_zero hS
  have hlb : g.lb d = false := by rw [he.lb, hi]; rfl
  refine ⟨.pointer (some ⟨w.heap.size, 0, none⟩), w.alloc (.cells z.cells ty), m, g.addB d w.heap.size, ?_, he.box hp hq hi (vs := z.cells) (ty := ty) ⟨by rw [h3]; simp, fun j x v hx hv => ?_⟩, ⟨by simp [Gh.addB], by simp [Gh.addB]⟩, fun x v h => h.addB hlb⟩
  · simp [execOp, ho, Instr.alloc, zeroValue, typeInfo, h1, h2, newVar, newRow]
  · rw [h3] at hv
    rw [List.getElem?_map, hv] at hx
    simp at hx; subst hx
    exact ⟨TR.v _, h4 v (List.mem_of_getElem? hv)⟩
theorem e_store {ty : TypeId} {x z : Operand} {y : A} {i off n : Nat} {ag : Bool} {cs : List A} (ho : o.op = .store ty x z) (hd : o.dst = none) (hx : ρ x = some (.bp i off)) (hz : ρ z = some y) (hk : y.okB = true)
    (hb : get bx i = some cs) (hT : tyI P ty = some (ag, n)) (hn : y.cells.length = n) (hf : Nat.ble (off + n) cs.length = true) (hq : cellB i = true := by rfl) : EStep P bx ow o ρ .any ((i, spl cs off y.cells) :: bx) ow := .mk fun C m g w a Q he hop => by
  obtain ⟨_, h1⟩ := hop x (by simp [ho, Op.operands]) _ hx
  have hv := acells_ok (hop z (by simp [ho, Op.operands]) _ hz) hk
  obtain ⟨vs, ty', hh, hs, hc, hw0, hm⟩ := he.boxes i cs hb
  rw [ob_cells hq] at hh
  replace hs := hs.cell hq
  obtain ⟨d', i', hu, hi', _, hsz⟩ := tyI_spec hT
  have hlen : (a.eval z).cells.toList.length = n := by rw [hv.1, hn]
  have hfit := Nat.le_of_ble_eq_true hf
  have hst := run_storeCells_at P (g.gb i) off ty'.ty (a.eval z).cells.toList 0 vs w hh (by rw [hlen, Nat.add_zero, hs]; exact hfit) hv.one
  rw [Nat.add_zero] at hst
  have hca : ACells m g (spl cs off y.cells) (vs.toList.take off ++ (a.eval z).cells.toList ++ vs.toList.drop (off + (a.eval z).cells.toList.length)) := by
    have hc' : ACells m g cs vs.toList := ⟨by simpa using hs, fun j t v h2 h3 => hc j t v h2 (by simpa using h3)⟩
    rw [List.append_assoc]
    unfold spl
    rw [hv.1]
    exact (hc'.take off).app (hv.app (hc'.drop _))
  have hrun : (execOp a.eval o).run P w = .ok .skip (w.setRow (g.gb i) (vs.toList.take off ++ (a.eval z).cells.toList ++ vs.toList.drop (off + (a.eval z).cells.toList.length)).toArray) := by
    have hsz' : (a.eval z).cells.size = i'.size := by rw [hsz]; simpa using hlen
    have hsv : (storeVar ty ⟨g.gb i, off, none⟩ (a.eval z)).run P w = .ok () (w.setRow (g.gb i) (vs.toList.take off ++ (a.eval z).cells.toList ++ vs.toList.drop (off + (a.eval z).cells.toList.length)).toArray) := by
      generalize a.eval z = u at *
      simp [storeVar, sizeOf, typeInfo, hi', hsz']
      simpa [hsz'] using hst
    simp only [execOp, ho, h1, Instr.storeAt, Instr.sureAddr, Sem.run_bind, Sem.run_pure, Result.andThen_ok, hsv]
  unfold Oper.wp
  rw [hrun, Oper.upon_skip]
  refine ⟨undef, m, g, (by rw [hd]; try rfl), he.setB hb hh (by simpa using hca) hq, trivial, fun x u h => h⟩
end
end Go.Proofs.YtloippgblkoemaaGreatDoor.Sim

/- A logic of states: the greater, the smaller one of two numbers. -/
namespace Go.Proofs.YtloippgblkoemaaGreatDoor.Sim
set_option linter.unusedVariables false
set_option linter.unusedSimpArgs false
open Go.RowKit Mem
section
variable {P : Program} {bx : List (Nat × List A)} {ow : List (Nat × Own)} {o : Oper} {ρ : Operand → Option A} {r : A}
theorem po_max {x y : Operand} {ts : Array TypeId} {k : IntKind} {i j : Int} (ho : o.op = .call { callee := .builtin .max, args := #[x, y], argTypes := ts }) (hx : ρ x = some (.t (.v (.int k i)))) (hy : ρ y = some (.t (.v (.int k j)))) : PureOp P bx ow o ρ (.t (.v (.int k (max i j)))) := pure_run fun C m g w a he h => by
  have h1 := tr_v (h x (by simp [ho, Op.operands, Call.operands]) _ hx)
  have h2 := tr_v (h y (by simp [ho, Op.operands, Call.operands]) _ hy)
  have e : (if j > i then j else i) = max i j := by
    rw [Int.max_def]
    split <;> split <;> omega
  refine ⟨_, ?_, .v _⟩
  simp [execOp, ho, resolve, invoke, builtin, h1, h2, Builtin.max_, Builtin.max2, e]
theorem po_min {x y : Operand} {ts : Array TypeId} {k : IntKind} {i j : Int} (ho : o.op = .call { callee := .builtin .min, args := #[x, y], argTypes := ts }) (hx : ρ x = some (.t (.v (.int k i)))) (hy : ρ y = some (.t (.v (.int k j)))) : PureOp P bx ow o ρ (.t (.v (.int k (min i j)))) := pure_run fun C m g w a he h => by
  have h1 := tr_v (h x (by simp [ho, Op.operands, Call.operands]) _ hx)
  have h2 := tr_v (h y (by simp [ho, Op.operands, Call.operands]) _ hy)
  have e : (if j < i then j else i) = min i j := by
    rw [Int.min_def]
    split <;> split <;> omega
  refine ⟨_, ?_, .v _⟩
  simp [execOp, ho, resolve, invoke, builtin, h1, h2, Builtin.min_, Builtin.min2, e]
end
end Go.Proofs.YtloippgblkoemaaGreatDoor.Sim

/- A logic of states: calls that are lent rows, or hand back rows of the caller's own, in a region that draws its order. -/
namespace Go.Proofs.YtloippgblkoemaaGreatDoor.Sim
set_option linter.unusedVariables false
set_option linter.unusedSimpArgs false
open Go.RowKit Mem
theorem clr_no {q : Nat → Bool} (h : ∀ i, q i = false) (x : A) : x.clr q = x := by
  have h0 : clr0 q = fun y => y := by
    funext y
    cases y <;> simp [clr0, h]
  unfold A.clr
  rw [h0]
  exact mapA_id x
inductive FreshB (fb : Nat → Nat) (bx bx0 : List (Nat × List A)) : List (Nat × List A) → Prop
  | nil : FreshB fb bx bx0 []
  | old {p : Nat × List A} {l : List (Nat × List A)} (h : (get bx0 p.1).isSome = true) (hl : FreshB fb bx bx0 l) : FreshB fb bx bx0 (p :: l)
  | new {p : Nat × List A} {l : List (Nat × List A)} (h : get bx (fb p.1) = none) (hl : FreshB fb bx bx0 l) : FreshB fb bx bx0 (p :: l)
inductive FreshW (fw : Nat → Nat) (ow ow0 : List (Nat × Own)) : List (Nat × Own) → Prop
  | nil : FreshW fw ow ow0 []
  | old {p : Nat × Own} {l : List (Nat × Own)} (h : (get ow0 p.1).isSome = true) (hl : FreshW fw ow ow0 l) : FreshW fw ow ow0 (p :: l)
  | new {p : Nat × Own} {l : List (Nat × Own)} (h : get ow (fw p.1) = none) (hl : FreshW fw ow ow0 l) : FreshW fw ow ow0 (p :: l)
inductive SameLen (ow1 : List (Nat × Own)) : List (Nat × Own) → Prop
  | nil : SameLen ow1 []
  | cons {i : Nat} {o o1 : Own} {l : List (Nat × Own)} (h : get ow1 i = some o1) (he : o1.rows.length = o.rows.length) (hl : SameLen ow1 l) : SameLen ow1 ((i, o) :: l)
theorem FreshB.all {fb : Nat → Nat} {bx bx0 l : List (Nat × List A)} (h : FreshB fb bx bx0 l) : ∀ p ∈ l, (get bx0 p.1).isSome = true ∨ get bx (fb p.1) = none := by
  induction h with
  | nil => intro p hp; cases hp
  | old h _ ih => intro p hp; rcases List.mem_cons.1 hp with rfl | hp; exact .inl h; exact ih p hp
  | new h _ ih => intro p hp; rcases List.mem_cons.1 hp with rfl | hp; exact .inr h; exact ih p hp
theorem FreshW.all {fw : Nat → Nat} {ow ow0 l : List (Nat × Own)} (h : FreshW fw ow ow0 l) : ∀ p ∈ l, (get ow0 p.1).isSome = true ∨ get ow (fw p.1) = none := by
  induction h with
  | nil => intro p hp; cases hp
  | old h _ ih => intro p hp; rcases List.mem_cons.1 hp with rfl | hp; exact .inl h; exact ih p hp
  | new h _ ih => intro p hp; rcases List.mem_cons.1 hp with rfl | hp; exact .inr h; exact ih p hp
theorem SameLen.at {ow1 l : List (Nat × Own)} (h : SameLen ow1 l) {i : Nat} {o : Own} (hi : get l i = some o) : ∃ o1, get ow1 i = some o1 ∧ o1.rows.length = o.rows.length := by
  induction h with
  | nil => cases hi
  | cons h he _ ih =>
    rw [get_cons] at hi
    split at hi
    · rename_i e; subst e; injection hi with hi; subst hi; exact ⟨_, h, he⟩
    · exact ih hi
def lendC (fb fw : Nat → Nat) (bx0 bx1 : List (Nat × List A)) (ow0 ow1 : List (Nat × Own)) : Bool :=
  (bx0.all fun p => Nat.ble 2000 p.1 && (get bx1 p.1).isSome) && (bx1.all fun p => (get bx0 p.1).isSome || !(Nat.ble 2000 (fb p.1))) &&
  (ow1.all fun p => (get ow0 p.1).isSome || !(Nat.ble 2000 (fw p.1))) && (ow1.all fun p => (hid (fw p.1) == hid p.1) && (!(Nat.ble 2000 (fw p.1)) || Nat.ble 2000 p.1)) &&
  (ow0.all fun p => Nat.ble 2000 p.1 && (hid p.1 && hid (fw p.1))) && (injB fb (bx1.map (·.1)) && kdB fb (bx0.map (·.1) ++ bx1.map (·.1))) && injB fw (ow0.map (·.1) ++ ow1.map (·.1))
theorem lendB_of {fb fw : Nat → Nat} {bx bx0 bx1 : List (Nat × List A)} {ow ow0 ow1 : List (Nat × Own)} (h : lendC fb fw bx0 bx1 ow0 ow1 = true) (hb : FreshB fb bx bx0 bx1) (ho : FreshW fw ow ow0 ow1) : lendB fb fw bx bx0 bx1 ow ow0 ow1 = true ∧ ∀ i o, get ow0 i = some o → Nat.ble 2000 i = true := by
  unfold lendC at h
  unfold lendB
  simp only [Bool.and_eq_true] at h ⊢
  obtain ⟨⟨⟨⟨⟨⟨h1, h2⟩, h3⟩, h4⟩, h5⟩, h6⟩, h7⟩ := h
  refine ⟨⟨⟨⟨⟨⟨⟨h1, ?_⟩, ?_⟩, h4⟩, ?_⟩, h6⟩, h7⟩, fun i o hi => ?_⟩
  · rw [List.all_eq_true]
    intro p hp
    rcases hb.all p hp with h | h
    · rw [h]; rfl
    · have := (List.all_eq_true.1 h2) p hp
      rw [Bool.or_eq_true] at this ⊢
      exact this.imp id fun h9 => by rw [h, h9]; rfl
  · rw [List.all_eq_true]
    intro p hp
    rcases ho.all p hp with h | h
    · rw [h]; rfl
    · have := (List.all_eq_true.1 h3) p hp
      rw [Bool.or_eq_true] at this ⊢
      exact this.imp id fun h9 => by rw [h, h9]; rfl
  · rw [List.all_eq_true]
    intro p hp
    have := (List.all_eq_true.1 h5) p hp
    rw [Bool.and_eq_true] at this
    exact this.2
  · have := (List.all_eq_true.1 h5) _ (get_mem hi)
    rw [Bool.and_eq_true] at this
    exact this.1
section
variable {P : Program} {bx bx0 bx1 : List (Nat × List A)} {ow ow0 ow1 : List (Nat × Own)} {o : Oper} {ρ : Operand → Option A} {r : A}
theorem e_lcall {f : FuncId} {xs : List Operand} {at_ : Array TypeId} {args : List A} (hc : LCalls P f args bx0 ow0 r bx1 ow1) (fb fw : Nat → Nat) (ho : o.op = .call { callee := .value (.func f), args := xs.toArray, argTypes := at_ })
    (ha : ArgsL fb fw ow bx0 ow0 ρ xs args) (hx : LentX fb fw bx bx0) (hw : LentW fw ow ow0) (hl : (bx0.all fun p => p.2.all fun x => x.live bx0 ow0) = true) (hB : lendC fb fw bx0 bx1 ow0 ow1 = true)
    (hfb : FreshB fb bx bx0 bx1) (hfw : FreshW fw ow ow0 ow1) (hln : SameLen ow1 ow0) :
    EStep P bx ow o ρ (r.ren fb fw) (bx1.map (fun p => (fb p.1, p.2.map (A.ren fb fw))) ++ bx) (ow1.map (fun p => (fw p.1, p.2)) ++ ow) := by
  obtain ⟨hB', hpin⟩ := lendB_of hB hfb hfw
  let kp : Nat → Bool := fun i => (get ow0 i).isSome
  have hL := lend_of (kp := kp) hx hw hl hB' fun i hi => by
    obtain ⟨o0, h0⟩ := Option.isSome_iff_exists.1 hi
    obtain ⟨o1, h1, h2⟩ := hln.at h0
    exact ⟨hpin i o0 h0, o0, o1, h0, h1, h2⟩
  have hq : ∀ j, chgOf fw kp ow0 j = false := fun j => by
    unfold chgOf
    rw [List.any_eq_false]
    intro p hp
    obtain ⟨x, hx⟩ := mem_get hp
    simp [kp, hx]
  refine .mk fun C m g w a Q he hop => ?_
  obtain ⟨h1, h2⟩ := ha.ok hL he (a := a) (fun x hx y hy => hop x (by simp [ho, Op.operands, Call.operands, hx]) y hy)
  have hrun : (execOp a.eval o).run P w = .ok (.enter f (xs.map a.eval).toArray) w := by
    have := hc.ent (xs.map a.eval).toArray w
    simp only [execOp, ho, resolve, Deferred.ofValue, Act.eval, invoke, Sem.run_bind, Sem.run_pure, Result.andThen_ok, List.map_toArray, Array.append_empty, Array.empty_append, Array.append_eq_append, List.append_nil, List.nil_append] at this ⊢
    simpa using this
  refine wp_call_of hrun (hc.run m w _ _ (hL.env_in he) (by simp [h1]) (fun i x v h3 h4 => h2 i x v h3 (by simpa using h4))) ?_
  rintro e w' ⟨v, m', g', rfl, henv, hv⟩
  obtain ⟨g'', e1, e2, e3⟩ := hL.env_out he henv
  refine ⟨v, rfl, v, m', g'', rfl, e1.same (fun j => ?_) (fun j => ?_), e3 r v hv, fun x u hxu => ?_⟩
  · unfold bxAft
    rw [get_append, get_append]
    cases get (bx1.map fun p => (fb p.1, p.2.map (A.ren fb fw))) j with
    | some x => rfl
    | none =>
      have h3 := get_mapv (fun cs : List A => cs.map (A.clr (chgOf fw kp ow0))) bx j
      have h4 : (fun cs : List A => cs.map (A.clr (chgOf fw kp ow0))) = fun cs => cs := by
        funext cs
        exact (List.map_congr_left fun x _ => clr_no hq x).trans (List.map_id' cs)
      refine Eq.trans ?_ h3.symm
      rw [h4]
      cases get bx j <;> rfl
  · have h3 : get (owAft fw ow0 ow1 ow) j = match get (ow1.map fun p => (fw p.1, p.2)) j with | some x => some x | none => get (ow.filter fun p => !(ow0.any fun r => Nat.beq (fw r.1) p.1)) j := by unfold owAft; exact (get_append _ _ _).trans (by cases get (ow1.map fun p => (fw p.1, p.2)) j <;> rfl)
    rw [get_append]
    cases hg : get (ow1.map fun p => (fw p.1, p.2)) j with
    | some x => rw [h3, hg]
    | none =>
      rw [hg] at h3
      dsimp only at h3 ⊢
      have h4 : get (ow.filter fun p => !(ow0.any fun r => Nat.beq (fw r.1) p.1)) j = _ := get_filter (fun k => !(ow0.any fun r => Nat.beq (fw r.1) k)) ow j
      cases ha' : ow0.any fun r => Nat.beq (fw r.1) j with
      | false => rw [h3, h4, ha']; rfl
      | true =>
        obtain ⟨p, hp, h8⟩ := List.any_eq_true.1 ha'
        obtain ⟨x, hx'⟩ := mem_get hp
        obtain ⟨o1, h9, _⟩ := hln.at hx'
        have h10 := hL.o1 p.1 o1 h9
        rw [Nat.eq_of_beq_eq_true h8, h3, h4, ha'] at h10
        cases h10
  · have := e2 x u hxu
    rwa [clr_no hq] at this
end
end Go.Proofs.YtloippgblkoemaaGreatDoor.Sim

/- A logic of states: a range over a text. -/
namespace Go.Proofs.YtloippgblkoemaaGreatDoor.Sim
set_option linter.unusedVariables false
set_option linter.unusedSimpArgs false
open Go.RowKit Mem

section
variable {P : Program} {N : Nat} {Q : Exit → St → Prop} {ops : Array Oper} {rest : List Oper} {o : Oper} {tm : List (Nat × A)} {bx : List (Nat × List A)} {ow : List (Nat × Own)}
abbrev itC (s : ByteArray) (p : Nat) : List A := [.t (.v (.string s)), .t (.v (.int .i64 (p : Int)))]
theorem sops_range {t d : Nat} {x : Operand} {s : ByteArray} (i : Nat) (hg : GuardIs ops tm o true) (ho : o.op = .range t x) (hd : o.dst = some d) (hN : Nat.blt d N = true) (hx : evA tm x = some (.t (.v (.string s)))) (hu : isStr P t = true) (hi : get bx i = none)
    (h : SOps P N ops Q rest ⟨(d, .bp i 0) :: tm, (i, itC s 0) :: bx, ow⟩) (hp : Nat.ble 2000 i = false := by rfl) (hq : itB i = true := by rfl) : SOps P N ops Q (o :: rest) ⟨tm, bx, ow⟩ := by
  refine sops_run hg (fun C a w m g hr => ?_) h
  have hv := tr_v (hr.ev hx)
  have hlb : g.lb i = false := by rw [hr.env.lb, hi]; rfl
  have hb := hr.env.boxT (hwn := it_win hq) (cs := itC s 0) (vs := #[.string s, .int .i64 (0 : Nat)]) (ty := ⟨0, 0, 0, 0⟩) hp hi ⟨rfl, fun j y u h1 h2 => by
    match j, h1, h2 with
    | 0, h1, h2 => simp at h1 h2; subst h1 h2; exact ⟨TR.v _, rfl⟩
    | 1, h1, h2 => simp at h1 h2; subst h1 h2; exact ⟨TR.v _, rfl⟩⟩
  rw [ob_iter hq] at hb
  refine ⟨.pointer (some ⟨w.heap.size, 0, none⟩), w.alloc (.stringIter s 0), ?_, m, g.addB i w.heap.size, ?_⟩
  · simp [execOp, ho, hv, Instr.range, run_underlying (isStr_spec hu)]
  · rw [hd]
    exact hr.put hb (fun x v h => h.addB hlb) (Nat.lt_of_succ_le (Nat.le_of_ble_eq_true hN)) ⟨by simp [Gh.addB], by simp [Gh.addB]⟩
theorem it_at {C : Ctx} {w : World} {m : Mm} {g : Gh} (he : EnvG C bx ow w m g) {i : Nat} {s : ByteArray} {p : Nat} (hb : get bx i = some (itC s p)) (hq : itB i = true) : w.heap[g.gb i]? = some (.stringIter s p) := by
  obtain ⟨⟨vs⟩, ty, h1, h2, h3, _, _⟩ := he.boxes i _ hb
  replace h2 := h2.it hq
  match vs, h2 with
  | [u, v], _ =>
    have e0 := tr_v (h3 0 _ u rfl rfl).1
    have e1 := tr_v (h3 1 _ v rfl rfl).1
    subst e0 e1
    rw [h1, ob_iter hq]
theorem sops_next {d p c k : Nat} {x : Operand} {s : ByteArray} (i : Nat) (hg : GuardIs ops tm o true) (ho : o.op = .next x true) (hd : o.dst = some d) (hN : Nat.blt d N = true) (hx : evA tm x = some (.bp i 0)) (hb : get bx i = some (itC s p)) (hlt : p < s.size) (hc : Utf8.decode s p = (c, k))
    (h : SOps P N ops Q rest ⟨(d, .t (.tup [.v (.bool true), .v (.int .i64 (p : Int)), .v (.int .i32 (c : Int))])) :: tm, (i, itC s (p + k)) :: bx, ow⟩) (hq : itB i = true := by rfl) : SOps P N ops Q (o :: rest) ⟨tm, bx, ow⟩ := by
  refine sops_run hg (fun C a w m g hr => ?_) h
  obtain ⟨_, hv⟩ := hr.ev hx
  have hh := it_at hr.env hb hq
  have hlt' := block_lt hh
  let w' : World := { w with heap := w.heap.setIfInBounds (g.gb i) (.stringIter s (p + k)) }
  have hgw : w.grownBy w' (some (g.gb i)) := ⟨rfl, rfl, rfl, by simp [w'], fun j hj hne => by
    show (w.heap.setIfInBounds (g.gb i) (.stringIter s (p + k)))[j]? = _
    rw [Array.getElem?_setIfInBounds, if_neg (fun e => hne (by rw [e]))]⟩
  have hsame : w'.heap[g.gb i]? = some (obOf i #[.string s, .int .i64 ((p + k : Nat) : Int)] ⟨0, 0, 0, 0⟩) := by
    rw [ob_iter hq]
    show (w.heap.setIfInBounds (g.gb i) (.stringIter s (p + k)))[g.gb i]? = _
    rw [Array.getElem?_setIfInBounds, if_pos rfl, if_pos hlt']
  refine ⟨.tuple #[.bool true, .int .i64 (p : Int), .int .i32 (c : Int)], w', ?_, m, g, ?_⟩
  · simp only [execOp, ho, hv, Instr.next, getObj, setObj, Sem.run_bind, Sem.run, hh, Result.andThen, hlt, if_true, hc]
    simp [goInt, Sem.run, w']
  · rw [hd]
    refine hr.put (hr.env.setAt hb hgw hsame ⟨rfl, fun j y u h1 h2 => ?_⟩ (it_win hq)) (fun x v h => h) (Nat.lt_of_succ_le (Nat.le_of_ble_eq_true hN)) ?_
    · match j, h1, h2 with
      | 0, h1, h2 => simp at h1 h2; subst h1 h2; exact ⟨TR.v _, rfl⟩
      | 1, h1, h2 => simp at h1 h2; subst h1 h2; exact ⟨TR.v _, rfl⟩
    · refine TR.tup _ _ rfl fun j t v h1 h2 => ?_
      match j, h1, h2 with
      | 0, h1, h2 => simp at h1 h2; subst h1 h2; exact .v _
      | 1, h1, h2 => simp at h1 h2; subst h1 h2; exact .v _
      | 2, h1, h2 => simp at h1 h2; subst h1 h2; exact .v _
theorem sops_next_end {d p : Nat} {x : Operand} {s : ByteArray} (i : Nat) (hg : GuardIs ops tm o true) (ho : o.op = .next x true) (hd : o.dst = some d) (hN : Nat.blt d N = true) (hx : evA tm x = some (.bp i 0)) (hb : get bx i = some (itC s p)) (hlt : ¬ p < s.size)
    (h : SOps P N ops Q rest ⟨(d, .t (.tup [.v (.bool false)])) :: tm, bx, ow⟩) (hq : itB i = true := by rfl) : SOps P N ops Q (o :: rest) ⟨tm, bx, ow⟩ := by
  refine sops_run hg (fun C a w m g hr => ?_) h
  obtain ⟨_, hv⟩ := hr.ev hx
  have hh := it_at hr.env hb hq
  refine ⟨.tuple #[.bool false], w, ?_, m, g, ?_⟩
  · simp [execOp, ho, hv, Instr.next, getObj, Sem.run, hh, hlt]
  · rw [hd]
    refine hr.put hr.env (fun x v h => h) (Nat.lt_of_succ_le (Nat.le_of_ble_eq_true hN)) (TR.tup _ _ rfl fun j t v h1 h2 => ?_)
    match j, h1, h2 with
    | 0, h1, h2 => simp at h1 h2; subst h1 h2; exact .v _
end
end Go.Proofs.YtloippgblkoemaaGreatDoor.Sim

/- A logic of states: a text as a row of bytes, a row of bytes as a text. -/
namespace Go.Proofs.YtloippgblkoemaaGreatDoor.Sim
set_option linter.unusedVariables false
set_option linter.unusedSimpArgs false
open Go.RowKit Mem

def byteT (b : UInt8) : List T := [.v (.int .u8 (b.toNat : Int))]
def byE (P : Program) (t : TypeId) : Option TypeId := match P.underlying t with
  | some (.slice e) => match P.underlying e with
    | some (.int .u8) => some e
    | _ => none
  | _ => none
theorem byE_spec {P : Program} {t e : TypeId} (h : byE P t = some e) : P.underlying t = some (.slice e) ∧ P.underlying e = some (.int .u8) := by
  unfold byE at h
  split at h
  · rename_i e' he
    split at h
    · rename_i h1; injection h with h; subst h; exact ⟨he, h1⟩
    · cases h
  · cases h
theorem bytesWorld_lo (w : World) (e : TypeId) (s : ByteArray) : Lo w (Lib.bytesWorld w e s) :=
  ⟨rfl, rfl, rfl, by rw [Lib.bytesWorld_size]; omega, fun k hk => Lib.bytesWorld_at_old w e s k hk⟩
theorem bytesCells_size (w : World) (e : TypeId) (s : ByteArray) : (Lib.bytesCells w e s).size = grownCap w s.size 0 e := by
  have := grownCap_ge w s.size 0 e
  have h : s.data.size = s.size := rfl
  simp [Lib.bytesCells, h]; omega
theorem flat_bytes (l : List UInt8) : (l.map byteT).flatten = l.map fun b => T.v (.int .u8 (b.toNat : Int)) := by
  induction l with
  | nil => rfl
  | cons b l ih => rw [List.map_cons, List.flatten_cons, ih]; rfl
theorem cells_bytes (m : Mm) (l : List UInt8) : CellsAre m (l.map byteT).flatten (l.map fun b => Value.int .u8 (b.toNat : Int)) := by
  rw [flat_bytes]
  refine ⟨by simp, fun j t v h1 h2 => ?_⟩
  rw [List.getElem?_map] at h1 h2
  cases h : l[j]? with
  | none => rw [h] at h1; cases h1
  | some b => rw [h] at h1 h2; injection h1 with h1; injection h2 with h2; subst h1 h2; exact ⟨.v _, rfl⟩
theorem foldl_push (l : List UInt8) : ∀ (acc : ByteArray), ((l.map fun b => (b.toNat : Int)).foldl (fun r n => r.push (UInt8.ofNat n.toNat)) acc) = ⟨acc.data ++ l.toArray⟩ := by
  induction l with
  | nil => intro acc; simp
  | cons b l ih =>
    intro acc
    rw [List.map_cons, List.foldl_cons, ih]
    congr 1
    apply Array.ext'
    simp [ByteArray.push]
theorem foldl_bs (l : List UInt8) : ((l.map fun b => (b.toNat : Int)).foldl (fun r n => r.push (UInt8.ofNat n.toNat)) ByteArray.empty) = bs l := by
  rw [foldl_push]
  unfold bs
  congr 1
  show #[] ++ l.toArray = l.toArray
  simp
section
variable {P : Program} {N : Nat} {Q : Exit → St → Prop} {ops : Array Oper} {rest : List Oper} {o : Oper} {tm : List (Nat × A)} {bx : List (Nat × List A)} {ow : List (Nat × Own)} {ρ : Operand → Option A}
theorem sops_str_bytes {src dst e d : Nat} {x : Operand} {s : ByteArray} (i : Nat) (hg : GuardIs ops tm o true) (ho : o.op = .convert src dst x) (hd : o.dst = some d) (hN : Nat.blt d N = true) (hx : evA tm x = some (.t (.v (.string s)))) (hS : isStr P src = true) (hT : byE P dst = some e) (hsz : s.size ≤ maxLen) (hi : get ow i = none)
    (h : SOps P N ops Q rest ⟨(d, .own i (s.toList.map byteT).length) :: tm, bx, (i, ⟨e, 1, s.toList.map byteT⟩) :: ow⟩) (hp : Nat.ble 2000 i = false := by rfl) : SOps P N ops Q (o :: rest) ⟨tm, bx, ow⟩ := by
  refine sops_run hg (fun C a w m g hr => ?_) h
  have hv := tr_v (hr.ev hx)
  obtain ⟨h1, h2⟩ := byE_spec hT
  have hlo := bytesWorld_lo w e s
  have hlw : g.lw i = false := by rw [hr.env.lw, hi]; rfl
  have hge := grownCap_ge w s.size 0 e
  have hln : (s.toList.map byteT).length = s.size := by rw [List.length_map, toList_len]
  let v : Value := .slice (some ⟨w.heap.size, 0, none⟩) s.size (grownCap w s.size 0 e)
  have hrow : RowM (Lib.bytesWorld w e s) 0 e 1 v (s.toList.map byteT).length (s.toList.map fun b => Value.int .u8 (b.toNat : Int)) := by
    refine ⟨by simp, .inr ⟨w.heap.size, grownCap w s.size 0 e, Lib.bytesCells w e s, by rw [hln], Nat.zero_le _, ⟨_, Lib.bytesWorld_at_new w e s, .inr (Nat.le_refl _)⟩, by rw [hln]; exact hge, grownCap_le_maxLen w _ _ e hsz, by rw [bytesCells_size]; omega, ?_⟩⟩
    rw [hln]
    simp only [Lib.bytesCells, Array.toList_append, Array.toList_map]
    rw [List.take_append_of_le_length (by simp)]
    rw [List.take_of_length_le (by simp), ByteArray.toList_eq]
  obtain ⟨he, hm⟩ := hr.env.setO (hp := hp) (w' := Lib.bytesWorld w e s) (i := i) (v := v) (e := e) (sz := 1) (rows := s.toList.map byteT) (vs := s.toList.map fun b => Value.int .u8 (b.toNat : Int)) hrow
    (fun r hr => by obtain ⟨b, _, rfl⟩ := List.mem_map.1 hr; rfl) (cells_bytes _ _) (.inr hi) (.inr ⟨fun b hb => by simp [v, Value.ownBlock] at hb; omega, hlo⟩)
  have hput := hr.put (d := d) (x := .own i (s.toList.map byteT).length) (v := v) he (fun x u h => h.setO hm (.inl hlw)) (Nat.lt_of_succ_le (Nat.le_of_ble_eq_true hN)) ⟨by simp [Gh.setO], by simp [Gh.setO], ⟨some ⟨w.heap.size, 0, none⟩, grownCap w s.size 0 e, by rw [hln]⟩, fun _ => by simp [Gh.setO]⟩
  rw [← hd] at hput
  exact ⟨v, _, by simp [execOp, ho, hv, Lib.run_convert_string_bytes w src dst e s (isStr_spec hS) h1 h2, v], _, _, hput⟩
theorem po_bytes_str {src dst e : Nat} {x : Operand} {y : A} {l : List UInt8} (ho : o.op = .convert src dst x) (hx : ρ x = some y) (hy : VwS ow y (.sl 1 (l.map byteT))) (hS : byE P src = some e) (hD : isStr P dst = true) : PureOp P bx ow o ρ (.t (.v (.string (bs l)))) := pure_run fun C m g w a he h => by
  have hv := hy.ok he (h x (by simp [ho, Op.operands]) _ hx)
  obtain ⟨h1, h2⟩ := byE_spec hS
  suffices hr : (convert src dst (a.eval x)).run P w = .ok (.string (bs l)) w from ⟨_, by simp [execOp, ho, hr], .v _⟩
  revert hv; generalize a.eval x = v; intro hv
  generalize hrows : l.map byteT = rows at hv
  cases hv with
  | sl _ _ A b off cap u hc hm hA hr hu ht =>
    rw [run_convert_bytes_string w src dst e A _ _ h1 h2 (isStr_spec hD)]
    cases A with
    | none =>
      have hl : l = [] := by
        cases l with
        | nil => rfl
        | cons b l => have := hA (by rw [← hrows]; simp); cases this
      subst hl
      simp [Conv.bytesToString]; rfl
    | some a' =>
      have hld : (loadCells a' rows.length).run P w = .ok ((l.map fun b => (b.toNat : Int)).map (Value.int .u8)).toArray w := by
        rw [show rows.length = ((l.map fun b => (b.toNat : Int)).map (Value.int .u8)).length by rw [← hrows]; simp]
        refine run_loadCells_list w a' _ fun j v hj => ?_
        rw [List.getElem?_map, List.getElem?_map] at hj
        cases hb : l[j]? with
        | none => rw [hb] at hj; cases hj
        | some c =>
          rw [hb] at hj; injection hj with hj; subst hj
          have hrk : rows[j]? = some (byteT c) := by rw [← hrows, List.getElem?_map, hb]; rfl
          have e1 := hA (by intro e; rw [e] at hrk; simp at hrk)
          injection e1 with e1; subst e1
          have q := (hu j 0 _ _ hrk rfl).1
          rw [tr_v (ht j 0 _ _ hrk rfl)] at q
          have q : w.cell? ⟨b, off + (j * 1 + 0), none⟩ = _ := q
          rw [add_mid]
          rw [show off + j = off + (j * 1 + 0) by omega]; exact q
      rw [run_bytesToString w a' _ _ _ hld, foldl_bs]
end
end Go.Proofs.YtloippgblkoemaaGreatDoor.Sim

/- A logic of states: functions of the library without a body; numbers within bounds; arrays. -/
namespace Go.Proofs.YtloippgblkoemaaGreatDoor.Sim
set_option linter.unusedVariables false
set_option linter.unusedSimpArgs false
open Go.RowKit Mem
theorem wrap_u8 {n : Int} (h : 0 ≤ n ∧ n ≤ 255) : IntKind.u8.wrap n = n := by
  simp only [IntKind.wrap, IntKind.bits, IntKind.signed]; simp; omega
theorem wrap_i32 {n : Int} (h : -2147483648 ≤ n ∧ n ≤ 2147483647) : IntKind.i32.wrap n = n := by
  simp only [IntKind.wrap, IntKind.bits, IntKind.signed]; simp; omega
section
variable {P : Program} {N : Nat} {Q : Exit → St → Prop} {ops : Array Oper} {rest : List Oper} {tm : List (Nat × A)} {bx : List (Nat × List A)} {ow : List (Nat × Own)} {o : Oper} {ρ : Operand → Option A} {r : A}
theorem po_ext {f : FuncId} {xs : List Operand} {at_ : Array TypeId} {vs : List Value} {v : Value} (hrun : ∀ w, (callFunc f vs.toArray).run P w = .ok (.value v) w) (ho : o.op = .call { callee := .value (.func f), args := xs.toArray, argTypes := at_ }) (ha : Args ow ρ xs (vs.map T.v)) : PureOp P bx ow o ρ (.t (.v v)) := pure_run fun C m g w a he h => by
  obtain ⟨hl, hv⟩ := ha.ok he (a := a) (fun x hx y hy => h x (by simp [ho, Op.operands, Call.operands, hx]) y hy)
  have hvs : xs.map a.eval = vs := by
    refine List.ext_getElem? fun i => ?_
    cases h1 : vs[i]? with
    | none =>
      rw [List.getElem?_eq_none_iff] at h1 ⊢
      rw [List.length_map] at hl ⊢; omega
    | some u =>
      have hi := (List.getElem?_eq_some_iff.1 h1).1
      have h2 : i < (xs.map a.eval).length := by rw [List.length_map] at hl ⊢; omega
      rw [List.getElem?_eq_getElem h2]
      have := hv i (.v u) _ (by rw [List.getElem?_map, h1]; rfl) (List.getElem?_eq_getElem h2)
      rw [tr_v this]
  refine ⟨v, ?_, .v v⟩
  have := hrun w
  rw [← hvs] at this
  simp only [execOp, ho, resolve, Deferred.ofValue, Act.eval, invoke, Sem.run_bind, Sem.run_pure, Result.andThen_ok, List.map_toArray, Array.append_empty, Array.empty_append, Array.append_eq_append, List.append_nil, List.nil_append] at this ⊢
  simpa using this
theorem vwl_t (ts : List T) : VwL ow (ts.map A.t) ts := by
  induction ts with
  | nil => exact .nil
  | cons t ts ih => exact .cons (.t t) ih
theorem cells_agg (ts : List T) : (A.t (.agg ts)).cells = ts.map A.t := rfl
theorem spl_all (cs : List A) (ts : List A) (h : cs.length = ts.length) : spl cs 0 ts = ts := by
  unfold spl
  rw [List.take_zero, List.drop_of_length_le (by omega)]; simp
end
end Go.Proofs.YtloippgblkoemaaGreatDoor.Sim

/- A logic of states: arrays of 256 cells; a pointer looked at. -/
namespace Go.Proofs.YtloippgblkoemaaGreatDoor.Sim
set_option linter.unusedVariables false
set_option linter.unusedSimpArgs false
open Go.RowKit Mem
def arrA (f : Nat → Value) : List A := (List.range 256).map fun i => .t (.v (f i))
def arrT (f : Nat → Value) : List T := (List.range 256).map fun i => .v (f i)
theorem arrA_len (f : Nat → Value) : (arrA f).length = 256 := by unfold arrA; rw [List.length_map, List.length_range]
theorem arrT_len (f : Nat → Value) : (arrT f).length = 256 := by unfold arrT; rw [List.length_map, List.length_range]
theorem arrT_map (f : Nat → Value) : (arrT f).map A.t = arrA f := by unfold arrA arrT; rw [List.map_map]; rfl
theorem arrA_get (f : Nat → Value) {c : Nat} (h : c < 256) : (arrA f)[c]? = some (.t (.v (f c))) := by
  unfold arrA; rw [List.getElem?_map, List.getElem?_range h]; rfl
theorem arrA_at (f : Nat → Value) {c : Nat} (h : c < 256) : (arrA f)[0 + c * 1]? = some (.t (.v (f c))) := by
  rw [Nat.zero_add, Nat.mul_one]; exact arrA_get f h
theorem arrA_fit (f : Nat → Value) {c : Nat} (h : c < 256) : Nat.ble (0 + c * 1 + 1) (arrA f).length = true := by
  rw [arrA_len, Nat.ble_eq]; omega
theorem arrA_set (f : Nat → Value) {c : Nat} (h : c < 256) (v : Value) : spl (arrA f) (0 + c * 1) [.t (.v v)] = arrA (fun i => if i = c then v else f i) := by
  unfold spl
  rw [Nat.zero_add, Nat.mul_one]
  refine List.ext_getElem? fun j => ?_
  have hl : ((arrA f).take c).length = c := by rw [List.length_take, arrA_len]; omega
  by_cases hj : j < 256
  · rw [arrA_get _ hj]
    rcases Nat.lt_trichotomy j c with h1 | h1 | h1
    · rw [List.getElem?_append_left (by omega), List.getElem?_take_of_lt h1, arrA_get f hj, if_neg (by omega)]
    · subst h1
      rw [List.getElem?_append_right (by omega), hl, Nat.sub_self, if_pos rfl]; rfl
    · rw [List.getElem?_append_right (by omega), hl, List.getElem?_append_right (by simp; omega), List.getElem?_drop]
      rw [show c + [A.t (.v v)].length + (j - c - [A.t (.v v)].length) = j by simp; omega, arrA_get f hj, if_neg (by omega)]
  · rw [List.getElem?_eq_none (by simp [hl, arrA_len]; omega), List.getElem?_eq_none (by rw [arrA_len]; omega)]
theorem arrA_zero (z : Value) : List.replicate 256 (A.t (.v z)) = arrA fun _ => z := by
  refine List.ext_getElem? fun j => ?_
  by_cases hj : j < 256
  · rw [arrA_get _ hj, List.getElem?_replicate, if_pos hj]
  · rw [List.getElem?_eq_none (by rw [List.length_replicate]; omega), List.getElem?_eq_none (by rw [arrA_len]; omega)]
theorem spl_arr (g f : Nat → Value) : spl (arrA g) 0 (A.t (.agg (arrT f))).cells = arrA f := by
  rw [cells_agg, arrT_map, spl_all _ _ (by rw [arrA_len, arrA_len])]
theorem arrT_congr {f g : Nat → Value} (h : ∀ i, i < 256 → f i = g i) : arrT f = arrT g := by
  unfold arrT
  exact List.map_congr_left fun i hi => by rw [h i (List.mem_range.1 hi)]
theorem arrA_congr {f g : Nat → Value} (h : ∀ i, i < 256 → f i = g i) : arrA f = arrA g := by
  rw [← arrT_map, ← arrT_map, arrT_congr h]
section
variable {P : Program} {N : Nat} {Q : Exit → St → Prop} {ops : Array Oper} {rest : List Oper} {tm : List (Nat × A)} {bx : List (Nat × List A)} {ow : List (Nat × Own)} {o : Oper} {ρ : Operand → Option A} {r : A}
theorem vwl_arr0 (f : Nat → Value) : VwL ow (arrA f) (arrT f) := by rw [← arrT_map]; exact vwl_t _
theorem vwl_arr (f : Nat → Value) : VwL ow (((arrA f).drop 0).take 256) (arrT f) := by
  rw [List.drop_zero, List.take_of_length_le (by rw [arrA_len]; omega)]; exact vwl_arr0 f
theorem vwl_spl (g f : Nat → Value) : VwL ow (spl (arrA g) 0 (A.t (.agg (arrT f))).cells) (arrT f) := by rw [spl_arr]; exact vwl_arr0 f
theorem sops_store_arr {ty : TypeId} {x z : Operand} {i : Nat} {g f : Nat → Value} (hT : tyI P ty = some (true, 256)) (hg : GuardIs ops tm o true) (ho : o.op = .store ty x z) (hd : o.dst = none) (hx : evA tm x = some (.bp i 0)) (hz : evA tm z = some (.t (.agg (arrT f)))) (hb : get bx i = some (arrA g))
    (h : SOps P N ops Q rest ⟨tm, (i, arrA f) :: bx, ow⟩) (hq : cellB i = true := by rfl) : SOps P N ops Q (o :: rest) ⟨tm, bx, ow⟩ :=
  sops_store (y := .t (.agg (arrT f))) (n := 256) hg ho hd hx hz rfl hb hT (by rw [cells_agg, List.length_map, arrT_len]) (by rw [arrA_len]; rfl) (by rw [spl_arr]; exact h) hq
theorem po_load_arr {ty : TypeId} {x : Operand} {i : Nat} {f : Nat → Value} (hT : tyI P ty = some (true, 256)) (ho : o.op = .load ty x) (hx : ρ x = some (.bp i 0)) (hb : get bx i = some (arrA f)) (hq : cellB i = true := by rfl) : PureOp P bx ow o ρ (.t (.agg (arrT f))) :=
  po_load_bx_agg ho hx hT hb (vwl_arr f) (arrT_len f) hq
theorem sops_alloc_256 {ty : TypeId} {z v : Value} {d : Nat} (hz : (P.info? ty).bind (·.zero) = some z) (hc : z.cells.toList = List.replicate 256 v) (h1 : v.oneCell' = true) (hg : GuardIs ops tm o true) (ho : o.op = .alloc ty) (hd : o.dst = some d) (hN : Nat.blt d N = true) (hi : get bx d = none)
    (h : SOps P N ops Q rest ⟨(d, .bp d 0) :: tm, (d, arrA fun _ => v) :: bx, ow⟩) (hp : Nat.ble 2000 d = false := by rfl) (hqc : cellB d = true := by rfl) : SOps P N ops Q (o :: rest) ⟨tm, bx, ow⟩ :=
  sops_alloc_arr hg ho hd hN hz hc h1 hi (by rw [arrA_zero]; exact h) hp hqc
theorem sops_store_at {ty : TypeId} {x z : Operand} {i c : Nat} {f : Nat → Value} {v : Value} {off : Nat} (hT : tyI P ty = some (false, 1)) (h1 : v.oneCell' = true) (hc : c < 256) (hg : GuardIs ops tm o true) (ho : o.op = .store ty x z) (hd : o.dst = none) (hx : evA tm x = some (.bp i off)) (hoff : off = 0 + c * 1) (hz : evA tm z = some (.t (.v v))) (hb : get bx i = some (arrA f))
    (h : SOps P N ops Q rest ⟨tm, (i, arrA fun j => if j = c then v else f j) :: bx, ow⟩) (hq : cellB i = true := by rfl) : SOps P N ops Q (o :: rest) ⟨tm, bx, ow⟩ := by
  subst hoff
  have hcs : (A.t (.v v)).cells = [A.t (.v v)] := by cases v <;> first | rfl | cases h1
  have hk : (A.t (.v v)).okB = true := by cases v <;> first | rfl | cases h1
  refine sops_store (y := .t (.v v)) (n := 1) hg ho hd hx hz hk hb hT (by rw [hcs]; rfl) (arrA_fit f hc) ?_ hq
  rw [hcs, arrA_set f hc]; exact h
theorem po_load_at {ty : TypeId} {x : Operand} {i c off : Nat} {f : Nat → Value} (hT : tyI P ty = some (false, 1)) (hc : c < 256) (ho : o.op = .load ty x) (hx : ρ x = some (.bp i off)) (hoff : off = 0 + c * 1) (hb : get bx i = some (arrA f)) (hq : cellB i = true := by rfl) : PureOp P bx ow o ρ (.t (.v (f c))) := by
  subst hoff
  exact po_load_bx ho hx hT hb (arrA_at f hc) hq
theorem po_nilcheck {x : Operand} {i off : Nat} (ho : o.op = .nilCheck x) (hx : ρ x = some (.bp i off)) : PureOp P bx ow o ρ (.bp i off) := pure_run fun C m g w a he h => by
  obtain ⟨h0, h1⟩ := h x (by simp [ho, Op.operands]) _ hx
  exact ⟨_, by simp [execOp, ho, h1], h0, rfl⟩
end
end Go.Proofs.YtloippgblkoemaaGreatDoor.Sim
