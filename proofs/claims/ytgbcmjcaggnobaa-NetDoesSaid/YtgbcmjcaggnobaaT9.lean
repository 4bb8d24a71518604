/- Merged by bundles.py: SimS, SimU, Del, Own2, SimDl, SimIn. -/
import Derived.Test.YtgbcmjcaggnobaaT8
import Derived.Lib.SliceRun
import Derived.Deep.RegionLaw
/- A logic of states: rows that are the call's alone, shortened. -/
namespace Go.Proofs.Ytgbcmjcaggnobaa.Sim
set_option linter.unusedVariables false
set_option linter.unusedSimpArgs false
open Go.RowKit Mem

section
variable {C : Ctx} {bx : List (Nat × List A)} {ow : List (Nat × Own)} {w : World} {m : Mm} {g : Gh}
end
section
variable {P : Program} {N : Nat} {Q : Exit → St → Prop} {ops : Array Oper} {rest : List Oper} {o : Oper} {tm : List (Nat × A)} {bx : List (Nat × List A)} {ow : List (Nat × Own)} {ρ : Operand → Option A}
end
end Go.Proofs.Ytgbcmjcaggnobaa.Sim
namespace Go.Proofs.Ytgbcmjcaggnobaa.Sim
set_option linter.unusedVariables false
set_option linter.unusedSimpArgs false
open Go.RowKit Mem
section
variable {P : Program} {N : Nat} {Q : Exit → St → Prop} {ops : Array Oper} {rest : List Oper} {o : Oper} {tm : List (Nat × A)} {bx bx0 bx1 : List (Nat × List A)} {ow ow0 ow1 : List (Nat × Own)}
/-- a call through a function's value that captured data alone -/
theorem sops_lcall_tclo {f : FuncId} {xz : Operand} {caps : List T} {xs : List Operand} {at_ : Array TypeId} {args : List A} {r : A} {d : Nat} (hc : LCalls P f (args ++ caps.map A.t) bx0 ow0 r bx1 ow1) (fb fw : Nat → Nat) (kp : Nat → Bool) (hg : GuardIs ops tm o true) (ho : o.op = .call { callee := .value xz, args := xs.toArray, argTypes := at_ }) (hd : o.dst = some d) (hN : Nat.blt d N = true)
    (hz : evA tm xz = some (.t (.clo f caps))) (ha : ArgsL fb fw ow bx0 ow0 (evA tm) xs args) (hx : LentX fb fw bx bx0) (hw : LentW fw ow ow0) (hl : (bx0.all fun p => p.2.all fun x => x.live bx0 ow0) = true) (hB : lendB fb fw bx bx0 bx1 ow ow0 ow1 = true)
    (hkp : ∀ i, kp i = true → Nat.ble 2000 i = true ∧ ∃ o0 o1, get ow0 i = some o0 ∧ get ow1 i = some o1 ∧ o1.rows.length = o0.rows.length)
    (h : SOps P N ops Q rest ⟨(d, r.ren fb fw) :: tm.map (fun p => (p.1, p.2.clr (chgOf fw kp ow0))), bxAft fb fw (chgOf fw kp ow0) bx1 bx, owAft fw ow0 ow1 ow⟩) : SOps P N ops Q (o :: rest) ⟨tm, bx, ow⟩ := by
  have hL := lend_of (kp := kp) hx hw hl hB hkp
  refine .mk fun C a w ⟨m, g, hr⟩ => ?_
  obtain ⟨h1, h2⟩ := ha.ok hL hr.env (a := a) (fun x _ y hy => hr.ev hy)
  have h0 : TR m (.clo f caps) (a.eval xz) := hr.ev hz
  generalize hvz : a.eval xz = vz at h0
  cases h0 with
  | clo f caps vs hvl hvc =>
    have hrun : (execOp a.eval o).run P w = .ok (.enter f ((xs.map a.eval).toArray ++ vs)) w := by
      have := hc.ent ((xs.map a.eval).toArray ++ vs) w
      simp only [execOp, ho, resolve, Deferred.ofValue, hvz, invoke, Sem.run_bind, Sem.run_pure, Result.andThen_ok, List.map_toArray, Array.append_empty, Array.empty_append] at this ⊢
      simpa using this
    refine wpList_step fun K hK => ?_
    rw [if_pos (hg.wanted (m := m) (g := g) fun j want e _ _ y hy => hr.tmps e y hy)]
    refine wp_call_of hrun (hc.run m w _ _ (hL.env_in hr.env) (by simp [h1, hvl]) (fun i x v h3 h4 => ?_)) ?_
    · rw [List.getElem?_append] at h3
      rw [Array.getElem?_append] at h4
      by_cases hi : i < args.length
      · rw [if_pos hi] at h3
        rw [if_pos (by simp; omega)] at h4
        exact h2 i x v h3 (by simpa using h4)
      · rw [if_neg hi] at h3
        rw [if_neg (by simp; omega)] at h4
        rw [List.getElem?_map] at h3
        cases hc' : caps[i - args.length]? with
        | none => rw [hc'] at h3; cases h3
        | some t =>
          rw [hc'] at h3; injection h3 with h3; subst h3
          exact hvc (i - args.length) t v hc' (by rw [← h1]; simpa using h4)
    rintro e w' ⟨v, m', g', rfl, henv, hv⟩
    obtain ⟨g'', e1, e2, e3⟩ := hL.env_out hr.env henv
    refine ⟨v, rfl, hK _ _ (h.go C _ _ ⟨m', g'', ?_⟩)⟩
    rw [hd]
    have hrel : RelG C N ⟨tm.map (fun p => (p.1, p.2.clr (chgOf fw kp ow0))), bxAft fb fw (chgOf fw kp ow0) bx1 bx, owAft fw ow0 ow1 ow⟩ a w' m' g'' := ⟨e1, hr.size, hr.defers, fun s x hx => by
      rw [show get (tm.map fun p => (p.1, p.2.clr (chgOf fw kp ow0))) s = _ from get_mapv _ _ _] at hx
      cases h5 : get tm s with
      | none => rw [h5] at hx; cases hx
      | some y => rw [h5] at hx; injection hx with hx; subst hx; exact e2 y _ (hr.tmps s y h5)⟩
    exact hrel.put e1 (fun x v h => h) (Nat.lt_of_succ_le (Nat.le_of_ble_eq_true hN)) (e3 r v hv)
end
end Go.Proofs.Ytgbcmjcaggnobaa.Sim

/- A logic of states: is a slice nil; an empty row of the call's own, under any number. -/
namespace Go.Proofs.Ytgbcmjcaggnobaa.Sim
set_option linter.unusedVariables false
set_option linter.unusedSimpArgs false
open Go.RowKit Mem
section
variable {P : Program} {N : Nat} {Q : Exit → St → Prop} {ops : Array Oper} {rest : List Oper} {o : Oper} {tm : List (Nat × A)} {bx : List (Nat × List A)} {ow : List (Nat × Own)}
theorem sops_isnil {t t2 sz d : Nat} {x : Operand} {y : A} {rows : List (List T)} (hg : GuardIs ops tm o true) (ho : o.op = .binOp .eql t x (.const (.slice none 0 0)) t2) (hd : o.dst = some d) (hN : Nat.blt d N = true) (hx : evA tm x = some y) (hv : Vw ow y (.sl sz rows)) (hT : sliceSz P t = some sz)
    (h : ∀ b, (b = true → rows = []) → SOps P N ops Q rest ⟨(d, .t (.v (.bool b))) :: tm, bx, ow⟩) : SOps P N ops Q (o :: rest) ⟨tm, bx, ow⟩ := by
  refine .mk fun C a w ⟨m, g, hr⟩ => ?_
  have hvt : TR m (.sl sz rows) (a.eval x) := hv.ok hr.env (hr.ev hx)
  obtain ⟨e, ii, hu, _⟩ := sliceSz_spec hT
  generalize hvx : a.eval x = v at hvt
  cases hvt with
  | sl _ _ A0 b off cap u hc hm hA hrl hu' ht =>
    have hrun : (execOp a.eval o).run P w = .ok (.value (.bool A0.isNone)) w := by
      have := Lib.run_eql_slice_nil (P := P) w t e A0 rows.length cap 0 0 hu
      have hc0 : a.eval (.const (.slice none 0 0)) = .slice none 0 0 := rfl
      have hgd : (eqGuard .eql t x (.const (.slice none 0 0)) (.slice A0 rows.length cap) (.slice none 0 0)).run P w = .ok () w := by simp [eqGuard]
      simp only [execOp, ho, hvx, hc0, Sem.run_bind, Sem.run_pure, Result.andThen_ok, this, hgd]
    have hb : A0.isNone = true → rows = [] := fun hn => by
      cases rows with
      | nil => rfl
      | cons r rs => rw [hA (by simp)] at hn; cases hn
    refine wpList_step fun K hK => ?_
    rw [if_pos (hg.wanted (m := m) (g := g) fun j want e _ _ y hy => hr.tmps e y hy)]
    refine wp_of_run hrun (hK _ _ ((h A0.isNone hb).go C _ _ ⟨m, g, ?_⟩))
    rw [hd]
    exact hr.put hr.env (fun x v h => h) (Nat.lt_of_succ_le (Nat.le_of_ble_eq_true hN)) (TR.v _)
theorem swp_ret_weak {st st' : St} (hw : Weak N st st') (h : Q .ret st') : SWp P N .ret Q st := .mk fun C a w hr => wk_of (wp_ret ⟨st', hw.go C a w hr, h⟩)
/-- a literal of none: a row of the call's own, under a number -/
theorem sops_build0i (i : Nat) {t e sz by_ d : Nat} (hg : GuardIs ops tm o true) (ho : o.op = .buildSlice t 0 #[]) (hd : o.dst = some d) (hN : Nat.blt d N = true) (hT : sliceE P t = some (e, sz, by_)) (hi : get ow i = none)
    (h : SOps P N ops Q rest ⟨(d, .own i 0) :: tm, bx, (i, ⟨e, sz, []⟩) :: ow⟩) (hp : Nat.ble 2000 i = false := by rfl) : SOps P N ops Q (o :: rest) ⟨tm, bx, ow⟩ := by
  refine sops_run hg (fun C a w m g hr => ?_) h
  have he := hr.env
  obtain ⟨i', zv, hu, hi', _⟩ := sliceE_spec hT
  have hlw : g.lw i = false := by rw [he.lw, hi]; rfl
  refine ⟨.slice (some ⟨w.heap.size, 0, none⟩) 0 0, w.alloc (.cells #[] e), ?_, ?_⟩
  · simp [execOp, ho, Instr.buildSlice, run_underlying hu, sizeOf, typeInfo, hi', Instr.fill, newRow]
    congr 2
    exact Array.eq_empty_of_size_eq_zero (by simp)
  · obtain ⟨h8, h9⟩ := he.setO (hp := hp) (w' := w.alloc (.cells #[] e)) (i := i) (v := .slice (some ⟨w.heap.size, 0, none⟩) 0 0) (e := e) (sz := sz) (rows := []) (vs := []) (.of (World.ownsRow_made w #[] 0 (Nat.zero_le _) (Nat.zero_le _) (by simp))) (fun r h => by cases h) ⟨rfl, fun j t v h => by simp at h⟩ (.inr hi) (.inr ⟨fun b hb => by injection hb with hb; subst hb; exact Nat.le_refl _, (Lo.refl w).alloc _⟩)
    rw [hd]
    exact ⟨_, _, hr.put h8 (fun x u h => h.setO h9 (.inl hlw)) (Nat.lt_of_succ_le (Nat.le_of_ble_eq_true hN)) ⟨by simp [Gh.setO], by simp [Gh.setO], ⟨_, _, rfl⟩, fun _ => by simp [Gh.setO]⟩⟩
end
end Go.Proofs.Ytgbcmjcaggnobaa.Sim

/- What slices.DeleteFunc keeps, round by round: a row of the call's own, written in place. -/
namespace Go.Proofs.Ytgbcmjcaggnobaa.Mem
set_option linter.unusedVariables false
set_option linter.unusedSimpArgs false
open Go.RowKit

/-- a row of the call's own, each element's cells by f -/
def Own3 {α : Type} (f : α → List Value) (e : TypeId) (base : Nat) (w : World) (v : Value) (xs : List α) : Prop := w.ownsRow base e 3 v xs.length (xs.flatMap f)
/-- three cells each, each one cell -/
def Cells3 {α : Type} (f : α → List Value) (xs : List α) : Prop := ∀ x ∈ xs, ∃ c0 c1 c2, f x = [c0, c1, c2] ∧ c0.oneCell' = true ∧ c1.oneCell' = true ∧ c2.oneCell' = true
theorem Cells3.len {α : Type} {f : α → List Value} : ∀ {xs : List α}, Cells3 f xs → (xs.flatMap f).length = xs.length * 3
  | [], _ => rfl
  | x :: r, h => by
    obtain ⟨c0, c1, c2, hx, _⟩ := h x (by simp)
    rw [List.flatMap_cons, List.length_append, Cells3.len fun y hy => h y (by simp [hy]), hx]
    simp; omega
theorem Cells3.sub {α : Type} {f : α → List Value} {xs ys : List α} (h : Cells3 f xs) (hs : ∀ y ∈ ys, y ∈ xs) : Cells3 f ys := fun y hy => h y (hs y hy)
theorem Cells3.get {α : Type} {f : α → List Value} : ∀ {xs : List α}, Cells3 f xs → ∀ {k : Nat} {x : α}, xs[k]? = some x → ∀ {m : Nat}, m < 3 → (xs.flatMap f)[k * 3 + m]? = (f x)[m]?
  | [], _, k, x, h, _, _ => by simp at h
  | y :: r, hc, 0, x, h, m, hm => by
    simp at h; subst h
    obtain ⟨c0, c1, c2, hx, _⟩ := hc y (by simp)
    rw [List.flatMap_cons, Nat.zero_mul, Nat.zero_add, List.getElem?_append_left (by rw [hx]; simpa using hm)]
  | y :: r, hc, k + 1, x, h, m, hm => by
    simp at h
    obtain ⟨c0, c1, c2, hx, _⟩ := hc y (by simp)
    rw [List.flatMap_cons, List.getElem?_append_right (by rw [hx]; simp; omega), hx]
    have : (k + 1) * 3 + m - [c0, c1, c2].length = k * 3 + m := by simp; omega
    rw [this]
    exact Cells3.get (fun z hz => hc z (by simp [hz])) h hm
theorem Cells3.one {α : Type} {f : α → List Value} {xs : List α} (h : Cells3 f xs) : ∀ u ∈ xs.flatMap f, u.oneCell' = true := by
  intro u hu
  obtain ⟨x, hx, hux⟩ := List.mem_flatMap.1 hu
  obtain ⟨c0, c1, c2, he, h0, h1, h2⟩ := h x hx
  rw [he] at hux
  simp at hux
  rcases hux with rfl | rfl | rfl <;> assumption
theorem Own3.nil {α : Type} {f : α → List Value} {e : TypeId} {base : Nat} {w : World} : Own3 f e base w (.slice none 0 0) ([] : List α) := World.ownsRow_nil _ _ _ _
theorem Own3.lo {α : Type} {f : α → List Value} {e : TypeId} {base : Nat} {w w' : World} {v : Value} {xs : List α} (h : Own3 f e base w v xs) (hl : Lo w w') : Own3 f e base w' v xs := hl.owns h
theorem Own3.kept {α : Type} {f : α → List Value} {e : TypeId} {base : Nat} {w w' : World} {v : Value} {xs : List α} {row : Option Nat} (h : Own3 f e base w v xs) (hg : w.grownBy w' row) (hne : v.ownBlock = none ∨ v.ownBlock ≠ row) : Own3 f e base w' v xs := World.ownsRow.kept h hg hne
/-- nothing there, or a block -/
theorem Own3.open_ {α : Type} {f : α → List Value} {e : TypeId} {base : Nat} {w : World} {v : Value} {xs : List α} (h : Own3 f e base w v xs) :
    (v = .slice none 0 0 ∧ xs = []) ∨ ∃ g cap cur, v = .slice (some ⟨g, 0, none⟩) xs.length cap ∧ base ≤ g ∧ w.heap[g]? = some (.cells (List.toArray cur) e (0, 0)) ∧ xs.length ≤ cap ∧ cap ≤ maxLen ∧ cur.length = cap * 3 ∧ cur.take (xs.length * 3) = xs.flatMap f := by
  obtain ⟨_, ⟨rfl, h0⟩ | ⟨g, cap, cur, hv, hb, hg, hn, hc, hs, ht⟩⟩ := h
  · exact .inl ⟨rfl, List.eq_nil_of_length_eq_zero h0⟩
  · exact .inr ⟨g, cap, cur.toList, hv, hb, by simpa using hg, hn, hc, by simpa using hs, ht⟩
/-- read as a slice, each element by its cells -/
def CellR {α : Type} (f : α → List Value) : Rel α := fun _ _ x cs => cs = f x
theorem CellR.kept {α : Type} {f : α → List Value} : Kept (CellR f) := fun _ _ _ _ _ _ h _ _ => h
theorem Own3.slice {α : Type} {f : α → List Value} {e : TypeId} {base : Nat} {w : World} {v : Value} {xs : List α} (h : Own3 f e base w v xs) (h3 : Cells3 f xs) :
    ∃ A cap, v = .slice A xs.length cap ∧ SliceAt (CellR f) 3 w.heap.size w A xs ∧ xs.length ≤ cap ∧ cap ≤ maxLen := by
  rcases h.open_ with ⟨rfl, rfl⟩ | ⟨g, cap, cur, rfl, hb, hg, hn, hc, hs, ht⟩
  · exact ⟨none, 0, rfl, SliceAt.nil, by simp, by simp [maxLen]⟩
  · refine ⟨some ⟨g, 0, none⟩, cap, rfl, ?_, hn, hc⟩
    intro k x hx
    have hk : k < xs.length := (List.getElem?_eq_some_iff.1 hx).1
    obtain ⟨c0, c1, c2, hf, _⟩ := h3 x (List.mem_of_getElem? hx)
    refine ⟨g, 0, f x, rfl, block_lt hg, by rw [hf]; rfl, ?_, rfl⟩
    intro j v hj
    have hj3 : j < 3 := by
      rcases Nat.lt_or_ge j 3 with h' | h'
      · exact h'
      · rw [hf, List.getElem?_eq_none (by simpa using h')] at hj; cases hj
    rw [Nat.zero_add]
    refine cell_row hg ?_
    have := h3.get hx hj3
    rw [← ht, List.getElem?_take_of_lt (by omega)] at this
    rw [this]; exact hj

section
variable {α : Type} (f : α → List Value) (e : TypeId) (w : World) (g cap : Nat) (xs : List α) (p : α → Bool)
structure DelInv (i j : Nat) (wr : World) : Prop where
  gr : w.grownBy wr (some g)
  cells : ∃ cur : List Value, wr.heap[g]? = some (.cells cur.toArray e (0, 0)) ∧ cur.length = cap * 3 ∧ cur.take (i * 3) = ((xs.take j).filter fun x => !p x).flatMap f ∧
    ∀ k x, j ≤ k → xs[k]? = some x → ∀ m, m < 3 → cur[k * 3 + m]? = (f x)[m]?
  hi : i = ((xs.take j).filter fun x => !p x).length
  ij : i < j
  jn : j ≤ xs.length
variable {f e w g cap xs p}
theorem DelInv.lo {i j : Nat} {wr w' : World} (h : DelInv f e w g cap xs p i j wr) (hl : Lo wr w') : DelInv f e w g cap xs p i j w' := by
  obtain ⟨gr, ⟨cur, hg, hs, ht, hc⟩, hi, ij, jn⟩ := h
  exact ⟨grown_lo gr hl, ⟨cur, cells_lo hg hl, hs, ht, hc⟩, hi, ij, jn⟩
theorem DelInv.drop {i j : Nat} {wr : World} (h : DelInv f e w g cap xs p i j wr) (hj : j < xs.length) (hp : p xs[j] = true) : DelInv f e w g cap xs p i (j + 1) wr := by
  obtain ⟨gr, ⟨cur, hg, hs, ht, hc⟩, hi, ij, jn⟩ := h
  have hf : (xs.take (j + 1)).filter (fun x => !p x) = (xs.take j).filter fun x => !p x := by
    rw [List.take_succ_eq_append_getElem hj, List.filter_append]; simp [hp]
  exact ⟨gr, ⟨cur, hg, hs, by rw [hf]; exact ht, fun k x hk => hc k x (by omega)⟩, by rw [hf]; exact hi, by omega, hj⟩
theorem DelInv.keep {i j : Nat} {wr : World} (h : DelInv f e w g cap xs p i j wr) (hn : xs.length ≤ cap) (hj : j < xs.length) (hp : p xs[j] = false) {c0 c1 c2 : Value} (hf : f xs[j] = [c0, c1, c2]) :
    DelInv f e w g cap xs p (i + 1) (j + 1) (((wr.setCell ⟨g, i * 3, none⟩ c0).setCell ⟨g, i * 3 + 1, none⟩ c1).setCell ⟨g, i * 3 + 2, none⟩ c2) := by
  obtain ⟨gr, ⟨cur, hg, hs, ht, hc⟩, hi, ij, jn⟩ := h
  have hff : (xs.take (j + 1)).filter (fun x => !p x) = ((xs.take j).filter fun x => !p x) ++ [xs[j]] := by
    rw [List.take_succ_eq_append_getElem hj, List.filter_append]; simp [hp]
  have g1 := setCell_eq_setRow wr g (i * 3) cur.toArray e (0, 0) c0 hg
  have h1 : (wr.setCell ⟨g, i * 3, none⟩ c0).heap[g]? = some (.cells (cur.set (i * 3) c0).toArray e (0, 0)) := by rw [g1]; simpa using setRow_heap wr g _ (cur.toArray.setIfInBounds (i * 3) c0) e (0, 0) hg
  have g2 := setCell_eq_setRow _ g (i * 3 + 1) _ e (0, 0) c1 h1
  have h2 : ((wr.setCell ⟨g, i * 3, none⟩ c0).setCell ⟨g, i * 3 + 1, none⟩ c1).heap[g]? = some (.cells ((cur.set (i * 3) c0).set (i * 3 + 1) c1).toArray e (0, 0)) := by rw [g2]; simpa using setRow_heap _ g _ ((cur.set (i * 3) c0).toArray.setIfInBounds (i * 3 + 1) c1) e (0, 0) h1
  have g3 := setCell_eq_setRow _ g (i * 3 + 2) _ e (0, 0) c2 h2
  have h3 : (((wr.setCell ⟨g, i * 3, none⟩ c0).setCell ⟨g, i * 3 + 1, none⟩ c1).setCell ⟨g, i * 3 + 2, none⟩ c2).heap[g]? = some (.cells (((cur.set (i * 3) c0).set (i * 3 + 1) c1).set (i * 3 + 2) c2).toArray e (0, 0)) := by rw [g3]; simpa using setRow_heap _ g _ (((cur.set (i * 3) c0).set (i * 3 + 1) c1).toArray.setIfInBounds (i * 3 + 2) c2) e (0, 0) h2
  refine ⟨grown_trans (grown_trans (grown_trans gr (grown_setCell _)) (grown_setCell _)) (grown_setCell _), ⟨_, h3, by simpa using hs, ?_, ?_⟩, by rw [hff, List.length_append, ← hi]; rfl, by omega, hj⟩
  · rw [hff, List.flatMap_append, ← ht]
    have hlen : i * 3 + 3 ≤ cur.length := by omega
    refine List.ext_getElem? fun m => ?_
    by_cases hm : m < (i + 1) * 3
    · rw [List.getElem?_take_of_lt hm]
      by_cases hmi : m < i * 3
      · rw [List.getElem?_append_left (by rw [List.length_take]; omega), List.getElem?_take_of_lt hmi]
        rw [List.getElem?_set_ne (by omega), List.getElem?_set_ne (by omega), List.getElem?_set_ne (by omega)]
      · rw [List.getElem?_append_right (by rw [List.length_take]; omega), List.length_take, Nat.min_eq_left (by omega)]
        simp only [List.flatMap_cons, List.flatMap_nil, List.append_nil, hf]
        obtain rfl | rfl | rfl : m = i * 3 ∨ m = i * 3 + 1 ∨ m = i * 3 + 2 := by omega
        · rw [List.getElem?_set_ne (by omega), List.getElem?_set_ne (by omega), List.getElem?_set_self (by omega)]; simp
        · rw [List.getElem?_set_ne (by omega), List.getElem?_set_self (by simp; omega)]; simp
        · rw [List.getElem?_set_self (by simp; omega)]; simp
    · rw [List.getElem?_eq_none (by simp; omega), List.getElem?_eq_none (by simp [hf]; omega)]
  · intro k x hk hx m hm
    rw [List.getElem?_set_ne (by omega), List.getElem?_set_ne (by omega), List.getElem?_set_ne (by omega)]
    exact hc k x (by omega) hx m hm
end
end Go.Proofs.Ytgbcmjcaggnobaa.Mem

/- Rows of the call's own: an append of a make; what an insertion leaves. -/
namespace Go.Proofs.Ytgbcmjcaggnobaa.Mem
set_option linter.unusedVariables false
set_option linter.unusedSimpArgs false
open Go.RowKit

theorem size_splice {β : Type} {L cs : List β} {off : Nat} (h : off + cs.length ≤ L.length) : (splice L off cs).length = L.length := length_splice L off cs h

end Go.Proofs.Ytgbcmjcaggnobaa.Mem

/- slices.Delete of one element, of a row whose elements are one cell each, in its own block. -/
namespace Go.Proofs.Ytgbcmjcaggnobaa.Sim
set_option linter.unusedVariables false
set_option linter.unusedSimpArgs false
open Go.RowKit Mem BigFrame
theorem step_append_roomM {P : Program} {ops : Array Oper} {o : Oper} {a : Act} {w : World} {K : Act → World → Prop} {Q : Exit → Act → World → Prop} {E : Prop} (hgd : o.guard = none) (d s : Operand) (t e : TypeId) (i : TypeInfo)
    (ho : o.op = .call { callee := .builtin .append, args := #[d, s], argTypes := #[t, t] }) (hu : P.underlying t = some (.slice e)) (hi : P.info? e = some i) (hsz : i.size = 1)
    (g sLen sCap : Nat) (ad : Addr) (m c : Nat) (hd : a.eval d = .slice (some ⟨g, 0, none⟩) sLen sCap) (hs : a.eval s = .slice (some ad) m c)
    (cur : List Value) (fz : Nat × Nat) (hg : w.heap[g]? = some (.cells cur.toArray e fz)) (hfz : FzOk fz cur.length) (cs : List Value) (hn : cs.length = m)
    (hsrc : ∀ (j : Nat) v, cs[j]? = some v → w.cell? (ad.add j) = some v) (hroom : sLen + m ≤ sCap) (hfit : sLen + cs.length ≤ cur.length) {nn : Nat} (hnn : sLen + m = nn) (h1 : ∀ v ∈ cs, v.oneCell' = true)
    (h : ∀ w', Hid (w'.heap[g]? = some (.cells (splice cur sLen cs).toArray e fz)) → w.grownBy w' (some g) → K (a.put o.dst (.slice (some ⟨g, 0, none⟩) nn sCap)) w') :
    if Region.wanted o (yielded ops a.tmps) = true then Oper.wp P o a w K Q else E := by
  subst hnn
  have hw : Region.wanted o (yielded ops a.tmps) = true := by simp [Region.wanted, hgd]
  rw [if_pos hw]
  have hrun := run_append_roomM (P := P) w t o.type e i hu hi g sLen sCap cur.toArray fz hg (by simpa using hfz) ad m c cs (by rw [hsz, Nat.mul_one]; exact hn) hsrc h1 hroom (by rw [hsz, Nat.mul_one]; simpa using hfit)
  rw [hsz, Nat.mul_one] at hrun
  unfold Oper.wp execOp
  simp only [ho, resolve, invoke, builtin, Sem.run_bind, Sem.run_pure, Result.andThen_ok, List.map_toArray, List.map_cons, List.map_nil, hd, hs, hrun]
  refine h _ (Lib.hid ?_) (grown_setRow w g _)
  rw [setRow_heap w g _ _ e fz hg]
  simp [splice]
theorem wpList_clear_rowM {P : Program} {w : World} {ops : Array Oper} {rest : List Oper} {o : Oper} {a : Act} {Q : Exit → Act → World → Prop} (hgd : o.guard = none) (s : Operand) (sT : TypeId)
    (ho : o.op = .call { callee := .builtin .clear, args := #[s], argTypes := #[sT] }) (e : TypeId) (i : TypeInfo) (z : Value) (hu : P.underlying sT = some (.slice e)) (hi : P.info? e = some i) (hz : i.zero = some z)
    (g off n c : Nat) (hs : a.eval s = .slice (some ⟨g, off, none⟩) n c) (hn : 0 < n)
    (cur : List Value) (t : TypeId) {fz : Nat × Nat} (hg : w.heap[g]? = some (.cells cur.toArray t fz)) (hfz : FzOk fz cur.length) (hfit : off + n * z.cells.size ≤ cur.length) (h1 : ∀ u ∈ z.cells.toList, u.oneCell' = true) (hz0 : 0 < z.cells.size)
    (h : ∀ (w' : World) (cur' : List Value), Hid (w'.heap[g]? = some (.cells cur'.toArray t fz) ∧ cur'.length = cur.length ∧ cur'.take off = cur.take off) → w.grownBy w' (some g) → wpList P ops Q rest (a.put o.dst (.tuple #[])) w') : wpList P ops Q (o :: rest) a w := by
  refine wpList_plain hgd fun K hK => ?_
  have hone : ∀ u ∈ (Builtin.zeroCells z.cells n).toList, u.oneCell' = true := by
    intro u hu
    simp only [Builtin.zeroCells, Array.toList_map, List.mem_map] at hu
    obtain ⟨k, _, rfl⟩ := hu
    have hk : k % z.cells.size < z.cells.size := Nat.mod_lt _ hz0
    rw [getElem!_pos z.cells (k % z.cells.size) hk]
    exact h1 _ (by simp)
  have hrun := run_clear_rowM (P := P) (w := w) sT e o.type i z hu hi hz g off n c hn cur.toArray t hg (by simpa using hfz) (by simpa using hfit) hone
  unfold Oper.wp execOp
  simp only [ho, resolve, invoke, builtin, Sem.run_bind, Sem.run_pure, Result.andThen_ok, List.map_toArray, List.map_cons, List.map_nil, hs, hrun]
  have hzl : (Builtin.zeroCells z.cells n).toList.length = n * z.cells.size := by rw [Array.length_toList, size_zeroCells]
  refine hK _ _ (h _ (cur.take off ++ (Builtin.zeroCells z.cells n).toList ++ cur.drop (off + (Builtin.zeroCells z.cells n).toList.length)) (Lib.hid ⟨?_, ?_, ?_⟩) (grown_setRow w g _))
  · rw [setRow_heap w g _ _ t _ hg]
  · simp only [List.length_append, List.length_take, List.length_drop, hzl]; omega
  · rw [List.append_assoc]; exact List.take_left' (by rw [List.length_take]; omega)
theorem splice_erase {β : Type} {L : List β} {n i : Nat} (hi : i < n) (hn : n ≤ L.length) : (splice L i ((L.take n).drop (i + 1))).take (n - 1) = (L.take n).eraseIdx i := by
  have hl : (L.take i ++ (L.take n).drop (i + 1)).length = n - 1 := by simp only [List.length_append, List.length_take, List.length_drop]; omega
  have ht : (L.take n).take i = L.take i := by rw [List.take_take, Nat.min_eq_left (by omega)]
  rw [List.eraseIdx_eq_take_drop_succ, ht, ← hl]
  unfold splice
  rw [← List.append_assoc]
  exact List.take_left
theorem infoS : (Try.prog.info? 28).map (fun i => (i.zero, i.size, i.bytes)) = some (some (.slice none 0 0), 1, 24) := by kernel_rfl
set_option maxRecDepth 100000 in
set_option maxHeartbeats 3200000 in
theorem delete_ (g cap n i : Nat) (cur : List Value) (fz : Nat × Nat) (w : World) (hg : w.heap[g]? = some (.cells cur.toArray 28 fz)) (hfz : FzOk fz cur.length) (hin : i < n) (hnc : n ≤ cap) (hcm : cap ≤ maxLen) (hcs : cap ≤ cur.length) (h1 : ∀ u ∈ cur.take n, u.oneCell' = true) :
    Calls Try.prog 45 #[.slice (some ⟨g, 0, none⟩) n cap, .int .i64 i, .int .i64 ((i : Int) + 1)] w fun e w' => e = .returned (.slice (some ⟨g, 0, none⟩) (n - 1) cap) ∧ w.grownBy w' (some g) ∧ ∃ cur' : List Value, w'.heap[g]? = some (.cells cur'.toArray 28 fz) ∧ cur'.length = cur.length ∧ cur'.take (n - 1) = (cur.take n).eraseIdx i := by
  obtain ⟨i0, hi, hz0, hz1, hz2⟩ := info_parts infoS
  have HG := Lib.hid hg
  have HF := Lib.hid hfz
  have hsrc : Hid (∀ w0, Lo w w0 → ∀ (j : Nat) u, ((cur.take n).drop (i + 1))[j]? = some u → w0.cell? ((⟨g, i + 1, none⟩ : Addr).add j) = some u) := Lib.hid fun w0 hl j u hj => by
    rw [addr_add]
    refine lo_keep hl ?_
    rw [List.getElem?_drop] at hj
    have hjn : i + 1 + j < n := by have := (List.getElem?_eq_some_iff.1 hj).1; simp at this; omega
    rw [List.getElem?_take_of_lt hjn] at hj
    have hjl := (List.getElem?_eq_some_iff.1 hj).1
    obtain ⟨hx, hy⟩ := List.getElem?_eq_some_iff.1 hj
    simp [World.cell?, hg, hjl, hy]
  have hlen : ((cur.take n).drop (i + 1)).length = n - (i + 1) := by simp; omega
  have hone : ∀ u ∈ (cur.take n).drop (i + 1), u.oneCell' = true := fun u hu => h1 u (List.mem_of_mem_drop hu)
  have HSP := Lib.hid (splice_erase (L := cur) hin (by omega))
  have hsl : (splice cur i ((cur.take n).drop (i + 1))).length = cur.length := size_splice (by rw [hlen]; omega)
  clear hg hfz h1
  generalize (cur.take n).drop (i + 1) = Xs at *
  generalize (cur.take n).eraseIdx i = Ys at *
  have j0 : (0 : Int) ≤ (i : Int) := by omega
  have j1 : (i : Int) + 1 ≤ (n : Int) := by omega
  have j2 : (n : Int) ≤ (cap : Int) := by omega
  have j3 : ¬ ((i : Int) = (i : Int) + 1) := by omega
  have j4 : (0 : Int) ≤ (i : Int) + 1 := by omega
  have j5 : ((i : Int) + 1).toNat = i + 1 := by omega
  have j6 : (i : Int) ≤ (i : Int) + 1 := by omega
  have j7 : (i : Int) ≤ (cap : Int) := by omega
  have hbg : g < w.heap.size := block_lt HG.out
  go_enter Try.func45, Try.ntmps45
  go_wp2
  obtain ⟨ad, had, hadc⟩ : ∃ ad : Addr, (if cap = i + 1 then some (⟨g, 0, none⟩ : Addr) else some ⟨g, i + 1, none⟩) = some ad ∧ Hid (∀ w0, Lo w w0 → ∀ (j : Nat) u, Xs[j]? = some u → w0.cell? (ad.add j) = some u) := by
    by_cases h : cap = i + 1
    · refine ⟨⟨g, 0, none⟩, if_pos h, Lib.hid fun w0 hl j u hj => ?_⟩
      have := (List.getElem?_eq_some_iff.1 hj).1
      omega
    · exact ⟨⟨g, i + 1, none⟩, if_neg h, hsrc⟩
  go_region_law (refine step_append_roomM rfl (.tmp 22) (.tmp 25) 76 28 i0 rfl Try.underlying76 hi hz1 g i cap ad (n - (i + 1)) (cap - (i + 1)) (by simp [Act.eval, Act.put]) (by simp [Act.eval, Act.put, had]) cur fz HG.out HF.out Xs hlen (hadc.out _ (Lo.refl w).drew) (by omega) (by omega) (show i + (n - (i + 1)) = n - 1 by omega) hone ?_; intro w1 HG1 hgr1)
  have hgr1 : w.grownBy w1 (some g) := grown_trans (grown_of_lo (Lo.refl w).drew) hgr1
  have q0 : ((n - 1 : Nat) : Int) ≤ (n : Int) := by omega
  have q1 : (0 : Int) ≤ ((n - 1 : Nat) : Int) := by omega
  have q2 : ¬ (cap = n - 1) := by omega
  have q3 : n - (n - 1) = 1 := by omega
  have HF1 : Hid (FzOk fz (splice cur i Xs).length) := Lib.hid (by rw [hsl]; exact HF.out)
  have hfit : n - 1 + 1 ≤ (splice cur i Xs).length := by omega
  have hzf : n - 1 + 1 * (Value.slice none 0 0).cells.size ≤ (splice cur i Xs).length := by simpa [Value.cells] using hfit
  have hz1' : ∀ u ∈ (Value.slice none 0 0).cells.toList, u.oneCell' = true := by simp [Value.cells, Value.oneCell']
  have hz0' : 0 < (Value.slice none 0 0).cells.size := by simp [Value.cells]
  have h01 : 0 < 1 := by omega
  go_wp2_with ((refine wpList_clear_rowM rfl (.tmp 31) 76 rfl 28 i0 (.slice none 0 0) Try.underlying76 hi hz0 g (n - 1) 1 (cap - (n - 1)) rfl h01 _ 28 HG1.out HF1.out hzf hz1' hz0' ?_); intro w2 cur2 HG2 hgr2)
  go_ret
  exact ⟨rfl, grown_trans hgr1 hgr2, cur2, HG2.out.1, HG2.out.2.1.trans hsl, by rw [HG2.out.2.2]; exact HSP.out⟩
end Go.Proofs.Ytgbcmjcaggnobaa.Sim

/- slices.Insert of one element ahead of a row, whose elements are one cell each, where there is room. -/
namespace Go.Proofs.Ytgbcmjcaggnobaa.Sim
set_option linter.unusedVariables false
set_option linter.unusedSimpArgs false
open Go.RowKit Mem BigFrame
theorem run_copy_row_szM {P : Program} (w : World) (dT sT ty elem : TypeId) (g o dLen dCap : Nat) (a : Addr) (sLen sCap : Nat) (cur : Array Value) (t : TypeId) (fz : Nat × Nat) (cs : List Value)
    (hu : P.underlying dT = some (.slice elem)) (hs : (P.info? elem).map (·.size) = some 1)
    (hg : w.heap[g]? = some (.cells cur t fz)) (hfz : FzOk fz cur.size) (hn : cs.length = Nat.min sLen dLen)
    (hsrc : ∀ (j : Nat) v, cs[j]? = some v → w.cell? (a.add j) = some v) (hfit : o + cs.length ≤ cur.size) (h1 : ∀ v ∈ cs, v.oneCell' = true) :
    (Builtin.copy_ #[dT, sT] ty #[.slice (some ⟨g, o, none⟩) dLen dCap, .slice (some a) sLen sCap]).run P w =
      .ok (goInt (Nat.min sLen dLen)) (w.setRow g (cur.toList.take o ++ cs ++ cur.toList.drop (o + cs.length)).toArray) := by
  have hl := run_loadCells_list (P := P) w a cs hsrc
  have hst := run_storeCells_atM P g o t fz cs 0 cur w hg hfz (by simpa using hfit) h1
  cases hq : P.info? elem with
  | none => simp [hq] at hs
  | some i =>
    have hi : i.size = 1 := by simpa [hq] using hs
    simp [Builtin.copy_, run_underlying hu, Builtin.lenOf, Builtin.firstCells, sizeOf, typeInfo, hq, hi, ← hn, hl, hst]
section
variable {P : Program} {w : World} {ops : Array Oper} {rest : List Oper} {o : Oper} {a : Act} {Q : Exit → Act → World → Prop} {K : Act → World → Prop} {E : Prop}
theorem wpList_copy_rowM (hgd : o.guard = none) (d s : Operand) (dT sT : TypeId)
    (ho : o.op = .call { callee := .builtin .copy, args := #[d, s], argTypes := #[dT, sT] }) (elem : TypeId) (hu : P.underlying dT = some (.slice elem)) (hsz : (P.info? elem).map (·.size) = some 1)
    (g off dLen dCap : Nat) (ad : Addr) (sLen sCap : Nat) (hd : a.eval d = .slice (some ⟨g, off, none⟩) dLen dCap) (hs : a.eval s = .slice (some ad) sLen sCap)
    (cur : List Value) (t : TypeId) {fz : Nat × Nat} (hg : w.heap[g]? = some (.cells cur.toArray t fz)) (hfz : FzOk fz cur.length) (cs : List Value) (hn : cs.length = Nat.min sLen dLen)
    (hsrc : ∀ (j : Nat) v, cs[j]? = some v → w.cell? (ad.add j) = some v) (hfit : off + cs.length ≤ cur.length) (h1 : ∀ v ∈ cs, v.oneCell' = true)
    (h : ∀ w', Hid (w'.heap[g]? = some (.cells (splice cur off cs).toArray t fz)) → w.grownBy w' (some g) → wpList P ops Q rest (a.put o.dst (goInt (Nat.min sLen dLen))) w') : wpList P ops Q (o :: rest) a w := by
  refine wpList_plain hgd fun K hK => ?_
  have hrun := run_copy_row_szM (P := P) w dT sT o.type elem g off dLen dCap ad sLen sCap cur.toArray t fz cs hu hsz hg (by simpa using hfz) hn hsrc (by simpa using hfit) h1
  unfold Oper.wp execOp
  simp only [ho, resolve, invoke, builtin, Sem.run_bind, Sem.run_pure, Result.andThen_ok, List.map_toArray, List.map_cons, List.map_nil, hd, hs, hrun]
  refine hK _ _ (h _ (Lib.hid ?_) (grown_setRow w g _))
  rw [setRow_heap w g _ _ t _ hg]
  simp [splice]
theorem step_copy_rowM (hgd : o.guard = none) (d s : Operand) (dT sT : TypeId)
    (ho : o.op = .call { callee := .builtin .copy, args := #[d, s], argTypes := #[dT, sT] }) (elem : TypeId) (hu : P.underlying dT = some (.slice elem)) (hsz : (P.info? elem).map (·.size) = some 1)
    (g off dLen dCap : Nat) (ad : Addr) (sLen sCap : Nat) (hd : a.eval d = .slice (some ⟨g, off, none⟩) dLen dCap) (hs : a.eval s = .slice (some ad) sLen sCap)
    (cur : List Value) (t : TypeId) {fz : Nat × Nat} (hg : w.heap[g]? = some (.cells cur.toArray t fz)) (hfz : FzOk fz cur.length) (cs : List Value) (hn : cs.length = Nat.min sLen dLen)
    (hsrc : ∀ (j : Nat) v, cs[j]? = some v → w.cell? (ad.add j) = some v) (hfit : off + cs.length ≤ cur.length) (h1 : ∀ v ∈ cs, v.oneCell' = true)
    (h : ∀ w', Hid (w'.heap[g]? = some (.cells (splice cur off cs).toArray t fz)) → w.grownBy w' (some g) → K (a.put o.dst (goInt (Nat.min sLen dLen))) w') :
    if Region.wanted o (yielded ops a.tmps) = true then Oper.wp P o a w K Q else E := by
  have hw : Region.wanted o (yielded ops a.tmps) = true := by simp [Region.wanted, hgd]
  rw [if_pos hw]
  have hrun := run_copy_row_szM (P := P) w dT sT o.type elem g off dLen dCap ad sLen sCap cur.toArray t fz cs hu hsz hg (by simpa using hfz) hn hsrc (by simpa using hfit) h1
  unfold Oper.wp execOp
  simp only [ho, resolve, invoke, builtin, Sem.run_bind, Sem.run_pure, Result.andThen_ok, List.map_toArray, List.map_cons, List.map_nil, hd, hs, hrun]
  refine h _ (Lib.hid ?_) (grown_setRow w g _)
  rw [setRow_heap w g _ _ t _ hg]
  simp [splice]
theorem wpList_append_roomM (hgd : o.guard = none) (d s : Operand) (t e : TypeId) (i : TypeInfo)
    (ho : o.op = .call { callee := .builtin .append, args := #[d, s], argTypes := #[t, t] }) (hu : P.underlying t = some (.slice e)) (hi : P.info? e = some i) (hsz : i.size = 1)
    (g sLen sCap : Nat) (ad : Addr) (m c : Nat) (hd : a.eval d = .slice (some ⟨g, 0, none⟩) sLen sCap) (hs : a.eval s = .slice (some ad) m c)
    (cur : List Value) (fz : Nat × Nat) (hg : w.heap[g]? = some (.cells cur.toArray e fz)) (hfz : FzOk fz cur.length) (cs : List Value) (hn : cs.length = m)
    (hsrc : ∀ (j : Nat) v, cs[j]? = some v → w.cell? (ad.add j) = some v) (hroom : sLen + m ≤ sCap) (hfit : sLen + cs.length ≤ cur.length) {nn : Nat} (hnn : sLen + m = nn) (h1 : ∀ v ∈ cs, v.oneCell' = true)
    (h : ∀ w', Hid (w'.heap[g]? = some (.cells (splice cur sLen cs).toArray e fz)) → w.grownBy w' (some g) → wpList P ops Q rest (a.put o.dst (.slice (some ⟨g, 0, none⟩) nn sCap)) w') : wpList P ops Q (o :: rest) a w := by
  subst hnn
  refine wpList_plain hgd fun K hK => ?_
  have hrun := run_append_roomM (P := P) w t o.type e i hu hi g sLen sCap cur.toArray fz hg (by simpa using hfz) ad m c cs (by rw [hsz, Nat.mul_one]; exact hn) hsrc h1 hroom (by rw [hsz, Nat.mul_one]; simpa using hfit)
  rw [hsz, Nat.mul_one] at hrun
  unfold Oper.wp execOp
  simp only [ho, resolve, invoke, builtin, Sem.run_bind, Sem.run_pure, Result.andThen_ok, List.map_toArray, List.map_cons, List.map_nil, hd, hs, hrun]
  refine hK _ _ (h _ (Lib.hid ?_) (grown_setRow w g _))
  rw [setRow_heap w g _ _ e fz hg]
  simp [splice]
end
theorem run_overlaps_noM {P : Program} {f : FuncId} {fn : Func} {tS tR e : TypeId} {size : Nat} (hf : P.funcs[f]? = some fn) (hname : (fn.name == "runtime.NumGoroutine") = false) (hb : fn.body.isNone = true) (hn : Extern.findNext fn = none) (he : Extern.find fn = some (Extern.SlicesOverlaps.overlaps #[tS, tS] #[tR]))
    (ht : P.underlying tS = some (.slice e)) (hz : ∀ w, (Go.sizeOf e).run P w = .ok size w) (w : World) (a b : Nat) (hne : a ≠ b) (ca cb : Array Value) (ta tb : TypeId) (fz : Nat × Nat) (ha : w.heap[a]? = some (.cells ca ta (0, 0))) (hB : w.heap[b]? = some (.cells cb tb fz)) (h0 : 0 < cb.size) (oa ob la ka lb kb : Nat) :
    (callFunc f #[.slice (some ⟨a, oa, none⟩) la ka, .slice (some ⟨b, ob, none⟩) lb kb]).run P w = .ok (.value (.bool false)) w := by
  rw [run_callFunc_extern hf hname hb hn he, Lib.run_overlaps_apart w tS tR e ht size hz ⟨a, oa, none⟩ ⟨b, ob, none⟩ la ka lb kb hne ta tb ca.size cb.size (by simp [World.shape?, ha]) (by simp [World.shape?, hB]) (by omega) (by simp [World.frozen?, ha]) (by simp [World.frozen?, ha])]
  rfl
theorem overlapsB_ (w : World) (a b : Nat) (hne : a ≠ b) (ca cb : Array Value) (ta tb : TypeId) (fz : Nat × Nat) (ha : w.heap[a]? = some (.cells ca ta (0, 0))) (hB : w.heap[b]? = some (.cells cb tb fz)) (h0 : 0 < cb.size) (oa ob la ka lb kb : Nat) :
    (callFunc 54 #[.slice (some ⟨a, oa, none⟩) la ka, .slice (some ⟨b, ob, none⟩) lb kb]).run Try.prog w = .ok (.value (.bool false)) w :=
  run_overlaps_noM (tS := 76) (tR := 4) (e := 28) (size := 1) Try.func54 (by kernel_rfl) (by kernel_rfl) (by kernel_rfl) (by kernel_rfl) Try.underlying76 (fun _ => by kernel_rfl) w a b hne ca cb ta tb fz ha hB h0 oa ob la ka lb kb
theorem splice0_take {L : List Value} {n : Nat} {x : Value} (hn : n + 1 ≤ L.length) : (splice (splice L 1 (L.take n)) 0 [x]).take (n + 1) = x :: L.take n := by
  have hl : (L.take n).length = n := by rw [List.length_take]; omega
  have h1 : splice L 1 (L.take n) = L.take 1 ++ (L.take n ++ L.drop (1 + n)) := by unfold splice; rw [hl]
  have h2 : (L.take 1).length = 1 := by rw [List.length_take]; omega
  have h3 : splice (splice L 1 (L.take n)) 0 [x] = x :: (L.take n ++ L.drop (1 + n)) := by
    rw [h1]; unfold splice
    rw [List.take_zero, List.nil_append, show (0 + [x].length) = (L.take 1).length by rw [h2]; rfl, List.drop_left]; rfl
  rw [h3, List.take_succ_cons]
  congr 1
  exact List.take_left' hl
theorem splice00_take {L : List Value} {x : Value} : (splice L 0 [x]).take 1 = [x] := by
  unfold splice; rfl
set_option maxRecDepth 100000 in
set_option maxHeartbeats 3200000 in
/-- ahead of none -/
theorem insert0_none (g cap : Nat) (cur : List Value) (fz : Nat × Nat) (w : World) (x : Value) (hg : w.heap[g]? = some (.cells cur.toArray 28 fz)) (hfz : FzOk fz cur.length) (hroom : 1 ≤ cap) (hcm : cap ≤ maxLen) (hcs : cap ≤ cur.length) (hx : x.oneCell' = true)
    (vb : Nat) (hne : vb ≠ g) (hvb : w.heap[vb]? = some (.cells #[x] 28 (0, 0))) :
    Calls Try.prog 47 #[.slice (some ⟨g, 0, none⟩) 0 cap, .int .i64 0, .slice (some ⟨vb, 0, none⟩) 1 1] w fun e w' => e = .returned (.slice (some ⟨g, 0, none⟩) 1 cap) ∧ w.grownBy w' (some g) ∧ ∃ cur' : List Value, w'.heap[g]? = some (.cells cur'.toArray 28 fz) ∧ cur'.length = cur.length ∧ cur'.take 1 = [x] := by
  obtain ⟨i0, hi, hz0, hz1, hz2⟩ := info_parts infoS
  have HG := Lib.hid hg
  have HF := Lib.hid hfz
  have hsrc : Hid (∀ (j : Nat) u, ([x] : List Value)[j]? = some u → w.cell? ((⟨vb, 0, none⟩ : Addr).add j) = some u) := Lib.hid (cells_of_block (cs := [x]) hvb)
  have hone : ∀ u ∈ [x], u.oneCell' = true := by simpa using hx
  have hln : ([x] : List Value).length = 1 := rfl
  have hsl : (splice cur 0 [x]).length = cur.length := size_splice (by rw [hln]; omega)
  have HSP := Lib.hid (splice00_take (L := cur) (x := x))
  have hfit : 0 + [x].length ≤ cur.length := by rw [hln]; omega
  have hr1 : 0 + 1 ≤ cap := by omega
  clear hg hfz hvb
  generalize [x] = Xs at *
  have j1 : (0 : Int) ≤ (cap : Int) := by omega
  by_cases hc0 : cap = 0
  · omega
  go_enter Try.func47, Try.ntmps47
  go_wp2_with ((refine wpList_append_roomM rfl (.tmp 23) (.tmp 24) 76 28 i0 rfl Try.underlying76 hi hz1 g 0 cap ⟨vb, 0, none⟩ 1 1 rfl rfl cur fz HG.out HF.out Xs hln hsrc.out hr1 hfit (nn := 1) rfl hone ?_); intro w1 HG1 hgr1)
  go_ret
  exact ⟨rfl, hgr1, _, HG1.out, hsl, HSP.out⟩
set_option maxRecDepth 100000 in
set_option maxHeartbeats 3200000 in
/-- ahead of some -/
theorem insert0_some (g cap n : Nat) (hn : 0 < n) (cur : List Value) (fz : Nat × Nat) (w : World) (x : Value) (hg : w.heap[g]? = some (.cells cur.toArray 28 fz)) (hfz : FzOk fz cur.length) (hroom : n + 1 ≤ cap) (hcm : cap ≤ maxLen) (hcs : cap ≤ cur.length) (h1 : ∀ u ∈ cur.take n, u.oneCell' = true) (hx : x.oneCell' = true)
    (vb : Nat) (hne : vb ≠ g) (hvb : w.heap[vb]? = some (.cells #[x] 28 (0, 0))) :
    Calls Try.prog 47 #[.slice (some ⟨g, 0, none⟩) n cap, .int .i64 0, .slice (some ⟨vb, 0, none⟩) 1 1] w fun e w' => e = .returned (.slice (some ⟨g, 0, none⟩) (n + 1) cap) ∧ w.grownBy w' (some g) ∧ ∃ cur' : List Value, w'.heap[g]? = some (.cells cur'.toArray 28 fz) ∧ cur'.length = cur.length ∧ cur'.take (n + 1) = x :: cur.take n := by
  have hov : Hid (∀ (w0 : World), Lo w w0 → ∀ oa ob la ka lb kb, (callFunc 54 #[.slice (some ⟨vb, oa, none⟩) la ka, .slice (some ⟨g, ob, none⟩) lb kb]).run Try.prog w0 = .ok (.value (.bool false)) w0) := Lib.hid fun w0 hl => overlapsB_ w0 vb g hne _ _ _ _ fz (cells_lo hvb hl) (cells_lo hg hl) (by simp; omega)
  have hsrc : Hid (∀ w0, Lo w w0 → ∀ (j : Nat) u, (cur.take n)[j]? = some u → w0.cell? ((⟨g, 0, none⟩ : Addr).add j) = some u) := Lib.hid fun w0 hl j u hj => by
    rw [addr_add, Nat.zero_add]
    refine lo_keep hl ?_
    have hjn : j < n := by have := (List.getElem?_eq_some_iff.1 hj).1; simp at this; omega
    rw [List.getElem?_take_of_lt hjn] at hj
    obtain ⟨hx, hy⟩ := List.getElem?_eq_some_iff.1 hj
    simp [World.cell?, hg, hx, hy]
  have hBl : (cur.take n).length = n := by rw [List.length_take]; omega
  have hone : ∀ u ∈ [x], u.oneCell' = true := by simpa using hx
  have hX : ([x] : List Value).length = 1 := rfl
  have hsl1 : (splice cur 1 (cur.take n)).length = cur.length := size_splice (by rw [hBl]; omega)
  have hsl : (splice (splice cur 1 (cur.take n)) 0 [x]).length = cur.length := by rw [size_splice (by rw [hX, hsl1]; omega), hsl1]
  have HSP := Lib.hid (splice0_take (L := cur) (n := n) (x := x) (by omega))
  have hfit1 : 1 + (cur.take n).length ≤ cur.length := by rw [hBl]; omega
  have hfit2 : 0 + [x].length ≤ (splice cur 1 (cur.take n)).length := by rw [hsl1, hX]; omega
  have hmin1 : (cur.take n).length = Nat.min (n + 1) (n + 1 - 1) := by rw [hBl]; simp only [Nat.min_def]; split <;> omega
  have hmin2 : ([x] : List Value).length = Nat.min 1 (n + 1) := by rw [hX]; simp only [Nat.min_def]; split <;> omega
  have hsz : (Try.prog.info? 28).map (·.size) = some 1 := by kernel_rfl
  have hbg : g < w.heap.size := block_lt hg
  have hbv : vb < w.heap.size := block_lt hvb
  have HG := Lib.hid hg
  have HF := Lib.hid hfz
  have HF1 : Hid (FzOk fz (splice cur 1 (cur.take n)).length) := Lib.hid (by rw [hsl1]; exact hfz)
  have HVB : Hid (w.heap[vb]? = some (.cells ([x] : List Value).toArray 28 (0, 0))) := Lib.hid hvb
  clear hg hfz hvb hBl
  generalize cur.take n = Bs at *
  generalize [x] = Xs at *
  unfold maxLen at hcm
  have j1 : (0 : Int) < (n : Int) := by omega
  have j2 : (n : Int) + 1 ≤ (cap : Int) := by omega
  have j3 : ¬ ((0 : Int) = (n : Int)) := by omega
  have j4 : ¬ (cap = 0) := by omega
  have j5 : ¬ (cap = 1) := by omega
  have j6 : (0 : Int) ≤ (n : Int) + 1 := by omega
  have j7 : (1 : Int) ≤ (n : Int) + 1 := by omega
  go_enter Try.func47, Try.ntmps47
  go_wp2_with (simp only [hov.out w (Lo.refl _)])
  have q1 : IntKind.i64.wrap 1 = 1 := rfl
  have q2 : (0 : Int) ≤ 1 := by omega
  have q3 : (1 : Int).toNat = 1 := rfl
  go_region_law (refine step_copy_rowM rfl (.tmp 73) (.tmp 76) 76 76 rfl 28 Try.underlying76 hsz g 1 (n + 1 - 1) (cap - 1) ⟨g, 0, none⟩ (n + 1) cap (by simp [Act.eval, Act.put]) (by simp [Act.eval, Act.put]) cur 28 HG.out HF.out Bs hmin1 (hsrc.out _ (Lo.refl w).drew) hfit1 h1 ?_; intro w1 HG1 hgr1)
  clear q1 q2 q3
  have hgr1 : w.grownBy w1 (some g) := grown_trans (grown_of_lo (Lo.refl w).drew) hgr1
  have HVB1 : Hid (∀ (j : Nat) u, Xs[j]? = some u → w1.cell? ((⟨vb, 0, none⟩ : Addr).add j) = some u) := Lib.hid (cells_of_block (cells_grown HVB.out hgr1 (by simp; exact hne)))
  go_wp2_with ((refine wpList_copy_rowM rfl (.tmp 80) (.tmp 81) 76 76 rfl 28 Try.underlying76 hsz g 0 (n + 1) cap ⟨vb, 0, none⟩ 1 1 rfl rfl _ 28 HG1.out HF1.out Xs hmin2 HVB1.out hfit2 hone ?_); intro w2 HG2 hgr2)
  go_ret
  exact ⟨rfl, grown_trans hgr1 hgr2, _, HG2.out, hsl, HSP.out⟩
end Go.Proofs.Ytgbcmjcaggnobaa.Sim
