/- Merged by bundles.py: SimU. -/
import Derived.Test.YtpncekdhigappaaDoorR10
import Derived.Lib.SliceRun
/- A logic of states: is a slice nil; an empty row of the call's own, under any number. -/
namespace Go.Proofs.YtpncekdhigappaaDoor.Sim
set_option linter.unusedVariables false
set_option linter.unusedSimpArgs false
open Go.RowKit Mem
section
variable {P : Program} {N : Nat} {Q : Exit → St → Prop} {ops : Array Oper} {rest : List Oper} {o : Oper} {tm : List (Nat × A)} {bx : List (Nat × List A)} {ow : List (Nat × Own)}
theorem sops_isnil {t t2 sz d : Nat} {x : Operand} {y : A} {rows : List (List T)} (hg : GuardIs ops tm o true) (ho : o.op = .binOp .eql t x (.const (.slice none 0 0)) t2) (hd : o.dst = some d) (hN : Nat.blt d N = true) (hx : evA tm x = some y) (hv : Vw ow y (.sl sz rows)) (hT : sliceSz P t = some sz)
    (h : ∀ b, (b = true → rows = []) → SOps P N ops Q rest ⟨(d, .t (.v (.bool b))) :: tm, bx, ow⟩) : SOps P N ops Q (o :: rest) ⟨tm, bx, ow⟩ := by
  refine .mk fun C a w ⟨m, g, hr⟩ => ?_
  have hvt : TR m (.sl sz rows) (a.eval x) := hv.ok hr.env (hr.ev hx)
  obtain ⟨e, ii, hu, _⟩ := sliceSz_spec hT
  generalize hvx : a.eval x = v at hvt
  cases hvt with
  | sl _ _ A0 b off cap u hc hm hA hrl hu' ht =>
    have hrun : (execOp a.eval o).run P w = .ok (.value (.bool A0.isNone)) w := by
      have := Lib.run_eql_slice_nil (P := P) w t e A0 rows.length cap 0 0 hu
      have hc0 : a.eval (.const (.slice none 0 0)) = .slice none 0 0 := rfl
      have hgd : (eqGuard .eql t x (.const (.slice none 0 0)) (.slice A0 rows.length cap) (.slice none 0 0)).run P w = .ok () w := by simp [eqGuard]
      simp only [execOp, ho, hvx, hc0, Sem.run_bind, Sem.run_pure, Result.andThen_ok, this, hgd]
    have hb : A0.isNone = true → rows = [] := fun hn => by
      cases rows with
      | nil => rfl
      | cons r rs => rw [hA (by simp)] at hn; cases hn
    refine wpList_step fun K hK => ?_
    rw [if_pos (hg.wanted (m := m) (g := g) fun j want e _ _ y hy => hr.tmps e y hy)]
    refine wp_of_run hrun (hK _ _ ((h A0.isNone hb).go C _ _ ⟨m, g, ?_⟩))
    rw [hd]
    exact hr.put hr.env (fun x v h => h) (Nat.lt_of_succ_le (Nat.le_of_ble_eq_true hN)) (TR.v _)
theorem swp_ret_weak {st st' : St} (hw : Weak N st st') (h : Q .ret st') : SWp P N .ret Q st := .mk fun C a w hr => wp_ret ⟨st', hw.go C a w hr, h⟩
/-- a literal of none: a row of the call's own, under a number -/
theorem sops_build0i (i : Nat) {t e sz by_ d : Nat} (hg : GuardIs ops tm o true) (ho : o.op = .buildSlice t 0 #[]) (hd : o.dst = some d) (hN : Nat.blt d N = true) (hT : sliceE P t = some (e, sz, by_)) (hi : get ow i = none)
    (h : SOps P N ops Q rest ⟨(d, .own i 0) :: tm, bx, (i, ⟨e, sz, []⟩) :: ow⟩) (hp : Nat.ble 2000 i = false := by rfl) : SOps P N ops Q (o :: rest) ⟨tm, bx, ow⟩ := by
  refine sops_run hg (fun C a w m g hr => ?_) h
  have he := hr.env
  obtain ⟨i', zv, hu, hi', _⟩ := sliceE_spec hT
  have hlw : g.lw i = false := by rw [he.lw, hi]; rfl
  refine ⟨.slice (some ⟨w.heap.size, 0, none⟩) 0 0, w.alloc (.cells #[] e), ?_, ?_⟩
  · simp [execOp, ho, Instr.buildSlice, run_underlying hu, sizeOf, typeInfo, hi', Instr.fill, newRow]
    congr 2
    exact Array.eq_empty_of_size_eq_zero (by simp)
  · obtain ⟨h8, h9⟩ := he.setO (hp := hp) (w' := w.alloc (.cells #[] e)) (i := i) (v := .slice (some ⟨w.heap.size, 0, none⟩) 0 0) (e := e) (sz := sz) (rows := []) (vs := []) (.of (World.ownsRow_made w #[] 0 (Nat.zero_le _) (Nat.zero_le _) (by simp))) (fun r h => by cases h) ⟨rfl, fun j t v h => by simp at h⟩ (.inr hi) (.inr ⟨fun b hb => by injection hb with hb; subst hb; exact Nat.le_refl _, (Lo.refl w).alloc _⟩)
    rw [hd]
    exact ⟨_, _, hr.put h8 (fun x u h => h.setO h9 (.inl hlw)) (Nat.lt_of_succ_le (Nat.le_of_ble_eq_true hN)) ⟨by simp [Gh.setO], by simp [Gh.setO], ⟨_, _, rfl⟩, fun _ => by simp [Gh.setO]⟩⟩
end
end Go.Proofs.YtpncekdhigappaaDoor.Sim
