/- Merged by bundles.py: SimElt. -/
import Derived.Test.YtpncekdhigappaaGreatDoorK9
/- A logic of states: an array value's element. -/
namespace Go.Proofs.YtpncekdhigappaaGreatDoor.Sim
set_option linter.unusedVariables false
set_option linter.unusedSimpArgs false
open Go.RowKit Mem
/-- an array of scalars: how many, an element's cells -/
def elt1 (P : Program) (t : TypeId) : Option (Nat × Nat) := match P.underlying t with
  | some (.array n e) => match tyI P e with
    | some (false, sz) => some (n, sz)
    | _ => none
  | _ => none
theorem elt1_spec {P : Program} {t n sz : Nat} (h : elt1 P t = some (n, sz)) : ∃ e, P.underlying t = some (.array n e) ∧ tyI P e = some (false, sz) := by
  unfold elt1 at h
  split at h
  · rename_i n' e hu
    split at h
    · rename_i k ht; injection h with h; injection h with h1 h2; subst h1 h2; exact ⟨e, hu, ht⟩
    · cases h
  · cases h
section
variable {P : Program} {bx : List (Nat × List A)} {ow : List (Nat × Own)} {o : Oper} {ρ : Operand → Option A} {r : A}
theorem po_elt {ty n sz k : Nat} {x ix : Operand} {cs : List T} {t : T} {j : Int} {ik : IntKind} (ho : o.op = .index ty x ix) (hx : ρ x = some (.t (.agg cs))) (hi : ρ ix = some (.t (.v (.int ik j)))) (hT : elt1 P ty = some (n, sz)) (hj : j = (k : Int)) (hk : k < n) (ht : cs[k * sz]? = some t) : PureOp P bx ow o ρ (.t t) := pure_run fun C m g w a he h => by
  have h1 : TR m (.agg cs) (a.eval x) := h x (by simp [ho, Op.operands]) _ hx
  have h2 := tr_v (h ix (by simp [ho, Op.operands]) _ hi)
  obtain ⟨e, hu, hT'⟩ := elt1_spec hT
  obtain ⟨d, i, hu', hie, hd, hs⟩ := tyI_spec hT'
  generalize hv : a.eval x = v at h1
  subst hj
  have hlt : (k : Int) < (n : Int) := by omega
  cases h1 with
  | agg _ vs hl h4 h3 =>
    have hlt2 : k * sz < vs.size := by rw [hl]; exact (List.getElem?_eq_some_iff.1 ht).1
    have hagg : (isAgg e).run P w = .ok false w := by
      unfold isAgg
      rw [Sem.run_bind, run_underlying hu' w]
      cases d <;> simp_all
    refine ⟨vs[k * sz], ?_, h3 (k * sz) t _ ht (by simp [hlt2])⟩
    simp [execOp, ho, hv, h2, Instr.index, asIntOf, run_underlying hu, sizeOf, typeInfo, hie, hs, part, hagg, hlt, hk, hlt2]
end
end Go.Proofs.YtpncekdhigappaaGreatDoor.Sim
