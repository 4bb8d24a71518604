/- Words for what is made anew. -/
import Derived.Test.YtlcecabfmemfeaaRegion3
import Derived.Test.YtlcecabfmemfeaaRel13
namespace Go.Proofs.Ytlcecabfmemfeaa.Mem
set_option linter.unusedVariables false
set_option linter.unusedSimpArgs false
open Go.RowKit
theorem RowF.flat {α : Type} {T T' : Nat → Prop} {R : Rel α} (hR : Flat R) {e : TypeId} {sz base : Nat} {w : World} {v : Value} {xs : List α} (h : RowF T R e sz base w v xs) : RowF T' R e sz base w v xs := by
  obtain ⟨cells, ho, hf⟩ := h
  exact ⟨cells, ho, fun k x hx => Foot.flat hR ((hf k x hx).at (B := w.heap.size) fun b hb => hb.1)⟩
theorem RowF.fresh {α : Type} {R : Rel α} {e : TypeId} {sz base : Nat} {w : World} {v : Value} {xs : List α} (h : RowF (fun b => base ≤ b) R e sz base w v xs) :
    ∃ A cap, v = .slice A xs.length cap ∧ Foot (fun b => base ≤ b ∧ b < w.heap.size) (SliceC R sz) w xs [.slice A xs.length cap] := by
  have hge := h.own_ge
  obtain ⟨A, cap, rfl, h1, h2, hf⟩ := h.slice
  refine ⟨A, cap, rfl, fun w' B hw hB => ?_⟩
  have := hf w' B (fun p hp => hw p ⟨?_, hp.1⟩) (fun b hb => hB b ⟨?_, hb.1⟩)
  · exact ⟨A, cap, rfl, this.2, h1, h2⟩
  · rcases hp.2 with h | h
    · exact h
    · exact (hge _ h.symm).1
  · rcases hb.2 with h | h
    · exact h
    · exact (hge _ h.symm).1
theorem setCell_far (w : World) (a p : Addr) (v : Value) (h : a.block ≠ p.block) : (w.setCell a v).cell? p = w.cell? p := World.cell?_setCell_other w a p v (fun e => h (by rw [e]))
theorem setCell_other (w : World) (b o b' o' : Nat) (v : Value) (h : (b, o) ≠ (b', o')) : (w.setCell ⟨b, o, none⟩ v).cell? ⟨b', o', none⟩ = w.cell? ⟨b', o', none⟩ := World.cell?_setCell_other w _ _ v (fun e => h (by injection e with e1 e2; rw [e1, e2]))
/-- made since base -/
abbrev New {α : Type} (base : Nat) (R : Rel α) (w : World) (x : α) (cs : List Value) : Prop := Foot (fun b => base ≤ b ∧ b < w.heap.size) R w x cs
theorem New.lo {α : Type} {base : Nat} {R : Rel α} {w w' : World} {x : α} {cs : List Value} (h : New base R w x cs) (hl : Lo w w') : New base R w' x cs :=
  (h.keep fun p hp => hl.cell p hp.2).mono fun b hb => ⟨hb.1, Nat.lt_of_lt_of_le hb.2 hl.size⟩
theorem New.base {α : Type} {base base' : Nat} {R : Rel α} {w : World} {x : α} {cs : List Value} (h : New base R w x cs) (hb : base' ≤ base) : New base' R w x cs := h.mono fun b hb2 => ⟨Nat.le_trans hb hb2.1, hb2.2⟩
theorem TermR.flat : Flat WMatch.TermR := fun _ _ _ _ _ _ h => h
theorem CidrR.flat : Flat Opn.CidrR := fun _ _ _ _ _ _ h => h
theorem IntC.flat (k : IntKind) : Flat (IntC k) := fun _ _ _ _ _ _ h => h
theorem TermR.one {B : Nat} {w : World} {t : Pl.Term} {cs : List Value} (h : WMatch.TermR B w t cs) : ∀ u ∈ cs, u.oneCell' = true := by
  obtain ⟨rfl, _⟩ := h
  intro u hu; simp at hu; rcases hu with rfl | rfl <;> rfl
theorem CidrR.one {B : Nat} {w : World} {t : Pl.Cidr} {cs : List Value} (h : Opn.CidrR B w t cs) : ∀ u ∈ cs, u.oneCell' = true := by
  obtain ⟨c0, c1, rfl, ⟨e0, _⟩, ⟨e1, _⟩⟩ := h
  injection e0 with e0; injection e1 with e1; subst e0 e1
  intro u hu; simp at hu; rcases hu with rfl | rfl <;> rfl
theorem IntC.one {k : IntKind} {B : Nat} {w : World} {t : Int} {cs : List Value} (h : IntC k B w t cs) : ∀ u ∈ cs, u.oneCell' = true := by
  obtain ⟨rfl, _⟩ := h
  intro u hu; simp at hu; subst hu; rfl
theorem StrC.one {B : Nat} {w : World} {t : ByteArray} {cs : List Value} (h : StrC B w t cs) : ∀ u ∈ cs, u.oneCell' = true := by
  obtain ⟨rfl, _⟩ := h
  intro u hu; simp at hu; subst hu; rfl
end Go.Proofs.Ytlcecabfmemfeaa.Mem
