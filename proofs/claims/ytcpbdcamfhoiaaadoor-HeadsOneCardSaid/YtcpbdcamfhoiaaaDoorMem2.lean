/- Words for memory, more: a row's cells; rows of the call's own. -/
import Derived.Test.YtcpbdcamfhoiaaaDoorMem
namespace Go.Proofs.YtcpbdcamfhoiaaaDoor.Mem
set_option linter.unusedVariables false
set_option linter.unusedSimpArgs false
open Go.RowKit

/-- A row's cells, one behind the other. -/
theorem SliceAt.flat {α : Type} {R : Rel α} {sz B : Nat} {w : World} {A : Option Addr} {xs : List α} (h : SliceAt R sz B w A xs) (h0 : 0 < xs.length) (hsz : 0 < sz) :
    ∃ (b off : Nat) (cells : List Value), A = some ⟨b, off, none⟩ ∧ b < B ∧ cells.length = xs.length * sz ∧ (∀ (j : Nat) v, cells[j]? = some v → w.cell? ⟨b, off + j, none⟩ = some v) ∧
      ∀ k x, xs[k]? = some x → R B w x ((cells.drop (k * sz)).take sz) := by
  obtain ⟨b, off, cs0, rfl, hb, -, -, -⟩ := h 0 xs[0] (List.getElem?_eq_getElem h0)
  have hat : ∀ k x, xs[k]? = some x → ∃ cs, cs.length = sz ∧ (∀ j v, cs[j]? = some v → w.cell? ⟨b, off + (k * sz + j), none⟩ = some v) ∧ R B w x cs := by
    intro k x hx
    obtain ⟨b', off', cs, hA, _, hl, hc, hr⟩ := h k x hx
    injection hA with hA; injection hA with h1 h2; subst h1 h2
    exact ⟨cs, hl, hc, hr⟩
  have hlen : ((List.range (xs.length * sz)).map fun j => (w.cell? ⟨b, off + j, none⟩).getD undef).length = xs.length * sz := by simp
  refine ⟨b, off, (List.range (xs.length * sz)).map fun j => (w.cell? ⟨b, off + j, none⟩).getD undef, rfl, hb, hlen, ?_, ?_⟩
  · intro j v hj
    rw [List.getElem?_map] at hj
    have hjl : j < xs.length * sz := by
      rcases Nat.lt_or_ge j (xs.length * sz) with h' | h'
      · exact h'
      · rw [List.getElem?_eq_none (by simpa using h')] at hj; cases hj
    rw [List.getElem?_range hjl] at hj
    simp only [Option.map_some, Option.some.injEq] at hj
    have hk : j / sz < xs.length := Nat.div_lt_of_lt_mul (by rw [Nat.mul_comm]; exact hjl)
    obtain ⟨cs, hl, hc, _⟩ := hat (j / sz) xs[j / sz] (List.getElem?_eq_getElem hk)
    have hm : j % sz < cs.length := by rw [hl]; exact Nat.mod_lt _ hsz
    have := hc (j % sz) cs[j % sz] (List.getElem?_eq_getElem hm)
    rw [show j / sz * sz + j % sz = j from by rw [Nat.mul_comm]; exact Nat.div_add_mod j sz] at this
    rw [this] at hj ⊢
    simp at hj; rw [hj]
  · intro k x hx
    obtain ⟨cs, hl, hc, hr⟩ := hat k x hx
    have hk : k < xs.length := (List.getElem?_eq_some_iff.1 hx).1
    have hkk : (k + 1) * sz ≤ xs.length * sz := Nat.mul_le_mul_right sz hk
    rw [Nat.succ_mul] at hkk
    have e : ((((List.range (xs.length * sz)).map fun j => (w.cell? ⟨b, off + j, none⟩).getD undef).drop (k * sz)).take sz) = cs := by
      refine List.ext_getElem? fun j => ?_
      by_cases hj : j < sz
      · rw [List.getElem?_take_of_lt hj, List.getElem?_drop, List.getElem?_map, List.getElem?_range (by omega)]
        have hjc : cs[j]? = some (cs[j]'(by omega)) := List.getElem?_eq_getElem (by omega)
        rw [Option.map_some, hc j _ hjc, hjc]; rfl
      · rw [List.getElem?_eq_none (by simp; omega), List.getElem?_eq_none (by omega)]
    rw [e]; exact hr
theorem SliceAt.of_flat {α : Type} {R : Rel α} {sz B b off : Nat} {w : World} {xs : List α} {cells : List Value} (hb : b < B) (hl : cells.length = xs.length * sz) (hc : ∀ (j : Nat) v, cells[j]? = some v → w.cell? ⟨b, off + j, none⟩ = some v)
    (hR : ∀ k x, xs[k]? = some x → R B w x ((cells.drop (k * sz)).take sz)) : SliceAt R sz B w (some ⟨b, off, none⟩) xs := by
  intro k x hx
  have hk : k < xs.length := (List.getElem?_eq_some_iff.1 hx).1
  have hkk : (k + 1) * sz ≤ xs.length * sz := Nat.mul_le_mul_right sz hk
  rw [Nat.succ_mul] at hkk
  refine ⟨b, off, (cells.drop (k * sz)).take sz, rfl, hb, by simp; omega, ?_, hR k x hx⟩
  intro j v hj
  have hjs : j < sz := by
    rcases Nat.lt_or_ge j sz with h' | h'
    · exact h'
    · rw [List.getElem?_eq_none (by simp; omega)] at hj; cases hj
  rw [List.getElem?_take_of_lt hjs, List.getElem?_drop] at hj
  exact hc _ v hj
theorem addr_add (b off j : Nat) : (⟨b, off, none⟩ : Addr).add j = ⟨b, off + j, none⟩ := by
  unfold Addr.add; split <;> simp_all
theorem Lo.grown {a b c : World} {row : Option Nat} (h : Lo a b) (hg : b.grownBy c row) (hr : ∀ k, row = some k → a.heap.size ≤ k) : Lo a c := Below.grown h hg h.size hr
theorem Lo.of_grown {a b : World} (hg : a.grownBy b none) : Lo a b := (Lo.refl a).grown hg (by simp)

end Go.Proofs.YtcpbdcamfhoiaaaDoor.Mem
