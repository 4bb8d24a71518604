/- An append of one element, to a row of the call's own: where the row's block lies. (Written by mk_foot2.py.) -/
import Derived.Test.YtcpbdcamfhoiaaaDoorFoot
namespace Go.Proofs.YtcpbdcamfhoiaaaDoor.Mem
set_option linter.unusedVariables false
set_option linter.unusedSimpArgs false
open Go.RowKit
/-- an append of one element, to a row of the call's own -/
theorem wpList_append_row2 {P : Program} {w : World} {ops : Array Oper} {rest : List Oper} {o : Oper} {a : Act} {Q : Exit → Act → World → Prop} {α : Type} {T : Nat → Prop} {R : Rel α} (hgd : o.guard = none) (s x : Operand) (t : TypeId)
    (ho : o.op = .call { callee := .builtin .append, args := #[s, x], argTypes := #[t, t] })
    (base : Nat) (e : TypeId) (i : TypeInfo) (z : Value) (size bytes : Nat) (ht : P.underlying t = some (.slice e)) (hi : P.info? e = some i) (hz : i.zero = some z)
    (hsize : i.size = size) (hby : i.bytes = bytes) (hzs : z.cells.size = size) (hsz : 0 < size)
    (v : Value) (xs : List α) (hs : a.eval s = v) (hrow : RowF T R e size base w v xs)
    (ad : Addr) (c : Nat) (news : List Value) (y : α) (hx : a.eval x = .slice (some ad) 1 c) (hl : news.length = size) (hnews : ∀ (j : Nat) u, news[j]? = some u → w.cell? (ad.add j) = some u) (h1 : ∀ u ∈ news, u.oneCell' = true)
    (hfoot : Foot (fun b => b < w.heap.size ∧ T b ∧ some b ≠ v.ownBlock) R w y news)
    (h63 : xs.length + 1 ≤ maxLen) (hbytes : (xs.length + 1) * bytes ≤ 140737488355328) (hbase : base ≤ w.heap.size)
    (h : ∀ v' w', RowF T R e size base w' v' (xs ++ [y]) → w.grownBy w' v.ownBlock → (v'.ownBlock = v.ownBlock ∨ ∀ g, v'.ownBlock = some g → w.heap.size ≤ g) → (∀ w0, Lo w0 w → w0.heap.size ≤ base → Lo w0 w') → wpList P ops Q rest (a.put o.dst v') w') : wpList P ops Q (o :: rest) a w := by
  obtain ⟨cells, hown, hf⟩ := hrow
  refine wpList_plain hgd fun _ hK => ?_
  obtain ⟨v', w', hr, h2, h3, h4⟩ := run_append_own2 (P := P) w base t o.type e i z size bytes ht hi hz hsize hby hzs hsz v xs.length cells hown ad 1 c news (by omega) hnews h1 h63 hbytes hbase
  unfold Oper.wp execOp
  simp only [ho, resolve, invoke, builtin, Sem.run_bind, Sem.run_pure, Result.andThen_ok, List.map_toArray, List.map_cons, List.map_nil, hs, hx, hr]
  refine hK _ _ (h v' w' ⟨cells ++ news, by simpa using h2, ?_⟩ h3 h4 fun w0 hl0 hb0 => hl0.grown h3 fun k hk => Nat.le_trans hb0 (hown.lt k hk).1)
  have hset : ∀ b, (b < w.heap.size ∧ T b ∧ some b ≠ v.ownBlock) → (b < w'.heap.size ∧ T b ∧ some b ≠ v'.ownBlock) := by
    intro b ⟨hb1, hb2, hb3⟩
    refine ⟨Nat.lt_of_lt_of_le hb1 h3.size, hb2, ?_⟩
    rcases h4 with h4 | h4
    · rw [h4]; exact hb3
    · intro e
      have := h4 b e.symm
      omega
  have hkeep : ∀ p : Addr, (p.block < w.heap.size ∧ T p.block ∧ some p.block ≠ v.ownBlock) → w'.cell? p = w.cell? p := fun p hp => World.cell?_of_block (h3.block _ hp.1 hp.2.2)
  intro k y' hy
  rcases Nat.lt_or_ge k xs.length with hk | hk
  · rw [List.getElem?_append_left hk] at hy
    rw [cut_left hown.1 hk]
    exact ((hf k y' hy).keep hkeep).mono hset
  · rw [List.getElem?_append_right hk] at hy
    have hk0 : k - xs.length = 0 := by
      rcases Nat.eq_zero_or_pos (k - xs.length) with h0 | h0
      · exact h0
      · rw [List.getElem?_eq_none (by simp; omega)] at hy; cases hy
    rw [hk0] at hy
    have hke : k = xs.length := by omega
    simp at hy
    subst hy hke
    rw [cut_last hown.1 hl]
    exact (hfoot.keep hkeep).mono hset
end Go.Proofs.YtcpbdcamfhoiaaaDoor.Mem
