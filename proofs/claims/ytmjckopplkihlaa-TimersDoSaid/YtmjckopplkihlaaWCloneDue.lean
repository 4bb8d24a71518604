/- slices.Clone at gatepost/api.Due: a row of the call's own, of the same elements. (Written by mk_clone.py.) -/
import Derived.Test.YtmjckopplkihlaaFoot
namespace Go.Proofs.Ytmjckopplkihlaa.WCloneDue
set_option linter.unusedVariables false
set_option linter.unusedSimpArgs false
open Go.RowKit Mem BigFrame
theorem info : (Try.prog.info? 25).map (fun i => (i.zero, i.size, i.bytes)) = some (some (.agg #[.int .u64 0, .int .i64 0, .int .u64 0]), 3, 24) := by kernel_rfl

set_option maxRecDepth 100000 in
set_option maxHeartbeats 1600000 in
theorem clone {α : Type} {R : Rel α} (hR : Kept R) (A : Option Addr) (cap : Nat) (xs : List α) {B : Nat} (w : World) (hB : B ≤ w.heap.size) (hA : SliceAt R 3 B w A xs) (h1 : ∀ x cs, R B w x cs → ∀ u ∈ cs, u.oneCell' = true) (hn : xs.length * 24 ≤ 140737488355328) :
    Calls Try.prog 38 #[.slice A xs.length cap] w fun e w' => ∃ v, e = .returned v ∧ Lo w w' ∧ RowF (fun b => b < B) R 25 3 w.heap.size w' v xs := by
  obtain ⟨i0, hi, hz0, hz1, hz2⟩ := info_parts info
  cases A with
  | none =>
    have hx : xs = [] := by
      cases xs with
      | nil => rfl
      | cons x r =>
        obtain ⟨b, off, cs, hA0, _⟩ := hA 0 x rfl
        cases hA0
    subst hx
    have hnil : ∀ (w : World) (n : Nat), (binOp .eql 22 (.slice none n cap) (.slice none 0 0)).run Try.prog w = .ok (.bool true) w := fun w n => Lib.run_eql_slice_nil w 22 25 none n cap 0 0 Try.underlying22
    go_enter Try.func38, Try.ntmps38
    go_wp2
    go_ret
    exact ⟨_, rfl, (by repeat (first | exact Lo.refl _ | assumption | refine Lo.drew ?_ | refine Lo.alloc ?_ _ | refine Lo.setCell ?_ (by first | (dsimp only; omega) | (simp; omega) | (simp; done)) _ | refine Lo.trans ?_ (by assumption))), RowF.nil⟩
  | some a =>
    obtain ⟨cells, hl, hc, hcells⟩ : ∃ cells : List Value, cells.length = xs.length * 3 ∧ (∀ (j : Nat) v, cells[j]? = some v → w.cell? (a.add j) = some v) ∧ ∀ k x, xs[k]? = some x → R B w x (cut 3 k cells) := by
      rcases Nat.eq_zero_or_pos xs.length with h0 | h0
      · exact ⟨[], by simp [h0], by simp, fun k x hx => by rw [List.getElem?_eq_none (by omega)] at hx; cases hx⟩
      · obtain ⟨b, off, cells, hA0, _, hl, hc, hr⟩ := hA.flat h0 (by omega)
        injection hA0 with hA0; subst hA0
        exact ⟨cells, hl, fun j v hj => by rw [addr_add]; exact hc j v hj, hr⟩
    have hone : ∀ u ∈ cells, u.oneCell' = true := by
      intro u hu
      obtain ⟨j, hj, rfl⟩ := List.getElem_of_mem hu
      have hk : j / 3 < xs.length := Nat.div_lt_of_lt_mul (by rw [Nat.mul_comm]; omega)
      refine h1 _ _ (hcells (j / 3) xs[j / 3] (List.getElem?_eq_getElem hk)) _ ?_
      have hm : j % 3 < 3 := Nat.mod_lt _ (by omega)
      have hd : j / 3 * 3 + j % 3 = j := by rw [Nat.mul_comm]; exact Nat.div_add_mod j 3
      refine List.mem_of_getElem? (i := j % 3) ?_
      rw [List.getElem?_take_of_lt hm, List.getElem?_drop, hd, List.getElem?_eq_getElem hj]
    have hcw : ∀ (j : Nat) v, cells[j]? = some v → (w.alloc (.cells #[] 25)).cell? (a.add j) = some v := fun j v hj => lo_keep ((Lo.refl _).alloc _) (hc j v hj)
    obtain ⟨n, hN⟩ : ∃ n, xs.length = n := ⟨_, rfl⟩
    have HE : Hid (∀ v w', (Lo w w') → w'.ownsRow w.heap.size 25 3 v n cells → RowF (fun b => b < B) R 25 3 w.heap.size w' v xs) := Lib.hid fun v w' hlo ho => by
      refine ⟨cells, by rw [hN]; exact ho, fun k x hx => ?_⟩
      have hf := Foot.of hR (hcells k x hx)
      refine ((hf.keep fun p hp => hlo.cell p (Nat.lt_of_lt_of_le hp hB)).mono fun b hb => ?_)
      refine ⟨Nat.lt_of_lt_of_le hb (Nat.le_trans hB hlo.size), hb, fun e => ?_⟩
      have := (ho.lt b e.symm).1
      omega
    rw [hN] at hl hn ⊢
    clear hc hcells hA h1
    have hlen : n ≤ maxLen := by unfold maxLen; omega
    have hh0 : (0 : Nat) + n = n := by omega
    have hnil : ∀ (w : World) (n : Nat), (binOp .eql 22 (.slice (some a) n cap) (.slice none 0 0)).run Try.prog w = .ok (.bool false) w := fun w n => Lib.run_eql_slice_nil w 22 25 (some a) n cap 0 0 Try.underlying22
    go_enter Try.func38, Try.ntmps38
    go_wp2_with (at_builtin; refine wpList_append_own _ rfl (.tmp 5) (.tmp 6) 22 rfl w.heap.size 25 i0 _ 3 24 Try.underlying22 hi hz0 hz1 hz2 rfl (by omega) (.slice (some ⟨w.heap.size, 0, none⟩) 0 0) 0 [] rfl (World.ownsRow_lit w #[] 0 (Nat.le_refl _) (by simp [maxLen]) rfl) a n cap cells rfl hl hcw hone (by omega) (by omega) (by simp) ?_; intro vt w3 hown3 hgr3 _; rw [hh0] at hown3)
    have hlo3 : Lo w w3 := Lo.grown ((Lo.refl w).alloc _) hgr3 (by intro k hk; have hk2 : some w.heap.size = some k := hk; injection hk2 with hk2; omega)
    have hrow := HE.out vt w3 hlo3 (by simpa using hown3)
    go_ret
    exact ⟨_, rfl, hlo3, hrow⟩
end Go.Proofs.Ytmjckopplkihlaa.WCloneDue
