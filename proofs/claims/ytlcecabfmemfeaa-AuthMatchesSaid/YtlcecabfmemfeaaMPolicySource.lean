/- The walk of policy.mapped at api.Source. (Written by mk_mapped.py.) -/
import Derived.Test.YtlcecabfmemfeaaRel13
import Derived.Test.YtlcecabfmemfeaaRegion3
import Derived.Shelf.Abstract
namespace Go.Proofs.Ytlcecabfmemfeaa.MPolicySource
set_option linter.unusedVariables false
set_option linter.unusedSimpArgs false
open Go.RowKit Mem BigFrame Opn WMatch
theorem info : (Try.prog.info? 80).map (fun i => (i.zero, i.size, i.bytes)) = some (some (.agg #[.slice none 0 0, .slice none 0 0, .slice none 0 0]), 3, 72) := by kernel_rfl

set_option maxRecDepth 100000 in
set_option maxHeartbeats 3200000 in
theorem mapped {α : Type} {R : Rel α} (hR : Kept R) (f : α → α) (A : Option Addr) (cap : Nat) (xs : List α) {B : Nat} (w : World) (hB : B ≤ w.heap.size) (hA : SliceAt R 3 B w A xs) (hn : xs.length * 72 ≤ 140737488355328) {g : FuncId} {caps : Array Value} (eg : Go.Proofs.Enters Try.prog g)
    (hsh : ∀ B w x cs, R B w x cs → ∃ (xa0 : Option Addr) (xn0 xk0 : Nat) (xa1 : Option Addr) (xn1 xk1 : Nat) (xa2 : Option Addr) (xn2 xk2 : Nat), cs = [.slice xa0 xn0 xk0, .slice xa1 xn1 xk1, .slice xa2 xn2 xk2])
    (hf : ∀ (W : World) (x : α) (xa0 : Option Addr) (xn0 xk0 : Nat) (xa1 : Option Addr) (xn1 xk1 : Nat) (xa2 : Option Addr) (xn2 xk2 : Nat), x ∈ xs → Lo w W → R B W x [.slice xa0 xn0 xk0, .slice xa1 xn1 xk1, .slice xa2 xn2 xk2] → Calls Try.prog g (#[.agg #[.slice xa0 xn0 xk0, .slice xa1 xn1 xk1, .slice xa2 xn2 xk2]] ++ caps) W fun e w' => ∃ (ya0 : Option Addr) (yn0 yk0 : Nat) (ya1 : Option Addr) (yn1 yk1 : Nat) (ya2 : Option Addr) (yn2 yk2 : Nat), e = .returned (.agg #[.slice ya0 yn0 yk0, .slice ya1 yn1 yk1, .slice ya2 yn2 yk2]) ∧ Lo W w' ∧ Foot (fun b => W.heap.size ≤ b ∧ b < w'.heap.size) R w' (f x) [.slice ya0 yn0 yk0, .slice ya1 yn1 yk1, .slice ya2 yn2 yk2]) :
    Calls Try.prog 143 #[.slice A xs.length cap, .func (.func g) #[] caps] w fun e w' => ∃ v, e = .returned v ∧ Lo w w' ∧ RowF (fun b => w.heap.size ≤ b) R 80 3 w.heap.size w' v (xs.map f) := by
  obtain ⟨i0, hi, hz0, hz1, hz2⟩ := info_parts info
  unfold Go.Proofs.Enters at eg
  have HF := Lib.hid hf
  clear hf
  go_enter Try.func143, Try.ntmps143
  go_wp2
  go_loopw [5, 10] (fun v i wr => ∃ k : Nat, k ≤ xs.length ∧ i = .int .i64 k ∧ Lo w wr ∧ RowF (fun b => w.heap.size ≤ b) R 80 3 w.heap.size wr v ((xs.take k).map f)) (fun _ i _ => xs.length - (intOf i).toNat)
  case atStart => exact ⟨0, Nat.zero_le _, rfl, Lo.refl _, RowF.nil⟩
  case round =>
    obtain ⟨k, hk, rfl, hlo, hown⟩ := hrel
    have hsz := hlo.size
    by_cases hlt : k < xs.length
    · obtain ⟨b, off, cs, rfl, hb, hl2, hc, hr⟩ := (SliceAt.lo hR hA hlo hB) k xs[k] (List.getElem?_eq_getElem hlt)
      obtain ⟨xa0, xn0, xk0, xa1, xn1, xk1, xa2, xn2, xk2, rfl⟩ := hsh _ _ _ _ hr
      have hc0 : wr.cell? ⟨b, off + k * 3, none⟩ = _ := hc 0 _ rfl
      have hc1 : wr.cell? ⟨b, off + k * 3 + 1, none⟩ = _ := hc 1 _ rfl
      have hc2 : wr.cell? ⟨b, off + k * 3 + 2, none⟩ = _ := hc 2 _ rfl
      clear hc hl2
      have hlen : ((xs.take k).map f).length = k := by simp; omega
      have HS : Hid ((xs.take (k + 1)).map f = (xs.take k).map f ++ [f xs[k]]) := Lib.hid (by rw [List.take_succ_eq_append_getElem hlt, List.map_append]; rfl)
      have HC : Hid (∀ W, Lo wr W → Calls Try.prog g (#[.agg #[.slice xa0 xn0 xk0, .slice xa1 xn1 xk1, .slice xa2 xn2 xk2]] ++ caps) W fun e w' => ∃ (ya0 : Option Addr) (yn0 yk0 : Nat) (ya1 : Option Addr) (yn1 yk1 : Nat) (ya2 : Option Addr) (yn2 yk2 : Nat), e = .returned (.agg #[.slice ya0 yn0 yk0, .slice ya1 yn1 yk1, .slice ya2 yn2 yk2]) ∧ Lo W w' ∧ Foot (fun b => W.heap.size ≤ b ∧ b < w'.heap.size) R w' (f xs[k]) [.slice ya0 yn0 yk0, .slice ya1 yn1 yk1, .slice ya2 yn2 yk2]) :=
        Lib.hid fun W hW => HF.out W xs[k] xa0 xn0 xk0 xa1 xn1 xk1 xa2 xn2 xk2 (List.getElem_mem hlt) (hlo.trans hW) (hR _ _ _ _ _ _ hr (hW.cells (Nat.le_trans hB hlo.size)) (Nat.le_refl _))
      have hbr := World.block_lt_of_cell? wr _ hc0
      clear hr
      generalize hys : (xs.take k).map f = ys at *
      clear hys
      go_wp2_with fail
      refine (HC.out _ ?_).mono ?_
      · exact (by repeat (first | exact Lo.refl _ | assumption | refine Lo.drew ?_ | refine Lo.alloc ?_ _ | refine Lo.setCell ?_ (by first | (dsimp only; omega) | (simp; omega) | (simp; done)) _ | refine Lo.trans ?_ (by assumption)))
      rintro e w1 ⟨ya0, yn0, yk0, ya1, yn1, yk1, ya2, yn2, yk2, rfl, hb1, hft⟩
      have hlo1 : Lo wr w1 := ((Lo.refl _).alloc _).trans hb1
      have hrow := fun (W : World) (hW : Lo wr W) => hown.lo hW
      have hfoot := foot_new hft hown hlo1.size (by simp) (fun b hb => by simp at hb; omega) (.cells #[.slice ya0 yn0 yk0, .slice ya1 yn1 yk1, .slice ya2 yn2 yk2] 80)
      have hsz1 := hlo1.size
      have HCell : Hid (∀ (j : Nat) u, [.slice ya0 yn0 yk0, .slice ya1 yn1 yk1, .slice ya2 yn2 yk2][j]? = some u → (w1.alloc (.cells #[.slice ya0 yn0 yk0, .slice ya1 yn1 yk1, .slice ya2 yn2 yk2] 80)).cell? ((⟨w1.heap.size, 0, none⟩ : Addr).add j) = some u) := Lib.hid (cells_of_block (heap_alloc_new w1 _))
      clear hft
      go_wp2_with (at_builtin; refine wpList_append_row (T := fun b => w.heap.size ≤ b) (R := R) rfl (.tmp 14) (.tmp 18) 67 rfl w.heap.size 80 i0 _ 3 72 Try.underlying67 hi hz0 hz1 hz2 rfl (by omega) _ _ rfl (hrow _ (hlo1.alloc _)) ⟨w1.heap.size, 0, none⟩ 1 [.slice ya0 yn0 yk0, .slice ya1 yn1 yk1, .slice ya2 yn2 yk2] (f xs[k]) rfl rfl HCell.out (by simp [Value.oneCell']) hfoot (by unfold maxLen; omega) (by omega) (by simp; omega) ?_; intro vm w2 hrow2 hgr2 hlo2)
      go_roundw
      case rel => exact ⟨k + 1, by omega, by go_num, hlo2 w ((hlo.trans hlo1).alloc _) (Nat.le_refl _), by rw [HS.out]; exact hrow2⟩
      case measure => simp [intOf]; omega
    · have hf := hown
      rw [List.take_of_length_le (by omega)] at hf
      go_wp2
      go_ret
      exact ⟨_, rfl, hlo, hf⟩
end Go.Proofs.Ytlcecabfmemfeaa.MPolicySource
