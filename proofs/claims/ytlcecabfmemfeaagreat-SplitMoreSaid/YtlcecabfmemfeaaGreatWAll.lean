/- The walk of heads.All: the values of a name's headers. -/
import Derived.Test.YtlcecabfmemfeaaGreatWTarget
import Derived.Test.YtlcecabfmemfeaaGreatFoot
namespace Go.Proofs.YtlcecabfmemfeaaGreat.WAuth
set_option linter.unusedVariables false
set_option linter.unusedSimpArgs false
open Go.RowKit Mem BigFrame WMatch Opn

/-- the values of a name's headers -/
def valsOf (n : ByteArray) (l : List Pl.Head) : List ByteArray := (l.filter fun h => h.name.toList == n.toList).map (·.value)
theorem valsOf_yes {n : ByteArray} {l : List Pl.Head} {k : Nat} (hk : k < l.length) (h : (l[k].name.toList == n.toList) = true) : valsOf n (l.take (k + 1)) = valsOf n (l.take k) ++ [l[k].value] := by
  unfold valsOf
  rw [List.take_succ_eq_append_getElem hk, List.filter_append, List.map_append]
  simp [List.filter_cons, h]
theorem valsOf_no {n : ByteArray} {l : List Pl.Head} {k : Nat} (hk : k < l.length) (h : (l[k].name.toList == n.toList) = false) : valsOf n (l.take (k + 1)) = valsOf n (l.take k) := by
  unfold valsOf
  rw [List.take_succ_eq_append_getElem hk, List.filter_append, List.map_append]
  simp [List.filter_cons, h]
theorem valsOf_len (n : ByteArray) (l : List Pl.Head) : (valsOf n l).length ≤ l.length := by
  unfold valsOf
  rw [List.length_map]
  exact List.length_filter_le _ _
theorem Tryz.infoStr : (Tryz.prog.info? 9).map (fun i => (i.zero, i.size, i.bytes)) = some (some (.string ⟨#[]⟩), 1, 16) := by kernel_rfl
theorem StrC.flat : Flat StrC := fun _ _ _ _ _ _ h => h

set_option maxRecDepth 100000 in
set_option maxHeartbeats 1600000 in
theorem all (n : ByteArray) (A : Option Addr) (cap : Nat) (l : List Pl.Head) {B : Nat} (w : World) (hB : B ≤ w.heap.size) (hA : SliceAt HeadR 2 B w A l) (h100 : l.length ≤ 1000) :
    Calls Tryz.prog 100 #[.string n, .slice A l.length cap] w fun e w' => ∃ v, e = .returned v ∧ Lo w w' ∧ RowF (fun _ => True) StrC 9 1 w.heap.size w' v (valsOf n l) := by
  obtain ⟨i0, hi, hz0, hz1, hz2⟩ := info_parts Tryz.infoStr
  go_enter Tryz.func100, Tryz.ntmps100
  go_wp2
  go_loopw [5, 10] (fun v i wr => ∃ k : Nat, k ≤ l.length ∧ i = .int .i64 k ∧ Lo w wr ∧ RowF (fun _ => True) StrC 9 1 w.heap.size wr v (valsOf n (l.take k))) (fun _ i _ => l.length - (intOf i).toNat)
  case atStart => exact ⟨0, Nat.zero_le _, rfl, Lo.refl _, RowF.nil⟩
  case round =>
    obtain ⟨k, hk, rfl, hlo, hown⟩ := hrel
    have hsz := hlo.size
    by_cases hlt : k < l.length
    · obtain ⟨b, off, cs, rfl, hb, hl2, hc, hr⟩ := (SliceAt.lo HeadR.kept hA hlo hB) k l[k] (List.getElem?_eq_getElem hlt)
      obtain ⟨c0, c1, rfl, ⟨e0, z0⟩, ⟨e1, z1⟩⟩ := hr
      injection e0 with e0; injection e1 with e1; subst e0 e1
      have hc0 := hc 0 _ rfl
      have hc1 := hc 1 _ rfl
      simp only [Nat.add_zero] at hc0
      rw [← Nat.add_assoc] at hc1
      clear hc hl2
      have hlen : (valsOf n (l.take k)).length ≤ 1000 := by
        have := valsOf_len n (l.take k)
        simp at this; omega
      have hbr := World.block_lt_of_cell? wr _ hc0
      cases he : (l[k].name.toList == n.toList)
      · have hv := Lib.hid (valsOf_no hlt he)
        go_wp2
        go_roundw
        case rel => exact ⟨k + 1, by omega, by go_num, (by repeat (first | exact Lo.refl _ | assumption | refine Lo.drew ?_ | refine Lo.alloc ?_ _ | refine Lo.setCell ?_ (by first | (dsimp only; omega) | (simp; omega) | (simp; done)) _ | refine Lo.trans ?_ (by assumption))), by rw [hv.out]; exact hown.lo (by repeat (first | exact Lo.refl _ | assumption | refine Lo.drew ?_ | refine Lo.alloc ?_ _ | refine Lo.setCell ?_ (by first | (dsimp only; omega) | (simp; omega) | (simp; done)) _ | refine Lo.trans ?_ (by assumption)))⟩
        case measure => simp [intOf]; omega
      · have hv := Lib.hid (valsOf_yes hlt he)
        have hown2 := fun (W : World) (hW : Lo wr W) => hown.lo hW
        have hcell : ((wr.alloc (.cells #[.string l[k].name, .string l[k].value] 94)).alloc (.cells #[.string l[k].value] 9)).cell? ⟨wr.heap.size + 1, 0, none⟩ = some (.string l[k].value) := by simp
        go_wp2_with (at_builtin; refine wpList_append_row (T := fun _ => True) (R := StrC) rfl (.tmp 18) (.tmp 21) 132 rfl w.heap.size 9 i0 _ 1 16 Tryz.underlying132 hi hz0 hz1 hz2 rfl (by omega) _ _ rfl (hown2 _ (by repeat (first | exact Lo.refl _ | assumption | refine Lo.drew ?_ | refine Lo.alloc ?_ _ | refine Lo.setCell ?_ (by first | (dsimp only; omega) | (simp; omega) | (simp; done)) _ | refine Lo.trans ?_ (by assumption)))) ⟨wr.heap.size + 1, 0, none⟩ 1 [.string l[k].value] l[k].value rfl rfl (Go.Proofs.YtlcecabfmemfeaaGreat.Mem.one_cell hcell) (by simp [Value.oneCell']) (Foot.flat (B := 0) StrC.flat ⟨rfl, z1⟩) (by unfold maxLen; omega) (by omega) (by first | (simp; done) | (simp; omega)) ?_; intro vm w2 hrow2 hgr2 hlo2)
        go_roundw
        case rel => exact ⟨k + 1, by omega, by go_num, hlo2 w (by repeat (first | exact Lo.refl _ | assumption | refine Lo.drew ?_ | refine Lo.alloc ?_ _ | refine Lo.setCell ?_ (by first | (dsimp only; omega) | (simp; omega) | (simp; done)) _ | refine Lo.trans ?_ (by assumption))) (Nat.le_refl _), by rw [hv.out]; exact hrow2⟩
        case measure => simp [intOf]; omega
    · have hf := hown
      rw [List.take_of_length_le (by omega)] at hf
      go_wp2
      go_ret
      exact ⟨_, rfl, hlo, hf⟩
end Go.Proofs.YtlcecabfmemfeaaGreat.WAuth
