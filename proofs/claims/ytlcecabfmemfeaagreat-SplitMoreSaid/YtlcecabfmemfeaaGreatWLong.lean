/- The walks of the laws' 'Long': gatepostlaw09.Long, gatepostlaw12.terms. -/
import Derived.Test.YtlcecabfmemfeaaGreatWJudge
namespace Go.Proofs.YtlcecabfmemfeaaGreat.WAuth
set_option linter.unusedVariables false
set_option linter.unusedSimpArgs false
open Go.RowKit Mem BigFrame WMatch WAddr WName Opn

def headLong (h : Pl.Head) : Bool := decide (1000 < h.name.size) || decide (2000 < h.value.size)
def longHeads (l : List Pl.Head) : Bool := decide (100 < l.length) || l.any headLong
def rowLong (r : List Pl.Term) : Bool := decide (20 < r.length) || r.any fun t => decide (300 < t.s.size)
def termsB (rows : List (List Pl.Term)) : Bool := rows.any rowLong
theorem or_yes {a b : Bool} (h : b = true) : (a || b) = true := by rw [h]; simp

set_option maxRecDepth 100000 in
set_option maxHeartbeats 1600000 in
theorem long9 (l : List Pl.Head) (A : Option Addr) (cap : Nat) {B : Nat} (w : World) (hB : B ≤ w.heap.size) (hA : SliceAt HeadR 2 B w A l) (hn : l.length ≤ maxLen) :
    Calls Tryz.prog 27 #[.slice A l.length cap] w fun e w' => e = .returned (.bool (longHeads l)) ∧ Lo w w' := by
  unfold maxLen at hn
  unfold longHeads
  by_cases h100 : 100 < l.length
  · go_enter Tryz.func27, Tryz.ntmps27
    go_wp2
    go_ret
    exact ⟨ret_bool (by simp [h100]), (by repeat (first | exact Lo.refl _ | assumption | refine Lo.drew ?_ | refine Lo.alloc ?_ _ | refine Lo.setCell ?_ (by first | (dsimp only; omega) | (simp; omega) | (simp; done)) _ | refine Lo.trans ?_ (by assumption)))⟩
  · go_enter Tryz.func27, Tryz.ntmps27
    go_wp2
    go_loopw [3] (fun i wr => ∃ k : Nat, k ≤ l.length ∧ i = .int .i64 k ∧ Lo w wr ∧ Hid ((l.take k).any headLong = false)) (fun i _ => l.length - (intOf i).toNat)
    case atStart => exact ⟨0, Nat.zero_le _, rfl, Lo.refl _, Lib.hid rfl⟩
    case round =>
      obtain ⟨k, hk, rfl, hlo, hall⟩ := hrel
      by_cases hlt : k < l.length
      · obtain ⟨b, off, cs, rfl, hb, hl2, hc, hr⟩ := (SliceAt.lo HeadR.kept hA hlo hB) k l[k] (List.getElem?_eq_getElem hlt)
        obtain ⟨c0, c1, rfl, ⟨e0, z0⟩, ⟨e1, z1⟩⟩ := hr
        injection e0 with e0; injection e1 with e1; subst e0 e1
        have hc0 : wr.cell? ⟨b, off + k * 2, none⟩ = _ := hc 0 _ rfl
        have hc1 : wr.cell? ⟨b, off + k * 2 + 1, none⟩ = _ := hc 1 _ rfl
        clear hc hl2
        have hp : headLong l[k] = (decide (1000 < l[k].name.size) || decide (2000 < l[k].value.size)) := rfl
        by_cases h1 : 1000 < l[k].name.size
        · have HY := Lib.hid (any_yes (p := headLong) hlt (by rw [hp]; simp [h1]))
          clear hp
          go_wp2
          go_ret
          exact ⟨ret_bool (by simp [HY.out]), (by repeat (first | exact Lo.refl _ | assumption | refine Lo.drew ?_ | refine Lo.alloc ?_ _ | refine Lo.setCell ?_ (by first | (dsimp only; omega) | (simp; omega) | (simp; done)) _ | refine Lo.trans ?_ (by assumption)))⟩
        · by_cases h2 : 2000 < l[k].value.size
          · have HY := Lib.hid (any_yes (p := headLong) hlt (by rw [hp]; simp [h2]))
            clear hp
            go_wp2
            go_ret
            exact ⟨ret_bool (by simp [HY.out]), (by repeat (first | exact Lo.refl _ | assumption | refine Lo.drew ?_ | refine Lo.alloc ?_ _ | refine Lo.setCell ?_ (by first | (dsimp only; omega) | (simp; omega) | (simp; done)) _ | refine Lo.trans ?_ (by assumption)))⟩
          · have HN := Lib.hid (WIdxWhen.any_snoc' hall.out hlt (by rw [hp]; simp [h1, h2]))
            clear hp
            go_wp2
            go_roundw
            case rel => exact ⟨k + 1, by omega, by go_num, (by repeat (first | exact Lo.refl _ | assumption | refine Lo.drew ?_ | refine Lo.alloc ?_ _ | refine Lo.setCell ?_ (by first | (dsimp only; omega) | (simp; omega) | (simp; done)) _ | refine Lo.trans ?_ (by assumption))), HN⟩
            case measure => simp [intOf]; omega
      · have HF := hall.out
        rw [List.take_of_length_le (by omega)] at HF
        have HG := Lib.hid HF
        clear HF
        go_wp2
        go_ret
        exact ⟨ret_bool (by rw [HG.out]; simp [h100]), (by repeat (first | exact Lo.refl _ | assumption | refine Lo.drew ?_ | refine Lo.alloc ?_ _ | refine Lo.setCell ?_ (by first | (dsimp only; omega) | (simp; omega) | (simp; done)) _ | refine Lo.trans ?_ (by assumption)))⟩

set_option maxRecDepth 100000 in
set_option maxHeartbeats 1600000 in
theorem terms (rows : List (List Pl.Term)) (A : Option Addr) (cap : Nat) {B : Nat} (w : World) (hB : B ≤ w.heap.size) (hA : SliceAt (SliceC TermR 2) 1 B w A rows) (hn : rows.length ≤ maxLen) :
    Calls Tryz.prog 36 #[.slice A rows.length cap] w fun e w' => e = .returned (.bool (termsB rows)) ∧ Lo w w' := by
  unfold maxLen at hn
  unfold termsB
  go_enter Tryz.func36, Tryz.ntmps36
  go_wp2
  go_loopw [3] (fun i wr => ∃ k : Nat, k ≤ rows.length ∧ i = .int .i64 k ∧ Lo w wr ∧ Hid ((rows.take k).any rowLong = false)) (fun i _ => rows.length - (intOf i).toNat)
  case atStart => exact ⟨0, Nat.zero_le _, rfl, Lo.refl _, Lib.hid rfl⟩
  case round =>
    obtain ⟨k, hk, rfl, hlo, hall⟩ := hrel
    obtain ⟨wo, rfl⟩ : ∃ wo : World, wo = wr := ⟨_, rfl⟩
    by_cases hlt : k < rows.length
    · obtain ⟨b, off, cs, rfl, hb, hl2, hc, hr⟩ := (SliceAt.lo (SliceC.kept TermR.kept) hA hlo hB) k rows[k] (List.getElem?_eq_getElem hlt)
      obtain ⟨A1, p1, rfl, h1, l1, m1⟩ := hr
      have hc0 : wo.cell? ⟨b, off + k, none⟩ = some (.slice A1 rows[k].length p1) := by have := hc 0 _ rfl; simpa using this
      clear hc hl2
      have hrl : rows[k].length ≤ 9223372036854775807 := by unfold maxLen at m1; omega
      have hp : rowLong rows[k] = (decide (20 < rows[k].length) || rows[k].any fun t => decide (300 < t.s.size)) := rfl
      obtain ⟨row, hrow⟩ : ∃ row, rows[k] = row := ⟨_, rfl⟩
      have HY : Hid (rowLong row = true → rows.any rowLong = true) := Lib.hid fun h => any_yes (p := rowLong) hlt (by rw [hrow]; exact h)
      have HN : Hid (rowLong row = false → (rows.take (k + 1)).any rowLong = false) := Lib.hid fun h => WIdxWhen.any_snoc' hall.out hlt (by rw [hrow]; exact h)
      rw [hrow] at hp hrl h1 l1 hc0
      clear hrow
      have HP := Lib.hid hp
      clear hp
      by_cases h20 : 20 < row.length
      · have HZ := Lib.hid (HY.out (by rw [HP.out]; simp [h20]))
        go_wp2
        go_ret
        exact ⟨ret_bool HZ.out.symm, (by repeat (first | exact Lo.refl _ | assumption | refine Lo.drew ?_ | refine Lo.alloc ?_ _ | refine Lo.setCell ?_ (by first | (dsimp only; omega) | (simp; omega) | (simp; done)) _ | refine Lo.trans ?_ (by assumption)))⟩
      · go_wp2
        go_loopw [4] (fun i wr => ∃ j : Nat, j ≤ row.length ∧ i = .int .i64 j ∧ Lo wo wr ∧ Hid ((row.take j).any (fun t => decide (300 < t.s.size)) = false)) (fun i _ => row.length - (intOf i).toNat)
        case atStart => exact ⟨0, Nat.zero_le _, rfl, Lo.refl _, Lib.hid rfl⟩
        case round =>
          obtain ⟨j, hj, rfl, hlo2, hall2⟩ := hrel
          have hc0' := lo_keep hlo2 hc0
          by_cases hjl : j < row.length
          · obtain ⟨b2, off2, rfl, hb2, ht0, ht1, hz⟩ := Terms.at_ (SliceAt.lo TermR.kept h1 hlo2 (Nat.le_trans hB hlo.size)) hjl
            by_cases h3 : 300 < row[j].s.size
            · have HZ := Lib.hid (HY.out (by rw [HP.out, any_yes (p := fun t => decide (300 < t.s.size)) hjl (by simpa using h3)]; simp))
              go_wp2
              go_ret
              exact ⟨ret_bool HZ.out.symm, (by repeat (first | exact Lo.refl _ | assumption | refine Lo.drew ?_ | refine Lo.alloc ?_ _ | refine Lo.setCell ?_ (by first | (dsimp only; omega) | (simp; omega) | (simp; done)) _ | refine Lo.trans ?_ (by assumption)))⟩
            · have HM := Lib.hid (WIdxWhen.any_snoc' hall2.out hjl (by simpa using h3))
              go_wp2
              go_roundw
              case rel => exact ⟨j + 1, by omega, by go_num, (by repeat (first | exact Lo.refl _ | assumption | refine Lo.drew ?_ | refine Lo.alloc ?_ _ | refine Lo.setCell ?_ (by first | (dsimp only; omega) | (simp; omega) | (simp; done)) _ | refine Lo.trans ?_ (by assumption))), HM⟩
              case measure => simp [intOf]; omega
          · have HF := hall2.out
            rw [List.take_of_length_le (by omega)] at HF
            have HZ := Lib.hid (HN.out (by rw [HP.out, HF]; simp [h20]))
            clear HF
            go_wp2
            go_roundw
            case rel => exact ⟨k + 1, by omega, by go_num, (by repeat (first | exact Lo.refl _ | assumption | refine Lo.drew ?_ | refine Lo.alloc ?_ _ | refine Lo.setCell ?_ (by first | (dsimp only; omega) | (simp; omega) | (simp; done)) _ | refine Lo.trans ?_ (by assumption))), HZ⟩
            case measure => simp [intOf]; omega
    · have HF := hall.out
      rw [List.take_of_length_le (by omega)] at HF
      have HG := Lib.hid HF
      clear HF
      go_wp2
      go_ret
      exact ⟨ret_bool HG.out.symm, (by repeat (first | exact Lo.refl _ | assumption | refine Lo.drew ?_ | refine Lo.alloc ?_ _ | refine Lo.setCell ?_ (by first | (dsimp only; omega) | (simp; omega) | (simp; done)) _ | refine Lo.trans ?_ (by assumption)))⟩
end Go.Proofs.YtlcecabfmemfeaaGreat.WAuth
