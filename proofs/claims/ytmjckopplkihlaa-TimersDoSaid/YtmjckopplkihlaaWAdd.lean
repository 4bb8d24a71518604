/- timers.Drop, Add, Sooner. -/
import Derived.Test.YtmjckopplkihlaaWMay
import Derived.Test.YtmjckopplkihlaaWDelDue
import Derived.Test.YtmjckopplkihlaaWCloneDue
namespace Go.Proofs.Ytmjckopplkihlaa.Due
set_option linter.unusedVariables false
set_option linter.unusedSimpArgs false
open Go.RowKit Mem BigFrame

def wfD (d : Pl.Due) : Prop := (Lit.int .u64 d.at_).wf = true ∧ (Lit.int .i64 d.kind).wf = true ∧ (Lit.int .u64 d.key).wf = true
def WfL (l : List Pl.Due) : Prop := ∀ d ∈ l, wfD d
/-- a row of the call's own -/
def RowO (base : Nat) (w : World) (v : Value) (l : List Pl.Due) : Prop := OwnD base w v l ∧ WfL l
theorem RowO.lo {base : Nat} {w w' : World} {v : Value} {l : List Pl.Due} (h : RowO base w v l) (hl : Lo w w') : RowO base w' v l := ⟨h.1.lo hl, h.2⟩
theorem RowO.base_ {base base' : Nat} {w : World} {v : Value} {l : List Pl.Due} (h : RowO base w v l) (hb : base' ≤ base) : RowO base' w v l := ⟨h.1.base_ hb, h.2⟩
theorem RowO.kept {base : Nat} {w w' : World} {v : Value} {l : List Pl.Due} {row : Option Nat} (h : RowO base w v l) (hg : w.grownBy w' row) (hne : v.ownBlock = none ∨ v.ownBlock ≠ row) : RowO base w' v l := ⟨h.1.kept hg hne, h.2⟩
theorem RowO.nil {base : Nat} {w : World} : RowO base w (.slice none 0 0) [] := ⟨Own3.nil, fun _ h => by cases h⟩
theorem RowO.at_ {base : Nat} {w : World} {v : Value} {l : List Pl.Due} (h : RowO base w v l) : ∃ A cap, v = .slice A l.length cap ∧ Dues w.heap.size w A l ∧ l.length ≤ cap ∧ cap ≤ maxLen := by
  obtain ⟨A, cap, hv, hA, h1, h2⟩ := h.1.slice (cells3D l)
  refine ⟨A, cap, hv, ?_, h1, h2⟩
  intro k x hx
  obtain ⟨b, off, cs, e1, e2, e3, e4, e5⟩ := hA k x hx
  exact ⟨b, off, cs, e1, e2, e3, e4, e5, h.2 x (List.mem_of_getElem? hx)⟩
theorem flat_cut {cells : List Value} {l : List Pl.Due} (hl : cells.length = l.length * 3) (h : ∀ k x, l[k]? = some x → cut 3 k cells = dueCells x) : cells = l.flatMap dueCells := by
  refine List.ext_getElem? fun m => ?_
  by_cases hm : m < cells.length
  · have hk : m / 3 < l.length := by omega
    have h3 := (cells3D l).get (k := m / 3) (List.getElem?_eq_getElem hk) (m := m % 3) (by omega)
    rw [show m / 3 * 3 + m % 3 = m by omega] at h3
    rw [h3, ← h (m / 3) _ (List.getElem?_eq_getElem hk)]
    unfold cut
    rw [List.getElem?_take_of_lt (by omega), List.getElem?_drop]
    congr 1; omega
  · rw [List.getElem?_eq_none (by omega), List.getElem?_eq_none (by rw [(cells3D l).len]; omega)]
theorem RowO.of_rowF {T : Nat → Prop} {base : Nat} {w : World} {v : Value} {l : List Pl.Due} (h : RowF T DueR 25 3 base w v l) : RowO base w v l := by
  obtain ⟨cells, ho, hf⟩ := h
  have hd : ∀ k x, l[k]? = some x → DueR w.heap.size w x (cut 3 k cells) := fun k x hx => (hf k x hx).at (fun b hb => hb.1)
  have he := flat_cut ho.1 (fun k x hx => (hd k x hx).1)
  refine ⟨?_, fun d hd' => ?_⟩
  · unfold OwnD Own3
    rw [← he]; exact ho
  · obtain ⟨k, hk, rfl⟩ := List.getElem_of_mem hd'
    exact (hd k _ (List.getElem?_eq_getElem hk)).2
theorem WfL.of_dues {B : Nat} {w : World} {A : Option Addr} {l : List Pl.Due} (h : Dues B w A l) : WfL l := by
  intro d hd
  obtain ⟨k, hk, rfl⟩ := List.getElem_of_mem hd
  obtain ⟨b, off, rfl, hb, _, _, _, z0, z1, z2⟩ := h.at_ hk
  exact ⟨z0, z1, z2⟩
theorem clone_ (A : Option Addr) (cap : Nat) (l : List Pl.Due) {B : Nat} (w : World) (hB : B ≤ w.heap.size) (hA : Dues B w A l) (hn : l.length * 24 ≤ 140737488355328) :
    Calls Try.prog 38 #[.slice A l.length cap] w fun e w' => ∃ v, e = .returned v ∧ Lo w w' ∧ RowO w.heap.size w' v l :=
  (WCloneDue.clone DueR.kept A cap l w hB hA (fun x cs h => h.one) hn).mono fun e w' ⟨v, he, hl, hr⟩ => ⟨v, he, hl, RowO.of_rowF hr⟩

theorem drop_ (A : Option Addr) (cap : Nat) (l : List Pl.Due) (kind key : Int) {B : Nat} (w : World) (hB : B ≤ w.heap.size) (hA : Dues B w A l) (hn : l.length * 24 ≤ 140737488355328) :
    Calls Try.prog 18 #[.slice A l.length cap, .int .i64 kind, .int .u64 key] w fun e w' => ∃ v, e = .returned v ∧ Lo w w' ∧ RowO w.heap.size w' v (Pl.dropL l kind key) := by
  have hl0 : Lo w ((w.alloc (.cells #[.int .i64 kind] 3)).alloc (.cells #[.int .u64 key] 23)) := (by repeat (first | exact Lo.refl _ | assumption | refine Lo.drew ?_ | refine Lo.alloc ?_ _ | refine Lo.setCell ?_ (by first | (dsimp only; omega) | (simp; omega) | (simp; done)) _ | refine Lo.trans ?_ (by assumption)))
  have HC := Lib.hid (clone_ A cap l _ (Nat.le_trans hB hl0.size) (SliceAt.lo DueR.kept hA hl0 hB) hn)
  have HD : Hid (∀ (W : World) (v : Value) (base : Nat), w.heap.size + 2 ≤ base → RowO base W v l → Lo ((w.alloc (.cells #[.int .i64 kind] 3)).alloc (.cells #[.int .u64 key] 23)) W → Calls Try.prog 39 #[v, .func (.func 40) #[] #[.pointer (some ⟨w.heap.size, 0, none⟩), .pointer (some ⟨w.heap.size + 1, 0, none⟩)]] W fun e w' => ∃ v', e = .returned v' ∧ W.grownBy w' v.ownBlock ∧ OwnD base w' v' (Pl.dropL l kind key) ∧ v'.ownBlock = v.ownBlock) :=
    Lib.hid fun W v base hbase hr hl => by
      refine WDelDue.deleteFunc (f := dueCells) (fun x _ => ⟨_, _, _, rfl⟩) W hr.1 enters_drop1 ?_
      intro W2 x c0 c1 c2 hx he hg
      simp [dueCells] at he
      obtain ⟨rfl, rfl, rfl⟩ := he
      have k1 : W.cell? ⟨w.heap.size, 0, none⟩ = some (.int .i64 kind) := lo_keep hl (by simp)
      have k2 : W.cell? ⟨w.heap.size + 1, 0, none⟩ = some (.int .u64 key) := lo_keep hl (by simp)
      have b1 := World.block_lt_of_cell? W _ k1
      have b2 := World.block_lt_of_cell? W _ k2
      refine dropC x kind key _ _ W2 ?_ ?_
      · rw [World.cell?_of_block (hg.block _ b1 (fun e => by have := (hr.1.lt_ _ e.symm).1; simp only at this; omega))]; exact k1
      · rw [World.cell?_of_block (hg.block _ b2 (fun e => by have := (hr.1.lt_ _ e.symm).1; simp only at this; omega))]; exact k2
  have HW : Hid (WfL (Pl.dropL l kind key)) := Lib.hid (fun d hd => (WfL.of_dues hA) d (List.mem_filter.1 hd).1)
  clear hA
  go_enter Try.func18, Try.ntmps18
  go_wp2_with fail
  refine (HC.out).mono ?_
  rintro e w1 ⟨v, rfl, hb1, hr1⟩
  have hbs := hb1.size
  simp only [World.size_alloc] at hr1 hbs
  go_wp2_with fail
  refine (HD.out w1 v _ ?_ hr1 hb1).mono ?_
  · omega
  rintro e w2 ⟨v', rfl, hg2, ho2, hv2⟩
  have hlo2 : Lo w w2 := Lo.grown (hl0.trans hb1) hg2 (fun g hg => by have := (hr1.1.lt_ _ hg).1; omega)
  go_wp2
  go_ret
  exact ⟨v', rfl, hlo2, ho2.base_ (by omega), HW.out⟩
end Go.Proofs.Ytmjckopplkihlaa.Due
