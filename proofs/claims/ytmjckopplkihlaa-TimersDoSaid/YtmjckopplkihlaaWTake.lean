/- The walk of timers.Take. -/
import Derived.Test.YtmjckopplkihlaaWEqual
import Derived.Test.YtmjckopplkihlaaFoot2
namespace Go.Proofs.Ytmjckopplkihlaa.Due
set_option linter.unusedVariables false
set_option linter.unusedSimpArgs false
open Go.RowKit Mem BigFrame
theorem infoD : (Try.prog.info? 25).map (fun i => (i.zero, i.size, i.bytes)) = some (some (.agg #[.int .u64 0, .int .i64 0, .int .u64 0]), 3, 24) := by kernel_rfl
abbrev RowD (base : Nat) (w : World) (v : Value) (l : List Pl.Due) : Prop := RowF (fun _ => False) DueR 25 3 base w v l
def apart (v u : Value) : Prop := ∀ g, v.ownBlock = some g → u.ownBlock ≠ some g
theorem take_yes {l : List Pl.Due} {k : Nat} (hk : k < l.length) {now : Int} (h : l[k].at_ ≤ now) : Pl.takeL now (l.take (k + 1)) = Pl.takeL now (l.take k) ++ [l[k]] ∧ Pl.leftL now (l.take (k + 1)) = Pl.leftL now (l.take k) := by
  unfold Pl.takeL Pl.leftL
  rw [List.take_succ_eq_append_getElem hk, List.filter_append, List.filter_append]; simp [h]
theorem take_no {l : List Pl.Due} {k : Nat} (hk : k < l.length) {now : Int} (h : ¬ l[k].at_ ≤ now) : Pl.takeL now (l.take (k + 1)) = Pl.takeL now (l.take k) ∧ Pl.leftL now (l.take (k + 1)) = Pl.leftL now (l.take k) ++ [l[k]] := by
  unfold Pl.takeL Pl.leftL
  rw [List.take_succ_eq_append_getElem hk, List.filter_append, List.filter_append]; simp [h]
theorem apart_far {v u v' : Value} {n : Nat} (h : apart v u) (hv : v'.ownBlock = v.ownBlock ∨ ∀ g, v'.ownBlock = some g → n ≤ g) (hu : ∀ g, u.ownBlock = some g → g < n) : apart v' u := by
  intro g hg hug
  rcases hv with e | e
  · exact h g (e ▸ hg) hug
  · have := e g hg; have := hu g hug; omega
theorem apart_ne {v u : Value} (h : apart v u) : u.ownBlock = none ∨ u.ownBlock ≠ v.ownBlock := by
  cases e : u.ownBlock with
  | none => exact .inl rfl
  | some g => exact .inr fun h2 => h g h2.symm e
theorem apart_comm {v u : Value} (h : apart v u) : apart u v := fun g hg hv => h g hv hg
set_option maxRecDepth 100000 in
set_option maxHeartbeats 1600000 in
theorem take_ (A : Option Addr) (cap : Nat) (l : List Pl.Due) (now : Int) (w : World) {B : Nat} (hB : B ≤ w.heap.size) (hA : Dues B w A l) (hn : l.length * 24 ≤ 140737488355328) :
    Calls Try.prog 20 #[.slice A l.length cap, .int .u64 now] w fun e w' => ∃ v u, e = .returned (.tuple #[v, u]) ∧ Lo w w' ∧ RowD w.heap.size w' v (Pl.takeL now l) ∧ RowD w.heap.size w' u (Pl.leftL now l) ∧ apart v u := by
  obtain ⟨i0, hi, hz0, hz1, hz2⟩ := info_parts infoD
  go_enter Try.func20, Try.ntmps20
  go_wp2
  go_loopw [4, 5, 10] (fun v u i wr => ∃ k : Nat, k ≤ l.length ∧ i = .int .i64 k ∧ Lo w wr ∧ RowD w.heap.size wr v (Pl.takeL now (l.take k)) ∧ RowD w.heap.size wr u (Pl.leftL now (l.take k)) ∧ Hid (apart v u)) (fun _ _ i _ => l.length - (intOf i).toNat)
  case atStart => exact ⟨0, Nat.zero_le _, rfl, Lo.refl _, RowF.nil, RowF.nil, Lib.hid (fun g h => by cases h)⟩
  case round =>
    obtain ⟨k, hk, rfl, hlo, hv, hu, hap⟩ := hrel
    by_cases hlt : k < l.length
    · obtain ⟨b, off, rfl, hb, hc0, hc1, hc2, z0, z1, z2⟩ := Dues.at_ (SliceAt.lo DueR.kept hA hlo hB) hlt
      have hbr := World.block_lt_of_cell? wr _ hc0
      have hlv : (Pl.takeL now (l.take k)).length ≤ k := Nat.le_trans (List.length_filter_le _ _) (by simp; omega)
      have hlu : (Pl.leftL now (l.take k)).length ≤ k := Nat.le_trans (List.length_filter_le _ _) (by simp; omega)
      have hsz := hlo.size
      have HT : Hid (l[k].at_ ≤ now → Pl.takeL now (l.take (k + 1)) = Pl.takeL now (l.take k) ++ [l[k]] ∧ Pl.leftL now (l.take (k + 1)) = Pl.leftL now (l.take k)) := Lib.hid (fun h => take_yes hlt h)
      have HN : Hid (¬ l[k].at_ ≤ now → Pl.takeL now (l.take (k + 1)) = Pl.takeL now (l.take k) ∧ Pl.leftL now (l.take (k + 1)) = Pl.leftL now (l.take k) ++ [l[k]]) := Lib.hid (fun h => take_no hlt h)
      generalize Pl.takeL now (l.take k) = tk at *
      generalize Pl.leftL now (l.take k) = lk at *
      have HR : Hid (DueR B wr l[k] (dueCells l[k])) := Lib.hid ⟨rfl, z0, z1, z2⟩
      clear z0 z1 z2
      obtain ⟨x0, x1, x2, hx⟩ : ∃ x0 x1 x2, l[k] = ⟨x0, x1, x2⟩ := ⟨_, _, _, rfl⟩
      rw [hx] at HT HN HR hc0 hc1 hc2
      dsimp only at HT HN HR hc0 hc1 hc2
      clear hx
      have hl2 : Lo wr ((wr.alloc (.cells #[.int .u64 x0, .int .i64 x1, .int .u64 x2] 25)).alloc (.cells #[.int .u64 x0, .int .i64 x1, .int .u64 x2] 25)) := ((Lo.refl _).alloc _).alloc _
      have HCell : Hid (∀ (j : Nat) x, [Value.int .u64 x0, .int .i64 x1, .int .u64 x2][j]? = some x → ((wr.alloc (.cells #[.int .u64 x0, .int .i64 x1, .int .u64 x2] 25)).alloc (.cells #[.int .u64 x0, .int .i64 x1, .int .u64 x2] 25)).cell? ((⟨wr.heap.size + 1, 0, none⟩ : Addr).add j) = some x) := Lib.hid (cells_of_block (heap_new_at (by simp)))
      have HV := Lib.hid (hv.lo hl2)
      have HU := Lib.hid (hu.lo hl2)
      clear hv hu
      have hbs : w.heap.size ≤ ((wr.alloc (.cells #[.int .u64 x0, .int .i64 x1, .int .u64 x2] 25)).alloc (.cells #[.int .u64 x0, .int .i64 x1, .int .u64 x2] 25)).heap.size := by simp; omega
      have h1c : ∀ u ∈ [Value.int .u64 x0, .int .i64 x1, .int .u64 x2], u.oneCell' = true := by simp [Value.oneCell']
      have HFt : Hid (∀ vb : Value, Foot (fun b => b < ((wr.alloc (.cells #[.int .u64 x0, .int .i64 x1, .int .u64 x2] 25)).alloc (.cells #[.int .u64 x0, .int .i64 x1, .int .u64 x2] 25)).heap.size ∧ False ∧ some b ≠ vb.ownBlock) DueR ((wr.alloc (.cells #[.int .u64 x0, .int .i64 x1, .int .u64 x2] 25)).alloc (.cells #[.int .u64 x0, .int .i64 x1, .int .u64 x2] 25)) ⟨x0, x1, x2⟩ [.int .u64 x0, .int .i64 x1, .int .u64 x2]) := Lib.hid (fun _ => Foot.flat DueR.flat (B := B) HR.out)
      have h03 : 0 < 3 := by omega
      have hm1 : tk.length + 1 ≤ maxLen := by unfold maxLen; omega
      have hm2 : lk.length + 1 ≤ maxLen := by unfold maxLen; omega
      have hm3 : (tk.length + 1) * 24 ≤ 140737488355328 := by omega
      have hm4 : (lk.length + 1) * 24 ≤ 140737488355328 := by omega
      by_cases ht : x0 ≤ now
      · obtain ⟨q1, q2⟩ := HT.out ht
        have Q1 := Lib.hid q1
        have Q2 := Lib.hid q2
        clear q1 q2
        go_wp2_with (at_builtin; refine wpList_append_row2 (T := fun _ => False) (R := DueR) rfl (.tmp 18) (.tmp 20) 22 rfl w.heap.size 25 i0 _ 3 24 Try.underlying22 hi hz0 hz1 hz2 rfl h03 _ tk rfl HV.out ⟨wr.heap.size + 1, 0, none⟩ 1 [.int .u64 x0, .int .i64 x1, .int .u64 x2] ⟨x0, x1, x2⟩ rfl rfl HCell.out h1c (HFt.out _) hm1 hm3 hbs ?_; intro vm w2 hrow2 hgr2 hown2 hlo2)
        go_roundw
        case rel => exact ⟨k + 1, by omega, by go_num, hlo2 w (hlo.trans hl2) (Nat.le_refl _), by rw [Q1.out]; exact hrow2, by rw [Q2.out]; exact (HU.out.kept hgr2 (apart_ne hap.out) (fun _ _ h => h)), Lib.hid (apart_far hap.out hown2 (fun g h => (HU.out.own_ge g h).2))⟩
        case measure => simp [intOf]; omega
      · obtain ⟨q1, q2⟩ := HN.out ht
        have Q1 := Lib.hid q1
        have Q2 := Lib.hid q2
        clear q1 q2
        go_wp2_with (at_builtin; refine wpList_append_row2 (T := fun _ => False) (R := DueR) rfl (.tmp 22) (.tmp 24) 22 rfl w.heap.size 25 i0 _ 3 24 Try.underlying22 hi hz0 hz1 hz2 rfl h03 _ lk rfl HU.out ⟨wr.heap.size + 1, 0, none⟩ 1 [.int .u64 x0, .int .i64 x1, .int .u64 x2] ⟨x0, x1, x2⟩ rfl rfl HCell.out h1c (HFt.out _) hm2 hm4 hbs ?_; intro vm w2 hrow2 hgr2 hown2 hlo2)
        go_roundw
        case rel => exact ⟨k + 1, by omega, by go_num, hlo2 w (hlo.trans hl2) (Nat.le_refl _), by rw [Q1.out]; exact (HV.out.kept hgr2 (apart_ne (apart_comm hap.out)) (fun _ _ h => h)), by rw [Q2.out]; exact hrow2, Lib.hid (apart_comm (apart_far (apart_comm hap.out) hown2 (fun g h => (HV.out.own_ge g h).2)))⟩
        case measure => simp [intOf]; omega
    · have h1 := hv
      have h2 := hu
      rw [List.take_of_length_le (by omega)] at h1 h2
      go_wp2
      go_ret2
      exact ⟨_, _, rfl, hlo, h1, h2, hap.out⟩
end Go.Proofs.Ytmjckopplkihlaa.Due
