/- slices.MinFunc at api.Due, and timers.Next. -/
import Derived.Test.YtmjckopplkihlaaWInsert
namespace Go.Proofs.Ytmjckopplkihlaa.Due
set_option linter.unusedVariables false
set_option linter.unusedSimpArgs false
open Go.RowKit Mem BigFrame

/-- a block of the call's own that holds a thing -/
def BlkD (W : World) (b : Nat) (d : Pl.Due) : Prop := W.heap[b]? = some (.cells (dueCells d).toArray 25 (0, 0))
theorem BlkD.lo {W W' : World} {b : Nat} {d : Pl.Due} (h : BlkD W b d) (hl : Lo W W') : BlkD W' b d := cells_lo h hl
theorem BlkD.box {W : World} {b : Nat} {d : Pl.Due} (h : BlkD W b d) : BoxD W b d := ⟨cell_row h rfl, cell_row h rfl, cell_row h rfl⟩
theorem BlkD.frozen {W : World} {b : Nat} {d : Pl.Due} (h : BlkD W b d) (o : Nat) : W.frozen? ⟨b, o, none⟩ = false := frozen_row h
theorem BlkD.new (W : World) (d : Pl.Due) : BlkD (W.alloc (.cells #[.int .u64 d.at_, .int .i64 d.kind, .int .u64 d.key] 25)) W.heap.size d := heap_alloc_new W _
theorem BlkD.other {W : World} {b g o : Nat} {v : Value} {d : Pl.Due} (h : BlkD W b d) (hne : b ≠ g) : BlkD (W.setCell ⟨g, o, none⟩ v) b d := by
  unfold BlkD
  rw [heap_setCell_other W ⟨g, o, none⟩ b v hne]; exact h
theorem BlkD.set {W : World} {b : Nat} {d : Pl.Due} (h : BlkD W b d) (d' : Pl.Due) : BlkD (((W.setCell ⟨b, 0, none⟩ (.int .u64 d'.at_)).setCell ⟨b, 1, none⟩ (.int .i64 d'.kind)).setCell ⟨b, 2, none⟩ (.int .u64 d'.key)) b d' := by
  have g1 := setCell_eq_setRow W b 0 (dueCells d).toArray 25 (0, 0) (.int .u64 d'.at_) h
  have h1 : (W.setCell ⟨b, 0, none⟩ (.int .u64 d'.at_)).heap[b]? = some (.cells [.int .u64 d'.at_, .int .i64 d.kind, .int .u64 d.key].toArray 25 (0, 0)) := by rw [g1, setRow_heap W b _ _ _ _ h]; rfl
  have g2 := setCell_eq_setRow _ b 1 _ 25 (0, 0) (.int .i64 d'.kind) h1
  have h2 : ((W.setCell ⟨b, 0, none⟩ (.int .u64 d'.at_)).setCell ⟨b, 1, none⟩ (.int .i64 d'.kind)).heap[b]? = some (.cells [.int .u64 d'.at_, .int .i64 d'.kind, .int .u64 d.key].toArray 25 (0, 0)) := by rw [g2, setRow_heap _ b _ _ _ _ h1]; rfl
  have g3 := setCell_eq_setRow _ b 2 _ 25 (0, 0) (.int .u64 d'.key) h2
  unfold BlkD
  rw [g3, setRow_heap _ b _ _ _ _ h2]; rfl
theorem enters_next1 : Enters Try.prog 44 := enters_of Try.func44 (by kernel_rfl) rfl

def minL : List Pl.Due → Pl.Due
  | [] => ⟨0, 0, 0⟩
  | x :: r => Pl.minD x r
theorem minL_snoc {l : List Pl.Due} {k : Nat} (h1 : 1 ≤ k) (hk : k < l.length) : minL (l.take (k + 1)) = if l[k].at_ < (minL (l.take k)).at_ then l[k] else minL (l.take k) := by
  rw [List.take_succ_eq_append_getElem hk]
  cases l with
  | nil => simp at hk
  | cons x r =>
    obtain ⟨j, rfl⟩ : ∃ j, k = j + 1 := ⟨k - 1, by omega⟩
    simp only [List.take_succ_cons, List.cons_append, minL]
    rw [Pl.minD_snoc]
    rfl
theorem minL_one {l : List Pl.Due} (h : 0 < l.length) : minL (l.take 1) = l[0] := by
  cases l with
  | nil => simp at h
  | cons x r => simp [minL, Pl.minD]
set_option maxRecDepth 100000 in
set_option maxHeartbeats 1600000 in
theorem minFunc (A : Option Addr) (cap : Nat) (l : List Pl.Due) (w : World) {B : Nat} (hB : B ≤ w.heap.size) (hA : Dues B w A l) (h0 : 0 < l.length) (hn : l.length ≤ maxLen) :
    Calls Try.prog 43 #[.slice A l.length cap, .func (.func 44) #[] #[]] w fun e w' => e = .returned (dueV (minL l)) ∧ Lo w w' := by
  unfold maxLen at hn
  have eg := enters_next1
  unfold Go.Proofs.Enters at eg
  have HM1 := Lib.hid (minL_one h0)
  have HD0 : Hid (BoxD w 0 ⟨0, 0, 0⟩ → True) := Lib.hid (fun _ => trivial)
  obtain ⟨b, off, rfl, hb, hc0, hc1, hc2, -, -, -⟩ := hA.at_ h0
  simp only [Nat.zero_mul, Nat.add_zero] at hc0 hc1 hc2
  have hbw : b < w.heap.size := World.block_lt_of_cell? w _ hc0
  obtain ⟨x0, x1, x2, hx⟩ : ∃ x0 x1 x2, l[0] = ⟨x0, x1, x2⟩ := ⟨_, _, _, rfl⟩
  rw [hx] at HM1 hc0 hc1 hc2
  dsimp only at hc0 hc1 hc2
  clear hx HD0
  have j9 : ¬ ((l.length : Int) < 1) := by omega
  go_enter Try.func43, Try.ntmps43
  go_wp2
  go_loopw [6] (fun i wr => ∃ k : Nat, 1 ≤ k ∧ k ≤ l.length ∧ i = .int .i64 k ∧ Lo w wr ∧ BlkD wr w.heap.size ⟨0, 0, 0⟩ ∧ BlkD wr (w.heap.size + 1) (minL (l.take k))) (fun i _ => l.length - (intOf i).toNat)
  case atStart =>
    refine ⟨1, by omega, by omega, rfl, ((Lo.refl _).alloc _).alloc _, (BlkD.new w ⟨0, 0, 0⟩).lo ((Lo.refl _).alloc _), ?_⟩
    rw [HM1.out]
    have := BlkD.new (w.alloc (.cells #[.int .u64 0, .int .i64 0, .int .u64 0] 25)) ⟨x0, x1, x2⟩
    simpa using this
  case round =>
    obtain ⟨k, hk1, hk, rfl, hlo, hr0, hm⟩ := hrel
    have hsz := block_lt hm
    by_cases hlt : k < l.length
    · obtain ⟨b', off', hbb, hb', hd0, hd1, hd2, -, -, -⟩ := Dues.at_ (SliceAt.lo DueR.kept hA hlo hB) hlt
      injection hbb with hbb; injection hbb with e1 e2; subst e1 e2
      have HS := Lib.hid (minL_snoc hk1 hlt)
      generalize minL (l.take k) = m at *
      generalize l[k] = y at *
      obtain ⟨y0, y1, y2⟩ := y
      obtain ⟨m0, m1, m2⟩ := m
      obtain ⟨hm0, hm1, hm2⟩ := hm.box
      dsimp only at hd0 hd1 hd2 hm0 hm1 hm2 HS
      have f0 := hm.frozen 0
      have f1 := hm.frozen 1
      have f2 := hm.frozen 2
      have j0 : (0 : Int) ≤ (k : Int) := by omega
      have j1 : (k : Int) < (l.length : Int) := by omega
      have hbr : b < wr.heap.size := Nat.lt_of_lt_of_le hbw hlo.size
      have HMB := Lib.hid hm
      have HR0 := Lib.hid hr0
      have HC : Hid (∀ W, Calls Try.prog 44 #[dueV ⟨y0, y1, y2⟩, dueV ⟨m0, m1, m2⟩] W fun e w' => e = .returned (.int .i64 (cmpI y0 m0)) ∧ Lo W w') := Lib.hid fun W => nextC _ _ W
      have HNG : Hid (decide (cmpI y0 m0 < 0) = decide (y0 < m0)) := Lib.hid (cmpI_neg y0 m0)
      clear hm hr0
      by_cases hlt2 : y0 < m0
      · have hneg : cmpI y0 m0 < 0 := by have := HNG.out; simp [hlt2] at this; exact this
        have HM' := Lib.hid (HS.out.trans (if_pos hlt2))
        generalize cmpI y0 m0 = c at *
        go_wp2
        refine wp_region_ext (by kernel_rfl) (by kernel_rfl) ?_
        repeat (first | go_big_quiet_skip | (go_big_quiet_want; go_big_quiet_op; first | go_big_quiet_on | go_big_quiet_call ((go_at_call 44; exact quiet_ext (HC.out _)))))
        refine wpQuiet_nil ?_
        intro wq hq
        obtain ⟨hqc, hqf, hqz⟩ := hq.facts
        have hd0' := lo_keep hq hd0
        have hd1' := lo_keep hq hd1
        have hd2' := lo_keep hq hd2
        have hne : ¬ (w.heap.size + 1 = b) := by omega
        go_wp2
        go_roundw
        case rel => exact ⟨k + 1, by omega, by omega, by go_num, (by repeat (first | exact Lo.refl _ | assumption | refine Lo.drew ?_ | refine Lo.alloc ?_ _ | refine Lo.setCell ?_ (by first | (dsimp only; omega) | (simp; omega) | (simp; done)) _ | refine Lo.trans ?_ (by assumption))), ((((HR0.out.lo hq).other (by omega)).other (by omega)).other (by omega)), by rw [HM'.out]; exact (HMB.out.lo hq).set ⟨y0, y1, y2⟩⟩
        case measure => simp [intOf]; omega
      · have hneg : ¬ cmpI y0 m0 < 0 := by have := HNG.out; simp [hlt2] at this; omega
        have HM' := Lib.hid (HS.out.trans (if_neg hlt2))
        generalize cmpI y0 m0 = c at *
        go_wp2
        refine wp_region_ext (by kernel_rfl) (by kernel_rfl) ?_
        repeat (first | go_big_quiet_skip | (go_big_quiet_want; go_big_quiet_op; first | go_big_quiet_on | go_big_quiet_call ((go_at_call 44; exact quiet_ext (HC.out _)))))
        refine wpQuiet_nil ?_
        intro wq hq
        obtain ⟨hqc, hqf, hqz⟩ := hq.facts
        go_wp2
        go_roundw
        case rel => exact ⟨k + 1, by omega, by omega, by go_num, (by repeat (first | exact Lo.refl _ | assumption | refine Lo.drew ?_ | refine Lo.alloc ?_ _ | refine Lo.setCell ?_ (by first | (dsimp only; omega) | (simp; omega) | (simp; done)) _ | refine Lo.trans ?_ (by assumption))), HR0.out.lo hq, by rw [HM'.out]; exact HMB.out.lo hq⟩
        case measure => simp [intOf]; omega
    · obtain rfl : k = l.length := by omega
      rw [List.take_length] at hm
      obtain ⟨m0, m1, m2, hmx⟩ : ∃ m0 m1 m2, minL l = ⟨m0, m1, m2⟩ := ⟨_, _, _, rfl⟩
      rw [hmx] at hm
      have HMX := Lib.hid hmx
      clear hmx
      obtain ⟨hm0, hm1, hm2⟩ := hm.box
      obtain ⟨hz0, hz1, hz2⟩ := hr0.box
      have f0 := hr0.frozen 0
      have f1 := hr0.frozen 1
      have f2 := hr0.frozen 2
      go_wp2
      exact bodyPost_ret (v := dueV ⟨m0, m1, m2⟩) (by simp [results, Try.results43, go_sem, hz0, hz1, hz2]) rfl ⟨by rw [HMX.out], (by repeat (first | exact Lo.refl _ | assumption | refine Lo.drew ?_ | refine Lo.alloc ?_ _ | refine Lo.setCell ?_ (by first | (dsimp only; omega) | (simp; omega) | (simp; done)) _ | refine Lo.trans ?_ (by assumption)))⟩
def nextV (l : List Pl.Due) : Value := .tuple #[.int .u64 (Pl.nextL l), .bool (decide (0 < l.length))]
theorem nextL_eq {l : List Pl.Due} (h : 0 < l.length) : (minL l).at_ = Pl.nextL l := by
  cases l with
  | nil => simp at h
  | cons x r => rfl
theorem next_ (A : Option Addr) (cap : Nat) (l : List Pl.Due) (w : World) {B : Nat} (hB : B ≤ w.heap.size) (hA : Dues B w A l) (hn : l.length ≤ maxLen) :
    Calls Try.prog 24 #[.slice A l.length cap] w fun e w' => e = .returned (nextV l) ∧ Lo w w' := by
  rcases Nat.eq_zero_or_pos l.length with h0 | h0
  · have hl : l = [] := List.eq_nil_of_length_eq_zero h0
    have HV : Hid (nextV l = .tuple #[.int .u64 0, .bool false]) := Lib.hid (by rw [hl]; rfl)
    rw [h0]
    clear hl h0 hA hn
    go_enter Try.func24, Try.ntmps24
    go_wp2
    go_ret2
    exact ⟨by rw [HV.out]; rfl, (by repeat (first | exact Lo.refl _ | assumption | refine Lo.drew ?_ | refine Lo.alloc ?_ _ | refine Lo.setCell ?_ (by first | (dsimp only; omega) | (simp; omega) | (simp; done)) _ | refine Lo.trans ?_ (by assumption)))⟩
  · have HC := Lib.hid (minFunc A cap l w hB hA h0 hn)
    have HV : Hid (nextV l = .tuple #[.int .u64 (minL l).at_, .bool true]) := Lib.hid (by unfold nextV; rw [nextL_eq h0]; simp [h0])
    have hne : ¬ ((l.length : Int) = 0) := by omega
    obtain ⟨m0, m1, m2, hm⟩ : ∃ m0 m1 m2, minL l = ⟨m0, m1, m2⟩ := ⟨_, _, _, rfl⟩
    rw [hm] at HC HV
    have HC : Hid (Calls Try.prog 43 #[.slice A l.length cap, .func (.func 44) #[] #[]] w fun e w' => e = .returned (.agg #[.int .u64 m0, .int .i64 m1, .int .u64 m2]) ∧ Lo w w') := HC
    have hfld : ∀ w, (Instr.field 25 (.agg #[.int .u64 m0, .int .i64 m1, .int .u64 m2]) 0).run Try.prog w = .ok (.int .u64 m0) w := fun _ => by kernel_rfl
    clear hm hA
    unfold maxLen at hn
    go_enter Try.func24, Try.ntmps24
    go_wp2_with (go_at_call 43; refine (HC.out).mono ?_; rintro e w1 ⟨rfl, hb⟩)
    go_ret2
    exact ⟨by rw [HV.out]; rfl, (by repeat (first | exact Lo.refl _ | assumption | refine Lo.drew ?_ | refine Lo.alloc ?_ _ | refine Lo.setCell ?_ (by first | (dsimp only; omega) | (simp; omega) | (simp; done)) _ | refine Lo.trans ?_ (by assumption)))⟩
end Go.Proofs.Ytmjckopplkihlaa.Due
