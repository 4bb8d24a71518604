/- The walk of timers.May. -/
import Derived.Test.YtmjckopplkihlaaWMin
namespace Go.Proofs.Ytmjckopplkihlaa.Due
set_option linter.unusedVariables false
set_option linter.unusedSimpArgs false
open Go.RowKit Mem BigFrame

theorem SliceAt.take_ {α : Type} {R : Rel α} {sz B : Nat} {w : World} {A : Option Addr} {xs : List α} (h : SliceAt R sz B w A xs) (n : Nat) : SliceAt R sz B w A (xs.take n) := by
  intro k x hx
  rw [List.getElem?_take] at hx
  split at hx
  · exact h k x hx
  · cases hx
theorem okAt_zero {l : List Pl.Due} (hk : 0 < l.length) : Pl.okAt l 0 = (Pl.mayD l[0] && !((l.take 0).any (Pl.isD l[0].kind l[0].key))) := by
  unfold Pl.okAt
  simp [List.getD_eq_getElem?_getD, hk]
theorem okAt_succ {l : List Pl.Due} {k : Nat} (hk : k + 1 < l.length) : Pl.okAt l (k + 1) = (Pl.mayD l[k + 1] && !((l.take (k + 1)).any (Pl.isD l[k + 1].kind l[k + 1].key)) && !Pl.ahead l[k + 1] (l[k]'(by omega))) := by
  unfold Pl.okAt
  have h1 : l[k]? = some (l[k]'(by omega)) := List.getElem?_eq_getElem (by omega)
  simp [List.getD_eq_getElem?_getD, hk, h1]
theorem may_more {l : List Pl.Due} {k : Nat} (h : (List.range k).all (Pl.okAt l) = true) (ho : Pl.okAt l k = true) : (List.range (k + 1)).all (Pl.okAt l) = true := by
  rw [List.range_succ, List.all_append, h]; simp [ho]
theorem may_bad {l : List Pl.Due} {k : Nat} (hk : k < l.length) (ho : Pl.okAt l k = false) : Pl.mayL l = false := by
  unfold Pl.mayL
  have : (List.range l.length).all (Pl.okAt l) = false := by rw [List.all_eq_false]; exact ⟨k, by simpa using hk, by simp [ho]⟩
  rw [this]; rfl
theorem may_good {l : List Pl.Due} (h : (List.range l.length).all (Pl.okAt l) = true) : Pl.mayL l = decide (l.length ≤ 64) := by unfold Pl.mayL; rw [h]; rfl

theorem of_decide_eq_cases {p : Prop} [Decidable p] {b : Bool} (h : decide p = b) : if b then p else ¬ p := by cases b <;> simpa using h
set_option maxRecDepth 100000 in
set_option maxHeartbeats 3200000 in
theorem mayAll_ (A : Option Addr) (cap : Nat) (l : List Pl.Due) (w : World) {B : Nat} (hB : B ≤ w.heap.size) (hA : Dues B w A l) (hn : l.length ≤ maxLen) (hcap : l.length ≤ cap) :
    Calls Try.prog 9 #[.slice A l.length cap] w fun e w' => e = .returned (.bool (Pl.mayL l)) ∧ Lo w w' := by
  unfold maxLen at hn
  go_enter Try.func9, Try.ntmps9
  go_wp2
  go_loopw [8] (fun i wr => ∃ k : Nat, k ≤ l.length ∧ i = .int .i64 k ∧ Lo w wr ∧ Hid ((List.range k).all (Pl.okAt l) = true)) (fun i _ => l.length - (intOf i).toNat)
  case atStart => exact ⟨0, Nat.zero_le _, rfl, Lo.refl _, Lib.hid rfl⟩
  case round =>
    obtain ⟨k, hk, rfl, hlo, hall⟩ := hrel
    by_cases hlt : k < l.length
    · have hA1 : Dues B wr A l := SliceAt.lo DueR.kept hA hlo hB
      obtain ⟨b, off, rfl, hb, hc0, hc1, hc2, -, -, -⟩ := Dues.at_ hA1 hlt
      have hbr := World.block_lt_of_cell? wr _ hc0
      have hlen : (l.take k).length = k := by simp; omega
      have HC : Hid (∀ (W : World) (d : Pl.Due) (bd : Nat), Lo wr W → BoxD W bd d → Calls Try.prog 27 #[.slice (some ⟨b, off, none⟩) k cap, .func (.func 28) #[] #[.pointer (some ⟨bd, 0, none⟩)]] W fun e w' => e = .returned (.bool ((l.take k).any (Pl.isD d.kind d.key))) ∧ Lo W w') :=
        Lib.hid fun W d bd hW hbd => by
          have := WIdxDue.containsFunc DueR.kept cap W (Nat.le_trans hB (Nat.le_trans hlo.size hW.size)) (SliceAt.take_ (SliceAt.lo DueR.kept hA1 hW (Nat.le_trans hB hlo.size)) k) (by rw [hlen]; unfold maxLen; omega) enters_may1 (caps := #[.pointer (some ⟨bd, 0, none⟩)]) (p := Pl.isD d.kind d.key) (by
            intro w' x c0 c1 c2 hx hl hr
            obtain ⟨he, _⟩ := hr
            simp [dueCells] at he
            obtain ⟨rfl, rfl, rfl⟩ := he
            exact mayC x d bd w' (hbd.lo hl))
          rw [hlen] at this
          exact this
      have HM : Hid (∀ (W : World) (d : Pl.Due), Calls Try.prog 30 #[dueV d] W fun e w' => e = .returned (.bool (Pl.mayD d)) ∧ Lo W w') := Lib.hid fun W d => may_ d W
      have HO : Hid (∀ (W : World) (c d : Pl.Due), Calls Try.prog 31 #[dueV c, dueV d] W fun e w' => e = .returned (.int .i64 (cmpD c d)) ∧ Lo W w') := Lib.hid fun W c d => order_ c d W
      have HBAD : Hid (Pl.okAt l k = false → Pl.mayL l = false) := Lib.hid (may_bad hlt)
      have HMORE : Hid (Pl.okAt l k = true → (List.range (k + 1)).all (Pl.okAt l) = true) := Lib.hid (may_more hall.out)
      have j0 : (0 : Int) ≤ (k : Int) := by omega
      have j1 : (k : Int) < (l.length : Int) := by omega
      have j2 : (l.length : Int) ≤ (cap : Int) := by omega
      have j4 : k ≤ cap := by omega
      have HA1 := Lib.hid hA1
      clear hA1
      rcases k with _ | k
      · have HOK := Lib.hid (okAt_zero hlt)
        simp only [Nat.zero_mul, Nat.add_zero] at hc0 hc1 hc2
        generalize (l[0]'hlt) = d at *
        obtain ⟨d0, d1, d2⟩ := d
        dsimp only at hc0 hc1 hc2
        have HCD : Hid (∀ W, Lo wr W → BoxD W wr.heap.size ⟨d0, d1, d2⟩ → Calls Try.prog 27 #[.slice (some ⟨b, off, none⟩) 0 cap, .func (.func 28) #[] #[.pointer (some ⟨wr.heap.size, 0, none⟩)]] W fun e w' => e = .returned (.bool false) ∧ Lo W w') :=
          Lib.hid fun W hW hd => by
            have := HC.out W ⟨d0, d1, d2⟩ wr.heap.size hW hd
            rw [show (l.take 0).any (Pl.isD d1 d2) = false by simp] at this
            exact this
        have HMD : Hid (∀ W, Calls Try.prog 30 #[.agg #[.int .u64 d0, .int .i64 d1, .int .u64 d2]] W fun e w' => e = .returned (.bool (Pl.mayD ⟨d0, d1, d2⟩)) ∧ Lo W w') := Lib.hid (fun W => HM.out W ⟨d0, d1, d2⟩)
        have HOKV : Hid (Pl.okAt l 0 = Pl.mayD ⟨d0, d1, d2⟩) := Lib.hid (by rw [HOK.out]; simp)
        clear HC HM HO HOK
        cases hmd : Pl.mayD ⟨d0, d1, d2⟩
        all_goals
          rw [hmd] at HMD HOKV
          clear hmd
          go_wp2_with fail
          refine (HCD.out _ ?_ ?_).mono ?_
          · exact (Lo.refl _).alloc _
          · exact ⟨by simp, by simp, by simp⟩
          rintro e w1 ⟨rfl, hb1⟩
          have hx0 : w1.cell? ⟨wr.heap.size, 0, none⟩ = some (.int .u64 d0) := lo_keep hb1 (by simp)
          have hx1 : w1.cell? ⟨wr.heap.size, 1, none⟩ = some (.int .i64 d1) := lo_keep hb1 (by simp)
          have hx2 : w1.cell? ⟨wr.heap.size, 2, none⟩ = some (.int .u64 d2) := lo_keep hb1 (by simp)
          have hz1 : wr.heap.size < w1.heap.size := World.block_lt_of_cell? w1 _ hx0
          have hl1 : Lo wr w1 := ((Lo.refl _).alloc _).trans hb1
          go_wp2
          refine wp_region_ext (by kernel_rfl) (by kernel_rfl) ?_
          repeat (first | go_big_quiet_skip | (go_big_quiet_want; go_big_quiet_op; first | go_big_quiet_on | go_big_quiet_call ((go_at_call 30; exact quiet_ext (HMD.out _)))))
          refine wpQuiet_nil ?_
          intro wq hq
          obtain ⟨hqc, hqf, hqz⟩ := hq.facts
          go_wp2
        · go_ret
          exact ⟨ret_bool (HBAD.out HOKV.out).symm, (by repeat (first | exact Lo.refl _ | assumption | refine Lo.drew ?_ | refine Lo.alloc ?_ _ | refine Lo.setCell ?_ (by first | (dsimp only; omega) | (simp; omega) | (simp; done)) _ | refine Lo.trans ?_ (by assumption)))⟩
        · go_roundw
          case rel => exact ⟨1, hlt, rfl, (by repeat (first | exact Lo.refl _ | assumption | refine Lo.drew ?_ | refine Lo.alloc ?_ _ | refine Lo.setCell ?_ (by first | (dsimp only; omega) | (simp; omega) | (simp; done)) _ | refine Lo.trans ?_ (by assumption))), Lib.hid (HMORE.out HOKV.out)⟩
          case measure => simp [intOf]; omega
      · have hk' : k < l.length := by omega
        have HOK := Lib.hid (okAt_succ hlt)
        obtain ⟨b', off', hbb, hb', he0, he1, he2, -, -, -⟩ := Dues.at_ HA1.out hk'
        injection hbb with hbb; injection hbb with e1 e2; subst e1 e2
        generalize (l[k + 1]'hlt) = d at *
        generalize (l[k]'hk') = c at *
        obtain ⟨d0, d1, d2⟩ := d
        obtain ⟨c0, c1, c2⟩ := c
        dsimp only at hc0 hc1 hc2 he0 he1 he2 HOK
        generalize hag : (l.take (k + 1)).any (Pl.isD d1 d2) = ag at HOK
        have HCD : Hid (∀ W, Lo wr W → BoxD W wr.heap.size ⟨d0, d1, d2⟩ → Calls Try.prog 27 #[.slice (some ⟨b, off, none⟩) (k + 1) cap, .func (.func 28) #[] #[.pointer (some ⟨wr.heap.size, 0, none⟩)]] W fun e w' => e = .returned (.bool ag) ∧ Lo W w') :=
          Lib.hid fun W hW hd => by
            have := HC.out W ⟨d0, d1, d2⟩ wr.heap.size hW hd
            rw [hag] at this
            exact this
        have HMD : Hid (∀ W, Calls Try.prog 30 #[.agg #[.int .u64 d0, .int .i64 d1, .int .u64 d2]] W fun e w' => e = .returned (.bool (Pl.mayD ⟨d0, d1, d2⟩)) ∧ Lo W w') := Lib.hid (fun W => HM.out W ⟨d0, d1, d2⟩)
        have HOD : Hid (∀ W, Calls Try.prog 31 #[.agg #[.int .u64 c0, .int .i64 c1, .int .u64 c2], .agg #[.int .u64 d0, .int .i64 d1, .int .u64 d2]] W fun e w' => e = .returned (.int .i64 (cmpD ⟨c0, c1, c2⟩ ⟨d0, d1, d2⟩)) ∧ Lo W w') := Lib.hid (fun W => HO.out W _ _)
        have hcp := cmpD_pos ⟨c0, c1, c2⟩ ⟨d0, d1, d2⟩
        generalize cmpD ⟨c0, c1, c2⟩ ⟨d0, d1, d2⟩ = cm at *
        generalize Pl.ahead ⟨d0, d1, d2⟩ ⟨c0, c1, c2⟩ = ah at *
        generalize Pl.mayD ⟨d0, d1, d2⟩ = md at *
        clear HC HM HO hag
        have j3 : (k : Int) + 1 - 1 = (k : Int) := by omega
        have HJ3 := Lib.hid j3
        clear j3
        cases md <;> cases ag <;> cases ah
        all_goals
          have HCP := Lib.hid hcp
          have hcq := of_decide_eq_cases hcp
          simp only [Bool.false_eq_true, if_false, if_true] at hcq
          clear hcp
          go_wp2_with fail
          refine (HCD.out _ ?_ ?_).mono ?_
          · exact (Lo.refl _).alloc _
          · exact ⟨by simp, by simp, by simp⟩
          rintro e w1 ⟨rfl, hb1⟩
          have hx0 : w1.cell? ⟨wr.heap.size, 0, none⟩ = some (.int .u64 d0) := lo_keep hb1 (by simp)
          have hx1 : w1.cell? ⟨wr.heap.size, 1, none⟩ = some (.int .i64 d1) := lo_keep hb1 (by simp)
          have hx2 : w1.cell? ⟨wr.heap.size, 2, none⟩ = some (.int .u64 d2) := lo_keep hb1 (by simp)
          have hz1 : wr.heap.size < w1.heap.size := World.block_lt_of_cell? w1 _ hx0
          have hl1 : Lo wr w1 := ((Lo.refl _).alloc _).trans hb1
          have hg0 := lo_keep hl1 he0
          have hg1 := lo_keep hl1 he1
          have hg2 := lo_keep hl1 he2
          have hbr1 : b < w1.heap.size := by omega
          go_wp2
          refine wp_region_ext (by kernel_rfl) (by kernel_rfl) ?_
          repeat (first | go_big_quiet_skip | (go_big_quiet_want; go_big_quiet_op; first | go_big_quiet_on | go_big_quiet_call ((first | (go_at_call 30; exact quiet_ext (HMD.out _)) | (go_at_call 31; exact quiet_ext (HOD.out _))))))
          refine wpQuiet_nil ?_
          intro wq hq
          obtain ⟨hqc, hqf, hqz⟩ := hq.facts
          go_wp2
          first
            | (go_ret
               exact ⟨ret_bool (HBAD.out HOK.out).symm, (by repeat (first | exact Lo.refl _ | assumption | refine Lo.drew ?_ | refine Lo.alloc ?_ _ | refine Lo.setCell ?_ (by first | (dsimp only; omega) | (simp; omega) | (simp; done)) _ | refine Lo.trans ?_ (by assumption)))⟩)
            | (go_roundw
               case rel => exact ⟨k + 2, by omega, by go_num, (by repeat (first | exact Lo.refl _ | assumption | refine Lo.drew ?_ | refine Lo.alloc ?_ _ | refine Lo.setCell ?_ (by first | (dsimp only; omega) | (simp; omega) | (simp; done)) _ | refine Lo.trans ?_ (by assumption))), Lib.hid (HMORE.out HOK.out)⟩
               case measure => simp [intOf]; omega)
    · obtain rfl : k = l.length := by omega
      have HG := Lib.hid (may_good hall.out)
      go_wp2
      go_ret
      exact ⟨ret_bool (by rw [HG.out]; simp; omega), (by repeat (first | exact Lo.refl _ | assumption | refine Lo.drew ?_ | refine Lo.alloc ?_ _ | refine Lo.setCell ?_ (by first | (dsimp only; omega) | (simp; omega) | (simp; done)) _ | refine Lo.trans ?_ (by assumption)))⟩
end Go.Proofs.Ytmjckopplkihlaa.Due
