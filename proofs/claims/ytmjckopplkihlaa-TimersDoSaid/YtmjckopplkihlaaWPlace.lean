/- The walk of timers.place. (Written by mk_place.py.) -/
import Derived.Test.YtmjckopplkihlaaWDue2b
import Derived.WalkMore
namespace Go.Proofs.Ytmjckopplkihlaa.Due
set_option linter.unusedVariables false
set_option linter.unusedSimpArgs false
open Go.RowKit Mem BigFrame

set_option maxRecDepth 100000 in
set_option maxHeartbeats 1600000 in
theorem place_ (A : Option Addr) (cap : Nat) (l : List Pl.Due) (d : Pl.Due) (w : World) {B : Nat} (hB : B ≤ w.heap.size) (hA : Dues B w A l) (hn : l.length ≤ maxLen) :
    Calls Try.prog 36 #[.slice A l.length cap, dueV d, .func (.func 31) #[] #[]] w fun e w' => e = .returned (.int .i64 (Pl.placeL l d : Nat)) ∧ Lo w w' := by
  unfold maxLen at hn
  go_enter Try.func36, Try.ntmps36
  go_wp2
  go_step3
  go_wp2
  go_step3
  go_wp2
  go_loopg [7] l.length (fun g i wr => g ≤ l.length ∧ i = .int .i64 g ∧ Lo w wr ∧ BoxD wr w.heap.size d ∧ Hid (∀ j (hj : j < l.length), g ≤ j → Pl.ahead d l[j] = true))
  case atStart => exact ⟨Nat.le_refl _, rfl, (by repeat (first | exact Lo.refl _ | assumption | refine Lo.drew ?_ | refine Lo.alloc ?_ _ | refine Lo.setCell ?_ (by first | (dsimp only; omega) | (simp; omega) | (simp; done)) _ | refine Lo.trans ?_ (by assumption))), ⟨by simp, by simp, by simp⟩, Lib.hid (fun j hj h => by omega)⟩
  case round =>
    obtain ⟨k, rfl⟩ : ∃ k : Nat, k = gk := ⟨_, rfl⟩
    obtain ⟨hk, rfl, hlo, ⟨hd0, hd1, hd2⟩, hall⟩ := hrel
    rcases k with _ | k
    · have HP := Lib.hid (placeL_at (l := l) (d := d) (Nat.zero_le _) (fun j hj h => hall.out j hj h) (fun j hj h => by omega))
      go_wp2
      try rw [Exit.noGoto_ret]
      go_ret
      exact ⟨ret_int (by rw [HP.out]), hlo⟩
    · have hlt : k < l.length := hk
      obtain ⟨b, off, rfl, hb, hc0, hc1, hc2, z0, z1, z2⟩ := Dues.at_ (SliceAt.lo DueR.kept hA hlo hB) hlt
      obtain ⟨y, hy⟩ : ∃ y, Pl.ahead d l[k] = y := ⟨_, rfl⟩
      have HN : Hid (y = true → ∀ j (hj : j < l.length), k ≤ j → Pl.ahead d l[j] = true) := Lib.hid fun h j hj hkj => by
        rcases Nat.eq_or_lt_of_le hkj with e | e
        · subst e; rw [hy]; exact h
        · exact hall.out j hj e
      have HE : Hid (y = false → Pl.placeL l d = k + 1) := Lib.hid fun h => placeL_at hk hall.out (fun j hj e => by
        have hjk : j = k := by omega
        subst hjk
        rw [hy]; exact h)
      have HY : Hid (decide (0 < cmpD ⟨l[k].at_, l[k].kind, l[k].key⟩ d) = y) := Lib.hid (by rw [cmpD_pos]; exact hy)
      clear hy z0 z1 z2
      generalize l[k].at_ = x0 at *
      generalize l[k].kind = x1 at *
      generalize l[k].key = x2 at *
      go_wp2_with fail
      refine wp_region_all 25 (fun i v w' => match i with
            | 0 => v = .func (.func 31) #[] #[]
            | 1 => v = .slice (some ⟨b, off, none⟩) l.length cap
            | 2 => v = .int .i64 ((k + 1 : Nat) : Int)
            | 3 => v = .int .i64 k
            | 4 => v = .pointer (some ⟨b, off + k * 3, none⟩)
            | 5 => v = .agg #[.int .u64 x0, .int .i64 x1, .int .u64 x2]
            | 6 => v = dueV d
            | 7 => v = .int .i64 (cmpD ⟨x0, x1, x2⟩ d)
            | 8 => v = .bool y
            | 9 => v = .bool y
            | _ => True) (by kernel_rfl) rfl (by kernel_rfl) ?_ ?_ ?_
      · intro i v w1 w2 h hl12
        match i, h with
        | 0, h => exact h
        | 1, h => exact h
        | 2, h => exact h
        | 3, h => exact h
        | 4, h => exact h
        | 5, h => exact h
        | 6, h => exact h
        | 7, h => exact h
        | 8, h => exact h
        | 9, h => exact h
        | _ + 10, _ => trivial
      · intro i o hiN ho a w' hl hd hold
        match i, hiN with
        | 0, _ =>
          injection ho with ho; subst ho
          have h2 : a.eval (.tmp 2) = .func (.func 31) #[] #[] := hold 2 (by kernel_rfl)
          simp [Act.eval] at h2
          exact ⟨fun _ => wp_of_run (v := .func (.func 31) #[] #[]) (w' := w') (by simp [go_sem, h2]) ⟨_, rfl, Lo.refl _, rfl⟩, fun h => by rw [wanted_free rfl] at h; cases h⟩
        | 1, _ =>
          injection ho with ho; subst ho
          have h0 : a.eval (.tmp 0) = .slice (some ⟨b, off, none⟩) l.length cap := hold 0 (by kernel_rfl)
          simp [Act.eval] at h0
          exact ⟨fun _ => wp_of_run (v := .slice (some ⟨b, off, none⟩) l.length cap) (w' := w') (by simp [go_sem, h0]) ⟨_, rfl, Lo.refl _, rfl⟩, fun h => by rw [wanted_free rfl] at h; cases h⟩
        | 2, _ =>
          injection ho with ho; subst ho
          have h7 : a.eval (.tmp 7) = .int .i64 ((k + 1 : Nat) : Int) := hold 7 (by kernel_rfl)
          simp [Act.eval] at h7
          exact ⟨fun _ => wp_of_run (v := .int .i64 ((k + 1 : Nat) : Int)) (w' := w') (by simp [go_sem, h7]) ⟨_, rfl, Lo.refl _, rfl⟩, fun h => by rw [wanted_free rfl] at h; cases h⟩
        | 3, _ =>
          injection ho with ho; subst ho
          have h15 : a.eval (.tmp 15) = .int .i64 ((k + 1 : Nat) : Int) := hd 2 (by kernel_rfl) 15 (by kernel_rfl)
          simp [Act.eval] at h15
          exact ⟨fun _ => wp_of_run (v := .int .i64 k) (w' := w') (by simp [go_sem, h15]; rw [IntKind.wrap_i64]; omega) ⟨_, rfl, Lo.refl _, rfl⟩, fun h => by rw [wanted_free rfl] at h; cases h⟩
        | 4, _ =>
          injection ho with ho; subst ho
          have h14 : a.eval (.tmp 14) = .slice (some ⟨b, off, none⟩) l.length cap := hd 1 (by kernel_rfl) 14 (by kernel_rfl)
          have h16 : a.eval (.tmp 16) = .int .i64 k := hd 3 (by kernel_rfl) 16 (by kernel_rfl)
          simp [Act.eval] at h14 h16
          exact ⟨fun _ => wp_of_run (v := .pointer (some ⟨b, off + k * 3, none⟩)) (w' := w') (by simp [go_sem, h14, h16, Nat.not_le_of_lt hlt]) ⟨_, rfl, Lo.refl _, rfl⟩, fun h => by rw [wanted_free rfl] at h; cases h⟩
        | 5, _ =>
          injection ho with ho; subst ho
          have h17 : a.eval (.tmp 17) = .pointer (some ⟨b, off + k * 3, none⟩) := hd 4 (by kernel_rfl) 17 (by kernel_rfl)
          have hc0 := lo_keep hl hc0
          have hc1 := lo_keep hl hc1
          have hc2 := lo_keep hl hc2
          simp [Act.eval] at h17
          exact ⟨fun _ => wp_of_run (v := .agg #[.int .u64 x0, .int .i64 x1, .int .u64 x2]) (w' := w') (by simp [go_sem, h17, hc0, hc1, hc2]) ⟨_, rfl, Lo.refl _, rfl⟩, fun h => by rw [wanted_free rfl] at h; cases h⟩
        | 6, _ =>
          injection ho with ho; subst ho
          have h4 : a.eval (.tmp 4) = .pointer (some ⟨w.heap.size, 0, none⟩) := hold 4 (by kernel_rfl)
          have hc0 := lo_keep hl hd0
          have hc1 := lo_keep hl hd1
          have hc2 := lo_keep hl hd2
          simp [Act.eval] at h4
          exact ⟨fun _ => wp_of_run (v := dueV d) (w' := w') (by simp [go_sem, h4, hc0, hc1, hc2]) ⟨_, rfl, Lo.refl _, rfl⟩, fun h => by rw [wanted_free rfl] at h; cases h⟩
        | 7, _ =>
          injection ho with ho; subst ho
          have h13 : a.eval (.tmp 13) = .func (.func 31) #[] #[] := hd 0 (by kernel_rfl) 13 (by kernel_rfl)
          have h18 : a.eval (.tmp 18) = .agg #[.int .u64 x0, .int .i64 x1, .int .u64 x2] := hd 5 (by kernel_rfl) 18 (by kernel_rfl)
          have h19 : a.eval (.tmp 19) = dueV d := hd 6 (by kernel_rfl) 19 (by kernel_rfl)
          simp [Act.eval] at h13 h18 h19
          refine ⟨fun _ => ?_, fun h => by rw [wanted_free rfl] at h; cases h⟩
          refine wp_call_of (f := 31) (args := #[dueV ⟨x0, x1, x2⟩, dueV d]) (by simp [go_sem, h13, h18, h19, dueV]) (order_ _ _ w') ?_
          rintro r w2 ⟨rfl, hb⟩
          exact ⟨_, rfl, _, rfl, hb, rfl⟩
        | 8, _ =>
          injection ho with ho; subst ho
          have h20 : a.eval (.tmp 20) = .int .i64 (cmpD ⟨x0, x1, x2⟩ d) := hd 7 (by kernel_rfl) 20 (by kernel_rfl)
          simp [Act.eval] at h20
          exact ⟨fun _ => wp_of_run (v := .bool y) (w' := w') (by simp [go_sem, h20]; exact HY.out) ⟨_, rfl, Lo.refl _, rfl⟩, fun h => by rw [wanted_free rfl] at h; cases h⟩
        | 9, _ =>
          injection ho with ho; subst ho
          have h21 : a.eval (.tmp 21) = .bool y := hd 8 (by kernel_rfl) 21 (by kernel_rfl)
          simp [Act.eval] at h21
          exact ⟨fun _ => wp_of_run (v := .bool y) (w' := w') (by simp [go_sem, h21]) ⟨_, rfl, Lo.refl _, rfl⟩, fun h => by rw [wanted_free rfl] at h; cases h⟩
      · intro v w2 hb hp
        have p := hp 9 (by simp)
        clear hp
        simp only [List.length_cons, List.length_nil, Nat.zero_add, Nat.reduceAdd, List.range_succ, List.range_zero, List.nil_append, List.cons_append, List.foldl_cons, List.foldl_nil, dstOf, List.getElem?_toArray, List.getElem?_cons_zero, List.getElem?_cons_succ, Option.bind_some, Act.put, List.setIfInBounds_toArray, List.set_cons_zero, List.set_cons_succ]
        generalize v 9 = vl at *
        subst p
        cases y
        · go_wp2
          try rw [Exit.noGoto_ret]
          go_ret
          exact ⟨ret_int (by rw [HE.out (by trivial)]; rfl), hlo.trans hb⟩
        · go_wp2
          go_roundg k
          case rel => exact ⟨by omega, by go_num, hlo.trans hb, BoxD.lo ⟨hd0, hd1, hd2⟩ hb, Lib.hid (HN.out (by trivial))⟩
          case measure => omega
end Go.Proofs.Ytmjckopplkihlaa.Due

