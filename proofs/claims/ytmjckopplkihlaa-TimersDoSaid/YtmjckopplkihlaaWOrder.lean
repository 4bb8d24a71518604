/- The walks of cmp.Or[int] and timers.order. (Written by mk_order.py.) -/
import Derived.Test.YtmjckopplkihlaaWDue1
import Derived.Shelf.Abstract
namespace Go.Proofs.Ytmjckopplkihlaa.Due
set_option linter.unusedVariables false
set_option linter.unusedSimpArgs false
open Go.RowKit Mem BigFrame

def orI : List Int → Int
  | [] => 0
  | a :: l => if a ≠ 0 then a else orI l
theorem orI_at : ∀ {xs : List Int} {k : Nat} (hk : k < xs.length), xs[k] ≠ 0 → orI (xs.take k) = 0 → orI xs = xs[k]
  | a :: l, 0, _, h, _ => by simp [orI]; intro h0; exact absurd h0 h
  | a :: l, k + 1, hk, h, h0 => by
    simp [orI] at h0 ⊢
    by_cases ha : a = 0
    · rw [if_pos ha] at h0 ⊢
      exact orI_at (by simpa using hk) (by simpa using h) h0
    · rw [if_neg ha] at h0; exact absurd h0 ha
theorem orI_snoc {xs : List Int} {k : Nat} (hk : k < xs.length) (h : xs[k] = 0) (h0 : orI (xs.take k) = 0) : orI (xs.take (k + 1)) = 0 := by
  rw [List.take_succ_eq_append_getElem hk, h]
  revert h0
  generalize xs.take k = l
  induction l with
  | nil => intro _; rfl
  | cons a l ih => intro h0; simp [orI] at h0 ⊢; by_cases ha : a = 0 <;> simp [ha] at h0 ⊢; exact ih h0

set_option maxRecDepth 100000 in
theorem orL (B : Nat) (A : Option Addr) (cap : Nat) (xs : List Int) (w : World) (hB : B ≤ w.heap.size) (hA : SliceAt (fun _ _ (x : Int) cs => cs = [.int .i64 x]) 1 B w A xs) (hn : xs.length ≤ maxLen) :
    Calls Try.prog 46 #[.slice A xs.length cap] w fun e w' => e = .returned (.int .i64 (orI xs)) ∧ Lo w w' := by
  unfold maxLen at hn
  go_enter Try.func46, Try.ntmps46
  go_wp2
  go_loopw [8] (fun i wr => ∃ k : Nat, k ≤ xs.length ∧ i = .int .i64 k ∧ wr = w ∧ Hid (orI (xs.take k) = 0)) (fun i _ => xs.length - (intOf i).toNat)
  case atStart => exact ⟨0, Nat.zero_le _, rfl, rfl, Lib.hid rfl⟩
  case round =>
    obtain ⟨k, hk, rfl, rfl, hall⟩ := hrel
    by_cases hlt : k < xs.length
    · obtain ⟨b, off, cs, rfl, hb, hl, hc, rfl⟩ := hA k xs[k] (List.getElem?_eq_getElem hlt)
      have hc0 : wr.cell? ⟨b, off + k, none⟩ = some (.int .i64 xs[k]) := by have := hc 0 _ rfl; simpa using this
      clear hc
      by_cases hp : xs[k] = 0
      all_goals
        have HP := Lib.hid hp
        generalize hx : xs[k] = x at *
        go_wp2
        first
          | (go_ret
             exact ⟨ret_int (by rw [orI_at hlt (by rw [hx]; exact HP.out) hall.out, hx]), Lo.refl _⟩)
          | (go_roundw
             case rel => exact ⟨k + 1, by omega, by go_num, by trivial, Lib.hid (orI_snoc hlt (by rw [hx]; exact HP.out) hall.out)⟩
             case measure => simp [intOf]; omega)
    · have HF := hall.out
      rw [List.take_of_length_le (by omega)] at HF
      have HG := Lib.hid HF
      clear HF
      go_wp2
      go_ret
      exact ⟨ret_int HG.out.symm, Lo.refl _⟩
theorem or_ (a b c : Int) (w : World) (n : Nat) (hn : w.heap[n]? = some (.cells #[.int .i64 a, .int .i64 b, .int .i64 c] 3 (0, 0))) :
    Calls Try.prog 46 #[.slice (some ⟨n, 0, none⟩) 3 3] w fun e w' => e = .returned (.int .i64 (orI [a, b, c])) ∧ Lo w w' := by
  refine orL w.heap.size (some ⟨n, 0, none⟩) 3 [a, b, c] w (Nat.le_refl _) ?_ (by simp [maxLen])
  have hcell := cells_of_block hn
  have hlt := block_lt hn
  intro k x hx
  match k, hx with
  | 0, hx => injection hx with hx; subst hx; exact ⟨n, 0, [_], rfl, hlt, rfl, fun j v hj => by match j, hj with | 0, hj => exact hcell 0 v hj, rfl⟩
  | 1, hx => injection hx with hx; subst hx; exact ⟨n, 0, [_], rfl, hlt, rfl, fun j v hj => by match j, hj with | 0, hj => exact hcell 1 v hj, rfl⟩
  | 2, hx => injection hx with hx; subst hx; exact ⟨n, 0, [_], rfl, hlt, rfl, fun j v hj => by match j, hj with | 0, hj => exact hcell 2 v hj, rfl⟩
def cmpD (d e : Pl.Due) : Int := orI [cmpI d.at_ e.at_, cmpI d.kind e.kind, cmpI d.key e.key]
set_option maxRecDepth 100000 in
set_option maxHeartbeats 1600000 in
theorem order_ (d e : Pl.Due) (w : World) : Calls Try.prog 31 #[dueV d, dueV e] w fun r w' => r = .returned (.int .i64 (cmpD d e)) ∧ Lo w w' := by
  unfold cmpD
  go_enter Try.func31, Try.ntmps31
  go_wp2_with fail
  obtain ⟨wz, hw⟩ : ∃ wz, (w.alloc (.cells #[.int .u64 d.at_, .int .i64 d.kind, .int .u64 d.key] 25)).alloc (.cells #[.int .u64 e.at_, .int .i64 e.kind, .int .u64 e.key] 25) = wz := ⟨_, rfl⟩
  rw [hw]
  have hlz : Lo w wz := by rw [← hw]; exact (by repeat (first | exact Lo.refl _ | assumption | refine Lo.drew ?_ | refine Lo.alloc ?_ _ | refine Lo.setCell ?_ (by first | (dsimp only; omega) | (simp; omega) | (simp; done)) _ | refine Lo.trans ?_ (by assumption)))
  have hx0 : wz.cell? ⟨w.heap.size, 0, none⟩ = some (.int .u64 d.at_) := by rw [← hw]; simp
  have hx1 : wz.cell? ⟨w.heap.size, 1, none⟩ = some (.int .i64 d.kind) := by rw [← hw]; simp
  have hx2 : wz.cell? ⟨w.heap.size, 2, none⟩ = some (.int .u64 d.key) := by rw [← hw]; simp
  have hy0 : wz.cell? ⟨w.heap.size + 1, 0, none⟩ = some (.int .u64 e.at_) := by rw [← hw]; simp
  have hy1 : wz.cell? ⟨w.heap.size + 1, 1, none⟩ = some (.int .i64 e.kind) := by rw [← hw]; simp
  have hy2 : wz.cell? ⟨w.heap.size + 1, 2, none⟩ = some (.int .u64 e.key) := by rw [← hw]; simp
  clear hw
  refine wp_region_all 22 (fun i v w' => match i with
        | 0 => v = .pointer (some ⟨w.heap.size, 0, none⟩)
        | 1 => v = .int .u64 d.at_
        | 2 => v = .pointer (some ⟨w.heap.size + 1, 0, none⟩)
        | 3 => v = .int .u64 e.at_
        | 4 => v = .int .i64 (cmpI d.at_ e.at_)
        | 5 => v = .pointer (some ⟨w.heap.size, 1, none⟩)
        | 6 => v = .int .i64 d.kind
        | 7 => v = .pointer (some ⟨w.heap.size + 1, 1, none⟩)
        | 8 => v = .int .i64 e.kind
        | 9 => v = .int .i64 (cmpI d.kind e.kind)
        | 10 => v = .pointer (some ⟨w.heap.size, 2, none⟩)
        | 11 => v = .int .u64 d.key
        | 12 => v = .pointer (some ⟨w.heap.size + 1, 2, none⟩)
        | 13 => v = .int .u64 e.key
        | 14 => v = .int .i64 (cmpI d.key e.key)
        | 15 => ∃ n, v = .slice (some ⟨n, 0, none⟩) 3 3 ∧ w'.heap[n]? = some (.cells #[.int .i64 (cmpI d.at_ e.at_), .int .i64 (cmpI d.kind e.kind), .int .i64 (cmpI d.key e.key)] 3 (0, 0))
        | 16 => v = .int .i64 (orI [cmpI d.at_ e.at_, cmpI d.kind e.kind, cmpI d.key e.key])
        | 17 => v = .int .i64 (orI [cmpI d.at_ e.at_, cmpI d.kind e.kind, cmpI d.key e.key])
        | _ => True) (by kernel_rfl) rfl (by kernel_rfl) ?_ ?_ ?_
  · intro i v w1 w2 h hl12
    match i, h with
    | 0, h => exact h
    | 1, h => exact h
    | 2, h => exact h
    | 3, h => exact h
    | 4, h => exact h
    | 5, h => exact h
    | 6, h => exact h
    | 7, h => exact h
    | 8, h => exact h
    | 9, h => exact h
    | 10, h => exact h
    | 11, h => exact h
    | 12, h => exact h
    | 13, h => exact h
    | 14, h => exact h
    | 15, ⟨n, hv, hn⟩ => exact ⟨n, hv, hl12.block hn⟩
    | 16, h => exact h
    | 17, h => exact h
    | _ + 18, _ => trivial
  · intro i o hiN ho a w' hl hd hold
    match i, hiN with
    | 0, _ =>
      injection ho with ho; subst ho
      have h2 : a.eval (.tmp 2) = .pointer (some ⟨w.heap.size, 0, none⟩) := hold 2 (by kernel_rfl)
      simp [Act.eval] at h2
      exact ⟨fun _ => wp_of_run (v := .pointer (some ⟨w.heap.size, 0, none⟩)) (w' := w') (by simp [go_sem, h2]) ⟨_, rfl, Lo.refl _, rfl⟩, fun h => by rw [wanted_free rfl] at h; cases h⟩
    | 1, _ =>
      injection ho with ho; subst ho
      have h5 : a.eval (.tmp 5) = .pointer (some ⟨w.heap.size, 0, none⟩) := hd 0 (by kernel_rfl) 5 (by kernel_rfl)
      have hc0 := lo_keep hl hx0
      simp [Act.eval] at h5
      exact ⟨fun _ => wp_of_run (v := .int .u64 d.at_) (w' := w') (by simp [go_sem, h5, hc0]) ⟨_, rfl, Lo.refl _, rfl⟩, fun h => by rw [wanted_free rfl] at h; cases h⟩
    | 2, _ =>
      injection ho with ho; subst ho
      have h3 : a.eval (.tmp 3) = .pointer (some ⟨w.heap.size + 1, 0, none⟩) := hold 3 (by kernel_rfl)
      simp [Act.eval] at h3
      exact ⟨fun _ => wp_of_run (v := .pointer (some ⟨w.heap.size + 1, 0, none⟩)) (w' := w') (by simp [go_sem, h3]) ⟨_, rfl, Lo.refl _, rfl⟩, fun h => by rw [wanted_free rfl] at h; cases h⟩
    | 3, _ =>
      injection ho with ho; subst ho
      have h7 : a.eval (.tmp 7) = .pointer (some ⟨w.heap.size + 1, 0, none⟩) := hd 2 (by kernel_rfl) 7 (by kernel_rfl)
      have hc0 := lo_keep hl hy0
      simp [Act.eval] at h7
      exact ⟨fun _ => wp_of_run (v := .int .u64 e.at_) (w' := w') (by simp [go_sem, h7, hc0]) ⟨_, rfl, Lo.refl _, rfl⟩, fun h => by rw [wanted_free rfl] at h; cases h⟩
    | 4, _ =>
      injection ho with ho; subst ho
      have h6 : a.eval (.tmp 6) = .int .u64 d.at_ := hd 1 (by kernel_rfl) 6 (by kernel_rfl)
      have h8 : a.eval (.tmp 8) = .int .u64 e.at_ := hd 3 (by kernel_rfl) 8 (by kernel_rfl)
      simp [Act.eval] at h6 h8
      refine ⟨fun _ => ?_, fun h => by rw [wanted_free rfl] at h; cases h⟩
      refine wp_call_of (f := 45) (args := #[.int .u64 d.at_, .int .u64 e.at_]) (by simp [go_sem, h6, h8]) (cmpU _ _ w') ?_
      rintro r w2 ⟨rfl, rfl⟩
      exact ⟨_, rfl, _, rfl, Lo.refl _, rfl⟩
    | 5, _ =>
      injection ho with ho; subst ho
      have h2 : a.eval (.tmp 2) = .pointer (some ⟨w.heap.size, 0, none⟩) := hold 2 (by kernel_rfl)
      simp [Act.eval] at h2
      exact ⟨fun _ => wp_of_run (v := .pointer (some ⟨w.heap.size, 1, none⟩)) (w' := w') (by simp [go_sem, h2]) ⟨_, rfl, Lo.refl _, rfl⟩, fun h => by rw [wanted_free rfl] at h; cases h⟩
    | 6, _ =>
      injection ho with ho; subst ho
      have h10 : a.eval (.tmp 10) = .pointer (some ⟨w.heap.size, 1, none⟩) := hd 5 (by kernel_rfl) 10 (by kernel_rfl)
      have hc0 := lo_keep hl hx1
      simp [Act.eval] at h10
      exact ⟨fun _ => wp_of_run (v := .int .i64 d.kind) (w' := w') (by simp [go_sem, h10, hc0]) ⟨_, rfl, Lo.refl _, rfl⟩, fun h => by rw [wanted_free rfl] at h; cases h⟩
    | 7, _ =>
      injection ho with ho; subst ho
      have h3 : a.eval (.tmp 3) = .pointer (some ⟨w.heap.size + 1, 0, none⟩) := hold 3 (by kernel_rfl)
      simp [Act.eval] at h3
      exact ⟨fun _ => wp_of_run (v := .pointer (some ⟨w.heap.size + 1, 1, none⟩)) (w' := w') (by simp [go_sem, h3]) ⟨_, rfl, Lo.refl _, rfl⟩, fun h => by rw [wanted_free rfl] at h; cases h⟩
    | 8, _ =>
      injection ho with ho; subst ho
      have h12 : a.eval (.tmp 12) = .pointer (some ⟨w.heap.size + 1, 1, none⟩) := hd 7 (by kernel_rfl) 12 (by kernel_rfl)
      have hc0 := lo_keep hl hy1
      simp [Act.eval] at h12
      exact ⟨fun _ => wp_of_run (v := .int .i64 e.kind) (w' := w') (by simp [go_sem, h12, hc0]) ⟨_, rfl, Lo.refl _, rfl⟩, fun h => by rw [wanted_free rfl] at h; cases h⟩
    | 9, _ =>
      injection ho with ho; subst ho
      have h11 : a.eval (.tmp 11) = .int .i64 d.kind := hd 6 (by kernel_rfl) 11 (by kernel_rfl)
      have h13 : a.eval (.tmp 13) = .int .i64 e.kind := hd 8 (by kernel_rfl) 13 (by kernel_rfl)
      simp [Act.eval] at h11 h13
      refine ⟨fun _ => ?_, fun h => by rw [wanted_free rfl] at h; cases h⟩
      refine wp_call_of (f := 47) (args := #[.int .i64 d.kind, .int .i64 e.kind]) (by simp [go_sem, h11, h13]) (cmpS _ _ w') ?_
      rintro r w2 ⟨rfl, rfl⟩
      exact ⟨_, rfl, _, rfl, Lo.refl _, rfl⟩
    | 10, _ =>
      injection ho with ho; subst ho
      have h2 : a.eval (.tmp 2) = .pointer (some ⟨w.heap.size, 0, none⟩) := hold 2 (by kernel_rfl)
      simp [Act.eval] at h2
      exact ⟨fun _ => wp_of_run (v := .pointer (some ⟨w.heap.size, 2, none⟩)) (w' := w') (by simp [go_sem, h2]) ⟨_, rfl, Lo.refl _, rfl⟩, fun h => by rw [wanted_free rfl] at h; cases h⟩
    | 11, _ =>
      injection ho with ho; subst ho
      have h15 : a.eval (.tmp 15) = .pointer (some ⟨w.heap.size, 2, none⟩) := hd 10 (by kernel_rfl) 15 (by kernel_rfl)
      have hc0 := lo_keep hl hx2
      simp [Act.eval] at h15
      exact ⟨fun _ => wp_of_run (v := .int .u64 d.key) (w' := w') (by simp [go_sem, h15, hc0]) ⟨_, rfl, Lo.refl _, rfl⟩, fun h => by rw [wanted_free rfl] at h; cases h⟩
    | 12, _ =>
      injection ho with ho; subst ho
      have h3 : a.eval (.tmp 3) = .pointer (some ⟨w.heap.size + 1, 0, none⟩) := hold 3 (by kernel_rfl)
      simp [Act.eval] at h3
      exact ⟨fun _ => wp_of_run (v := .pointer (some ⟨w.heap.size + 1, 2, none⟩)) (w' := w') (by simp [go_sem, h3]) ⟨_, rfl, Lo.refl _, rfl⟩, fun h => by rw [wanted_free rfl] at h; cases h⟩
    | 13, _ =>
      injection ho with ho; subst ho
      have h17 : a.eval (.tmp 17) = .pointer (some ⟨w.heap.size + 1, 2, none⟩) := hd 12 (by kernel_rfl) 17 (by kernel_rfl)
      have hc0 := lo_keep hl hy2
      simp [Act.eval] at h17
      exact ⟨fun _ => wp_of_run (v := .int .u64 e.key) (w' := w') (by simp [go_sem, h17, hc0]) ⟨_, rfl, Lo.refl _, rfl⟩, fun h => by rw [wanted_free rfl] at h; cases h⟩
    | 14, _ =>
      injection ho with ho; subst ho
      have h16 : a.eval (.tmp 16) = .int .u64 d.key := hd 11 (by kernel_rfl) 16 (by kernel_rfl)
      have h18 : a.eval (.tmp 18) = .int .u64 e.key := hd 13 (by kernel_rfl) 18 (by kernel_rfl)
      simp [Act.eval] at h16 h18
      refine ⟨fun _ => ?_, fun h => by rw [wanted_free rfl] at h; cases h⟩
      refine wp_call_of (f := 45) (args := #[.int .u64 d.key, .int .u64 e.key]) (by simp [go_sem, h16, h18]) (cmpU _ _ w') ?_
      rintro r w2 ⟨rfl, rfl⟩
      exact ⟨_, rfl, _, rfl, Lo.refl _, rfl⟩
    | 15, _ =>
      injection ho with ho; subst ho
      have h9 : a.eval (.tmp 9) = .int .i64 (cmpI d.at_ e.at_) := hd 4 (by kernel_rfl) 9 (by kernel_rfl)
      have h14 : a.eval (.tmp 14) = .int .i64 (cmpI d.kind e.kind) := hd 9 (by kernel_rfl) 14 (by kernel_rfl)
      have h19 : a.eval (.tmp 19) = .int .i64 (cmpI d.key e.key) := hd 14 (by kernel_rfl) 19 (by kernel_rfl)
      simp [Act.eval] at h9 h14 h19
      exact ⟨fun _ => wp_of_run (v := .slice (some ⟨w'.heap.size, 0, none⟩) 3 3) (w' := w'.alloc (.cells #[.int .i64 (cmpI d.at_ e.at_), .int .i64 (cmpI d.kind e.kind), .int .i64 (cmpI d.key e.key)] 3)) (by simp [go_sem, h9, h14, h19]) ⟨_, rfl, (Lo.refl _).alloc _, _, rfl, heap_new_at rfl⟩, fun h => by rw [wanted_free rfl] at h; cases h⟩
    | 16, _ =>
      injection ho with ho; subst ho
      obtain ⟨n, hv, hn⟩ := hd 15 (by kernel_rfl) 20 (by kernel_rfl)
      refine ⟨fun _ => ?_, fun h => by rw [wanted_free rfl] at h; cases h⟩
      simp [Act.eval] at hv
      refine wp_call_of (f := 46) (args := #[.slice (some ⟨n, 0, none⟩) 3 3]) (by simp [go_sem, hv]) (or_ _ _ _ w' n hn) ?_
      rintro r w2 ⟨rfl, hb⟩
      exact ⟨_, rfl, _, rfl, hb, rfl⟩
    | 17, _ =>
      injection ho with ho; subst ho
      have h21 : a.eval (.tmp 21) = .int .i64 (orI [cmpI d.at_ e.at_, cmpI d.kind e.kind, cmpI d.key e.key]) := hd 16 (by kernel_rfl) 21 (by kernel_rfl)
      simp [Act.eval] at h21
      exact ⟨fun _ => wp_of_run (v := .int .i64 (orI [cmpI d.at_ e.at_, cmpI d.kind e.kind, cmpI d.key e.key])) (w' := w') (by simp [go_sem, h21]) ⟨_, rfl, Lo.refl _, rfl⟩, fun h => by rw [wanted_free rfl] at h; cases h⟩
  · intro v w2 hb hp
    have p := hp 17 (by simp)
    clear hp
    simp only [List.length_cons, List.length_nil, Nat.zero_add, Nat.reduceAdd, List.range_succ, List.range_zero, List.nil_append, List.cons_append, List.foldl_cons, List.foldl_nil, dstOf, List.getElem?_toArray, List.getElem?_cons_zero, List.getElem?_cons_succ, Option.bind_some, Act.put, List.setIfInBounds_toArray, List.set_cons_zero, List.set_cons_succ]
    generalize v 17 = vl at *
    subst p
    go_wp2
    go_ret
    exact ⟨ret_int rfl, hlz.trans hb⟩
end Go.Proofs.Ytmjckopplkihlaa.Due

