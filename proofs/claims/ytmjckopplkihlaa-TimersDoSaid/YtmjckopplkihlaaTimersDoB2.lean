/- Merged by bundle.py: SimR24b, SimDueL, TimersDo. -/
import Derived.Test.YtmjckopplkihlaaTimersDoB1
import Derived.Test.YtmjckopplkihlaaOpen0
/- The document's functions on rows of things, by the logic of states: whether a row may be; one thing more. -/
namespace Go.Proofs.Ytmjckopplkihlaa.Due
set_option linter.unusedVariables false
set_option linter.unusedSimpArgs false
open Go.RowKit Mem Sim
/-- no like thing among the first k -/
def noL (l : List Pl.Due) (x : Pl.Due) (k : Nat) : Prop := (l.take k).any (Pl.isD x.kind x.key) = false
theorem noL_succ {l : List Pl.Due} {x : Pl.Due} {k : Nat} (hk : k < l.length) (h : noL l x k) (hb : Pl.isD x.kind x.key l[k] = false) : noL l x (k + 1) := by
  unfold noL at *
  rw [List.take_succ_eq_append_getElem hk, List.any_append, h]; simp [hb]
def MS (l : List Pl.Due) (i : Nat) : St := ⟨[(0, .t (.sl 3 (l.map dueT))), (3, .t (.v (.int .i64 (i : Int))))], [], []⟩
def MK (l : List Pl.Due) (i k : Nat) : St := ⟨[(0, .t (.sl 3 (l.map dueT))), (3, .t (.v (.int .i64 (i : Int)))), (4, .t (.v (.int .i64 (k : Int))))], [], []⟩
set_option maxRecDepth 100000 in
set_option maxHeartbeats 2000000 in
theorem rMay (l : List Pl.Due) (hl : l.length ≤ 1000) : PCalls Try.prog 10 [duesT l] (.v (.bool (Pl.mayL l))) := by
  have hml : (l.map dueT).length = l.length := List.length_map _
  refine pcalls_of Try.func10 rfl rfl Try.ntmps10 rfl ?_
  repeat' (first
    | refine then_go ?_
    | refine swp_seq ?_
    | ((refine swp_region (id := 0) ?_) <;> (refine sops_pure (.free rfl rfl) rfl rfl (po_assign rfl rfl) ?_) <;> (refine sops_nil ?_))
    | ((refine swp_region (id := 1) ?_) <;> (refine sops_pure (.free rfl rfl) rfl rfl (po_assign rfl rfl) ?_) <;> (refine sops_nil ?_))
    | refine swp_ret ?_
    | refine swp_skip ?_
    | refine swp_block ?_
    | refine swp_exit ?_
    | refine block_go ?_
    | refine block_exit ?_
    | refine block_far rfl ?_
    | refine block_ret ?_
    | refine then_ret ?_
    | refine then_exit ?_
    | refine for_ret ?_
    | refine for_exit ?_
    | refine ct ?_
    | refine cf ?_
    | refine swp_cond rfl (fun hc => ?_) (fun hc => ?_)
    | refine retq (by first | exact .inr rfl | exact .inl rfl) rfl (.tmp rfl (by first | exact .t _ | exact .own rfl (by first | rfl | assumption | (simp; done) | (simp; omega)) | exact .nil _ | exact .emp _ | exact .fn _) .nil) ?_)
  refine swp_for (MS l) (fun i => ∀ j, j < i → Pl.okAt l j = true) l.length (weak_sub (.cons rfl rfl rfl (.cons rfl rfl rfl .nil)) .nil .nil) (fun j hj => by omega) ?_
  intro i hi hI
  unfold MS
  by_cases hlt : i < l.length
  · have c1 := rMayDue l[i]
    have hok := Pl.okAt_at hlt
    cases hd : Pl.mayD l[i] with
    | false =>
      rw [hd] at c1
      repeat' (first
        | refine then_go ?_
        | refine swp_seq ?_
        | ((refine swp_region (id := 2) ?_) <;> (refine sops_pure (.free rfl rfl) rfl rfl (po_move rfl rfl) ?_) <;> (refine sops_pure (.free rfl rfl) rfl rfl (po_move rfl rfl) ?_) <;> (refine sops_pure (.free rfl rfl) rfl rfl (pln rfl (tyS rfl)) ?_) <;> (refine sops_pure (.free rfl rfl) rfl rfl (po_cmp rfl rfl rfl rfl) ?_) <;> (refine sops_nil ?_))
        | ((refine swp_draw_all (id := 4) mixed (by kernel_rfl) (by kernel_rfl) ?_) <;> (refine sdraw_pure (.free rfl rfl) rfl (po_move rfl rfl) ?_) <;> (refine sdraw_pure (.free rfl rfl) rfl (po_move rfl rfl) ?_) <;> (refine sdraw_pure (.free rfl rfl) rfl (pix rfl (tyS rfl)) ?_) <;> (first | refine sdraw_pure (.free rfl rfl) rfl (po_load_bx_agg rfl rfl (tyT rfl) rfl (vc (vc (vc .nil))) rfl) ?_ | refine sdraw_pure (.free rfl rfl) rfl (po_load_agg rfl rfl (tyT rfl) rfl rfl) ?_) <;> (refine sdraw_pure (.free rfl rfl) rfl (po_call (c1) rfl (ac .nil)) ?_) <;> (refine sdraw_pure (.free rfl rfl) rfl (po_not rfl rfl) ?_) <;> (refine sdraw_pure (.free rfl rfl) rfl (po_move rfl rfl) ?_) <;> (first | refine sdraw_pure gy rfl (po_move rfl rfl) ?_ | refine sdraw_skip gn0 rfl ?_ | ((refine sdraw_split rfl rfl rfl (fun hc => ?_) (fun hc => ?_)) <;> (first | refine sdraw_pure gy rfl (po_move rfl rfl) ?_ | refine sdraw_skip gn0 rfl ?_))) <;> (first | refine sdraw_pure gy rfl (po_cmp rfl rfl rfl rfl) ?_ | refine sdraw_skip gn0 rfl ?_) <;> (first | refine sdraw_pure gy rfl (po_move rfl rfl) ?_ | refine sdraw_skip gn0 rfl ?_) <;> (first | refine sdraw_pure gy rfl (po_move rfl rfl) ?_ | refine sdraw_skip gn1 rfl ?_ | refine sdraw_skip (.nou rfl rfl rfl) rfl ?_ | ((refine sdraw_split rfl rfl rfl (fun hc => ?_) (fun hc => ?_)) <;> (first | refine sdraw_pure gy rfl (po_move rfl rfl) ?_ | refine sdraw_skip gn1 rfl ?_ | refine sdraw_skip (.nou rfl rfl rfl) rfl ?_))) <;> (first | refine sdraw_pure gy rfl (po_move rfl rfl) ?_ | refine sdraw_skip gn1 rfl ?_ | refine sdraw_skip (.nou rfl rfl rfl) rfl ?_) <;> (first | refine sdraw_pure gy rfl (pix rfl (tyS rfl)) ?_ | refine sdraw_skip gn1 rfl ?_ | refine sdraw_skip (.nou rfl rfl rfl) rfl ?_) <;> (first | refine sdraw_pure gy rfl (po_load_bx_agg rfl rfl (tyT rfl) rfl (vc (vc (vc .nil))) rfl) ?_ | refine sdraw_pure gy rfl (po_load_agg rfl rfl (tyT rfl) rfl rfl) ?_ | refine sdraw_skip gn1 rfl ?_ | refine sdraw_skip (.nou rfl rfl rfl) rfl ?_) <;> (first | refine sdraw_pure gy rfl (po_move rfl rfl) ?_ | refine sdraw_skip gn1 rfl ?_ | refine sdraw_skip (.nou rfl rfl rfl) rfl ?_) <;> (first | refine sdraw_pure gy rfl (po_move rfl rfl) ?_ | refine sdraw_skip gn1 rfl ?_ | refine sdraw_skip (.nou rfl rfl rfl) rfl ?_) <;> (first | refine sdraw_pure gy rfl (po_dec rfl rfl rfl (by omega)) ?_ | refine sdraw_pure gy rfl (po_arith rfl rfl rfl (ar_sub (by first | rfl | (refine wrap_i64 ?_; omega)) rfl)) ?_ | refine sdraw_skip gn1 rfl ?_ | refine sdraw_skip (.nou rfl rfl rfl) rfl ?_) <;> (first | refine sdraw_pure gy rfl (pix rfl (tyS rfl)) ?_ | refine sdraw_skip gn1 rfl ?_ | refine sdraw_skip (.nou rfl rfl rfl) rfl ?_) <;> (first | refine sdraw_pure gy rfl (po_load_bx_agg rfl rfl (tyT rfl) rfl (vc (vc (vc .nil))) rfl) ?_ | refine sdraw_pure gy rfl (po_load_agg rfl rfl (tyT rfl) rfl rfl) ?_ | refine sdraw_skip gn1 rfl ?_ | refine sdraw_skip (.nou rfl rfl rfl) rfl ?_) <;> (first | refine sdraw_pure gy rfl (po_call (c1) rfl (ac (ac .nil))) ?_ | refine sdraw_skip gn1 rfl ?_ | refine sdraw_skip (.nou rfl rfl rfl) rfl ?_) <;> (first | refine sdraw_pure gy rfl (pkt rfl) ?_ | refine sdraw_pure gy rfl (pkf rfl) ?_ | refine sdraw_skip gn0 rfl ?_) <;> (first | refine sdraw_pure (.free rfl rfl) rfl (pkt rfl) ?_ | refine sdraw_pure (.free rfl rfl) rfl (pkf rfl) ?_) <;> (refine sdraw_nil ?_) <;> (refine sops_nil ?_))
        | ((refine swp_region (id := 5) ?_) <;> (refine sops_pure (.free rfl rfl) rfl rfl (po_assign rfl rfl) ?_) <;> (refine sops_nil ?_))
        | refine swp_ret ?_
        | refine swp_skip ?_
        | refine swp_block ?_
        | refine swp_exit ?_
        | refine block_go ?_
        | refine block_exit ?_
        | refine block_far rfl ?_
        | refine block_ret ?_
        | refine then_ret ?_
        | refine then_exit ?_
        | refine for_ret ?_
        | refine for_exit ?_
        | refine ct ?_
        | refine cf ?_
        | refine swp_cond rfl (fun hc => ?_) (fun hc => ?_)
        | refine retq (by first | exact .inr rfl | exact .inl rfl) rfl (.tmp rfl (by first | exact .t _ | exact .own rfl (by first | rfl | assumption | (simp; done) | (simp; omega)) | exact .nil _ | exact .emp _ | exact .fn _) .nil) ?_)
      rw [Pl.may_no hlt (by rw [hok, hd]; rfl)]; rfl
    | true =>
      rw [hd] at c1 hok
      have hah : (decide (i = 0) || !Pl.ahead l[i] (l.getD (i - 1) default)) = true ∨ (0 < i ∧ Pl.ahead l[i] (l.getD (i - 1) default) = true) := by
        by_cases h0 : i = 0
        · exact .inl (by simp [h0])
        · cases h2 : Pl.ahead l[i] (l.getD (i - 1) default) with
          | true => exact .inr ⟨by omega, rfl⟩
          | false => exact .inl (by simp)
      rcases hah with hah | ⟨h0, hah⟩
      · rw [hah, Bool.true_and, Bool.and_true] at hok
        rcases Nat.eq_zero_or_pos i with h0 | h0
        · have e0 : decide ((i : Int) > 0) = false := by simp [h0]
          repeat' (first
            | refine then_go ?_
            | refine swp_seq ?_
            | ((refine swp_region (id := 2) ?_) <;> (refine sops_pure (.free rfl rfl) rfl rfl (po_move rfl rfl) ?_) <;> (refine sops_pure (.free rfl rfl) rfl rfl (po_move rfl rfl) ?_) <;> (refine sops_pure (.free rfl rfl) rfl rfl (pln rfl (tyS rfl)) ?_) <;> (refine sops_pure (.free rfl rfl) rfl rfl (po_cmp rfl rfl rfl rfl) ?_) <;> (refine sops_nil ?_))
            | ((refine swp_draw_all (id := 4) mixed (by kernel_rfl) (by kernel_rfl) ?_) <;> (refine sdraw_pure (.free rfl rfl) rfl (po_move rfl rfl) ?_) <;> (refine sdraw_pure (.free rfl rfl) rfl (po_move rfl rfl) ?_) <;> (refine sdraw_pure (.free rfl rfl) rfl (pix rfl (tyS rfl)) ?_) <;> (first | refine sdraw_pure (.free rfl rfl) rfl (po_load_bx_agg rfl rfl (tyT rfl) rfl (vc (vc (vc .nil))) rfl) ?_ | refine sdraw_pure (.free rfl rfl) rfl (po_load_agg rfl rfl (tyT rfl) rfl rfl) ?_) <;> (refine sdraw_pure (.free rfl rfl) rfl (po_call (c1) rfl (ac .nil)) ?_) <;> (refine sdraw_pure (.free rfl rfl) rfl (po_not rfl rfl) ?_) <;> (refine sdraw_pure (.free rfl rfl) rfl (po_move rfl rfl) ?_) <;> (first | refine sdraw_pure gy rfl (po_move rfl rfl) ?_ | refine sdraw_skip gn0 rfl ?_ | ((refine sdraw_split rfl rfl rfl (fun hc => ?_) (fun hc => ?_)) <;> (first | refine sdraw_pure gy rfl (po_move rfl rfl) ?_ | refine sdraw_skip gn0 rfl ?_))) <;> (first | refine sdraw_pure gy rfl (po_cmp rfl rfl rfl rfl) ?_ | refine sdraw_skip gn0 rfl ?_) <;> (first | refine sdraw_pure gy rfl (po_move rfl rfl) ?_ | refine sdraw_skip gn0 rfl ?_) <;> (first | refine sdraw_pure gy rfl (po_move rfl rfl) ?_ | refine sdraw_skip gn1 rfl ?_ | refine sdraw_skip (.nou rfl rfl rfl) rfl ?_ | ((refine sdraw_split rfl rfl rfl (fun hc => ?_) (fun hc => ?_)) <;> (first | refine sdraw_pure gy rfl (po_move rfl rfl) ?_ | refine sdraw_skip gn1 rfl ?_ | refine sdraw_skip (.nou rfl rfl rfl) rfl ?_))) <;> (first | refine sdraw_pure gy rfl (po_move rfl rfl) ?_ | refine sdraw_skip gn1 rfl ?_ | refine sdraw_skip (.nou rfl rfl rfl) rfl ?_) <;> (first | refine sdraw_pure gy rfl (pix rfl (tyS rfl)) ?_ | refine sdraw_skip gn1 rfl ?_ | refine sdraw_skip (.nou rfl rfl rfl) rfl ?_) <;> (first | refine sdraw_pure gy rfl (po_load_bx_agg rfl rfl (tyT rfl) rfl (vc (vc (vc .nil))) rfl) ?_ | refine sdraw_pure gy rfl (po_load_agg rfl rfl (tyT rfl) rfl rfl) ?_ | refine sdraw_skip gn1 rfl ?_ | refine sdraw_skip (.nou rfl rfl rfl) rfl ?_) <;> (first | refine sdraw_pure gy rfl (po_move rfl rfl) ?_ | refine sdraw_skip gn1 rfl ?_ | refine sdraw_skip (.nou rfl rfl rfl) rfl ?_) <;> (first | refine sdraw_pure gy rfl (po_move rfl rfl) ?_ | refine sdraw_skip gn1 rfl ?_ | refine sdraw_skip (.nou rfl rfl rfl) rfl ?_) <;> (first | refine sdraw_pure gy rfl (po_dec rfl rfl rfl (by omega)) ?_ | refine sdraw_pure gy rfl (po_arith rfl rfl rfl (ar_sub (by first | rfl | (refine wrap_i64 ?_; omega)) rfl)) ?_ | refine sdraw_skip gn1 rfl ?_ | refine sdraw_skip (.nou rfl rfl rfl) rfl ?_) <;> (first | refine sdraw_pure gy rfl (pix rfl (tyS rfl)) ?_ | refine sdraw_skip gn1 rfl ?_ | refine sdraw_skip (.nou rfl rfl rfl) rfl ?_) <;> (first | refine sdraw_pure gy rfl (po_load_bx_agg rfl rfl (tyT rfl) rfl (vc (vc (vc .nil))) rfl) ?_ | refine sdraw_pure gy rfl (po_load_agg rfl rfl (tyT rfl) rfl rfl) ?_ | refine sdraw_skip gn1 rfl ?_ | refine sdraw_skip (.nou rfl rfl rfl) rfl ?_) <;> (first | refine sdraw_pure gy rfl (po_call (c1) rfl (ac (ac .nil))) ?_ | refine sdraw_skip gn1 rfl ?_ | refine sdraw_skip (.nou rfl rfl rfl) rfl ?_) <;> (first | refine sdraw_pure gy rfl (pkt rfl) ?_ | refine sdraw_pure gy rfl (pkf rfl) ?_ | refine sdraw_skip gn0 rfl ?_) <;> (first | refine sdraw_pure (.free rfl rfl) rfl (pkt rfl) ?_ | refine sdraw_pure (.free rfl rfl) rfl (pkf rfl) ?_) <;> (refine sdraw_nil ?_) <;> (refine sops_nil ?_))
            | ((refine swp_region (id := 6) ?_) <;> (refine sops_pure (.free rfl rfl) rfl rfl (po_assign rfl rfl) ?_) <;> (refine sops_nil ?_))
            | refine swp_ret ?_
            | refine swp_skip ?_
            | refine swp_block ?_
            | refine swp_exit ?_
            | refine block_go ?_
            | refine block_exit ?_
            | refine block_far rfl ?_
            | refine block_ret ?_
            | refine then_ret ?_
            | refine then_exit ?_
            | refine for_ret ?_
            | refine for_exit ?_
            | refine ct ?_
            | refine cf ?_
            | refine swp_cond rfl (fun hc => ?_) (fun hc => ?_)
            | refine retq (by first | exact .inr rfl | exact .inl rfl) rfl (.tmp rfl (by first | exact .t _ | exact .own rfl (by first | rfl | assumption | (simp; done) | (simp; omega)) | exact .nil _ | exact .emp _ | exact .fn _) .nil) ?_)
          refine swp_for (MK l i) (fun k => noL l l[i] k) i (weak_sub (.cons rfl rfl rfl (.cons rfl rfl rfl (.cons rfl rfl rfl .nil))) .nil .nil) rfl ?_
          intro k hk hN
          unfold MK
          by_cases hlk : k < i
          · exfalso; omega
          · obtain rfl : k = i := by omega
            repeat' (first
              | refine then_go ?_
              | refine swp_seq ?_
              | refine for_next hlt (weak_sub (.cons rfl rfl rfl (.cons rfl rfl rfl .nil)) .nil .nil) ?_
              | ((refine swp_region (id := 7) ?_) <;> (refine sops_pure (.free rfl rfl) rfl rfl (po_move rfl rfl) ?_) <;> (refine sops_pure (.free rfl rfl) rfl rfl (po_move rfl rfl) ?_) <;> (refine sops_pure (.free rfl rfl) rfl rfl (po_cmp rfl rfl rfl rfl) ?_) <;> (refine sops_nil ?_))
              | ((refine swp_region (id := 3) ?_) <;> (refine sops_pure (.free rfl rfl) rfl rfl (po_move rfl rfl) ?_) <;> (first | refine sops_pure (.free rfl rfl) rfl rfl (po_inc rfl rfl rfl (by omega)) ?_ | refine sops_pure (.free rfl rfl) rfl rfl (po_arith rfl rfl rfl (ar_add (by first | rfl | (refine wrap_i64 ?_; omega)) rfl)) ?_) <;> (refine sops_pure (.free rfl rfl) rfl rfl (po_assign rfl rfl) ?_) <;> (refine sops_nil ?_))
              | refine swp_ret ?_
              | refine swp_skip ?_
              | refine swp_block ?_
              | refine swp_exit ?_
              | refine block_go ?_
              | refine block_exit ?_
              | refine block_far rfl ?_
              | refine block_ret ?_
              | refine then_ret ?_
              | refine then_exit ?_
              | refine for_ret ?_
              | refine for_exit ?_
              | refine ct ?_
              | refine cf ?_
              | refine swp_cond rfl (fun hc => ?_) (fun hc => ?_)
              | refine retq (by first | exact .inr rfl | exact .inl rfl) rfl (.tmp rfl (by first | exact .t _ | exact .own rfl (by first | rfl | assumption | (simp; done) | (simp; omega)) | exact .nil _ | exact .emp _ | exact .fn _) .nil) ?_)
            intro j hj
            rcases Nat.lt_or_ge j k with h | h
            · exact hI j h
            · obtain rfl : j = k := by omega
              rw [hok]
              unfold noL at hN
              rw [hN]; rfl
        · have e0 : decide ((i : Int) > 0) = true := by simp; omega
          have c2 := rAhead l[i] (l[i - 1]'(by omega))
          have e2 : l.getD (i - 1) default = l[i - 1]'(by omega) := by rw [List.getD_eq_getElem?_getD, List.getElem?_eq_getElem (by omega)]; rfl
          rw [e2] at hah
          have e3 : Pl.ahead l[i] (l[i - 1]'(by omega)) = false := by simpa [show i ≠ 0 by omega] using hah
          rw [e3] at c2
          have f1 : i - 1 < l.length := by omega
          repeat' (first
            | refine then_go ?_
            | refine swp_seq ?_
            | ((refine swp_region (id := 2) ?_) <;> (refine sops_pure (.free rfl rfl) rfl rfl (po_move rfl rfl) ?_) <;> (refine sops_pure (.free rfl rfl) rfl rfl (po_move rfl rfl) ?_) <;> (refine sops_pure (.free rfl rfl) rfl rfl (pln rfl (tyS rfl)) ?_) <;> (refine sops_pure (.free rfl rfl) rfl rfl (po_cmp rfl rfl rfl rfl) ?_) <;> (refine sops_nil ?_))
            | ((refine swp_draw_all (id := 4) mixed (by kernel_rfl) (by kernel_rfl) ?_) <;> (refine sdraw_pure (.free rfl rfl) rfl (po_move rfl rfl) ?_) <;> (refine sdraw_pure (.free rfl rfl) rfl (po_move rfl rfl) ?_) <;> (refine sdraw_pure (.free rfl rfl) rfl (pix rfl (tyS rfl)) ?_) <;> (first | refine sdraw_pure (.free rfl rfl) rfl (po_load_bx_agg rfl rfl (tyT rfl) rfl (vc (vc (vc .nil))) rfl) ?_ | refine sdraw_pure (.free rfl rfl) rfl (po_load_agg rfl rfl (tyT rfl) rfl rfl) ?_) <;> (first | refine sdraw_pure (.free rfl rfl) rfl (po_call (c1) rfl (ac .nil)) ?_ | refine sdraw_pure (.free rfl rfl) rfl (po_call (c2) rfl (ac .nil)) ?_) <;> (refine sdraw_pure (.free rfl rfl) rfl (po_not rfl rfl) ?_) <;> (refine sdraw_pure (.free rfl rfl) rfl (po_move rfl rfl) ?_) <;> (first | refine sdraw_pure gy rfl (po_move rfl rfl) ?_ | refine sdraw_skip gn0 rfl ?_ | ((refine sdraw_split rfl rfl rfl (fun hc => ?_) (fun hc => ?_)) <;> (first | refine sdraw_pure gy rfl (po_move rfl rfl) ?_ | refine sdraw_skip gn0 rfl ?_))) <;> (first | refine sdraw_pure gy rfl (po_cmp rfl rfl rfl rfl) ?_ | refine sdraw_skip gn0 rfl ?_) <;> (first | refine sdraw_pure gy rfl (po_move rfl rfl) ?_ | refine sdraw_skip gn0 rfl ?_) <;> (first | refine sdraw_pure gy rfl (po_move rfl rfl) ?_ | refine sdraw_skip gn1 rfl ?_ | refine sdraw_skip (.nou rfl rfl rfl) rfl ?_ | ((refine sdraw_split rfl rfl rfl (fun hc => ?_) (fun hc => ?_)) <;> (first | refine sdraw_pure gy rfl (po_move rfl rfl) ?_ | refine sdraw_skip gn1 rfl ?_ | refine sdraw_skip (.nou rfl rfl rfl) rfl ?_))) <;> (first | refine sdraw_pure gy rfl (po_move rfl rfl) ?_ | refine sdraw_skip gn1 rfl ?_ | refine sdraw_skip (.nou rfl rfl rfl) rfl ?_) <;> (first | refine sdraw_pure gy rfl (pix rfl (tyS rfl)) ?_ | refine sdraw_skip gn1 rfl ?_ | refine sdraw_skip (.nou rfl rfl rfl) rfl ?_) <;> (first | refine sdraw_pure gy rfl (po_load_bx_agg rfl rfl (tyT rfl) rfl (vc (vc (vc .nil))) rfl) ?_ | refine sdraw_pure gy rfl (po_load_agg rfl rfl (tyT rfl) rfl rfl) ?_ | refine sdraw_skip gn1 rfl ?_ | refine sdraw_skip (.nou rfl rfl rfl) rfl ?_) <;> (first | refine sdraw_pure gy rfl (po_move rfl rfl) ?_ | refine sdraw_skip gn1 rfl ?_ | refine sdraw_skip (.nou rfl rfl rfl) rfl ?_) <;> (first | refine sdraw_pure gy rfl (po_move rfl rfl) ?_ | refine sdraw_skip gn1 rfl ?_ | refine sdraw_skip (.nou rfl rfl rfl) rfl ?_) <;> (first | refine sdraw_pure gy rfl (po_dec rfl rfl rfl (by omega)) ?_ | refine sdraw_pure gy rfl (po_arith rfl rfl rfl (ar_sub (by first | rfl | (refine wrap_i64 ?_; omega)) rfl)) ?_ | refine sdraw_skip gn1 rfl ?_ | refine sdraw_skip (.nou rfl rfl rfl) rfl ?_) <;> (first | refine sdraw_pure gy rfl (pix rfl (tyS rfl)) ?_ | refine sdraw_skip gn1 rfl ?_ | refine sdraw_skip (.nou rfl rfl rfl) rfl ?_) <;> (first | refine sdraw_pure gy rfl (po_load_bx_agg rfl rfl (tyT rfl) rfl (vc (vc (vc .nil))) rfl) ?_ | refine sdraw_pure gy rfl (po_load_agg rfl rfl (tyT rfl) rfl rfl) ?_ | refine sdraw_skip gn1 rfl ?_ | refine sdraw_skip (.nou rfl rfl rfl) rfl ?_) <;> (first | refine sdraw_pure gy rfl (po_call (c1) rfl (ac (ac .nil))) ?_ | refine sdraw_pure gy rfl (po_call (c2) rfl (ac (ac .nil))) ?_ | refine sdraw_skip gn1 rfl ?_ | refine sdraw_skip (.nou rfl rfl rfl) rfl ?_) <;> (first | refine sdraw_pure gy rfl (pkt rfl) ?_ | refine sdraw_pure gy rfl (pkf rfl) ?_ | refine sdraw_skip gn0 rfl ?_) <;> (first | refine sdraw_pure (.free rfl rfl) rfl (pkt rfl) ?_ | refine sdraw_pure (.free rfl rfl) rfl (pkf rfl) ?_) <;> (refine sdraw_nil ?_) <;> (refine sops_nil ?_))
            | ((refine swp_region (id := 6) ?_) <;> (refine sops_pure (.free rfl rfl) rfl rfl (po_assign rfl rfl) ?_) <;> (refine sops_nil ?_))
            | refine swp_ret ?_
            | refine swp_skip ?_
            | refine swp_block ?_
            | refine swp_exit ?_
            | refine block_go ?_
            | refine block_exit ?_
            | refine block_far rfl ?_
            | refine block_ret ?_
            | refine then_ret ?_
            | refine then_exit ?_
            | refine for_ret ?_
            | refine for_exit ?_
            | refine ct ?_
            | refine cf ?_
            | refine swp_cond rfl (fun hc => ?_) (fun hc => ?_)
            | refine retq (by first | exact .inr rfl | exact .inl rfl) rfl (.tmp rfl (by first | exact .t _ | exact .own rfl (by first | rfl | assumption | (simp; done) | (simp; omega)) | exact .nil _ | exact .emp _ | exact .fn _) .nil) ?_)
          refine swp_for (MK l i) (fun k => noL l l[i] k) i (weak_sub (.cons rfl rfl rfl (.cons rfl rfl rfl (.cons rfl rfl rfl .nil))) .nil .nil) rfl ?_
          intro k hk hN
          unfold MK
          by_cases hlk : k < i
          · have hkl : k < l.length := by omega
            cases hb : Pl.isD l[i].kind l[i].key l[k] with
            | true =>
              have hb' := hb
              unfold Pl.isD at hb'
              simp only [Bool.and_eq_true, beq_iff_eq] at hb'
              have e1 : decide (l[k].kind = l[i].kind) = true := by simp [hb'.1]
              have e2 : decide (l[k].key = l[i].key) = true := by simp [hb'.2]
              repeat' (first
                | refine then_go ?_
                | refine swp_seq ?_
                | ((refine swp_region (id := 7) ?_) <;> (refine sops_pure (.free rfl rfl) rfl rfl (po_move rfl rfl) ?_) <;> (refine sops_pure (.free rfl rfl) rfl rfl (po_move rfl rfl) ?_) <;> (refine sops_pure (.free rfl rfl) rfl rfl (po_cmp rfl rfl rfl rfl) ?_) <;> (refine sops_nil ?_))
                | ((refine swp_draw_all (id := 9) mixed (by kernel_rfl) (by kernel_rfl) ?_) <;> (refine sdraw_pure (.free rfl rfl) rfl (po_move rfl rfl) ?_) <;> (refine sdraw_pure (.free rfl rfl) rfl (po_move rfl rfl) ?_) <;> (refine sdraw_pure (.free rfl rfl) rfl (pix rfl (tyS rfl)) ?_) <;> (first | refine sdraw_pure (.free rfl rfl) rfl (po_field_bx rfl rfl (tyF rfl)) ?_ | refine sdraw_pure (.free rfl rfl) rfl (po_field rfl rfl (tyF rfl)) ?_) <;> (first | refine sdraw_pure (.free rfl rfl) rfl (po_load_bx rfl rfl (tyT rfl) rfl rfl) ?_ | refine sdraw_pure (.free rfl rfl) rfl (po_load rfl rfl (tyT rfl) rfl) ?_) <;> (refine sdraw_pure (.free rfl rfl) rfl (po_move rfl rfl) ?_) <;> (refine sdraw_pure (.free rfl rfl) rfl (po_move rfl rfl) ?_) <;> (refine sdraw_pure (.free rfl rfl) rfl (pix rfl (tyS rfl)) ?_) <;> (first | refine sdraw_pure (.free rfl rfl) rfl (po_field_bx rfl rfl (tyF rfl)) ?_ | refine sdraw_pure (.free rfl rfl) rfl (po_field rfl rfl (tyF rfl)) ?_) <;> (first | refine sdraw_pure (.free rfl rfl) rfl (po_load_bx rfl rfl (tyT rfl) rfl rfl) ?_ | refine sdraw_pure (.free rfl rfl) rfl (po_load rfl rfl (tyT rfl) rfl) ?_) <;> (refine sdraw_pure (.free rfl rfl) rfl (po_cmp rfl rfl rfl rfl) ?_) <;> (refine sdraw_pure (.free rfl rfl) rfl (po_move rfl rfl) ?_) <;> (first | refine sdraw_pure gy rfl (po_move rfl rfl) ?_ | refine sdraw_skip gn1 rfl ?_ | ((refine sdraw_split rfl rfl rfl (fun hc => ?_) (fun hc => ?_)) <;> (first | refine sdraw_pure gy rfl (po_move rfl rfl) ?_ | refine sdraw_skip gn1 rfl ?_))) <;> (first | refine sdraw_pure gy rfl (po_move rfl rfl) ?_ | refine sdraw_skip gn1 rfl ?_) <;> (first | refine sdraw_pure gy rfl (pix rfl (tyS rfl)) ?_ | refine sdraw_skip gn1 rfl ?_) <;> (first | refine sdraw_pure gy rfl (po_field_bx rfl rfl (tyF rfl)) ?_ | refine sdraw_pure gy rfl (po_field rfl rfl (tyF rfl)) ?_ | refine sdraw_skip gn1 rfl ?_) <;> (first | refine sdraw_pure gy rfl (po_load_bx rfl rfl (tyT rfl) rfl rfl) ?_ | refine sdraw_pure gy rfl (po_load rfl rfl (tyT rfl) rfl) ?_ | refine sdraw_skip gn1 rfl ?_) <;> (first | refine sdraw_pure gy rfl (po_move rfl rfl) ?_ | refine sdraw_skip gn1 rfl ?_) <;> (first | refine sdraw_pure gy rfl (po_move rfl rfl) ?_ | refine sdraw_skip gn1 rfl ?_) <;> (first | refine sdraw_pure gy rfl (pix rfl (tyS rfl)) ?_ | refine sdraw_skip gn1 rfl ?_) <;> (first | refine sdraw_pure gy rfl (po_field_bx rfl rfl (tyF rfl)) ?_ | refine sdraw_pure gy rfl (po_field rfl rfl (tyF rfl)) ?_ | refine sdraw_skip gn1 rfl ?_) <;> (first | refine sdraw_pure gy rfl (po_load_bx rfl rfl (tyT rfl) rfl rfl) ?_ | refine sdraw_pure gy rfl (po_load rfl rfl (tyT rfl) rfl) ?_ | refine sdraw_skip gn1 rfl ?_) <;> (first | refine sdraw_pure gy rfl (po_cmp rfl rfl rfl rfl) ?_ | refine sdraw_skip gn1 rfl ?_) <;> (first | refine sdraw_pure (.free rfl rfl) rfl (pkt rfl) ?_ | refine sdraw_pure (.free rfl rfl) rfl (pkf rfl) ?_) <;> (refine sdraw_nil ?_) <;> (refine sops_nil ?_))
                | ((refine swp_region (id := 10) ?_) <;> (refine sops_pure (.free rfl rfl) rfl rfl (po_assign rfl rfl) ?_) <;> (refine sops_nil ?_))
                | refine swp_ret ?_
                | refine swp_skip ?_
                | refine swp_block ?_
                | refine swp_exit ?_
                | refine block_go ?_
                | refine block_exit ?_
                | refine block_far rfl ?_
                | refine block_ret ?_
                | refine then_ret ?_
                | refine then_exit ?_
                | refine for_ret ?_
                | refine for_exit ?_
                | refine ct ?_
                | refine cf ?_
                | refine swp_cond rfl (fun hc => ?_) (fun hc => ?_)
                | refine retq (by first | exact .inr rfl | exact .inl rfl) rfl (.tmp rfl (by first | exact .t _ | exact .own rfl (by first | rfl | assumption | (simp; done) | (simp; omega)) | exact .nil _ | exact .emp _ | exact .fn _) .nil) ?_)
              rw [Pl.may_no hlt (by rw [hok]; simp; exact ⟨l[k], List.mem_take_iff_getElem.2 ⟨k, by omega, rfl⟩, hb⟩)]; rfl
            | false =>
              by_cases h1 : l[k].kind = l[i].kind
              · have h2 : l[k].key ≠ l[i].key := fun h => by unfold Pl.isD at hb; simp [h1, h] at hb
                have e1 : decide (l[k].kind = l[i].kind) = true := by simp [h1]
                have e2 : decide (l[k].key = l[i].key) = false := by simp [h2]
                repeat' (first
                  | refine then_go ?_
                  | refine swp_seq ?_
                  | refine for_next hlk (weak_sub (.cons rfl rfl rfl (.cons rfl rfl rfl (.cons rfl rfl rfl .nil))) .nil .nil) (noL_succ hkl hN hb)
                  | ((refine swp_region (id := 7) ?_) <;> (refine sops_pure (.free rfl rfl) rfl rfl (po_move rfl rfl) ?_) <;> (refine sops_pure (.free rfl rfl) rfl rfl (po_move rfl rfl) ?_) <;> (refine sops_pure (.free rfl rfl) rfl rfl (po_cmp rfl rfl rfl rfl) ?_) <;> (refine sops_nil ?_))
                  | ((refine swp_draw_all (id := 9) mixed (by kernel_rfl) (by kernel_rfl) ?_) <;> (refine sdraw_pure (.free rfl rfl) rfl (po_move rfl rfl) ?_) <;> (refine sdraw_pure (.free rfl rfl) rfl (po_move rfl rfl) ?_) <;> (refine sdraw_pure (.free rfl rfl) rfl (pix rfl (tyS rfl)) ?_) <;> (first | refine sdraw_pure (.free rfl rfl) rfl (po_field_bx rfl rfl (tyF rfl)) ?_ | refine sdraw_pure (.free rfl rfl) rfl (po_field rfl rfl (tyF rfl)) ?_) <;> (first | refine sdraw_pure (.free rfl rfl) rfl (po_load_bx rfl rfl (tyT rfl) rfl rfl) ?_ | refine sdraw_pure (.free rfl rfl) rfl (po_load rfl rfl (tyT rfl) rfl) ?_) <;> (refine sdraw_pure (.free rfl rfl) rfl (po_move rfl rfl) ?_) <;> (refine sdraw_pure (.free rfl rfl) rfl (po_move rfl rfl) ?_) <;> (refine sdraw_pure (.free rfl rfl) rfl (pix rfl (tyS rfl)) ?_) <;> (first | refine sdraw_pure (.free rfl rfl) rfl (po_field_bx rfl rfl (tyF rfl)) ?_ | refine sdraw_pure (.free rfl rfl) rfl (po_field rfl rfl (tyF rfl)) ?_) <;> (first | refine sdraw_pure (.free rfl rfl) rfl (po_load_bx rfl rfl (tyT rfl) rfl rfl) ?_ | refine sdraw_pure (.free rfl rfl) rfl (po_load rfl rfl (tyT rfl) rfl) ?_) <;> (refine sdraw_pure (.free rfl rfl) rfl (po_cmp rfl rfl rfl rfl) ?_) <;> (refine sdraw_pure (.free rfl rfl) rfl (po_move rfl rfl) ?_) <;> (first | refine sdraw_pure gy rfl (po_move rfl rfl) ?_ | refine sdraw_skip gn1 rfl ?_ | ((refine sdraw_split rfl rfl rfl (fun hc => ?_) (fun hc => ?_)) <;> (first | refine sdraw_pure gy rfl (po_move rfl rfl) ?_ | refine sdraw_skip gn1 rfl ?_))) <;> (first | refine sdraw_pure gy rfl (po_move rfl rfl) ?_ | refine sdraw_skip gn1 rfl ?_) <;> (first | refine sdraw_pure gy rfl (pix rfl (tyS rfl)) ?_ | refine sdraw_skip gn1 rfl ?_) <;> (first | refine sdraw_pure gy rfl (po_field_bx rfl rfl (tyF rfl)) ?_ | refine sdraw_pure gy rfl (po_field rfl rfl (tyF rfl)) ?_ | refine sdraw_skip gn1 rfl ?_) <;> (first | refine sdraw_pure gy rfl (po_load_bx rfl rfl (tyT rfl) rfl rfl) ?_ | refine sdraw_pure gy rfl (po_load rfl rfl (tyT rfl) rfl) ?_ | refine sdraw_skip gn1 rfl ?_) <;> (first | refine sdraw_pure gy rfl (po_move rfl rfl) ?_ | refine sdraw_skip gn1 rfl ?_) <;> (first | refine sdraw_pure gy rfl (po_move rfl rfl) ?_ | refine sdraw_skip gn1 rfl ?_) <;> (first | refine sdraw_pure gy rfl (pix rfl (tyS rfl)) ?_ | refine sdraw_skip gn1 rfl ?_) <;> (first | refine sdraw_pure gy rfl (po_field_bx rfl rfl (tyF rfl)) ?_ | refine sdraw_pure gy rfl (po_field rfl rfl (tyF rfl)) ?_ | refine sdraw_skip gn1 rfl ?_) <;> (first | refine sdraw_pure gy rfl (po_load_bx rfl rfl (tyT rfl) rfl rfl) ?_ | refine sdraw_pure gy rfl (po_load rfl rfl (tyT rfl) rfl) ?_ | refine sdraw_skip gn1 rfl ?_) <;> (first | refine sdraw_pure gy rfl (po_cmp rfl rfl rfl rfl) ?_ | refine sdraw_skip gn1 rfl ?_) <;> (first | refine sdraw_pure (.free rfl rfl) rfl (pkt rfl) ?_ | refine sdraw_pure (.free rfl rfl) rfl (pkf rfl) ?_) <;> (refine sdraw_nil ?_) <;> (refine sops_nil ?_))
                  | ((refine swp_region (id := 8) ?_) <;> (refine sops_pure (.free rfl rfl) rfl rfl (po_move rfl rfl) ?_) <;> (first | refine sops_pure (.free rfl rfl) rfl rfl (po_inc rfl rfl rfl (by omega)) ?_ | refine sops_pure (.free rfl rfl) rfl rfl (po_arith rfl rfl rfl (ar_add (by first | rfl | (refine wrap_i64 ?_; omega)) rfl)) ?_) <;> (refine sops_pure (.free rfl rfl) rfl rfl (po_assign rfl rfl) ?_) <;> (refine sops_nil ?_))
                  | refine swp_ret ?_
                  | refine swp_skip ?_
                  | refine swp_block ?_
                  | refine swp_exit ?_
                  | refine block_go ?_
                  | refine block_exit ?_
                  | refine block_far rfl ?_
                  | refine block_ret ?_
                  | refine then_ret ?_
                  | refine then_exit ?_
                  | refine for_ret ?_
                  | refine for_exit ?_
                  | refine ct ?_
                  | refine cf ?_
                  | refine swp_cond rfl (fun hc => ?_) (fun hc => ?_)
                  | refine retq (by first | exact .inr rfl | exact .inl rfl) rfl (.tmp rfl (by first | exact .t _ | exact .own rfl (by first | rfl | assumption | (simp; done) | (simp; omega)) | exact .nil _ | exact .emp _ | exact .fn _) .nil) ?_)
              · have e1 : decide (l[k].kind = l[i].kind) = false := by simp [h1]
                repeat' (first
                  | refine then_go ?_
                  | refine swp_seq ?_
                  | refine for_next hlk (weak_sub (.cons rfl rfl rfl (.cons rfl rfl rfl (.cons rfl rfl rfl .nil))) .nil .nil) (noL_succ hkl hN hb)
                  | ((refine swp_region (id := 7) ?_) <;> (refine sops_pure (.free rfl rfl) rfl rfl (po_move rfl rfl) ?_) <;> (refine sops_pure (.free rfl rfl) rfl rfl (po_move rfl rfl) ?_) <;> (refine sops_pure (.free rfl rfl) rfl rfl (po_cmp rfl rfl rfl rfl) ?_) <;> (refine sops_nil ?_))
                  | ((refine swp_draw_all (id := 9) mixed (by kernel_rfl) (by kernel_rfl) ?_) <;> (refine sdraw_pure (.free rfl rfl) rfl (po_move rfl rfl) ?_) <;> (refine sdraw_pure (.free rfl rfl) rfl (po_move rfl rfl) ?_) <;> (refine sdraw_pure (.free rfl rfl) rfl (pix rfl (tyS rfl)) ?_) <;> (first | refine sdraw_pure (.free rfl rfl) rfl (po_field_bx rfl rfl (tyF rfl)) ?_ | refine sdraw_pure (.free rfl rfl) rfl (po_field rfl rfl (tyF rfl)) ?_) <;> (first | refine sdraw_pure (.free rfl rfl) rfl (po_load_bx rfl rfl (tyT rfl) rfl rfl) ?_ | refine sdraw_pure (.free rfl rfl) rfl (po_load rfl rfl (tyT rfl) rfl) ?_) <;> (refine sdraw_pure (.free rfl rfl) rfl (po_move rfl rfl) ?_) <;> (refine sdraw_pure (.free rfl rfl) rfl (po_move rfl rfl) ?_) <;> (refine sdraw_pure (.free rfl rfl) rfl (pix rfl (tyS rfl)) ?_) <;> (first | refine sdraw_pure (.free rfl rfl) rfl (po_field_bx rfl rfl (tyF rfl)) ?_ | refine sdraw_pure (.free rfl rfl) rfl (po_field rfl rfl (tyF rfl)) ?_) <;> (first | refine sdraw_pure (.free rfl rfl) rfl (po_load_bx rfl rfl (tyT rfl) rfl rfl) ?_ | refine sdraw_pure (.free rfl rfl) rfl (po_load rfl rfl (tyT rfl) rfl) ?_) <;> (refine sdraw_pure (.free rfl rfl) rfl (po_cmp rfl rfl rfl rfl) ?_) <;> (refine sdraw_pure (.free rfl rfl) rfl (po_move rfl rfl) ?_) <;> (first | refine sdraw_pure gy rfl (po_move rfl rfl) ?_ | refine sdraw_skip gn1 rfl ?_ | ((refine sdraw_split rfl rfl rfl (fun hc => ?_) (fun hc => ?_)) <;> (first | refine sdraw_pure gy rfl (po_move rfl rfl) ?_ | refine sdraw_skip gn1 rfl ?_))) <;> (first | refine sdraw_pure gy rfl (po_move rfl rfl) ?_ | refine sdraw_skip gn1 rfl ?_) <;> (first | refine sdraw_pure gy rfl (pix rfl (tyS rfl)) ?_ | refine sdraw_skip gn1 rfl ?_) <;> (first | refine sdraw_pure gy rfl (po_field_bx rfl rfl (tyF rfl)) ?_ | refine sdraw_pure gy rfl (po_field rfl rfl (tyF rfl)) ?_ | refine sdraw_skip gn1 rfl ?_) <;> (first | refine sdraw_pure gy rfl (po_load_bx rfl rfl (tyT rfl) rfl rfl) ?_ | refine sdraw_pure gy rfl (po_load rfl rfl (tyT rfl) rfl) ?_ | refine sdraw_skip gn1 rfl ?_) <;> (first | refine sdraw_pure gy rfl (po_move rfl rfl) ?_ | refine sdraw_skip gn1 rfl ?_) <;> (first | refine sdraw_pure gy rfl (po_move rfl rfl) ?_ | refine sdraw_skip gn1 rfl ?_) <;> (first | refine sdraw_pure gy rfl (pix rfl (tyS rfl)) ?_ | refine sdraw_skip gn1 rfl ?_) <;> (first | refine sdraw_pure gy rfl (po_field_bx rfl rfl (tyF rfl)) ?_ | refine sdraw_pure gy rfl (po_field rfl rfl (tyF rfl)) ?_ | refine sdraw_skip gn1 rfl ?_) <;> (first | refine sdraw_pure gy rfl (po_load_bx rfl rfl (tyT rfl) rfl rfl) ?_ | refine sdraw_pure gy rfl (po_load rfl rfl (tyT rfl) rfl) ?_ | refine sdraw_skip gn1 rfl ?_) <;> (first | refine sdraw_pure gy rfl (po_cmp rfl rfl rfl rfl) ?_ | refine sdraw_skip gn1 rfl ?_) <;> (first | refine sdraw_pure (.free rfl rfl) rfl (pkt rfl) ?_ | refine sdraw_pure (.free rfl rfl) rfl (pkf rfl) ?_) <;> (refine sdraw_nil ?_) <;> (refine sops_nil ?_))
                  | ((refine swp_region (id := 8) ?_) <;> (refine sops_pure (.free rfl rfl) rfl rfl (po_move rfl rfl) ?_) <;> (first | refine sops_pure (.free rfl rfl) rfl rfl (po_inc rfl rfl rfl (by omega)) ?_ | refine sops_pure (.free rfl rfl) rfl rfl (po_arith rfl rfl rfl (ar_add (by first | rfl | (refine wrap_i64 ?_; omega)) rfl)) ?_) <;> (refine sops_pure (.free rfl rfl) rfl rfl (po_assign rfl rfl) ?_) <;> (refine sops_nil ?_))
                  | refine swp_ret ?_
                  | refine swp_skip ?_
                  | refine swp_block ?_
                  | refine swp_exit ?_
                  | refine block_go ?_
                  | refine block_exit ?_
                  | refine block_far rfl ?_
                  | refine block_ret ?_
                  | refine then_ret ?_
                  | refine then_exit ?_
                  | refine for_ret ?_
                  | refine for_exit ?_
                  | refine ct ?_
                  | refine cf ?_
                  | refine swp_cond rfl (fun hc => ?_) (fun hc => ?_)
                  | refine retq (by first | exact .inr rfl | exact .inl rfl) rfl (.tmp rfl (by first | exact .t _ | exact .own rfl (by first | rfl | assumption | (simp; done) | (simp; omega)) | exact .nil _ | exact .emp _ | exact .fn _) .nil) ?_)
          · obtain rfl : k = i := by omega
            repeat' (first
              | refine then_go ?_
              | refine swp_seq ?_
              | refine for_next hlt (weak_sub (.cons rfl rfl rfl (.cons rfl rfl rfl .nil)) .nil .nil) ?_
              | ((refine swp_region (id := 7) ?_) <;> (refine sops_pure (.free rfl rfl) rfl rfl (po_move rfl rfl) ?_) <;> (refine sops_pure (.free rfl rfl) rfl rfl (po_move rfl rfl) ?_) <;> (refine sops_pure (.free rfl rfl) rfl rfl (po_cmp rfl rfl rfl rfl) ?_) <;> (refine sops_nil ?_))
              | ((refine swp_region (id := 3) ?_) <;> (refine sops_pure (.free rfl rfl) rfl rfl (po_move rfl rfl) ?_) <;> (first | refine sops_pure (.free rfl rfl) rfl rfl (po_inc rfl rfl rfl (by omega)) ?_ | refine sops_pure (.free rfl rfl) rfl rfl (po_arith rfl rfl rfl (ar_add (by first | rfl | (refine wrap_i64 ?_; omega)) rfl)) ?_) <;> (refine sops_pure (.free rfl rfl) rfl rfl (po_assign rfl rfl) ?_) <;> (refine sops_nil ?_))
              | refine swp_ret ?_
              | refine swp_skip ?_
              | refine swp_block ?_
              | refine swp_exit ?_
              | refine block_go ?_
              | refine block_exit ?_
              | refine block_far rfl ?_
              | refine block_ret ?_
              | refine then_ret ?_
              | refine then_exit ?_
              | refine for_ret ?_
              | refine for_exit ?_
              | refine ct ?_
              | refine cf ?_
              | refine swp_cond rfl (fun hc => ?_) (fun hc => ?_)
              | refine retq (by first | exact .inr rfl | exact .inl rfl) rfl (.tmp rfl (by first | exact .t _ | exact .own rfl (by first | rfl | assumption | (simp; done) | (simp; omega)) | exact .nil _ | exact .emp _ | exact .fn _) .nil) ?_)
            intro j hj
            rcases Nat.lt_or_ge j k with h | h
            · exact hI j h
            · obtain rfl : j = k := by omega
              rw [hok]
              unfold noL at hN
              rw [hN]; rfl
      · have e0 : decide ((i : Int) > 0) = true := by simp; omega
        have c2 := rAhead l[i] (l[i - 1]'(by omega))
        have e2 : l.getD (i - 1) default = l[i - 1]'(by omega) := by rw [List.getD_eq_getElem?_getD, List.getElem?_eq_getElem (by omega)]; rfl
        have hah' := hah
        rw [e2] at hah'
        rw [hah'] at c2
        have f1 : i - 1 < l.length := by omega
        repeat' (first
          | refine then_go ?_
          | refine swp_seq ?_
          | ((refine swp_region (id := 2) ?_) <;> (refine sops_pure (.free rfl rfl) rfl rfl (po_move rfl rfl) ?_) <;> (refine sops_pure (.free rfl rfl) rfl rfl (po_move rfl rfl) ?_) <;> (refine sops_pure (.free rfl rfl) rfl rfl (pln rfl (tyS rfl)) ?_) <;> (refine sops_pure (.free rfl rfl) rfl rfl (po_cmp rfl rfl rfl rfl) ?_) <;> (refine sops_nil ?_))
          | ((refine swp_draw_all (id := 4) mixed (by kernel_rfl) (by kernel_rfl) ?_) <;> (refine sdraw_pure (.free rfl rfl) rfl (po_move rfl rfl) ?_) <;> (refine sdraw_pure (.free rfl rfl) rfl (po_move rfl rfl) ?_) <;> (refine sdraw_pure (.free rfl rfl) rfl (pix rfl (tyS rfl)) ?_) <;> (first | refine sdraw_pure (.free rfl rfl) rfl (po_load_bx_agg rfl rfl (tyT rfl) rfl (vc (vc (vc .nil))) rfl) ?_ | refine sdraw_pure (.free rfl rfl) rfl (po_load_agg rfl rfl (tyT rfl) rfl rfl) ?_) <;> (first | refine sdraw_pure (.free rfl rfl) rfl (po_call (c1) rfl (ac .nil)) ?_ | refine sdraw_pure (.free rfl rfl) rfl (po_call (c2) rfl (ac .nil)) ?_) <;> (refine sdraw_pure (.free rfl rfl) rfl (po_not rfl rfl) ?_) <;> (refine sdraw_pure (.free rfl rfl) rfl (po_move rfl rfl) ?_) <;> (first | refine sdraw_pure gy rfl (po_move rfl rfl) ?_ | refine sdraw_skip gn0 rfl ?_ | ((refine sdraw_split rfl rfl rfl (fun hc => ?_) (fun hc => ?_)) <;> (first | refine sdraw_pure gy rfl (po_move rfl rfl) ?_ | refine sdraw_skip gn0 rfl ?_))) <;> (first | refine sdraw_pure gy rfl (po_cmp rfl rfl rfl rfl) ?_ | refine sdraw_skip gn0 rfl ?_) <;> (first | refine sdraw_pure gy rfl (po_move rfl rfl) ?_ | refine sdraw_skip gn0 rfl ?_) <;> (first | refine sdraw_pure gy rfl (po_move rfl rfl) ?_ | refine sdraw_skip gn1 rfl ?_ | refine sdraw_skip (.nou rfl rfl rfl) rfl ?_ | ((refine sdraw_split rfl rfl rfl (fun hc => ?_) (fun hc => ?_)) <;> (first | refine sdraw_pure gy rfl (po_move rfl rfl) ?_ | refine sdraw_skip gn1 rfl ?_ | refine sdraw_skip (.nou rfl rfl rfl) rfl ?_))) <;> (first | refine sdraw_pure gy rfl (po_move rfl rfl) ?_ | refine sdraw_skip gn1 rfl ?_ | refine sdraw_skip (.nou rfl rfl rfl) rfl ?_) <;> (first | refine sdraw_pure gy rfl (pix rfl (tyS rfl)) ?_ | refine sdraw_skip gn1 rfl ?_ | refine sdraw_skip (.nou rfl rfl rfl) rfl ?_) <;> (first | refine sdraw_pure gy rfl (po_load_bx_agg rfl rfl (tyT rfl) rfl (vc (vc (vc .nil))) rfl) ?_ | refine sdraw_pure gy rfl (po_load_agg rfl rfl (tyT rfl) rfl rfl) ?_ | refine sdraw_skip gn1 rfl ?_ | refine sdraw_skip (.nou rfl rfl rfl) rfl ?_) <;> (first | refine sdraw_pure gy rfl (po_move rfl rfl) ?_ | refine sdraw_skip gn1 rfl ?_ | refine sdraw_skip (.nou rfl rfl rfl) rfl ?_) <;> (first | refine sdraw_pure gy rfl (po_move rfl rfl) ?_ | refine sdraw_skip gn1 rfl ?_ | refine sdraw_skip (.nou rfl rfl rfl) rfl ?_) <;> (first | refine sdraw_pure gy rfl (po_dec rfl rfl rfl (by omega)) ?_ | refine sdraw_pure gy rfl (po_arith rfl rfl rfl (ar_sub (by first | rfl | (refine wrap_i64 ?_; omega)) rfl)) ?_ | refine sdraw_skip gn1 rfl ?_ | refine sdraw_skip (.nou rfl rfl rfl) rfl ?_) <;> (first | refine sdraw_pure gy rfl (pix rfl (tyS rfl)) ?_ | refine sdraw_skip gn1 rfl ?_ | refine sdraw_skip (.nou rfl rfl rfl) rfl ?_) <;> (first | refine sdraw_pure gy rfl (po_load_bx_agg rfl rfl (tyT rfl) rfl (vc (vc (vc .nil))) rfl) ?_ | refine sdraw_pure gy rfl (po_load_agg rfl rfl (tyT rfl) rfl rfl) ?_ | refine sdraw_skip gn1 rfl ?_ | refine sdraw_skip (.nou rfl rfl rfl) rfl ?_) <;> (first | refine sdraw_pure gy rfl (po_call (c1) rfl (ac (ac .nil))) ?_ | refine sdraw_pure gy rfl (po_call (c2) rfl (ac (ac .nil))) ?_ | refine sdraw_skip gn1 rfl ?_ | refine sdraw_skip (.nou rfl rfl rfl) rfl ?_) <;> (first | refine sdraw_pure gy rfl (pkt rfl) ?_ | refine sdraw_pure gy rfl (pkf rfl) ?_ | refine sdraw_skip gn0 rfl ?_) <;> (first | refine sdraw_pure (.free rfl rfl) rfl (pkt rfl) ?_ | refine sdraw_pure (.free rfl rfl) rfl (pkf rfl) ?_) <;> (refine sdraw_nil ?_) <;> (refine sops_nil ?_))
          | ((refine swp_region (id := 5) ?_) <;> (refine sops_pure (.free rfl rfl) rfl rfl (po_assign rfl rfl) ?_) <;> (refine sops_nil ?_))
          | refine swp_ret ?_
          | refine swp_skip ?_
          | refine swp_block ?_
          | refine swp_exit ?_
          | refine block_go ?_
          | refine block_exit ?_
          | refine block_far rfl ?_
          | refine block_ret ?_
          | refine then_ret ?_
          | refine then_exit ?_
          | refine for_ret ?_
          | refine for_exit ?_
          | refine ct ?_
          | refine cf ?_
          | refine swp_cond rfl (fun hc => ?_) (fun hc => ?_)
          | refine retq (by first | exact .inr rfl | exact .inl rfl) rfl (.tmp rfl (by first | exact .t _ | exact .own rfl (by first | rfl | assumption | (simp; done) | (simp; omega)) | exact .nil _ | exact .emp _ | exact .fn _) .nil) ?_)
        rw [Pl.may_no hlt (by rw [hok, hah]; simp; omega)]; rfl
  · obtain rfl : i = l.length := by omega
    rw [Pl.may_all hI]
    repeat' (first
      | refine then_go ?_
      | refine swp_seq ?_
      | ((refine swp_region (id := 2) ?_) <;> (refine sops_pure (.free rfl rfl) rfl rfl (po_move rfl rfl) ?_) <;> (refine sops_pure (.free rfl rfl) rfl rfl (po_move rfl rfl) ?_) <;> (refine sops_pure (.free rfl rfl) rfl rfl (pln rfl (tyS rfl)) ?_) <;> (refine sops_pure (.free rfl rfl) rfl rfl (po_cmp rfl rfl rfl rfl) ?_) <;> (refine sops_nil ?_))
      | ((refine swp_region (id := 11) ?_) <;> (refine sops_pure (.free rfl rfl) rfl rfl (po_move rfl rfl) ?_) <;> (refine sops_pure (.free rfl rfl) rfl rfl (pln rfl (tyS rfl)) ?_) <;> (refine sops_pure (.free rfl rfl) rfl rfl (po_cmp rfl rfl rfl rfl) ?_) <;> (refine sops_pure (.free rfl rfl) rfl rfl (po_assign rfl rfl) ?_) <;> (refine sops_nil ?_))
      | refine swp_ret ?_
      | refine swp_skip ?_
      | refine swp_block ?_
      | refine swp_exit ?_
      | refine block_go ?_
      | refine block_exit ?_
      | refine block_far rfl ?_
      | refine block_ret ?_
      | refine then_ret ?_
      | refine then_exit ?_
      | refine for_ret ?_
      | refine for_exit ?_
      | refine ct ?_
      | refine cf ?_
      | refine swp_cond rfl (fun hc => ?_) (fun hc => ?_)
      | refine retq (by first | exact .inr rfl | exact .inl rfl) rfl (.tmp rfl (by first | exact .t _ | exact .own rfl (by first | rfl | assumption | (simp; done) | (simp; omega)) | exact .nil _ | exact .emp _ | exact .fn _) .nil) ?_)
    refine eq_b ?_
    rw [Bool.eq_iff_iff, decide_eq_true_eq, decide_eq_true_eq, hml]; omega
theorem insOut_len (rest : List Pl.Due) (d : Pl.Due) (k : Nat) : (Pl.insOut rest d k).length ≤ rest.length + 1 := by
  unfold Pl.insOut
  split
  · rw [Pl.ins_len, List.length_take]; omega
  · rw [List.length_take]; omega
abbrev dcells (d : Pl.Due) : List A := [.t (.v (.int .u64 d.at_)), .t (.v (.int .i64 d.kind)), .t (.v (.int .u64 d.key))]
def AS (rest : List Pl.Due) (d : Pl.Due) (k : Nat) : St := ⟨[(3, .bp 3 0), (6, .t (duesT rest)), (7, .own 100 ((Pl.insOut rest d k).map dueT).length), (8, .t (.v (.bool ((rest.take k).any (Pl.ahead d))))), (9, .t (.v (.int .i64 (k : Int))))], [(3, dcells d)], [(100, ⟨25, 3, (Pl.insOut rest d k).map dueT⟩)]⟩
set_option maxRecDepth 100000 in
set_option maxHeartbeats 4000000 in
theorem rAdd (l : List Pl.Due) (d : Pl.Due) (hl : l.length ≤ 1000) : PCalls Try.prog 14 [duesT l, .agg (dueT d)] (.tup [duesT (Pl.addL l d), .v (.int .i64 (Pl.addErr l d))]) := by
  have c1 := rMay l hl
  have c2 := rMayDue d
  have c3 := rDrop l d.kind d.key hl
  have hq : (Pl.dropL l d.kind d.key).length ≤ l.length := List.length_filter_le _ _
  have hA : Pl.addL l d = if Pl.addOk l d then Pl.ins (Pl.dropL l d.kind d.key) d else [] := rfl
  have hO : Pl.addOk l d = (Pl.mayL l && Pl.mayD d && decide ((Pl.dropL l d.kind d.key).length < 64)) := rfl
  have hE : Pl.addErr l d = if Pl.mayL l && Pl.mayD d then (if (Pl.dropL l d.kind d.key).length < 64 then 0 else 3) else 1 := rfl
  rw [hA, hO, hE]
  clear hA hO hE
  generalize Pl.dropL l d.kind d.key = rest at *
  generalize Pl.mayL l = ml at *
  generalize Pl.mayD d = md at *
  have hmr : (rest.map dueT).length = rest.length := List.length_map _
  refine pcalls_of Try.func14 rfl rfl Try.ntmps14 rfl ?_
  cases ml with
  | false =>
    repeat' (first
      | refine then_go ?_
      | refine swp_seq ?_
      | refine retq (.inr rfl) rfl (.tmp rfl (.nil 3) (.tmp rfl (.t _) .nil)) ?_
      | ((refine swp_region (id := 0) ?_) <;> (refine sops_box (.free rfl rfl) rfl rfl rfl rfl rfl rfl ?_) <;> (refine sops_pure (.free rfl rfl) rfl rfl (po_assign rfl rfl) ?_) <;> (refine sops_pure (.free rfl rfl) rfl rfl (po_assign rfl rfl) ?_) <;> (refine sops_nil ?_))
      | ((refine swp_region (id := 1) ?_) <;> (refine sops_pure (.free rfl rfl) rfl rfl (po_move rfl rfl) ?_) <;> (refine sops_pure (.free rfl rfl) rfl rfl (po_call (c1) rfl (ac .nil)) ?_) <;> (refine sops_pure (.free rfl rfl) rfl rfl (po_not rfl rfl) ?_) <;> (refine sops_pure (.free rfl rfl) rfl rfl (po_move rfl rfl) ?_) <;> (first | refine sops_pure gy rfl rfl (po_load_bx_agg rfl rfl (tyT rfl) rfl (vc (vc (vc .nil))) rfl) ?_ | refine sops_pure gy rfl rfl (po_load_agg rfl rfl (tyT rfl) rfl rfl) ?_ | refine sops_skip gn0 rfl rfl ?_ | ((refine sops_split rfl rfl rfl (fun hc => ?_) (fun hc => ?_)) <;> (first | refine sops_pure gy rfl rfl (po_load_bx_agg rfl rfl (tyT rfl) rfl (vc (vc (vc .nil))) rfl) ?_ | refine sops_pure gy rfl rfl (po_load_agg rfl rfl (tyT rfl) rfl rfl) ?_ | refine sops_skip gn0 rfl rfl ?_))) <;> (first | refine sops_pure gy rfl rfl (po_call (c1) rfl (ac .nil)) ?_ | refine sops_skip gn0 rfl rfl ?_) <;> (first | refine sops_pure gy rfl rfl (po_not rfl rfl) ?_ | refine sops_skip gn0 rfl rfl ?_) <;> (first | refine sops_pure (.free rfl rfl) rfl rfl (pkt rfl) ?_ | refine sops_pure (.free rfl rfl) rfl rfl (pkf rfl) ?_) <;> (refine sops_nil ?_))
      | ((refine swp_region (id := 2) ?_) <;> (refine sops_pure (.free rfl rfl) rfl rfl (po_assign rfl rfl) ?_) <;> (refine sops_pure (.free rfl rfl) rfl rfl (po_assign rfl rfl) ?_) <;> (refine sops_nil ?_))
      | refine swp_ret ?_
      | refine swp_skip ?_
      | refine swp_block ?_
      | refine swp_exit ?_
      | refine block_go ?_
      | refine block_exit ?_
      | refine block_far rfl ?_
      | refine block_ret ?_
      | refine then_ret ?_
      | refine then_exit ?_
      | refine for_ret ?_
      | refine for_exit ?_
      | refine ct ?_
      | refine cf ?_
      | refine swp_cond rfl (fun hc => ?_) (fun hc => ?_)
      | refine retq (by first | exact .inr rfl | exact .inl rfl) rfl (.tmp rfl (by first | exact .t _ | exact .own rfl (by first | rfl | assumption | (simp; done) | (simp; omega)) | exact .nil _ | exact .emp _ | exact .fn _) (.tmp rfl (by first | exact .t _ | exact .own rfl (by first | rfl | assumption | (simp; done) | (simp; omega)) | exact .nil _ | exact .emp _ | exact .fn _) .nil)) ?_)
    simp [resT]
  | true =>
    cases md with
    | false =>
      repeat' (first
        | refine then_go ?_
        | refine swp_seq ?_
        | refine retq (.inr rfl) rfl (.tmp rfl (.nil 3) (.tmp rfl (.t _) .nil)) ?_
        | ((refine swp_region (id := 0) ?_) <;> (refine sops_box (.free rfl rfl) rfl rfl rfl rfl rfl rfl ?_) <;> (refine sops_pure (.free rfl rfl) rfl rfl (po_assign rfl rfl) ?_) <;> (refine sops_pure (.free rfl rfl) rfl rfl (po_assign rfl rfl) ?_) <;> (refine sops_nil ?_))
        | ((refine swp_region (id := 1) ?_) <;> (refine sops_pure (.free rfl rfl) rfl rfl (po_move rfl rfl) ?_) <;> (first | refine sops_pure (.free rfl rfl) rfl rfl (po_call (c1) rfl (ac .nil)) ?_ | refine sops_pure (.free rfl rfl) rfl rfl (po_call (c2) rfl (ac .nil)) ?_) <;> (refine sops_pure (.free rfl rfl) rfl rfl (po_not rfl rfl) ?_) <;> (refine sops_pure (.free rfl rfl) rfl rfl (po_move rfl rfl) ?_) <;> (first | refine sops_pure gy rfl rfl (po_load_bx_agg rfl rfl (tyT rfl) rfl (vc (vc (vc .nil))) rfl) ?_ | refine sops_pure gy rfl rfl (po_load_agg rfl rfl (tyT rfl) rfl rfl) ?_ | refine sops_skip gn0 rfl rfl ?_ | ((refine sops_split rfl rfl rfl (fun hc => ?_) (fun hc => ?_)) <;> (first | refine sops_pure gy rfl rfl (po_load_bx_agg rfl rfl (tyT rfl) rfl (vc (vc (vc .nil))) rfl) ?_ | refine sops_pure gy rfl rfl (po_load_agg rfl rfl (tyT rfl) rfl rfl) ?_ | refine sops_skip gn0 rfl rfl ?_))) <;> (first | refine sops_pure gy rfl rfl (po_call (c1) rfl (ac .nil)) ?_ | refine sops_pure gy rfl rfl (po_call (c2) rfl (ac .nil)) ?_ | refine sops_skip gn0 rfl rfl ?_) <;> (first | refine sops_pure gy rfl rfl (po_not rfl rfl) ?_ | refine sops_skip gn0 rfl rfl ?_) <;> (first | refine sops_pure (.free rfl rfl) rfl rfl (pkt rfl) ?_ | refine sops_pure (.free rfl rfl) rfl rfl (pkf rfl) ?_) <;> (refine sops_nil ?_))
        | ((refine swp_region (id := 2) ?_) <;> (refine sops_pure (.free rfl rfl) rfl rfl (po_assign rfl rfl) ?_) <;> (refine sops_pure (.free rfl rfl) rfl rfl (po_assign rfl rfl) ?_) <;> (refine sops_nil ?_))
        | refine swp_ret ?_
        | refine swp_skip ?_
        | refine swp_block ?_
        | refine swp_exit ?_
        | refine block_go ?_
        | refine block_exit ?_
        | refine block_far rfl ?_
        | refine block_ret ?_
        | refine then_ret ?_
        | refine then_exit ?_
        | refine for_ret ?_
        | refine for_exit ?_
        | refine ct ?_
        | refine cf ?_
        | refine swp_cond rfl (fun hc => ?_) (fun hc => ?_)
        | refine retq (by first | exact .inr rfl | exact .inl rfl) rfl (.tmp rfl (by first | exact .t _ | exact .own rfl (by first | rfl | assumption | (simp; done) | (simp; omega)) | exact .nil _ | exact .emp _ | exact .fn _) (.tmp rfl (by first | exact .t _ | exact .own rfl (by first | rfl | assumption | (simp; done) | (simp; omega)) | exact .nil _ | exact .emp _ | exact .fn _) .nil)) ?_)
      simp [resT]
    | true =>
      by_cases h64 : rest.length < 64
      · have e1 : decide ((rest.map dueT).length ≥ 64) = false := by rw [hmr]; simp; omega
        repeat' (first
          | refine then_go ?_
          | refine swp_seq ?_
          | ((refine swp_region (id := 0) ?_) <;> (refine sops_box (.free rfl rfl) rfl rfl rfl rfl rfl rfl ?_) <;> (refine sops_pure (.free rfl rfl) rfl rfl (po_assign rfl rfl) ?_) <;> (refine sops_pure (.free rfl rfl) rfl rfl (po_assign rfl rfl) ?_) <;> (refine sops_nil ?_))
          | ((refine swp_region (id := 1) ?_) <;> (refine sops_pure (.free rfl rfl) rfl rfl (po_move rfl rfl) ?_) <;> (first | refine sops_pure (.free rfl rfl) rfl rfl (po_call (c1) rfl (ac .nil)) ?_ | refine sops_pure (.free rfl rfl) rfl rfl (po_call (c2) rfl (ac .nil)) ?_ | refine sops_pure (.free rfl rfl) rfl rfl (po_call (c3) rfl (ac .nil)) ?_) <;> (refine sops_pure (.free rfl rfl) rfl rfl (po_not rfl rfl) ?_) <;> (refine sops_pure (.free rfl rfl) rfl rfl (po_move rfl rfl) ?_) <;> (first | refine sops_pure gy rfl rfl (po_load_bx_agg rfl rfl (tyT rfl) rfl (vc (vc (vc .nil))) rfl) ?_ | refine sops_pure gy rfl rfl (po_load_agg rfl rfl (tyT rfl) rfl rfl) ?_ | refine sops_skip gn0 rfl rfl ?_ | ((refine sops_split rfl rfl rfl (fun hc => ?_) (fun hc => ?_)) <;> (first | refine sops_pure gy rfl rfl (po_load_bx_agg rfl rfl (tyT rfl) rfl (vc (vc (vc .nil))) rfl) ?_ | refine sops_pure gy rfl rfl (po_load_agg rfl rfl (tyT rfl) rfl rfl) ?_ | refine sops_skip gn0 rfl rfl ?_))) <;> (first | refine sops_pure gy rfl rfl (po_call (c1) rfl (ac .nil)) ?_ | refine sops_pure gy rfl rfl (po_call (c2) rfl (ac .nil)) ?_ | refine sops_pure gy rfl rfl (po_call (c3) rfl (ac .nil)) ?_ | refine sops_skip gn0 rfl rfl ?_) <;> (first | refine sops_pure gy rfl rfl (po_not rfl rfl) ?_ | refine sops_skip gn0 rfl rfl ?_) <;> (first | refine sops_pure (.free rfl rfl) rfl rfl (pkt rfl) ?_ | refine sops_pure (.free rfl rfl) rfl rfl (pkf rfl) ?_) <;> (refine sops_nil ?_))
          | ((refine swp_region (id := 3) ?_) <;> (refine sops_pure (.free rfl rfl) rfl rfl (po_move rfl rfl) ?_) <;> (first | refine sops_pure (.free rfl rfl) rfl rfl (po_field_bx rfl rfl (tyF rfl)) ?_ | refine sops_pure (.free rfl rfl) rfl rfl (po_field rfl rfl (tyF rfl)) ?_) <;> (first | refine sops_pure (.free rfl rfl) rfl rfl (po_load_bx rfl rfl (tyT rfl) rfl rfl) ?_ | refine sops_pure (.free rfl rfl) rfl rfl (po_load rfl rfl (tyT rfl) rfl) ?_) <;> (first | refine sops_pure (.free rfl rfl) rfl rfl (po_field_bx rfl rfl (tyF rfl)) ?_ | refine sops_pure (.free rfl rfl) rfl rfl (po_field rfl rfl (tyF rfl)) ?_) <;> (first | refine sops_pure (.free rfl rfl) rfl rfl (po_load_bx rfl rfl (tyT rfl) rfl rfl) ?_ | refine sops_pure (.free rfl rfl) rfl rfl (po_load rfl rfl (tyT rfl) rfl) ?_) <;> (first | refine sops_pure (.free rfl rfl) rfl rfl (po_call (c1) rfl (ac (ac (ac .nil)))) ?_ | refine sops_pure (.free rfl rfl) rfl rfl (po_call (c2) rfl (ac (ac (ac .nil)))) ?_ | refine sops_pure (.free rfl rfl) rfl rfl (po_call (c3) rfl (ac (ac (ac .nil)))) ?_) <;> (refine sops_pure (.free rfl rfl) rfl rfl (po_assign rfl rfl) ?_) <;> (refine sops_nil ?_))
          | ((refine swp_region (id := 4) ?_) <;> (refine sops_pure (.free rfl rfl) rfl rfl (po_move rfl rfl) ?_) <;> (refine sops_pure (.free rfl rfl) rfl rfl (pln rfl (tyS rfl)) ?_) <;> (refine sops_pure (.free rfl rfl) rfl rfl (po_cmp rfl rfl rfl rfl) ?_) <;> (refine sops_nil ?_))
          | ((refine swp_region (id := 6) ?_) <;> (refine sops_pure (.free rfl rfl) rfl rfl (po_assign rfl rfl) ?_) <;> (refine sops_nil ?_))
          | ((refine swp_region (id := 7) ?_) <;> (refine sops_pure (.free rfl rfl) rfl rfl (po_assign rfl rfl) ?_) <;> (refine sops_nil ?_))
          | ((refine swp_region (id := 8) ?_) <;> (refine sops_pure (.free rfl rfl) rfl rfl (po_assign rfl rfl) ?_) <;> (refine sops_nil ?_))
          | refine swp_ret ?_
          | refine swp_skip ?_
          | refine swp_block ?_
          | refine swp_exit ?_
          | refine block_go ?_
          | refine block_exit ?_
          | refine block_far rfl ?_
          | refine block_ret ?_
          | refine then_ret ?_
          | refine then_exit ?_
          | refine for_ret ?_
          | refine for_exit ?_
          | refine ct ?_
          | refine cf ?_
          | refine swp_cond rfl (fun hc => ?_) (fun hc => ?_)
          | refine retq (by first | exact .inr rfl | exact .inl rfl) rfl (.tmp rfl (by first | exact .t _ | exact .own rfl (by first | rfl | assumption | (simp; done) | (simp; omega)) | exact .nil _ | exact .emp _ | exact .fn _) (.tmp rfl (by first | exact .t _ | exact .own rfl (by first | rfl | assumption | (simp; done) | (simp; omega)) | exact .nil _ | exact .emp _ | exact .fn _) .nil)) ?_)
        refine swp_for (AS rest d) (fun _ => True) rest.length ?_ trivial ?_
        · refine Weak.trans (weak_own0 (i := 100) 25 3 (s := 7) rfl rfl) ?_
          exact (weak_sub (.cons rfl rfl rfl (.cons rfl rfl rfl (.cons rfl rfl rfl (.cons rfl rfl rfl (.cons rfl rfl rfl .nil))))) (.cons rfl rfl rfl .nil) (.cons rfl rfl .nil))
        intro k hk _
        unfold AS
        have hil := insOut_len rest d k
        have him : ((Pl.insOut rest d k).map dueT).length = (Pl.insOut rest d k).length := List.length_map _
        by_cases hlt : k < rest.length
        · cases hp : (rest.take k).any (Pl.ahead d) with
          | true =>
            obtain ⟨s1, s2⟩ := Pl.insOut_put hlt hp
            have s1' : (Pl.insOut rest d (k + 1)).map dueT = (Pl.insOut rest d k).map dueT ++ [dueT rest[k]] := by rw [s1, List.map_append]; rfl
            generalize (Pl.insOut rest d k).map dueT = F at *
            have g1 : (F.length + 1) * 24 ≤ 140737488355328 := by omega
            have g2 : F.length + 1 ≤ maxLen := by unfold maxLen; omega
            repeat' (first
              | refine then_go ?_
              | refine swp_seq ?_
              | refine for_next hlt (weak_sub (.cons rfl (by first | rfl | (simp only [s1', s2] <;> rfl)) rfl (.cons rfl (by first | rfl | (simp only [s1', s2] <;> rfl)) rfl (.cons rfl (by first | rfl | (simp only [s1', s2] <;> rfl)) rfl (.cons rfl (by first | rfl | (simp only [s1', s2] <;> rfl)) rfl (.cons rfl (by first | rfl | (simp only [s1', s2] <;> rfl)) rfl .nil))))) (.cons rfl (by first | rfl | (simp only [s1', s2] <;> rfl)) rfl .nil) (.cons rfl (by first | rfl | (simp only [s1', s2] <;> rfl)) .nil)) trivial
              | ((refine swp_region (id := 9) ?_) <;> (refine sops_pure (.free rfl rfl) rfl rfl (po_move rfl rfl) ?_) <;> (refine sops_pure (.free rfl rfl) rfl rfl (po_move rfl rfl) ?_) <;> (refine sops_pure (.free rfl rfl) rfl rfl (pln rfl (tyS rfl)) ?_) <;> (refine sops_pure (.free rfl rfl) rfl rfl (po_cmp rfl rfl rfl rfl) ?_) <;> (refine sops_nil ?_))
              | ((refine swp_draw_all (id := 11) mixed (by kernel_rfl) (by kernel_rfl) ?_) <;> (refine sdraw_pure (.free rfl rfl) rfl (po_move rfl rfl) ?_) <;> (refine sdraw_pure (.free rfl rfl) rfl (po_not rfl rfl) ?_) <;> (refine sdraw_pure (.free rfl rfl) rfl (po_move rfl rfl) ?_) <;> (first | refine sdraw_pure gy rfl (po_load_bx_agg rfl rfl (tyT rfl) rfl (vc (vc (vc .nil))) rfl) ?_ | refine sdraw_pure gy rfl (po_load_agg rfl rfl (tyT rfl) rfl rfl) ?_ | refine sdraw_skip gn1 rfl ?_ | ((refine sdraw_split rfl rfl rfl (fun hc => ?_) (fun hc => ?_)) <;> (first | refine sdraw_pure gy rfl (po_load_bx_agg rfl rfl (tyT rfl) rfl (vc (vc (vc .nil))) rfl) ?_ | refine sdraw_pure gy rfl (po_load_agg rfl rfl (tyT rfl) rfl rfl) ?_ | refine sdraw_skip gn1 rfl ?_))) <;> (first | refine sdraw_pure gy rfl (po_move rfl rfl) ?_ | refine sdraw_skip gn1 rfl ?_) <;> (first | refine sdraw_pure gy rfl (po_move rfl rfl) ?_ | refine sdraw_skip gn1 rfl ?_) <;> (first | refine sdraw_pure gy rfl (pix rfl (tyS rfl)) ?_ | refine sdraw_skip gn1 rfl ?_) <;> (first | refine sdraw_pure gy rfl (po_load_bx_agg rfl rfl (tyT rfl) rfl (vc (vc (vc .nil))) rfl) ?_ | refine sdraw_pure gy rfl (po_load_agg rfl rfl (tyT rfl) rfl rfl) ?_ | refine sdraw_skip gn1 rfl ?_) <;> (first | refine sdraw_skip gn1 rfl ?_) <;> (first | refine sdraw_pure (.free rfl rfl) rfl (pkt rfl) ?_ | refine sdraw_pure (.free rfl rfl) rfl (pkf rfl) ?_) <;> (refine sdraw_nil ?_) <;> (refine sops_nil ?_))
              | ((refine swp_region (id := 14) ?_) <;> (refine sops_pure (.free rfl rfl) rfl rfl (po_move rfl rfl) ?_) <;> (refine sops_pure (.free rfl rfl) rfl rfl (po_move rfl rfl) ?_) <;> (refine sops_pure (.free rfl rfl) rfl rfl (po_move rfl rfl) ?_) <;> (refine sops_pure (.free rfl rfl) rfl rfl (pix rfl (tyS rfl)) ?_) <;> (first | refine sops_pure (.free rfl rfl) rfl rfl (po_load_bx_agg rfl rfl (tyT rfl) rfl (vc (vc (vc .nil))) rfl) ?_ | refine sops_pure (.free rfl rfl) rfl rfl (po_load_agg rfl rfl (tyT rfl) rfl rfl) ?_) <;> (refine sops_pure (.free rfl rfl) rfl rfl (po_buildSlice rfl (tyE rfl) (dc (.nil _)) rfl rfl rfl) ?_) <;> (first | refine sap rfl (tyE rfl) ?_ | refine san rfl (tyE rfl) ?_) <;> (refine sops_pure (.free rfl rfl) rfl rfl (po_assign rfl rfl) ?_) <;> (refine sops_nil ?_))
              | ((refine swp_region (id := 10) ?_) <;> (refine sops_pure (.free rfl rfl) rfl rfl (po_move rfl rfl) ?_) <;> (first | refine sops_pure (.free rfl rfl) rfl rfl (po_inc rfl rfl rfl (by omega)) ?_ | refine sops_pure (.free rfl rfl) rfl rfl (po_arith rfl rfl rfl (ar_add (by first | rfl | (refine wrap_i64 ?_; omega)) rfl)) ?_) <;> (refine sops_pure (.free rfl rfl) rfl rfl (po_assign rfl rfl) ?_) <;> (refine sops_nil ?_))
              | refine swp_ret ?_
              | refine swp_skip ?_
              | refine swp_block ?_
              | refine swp_exit ?_
              | refine block_go ?_
              | refine block_exit ?_
              | refine block_far rfl ?_
              | refine block_ret ?_
              | refine then_ret ?_
              | refine then_exit ?_
              | refine for_ret ?_
              | refine for_exit ?_
              | refine ct ?_
              | refine cf ?_
              | refine swp_cond rfl (fun hc => ?_) (fun hc => ?_)
              | refine retq (by first | exact .inr rfl | exact .inl rfl) rfl (.tmp rfl (by first | exact .t _ | exact .own rfl (by first | rfl | assumption | (simp; done) | (simp; omega)) | exact .nil _ | exact .emp _ | exact .fn _) (.tmp rfl (by first | exact .t _ | exact .own rfl (by first | rfl | assumption | (simp; done) | (simp; omega)) | exact .nil _ | exact .emp _ | exact .fn _) .nil)) ?_)
          | false =>
            have c4 := rAhead d rest[k]
            cases ha : Pl.ahead d rest[k] with
            | true =>
              rw [ha] at c4
              obtain ⟨s1, s2⟩ := Pl.insOut_new hlt hp ha
              have s1' : (Pl.insOut rest d (k + 1)).map dueT = ((Pl.insOut rest d k).map dueT ++ [dueT d]) ++ [dueT rest[k]] := by rw [s1, List.map_append, List.map_append]; rfl
              generalize (Pl.insOut rest d k).map dueT = F at *
              obtain ⟨g1, g2, g3, g4⟩ : (F.length + 1) * 24 ≤ 140737488355328 ∧ F.length + 1 ≤ maxLen ∧ ((F ++ [dueT d]).length + 1) * 24 ≤ 140737488355328 ∧ (F ++ [dueT d]).length + 1 ≤ maxLen := by
                rw [List.length_append, List.length_singleton]
                have hz : F.length ≤ 2000 := by omega
                clear him hil hk
                unfold maxLen
                refine ⟨?_, ?_, ?_, ?_⟩ <;> omega
              repeat' (first
                | refine then_go ?_
                | refine swp_seq ?_
                | refine for_next hlt (weak_sub (.cons rfl (by first | rfl | (simp only [s1', s2] <;> rfl)) rfl (.cons rfl (by first | rfl | (simp only [s1', s2] <;> rfl)) rfl (.cons rfl (by first | rfl | (simp only [s1', s2] <;> rfl)) rfl (.cons rfl (by first | rfl | (simp only [s1', s2] <;> rfl)) rfl (.cons rfl (by first | rfl | (simp only [s1', s2] <;> rfl)) rfl .nil))))) (.cons rfl (by first | rfl | (simp only [s1', s2] <;> rfl)) rfl .nil) (.cons rfl (by first | rfl | (simp only [s1', s2] <;> rfl)) .nil)) trivial
                | ((refine swp_region (id := 9) ?_) <;> (refine sops_pure (.free rfl rfl) rfl rfl (po_move rfl rfl) ?_) <;> (refine sops_pure (.free rfl rfl) rfl rfl (po_move rfl rfl) ?_) <;> (refine sops_pure (.free rfl rfl) rfl rfl (pln rfl (tyS rfl)) ?_) <;> (refine sops_pure (.free rfl rfl) rfl rfl (po_cmp rfl rfl rfl rfl) ?_) <;> (refine sops_nil ?_))
                | ((refine swp_draw_all (id := 11) mixed (by kernel_rfl) (by kernel_rfl) ?_) <;> (refine sdraw_pure (.free rfl rfl) rfl (po_move rfl rfl) ?_) <;> (refine sdraw_pure (.free rfl rfl) rfl (po_not rfl rfl) ?_) <;> (refine sdraw_pure (.free rfl rfl) rfl (po_move rfl rfl) ?_) <;> (first | refine sdraw_pure gy rfl (po_load_bx_agg rfl rfl (tyT rfl) rfl (vc (vc (vc .nil))) rfl) ?_ | refine sdraw_pure gy rfl (po_load_agg rfl rfl (tyT rfl) rfl rfl) ?_ | refine sdraw_skip gn1 rfl ?_ | ((refine sdraw_split rfl rfl rfl (fun hc => ?_) (fun hc => ?_)) <;> (first | refine sdraw_pure gy rfl (po_load_bx_agg rfl rfl (tyT rfl) rfl (vc (vc (vc .nil))) rfl) ?_ | refine sdraw_pure gy rfl (po_load_agg rfl rfl (tyT rfl) rfl rfl) ?_ | refine sdraw_skip gn1 rfl ?_))) <;> (first | refine sdraw_pure gy rfl (po_move rfl rfl) ?_ | refine sdraw_skip gn1 rfl ?_) <;> (first | refine sdraw_pure gy rfl (po_move rfl rfl) ?_ | refine sdraw_skip gn1 rfl ?_) <;> (first | refine sdraw_pure gy rfl (pix rfl (tyS rfl)) ?_ | refine sdraw_skip gn1 rfl ?_) <;> (first | refine sdraw_pure gy rfl (po_load_bx_agg rfl rfl (tyT rfl) rfl (vc (vc (vc .nil))) rfl) ?_ | refine sdraw_pure gy rfl (po_load_agg rfl rfl (tyT rfl) rfl rfl) ?_ | refine sdraw_skip gn1 rfl ?_) <;> (first | refine sdraw_pure gy rfl (po_call (c4) rfl (ac (ac .nil))) ?_ | refine sdraw_skip gn1 rfl ?_) <;> (first | refine sdraw_pure (.free rfl rfl) rfl (pkt rfl) ?_ | refine sdraw_pure (.free rfl rfl) rfl (pkf rfl) ?_) <;> (refine sdraw_nil ?_) <;> (refine sops_nil ?_))
                | ((refine swp_region (id := 12) ?_) <;> (refine sops_pure (.free rfl rfl) rfl rfl (po_move rfl rfl) ?_) <;> (first | refine sops_pure (.free rfl rfl) rfl rfl (po_load_bx_agg rfl rfl (tyT rfl) rfl (vc (vc (vc .nil))) rfl) ?_ | refine sops_pure (.free rfl rfl) rfl rfl (po_load_agg rfl rfl (tyT rfl) rfl rfl) ?_) <;> (refine sops_pure (.free rfl rfl) rfl rfl (po_buildSlice rfl (tyE rfl) (dc (.nil _)) rfl rfl rfl) ?_) <;> (first | refine sap rfl (tyE rfl) ?_ | refine san rfl (tyE rfl) ?_) <;> (refine sops_pure (.free rfl rfl) rfl rfl (po_assign rfl rfl) ?_) <;> (refine sops_nil ?_))
                | ((refine swp_region (id := 13) ?_) <;> (refine sops_pure (.free rfl rfl) rfl rfl (po_assign rfl rfl) ?_) <;> (refine sops_nil ?_))
                | ((refine swp_region (id := 14) ?_) <;> (refine sops_pure (.free rfl rfl) rfl rfl (po_move rfl rfl) ?_) <;> (refine sops_pure (.free rfl rfl) rfl rfl (po_move rfl rfl) ?_) <;> (refine sops_pure (.free rfl rfl) rfl rfl (po_move rfl rfl) ?_) <;> (refine sops_pure (.free rfl rfl) rfl rfl (pix rfl (tyS rfl)) ?_) <;> (first | refine sops_pure (.free rfl rfl) rfl rfl (po_load_bx_agg rfl rfl (tyT rfl) rfl (vc (vc (vc .nil))) rfl) ?_ | refine sops_pure (.free rfl rfl) rfl rfl (po_load_agg rfl rfl (tyT rfl) rfl rfl) ?_) <;> (refine sops_pure (.free rfl rfl) rfl rfl (po_buildSlice rfl (tyE rfl) (dc (.nil _)) rfl rfl rfl) ?_) <;> (first | refine sap rfl (tyE rfl) ?_ | refine san rfl (tyE rfl) ?_) <;> (refine sops_pure (.free rfl rfl) rfl rfl (po_assign rfl rfl) ?_) <;> (refine sops_nil ?_))
                | ((refine swp_region (id := 10) ?_) <;> (refine sops_pure (.free rfl rfl) rfl rfl (po_move rfl rfl) ?_) <;> (first | refine sops_pure (.free rfl rfl) rfl rfl (po_inc rfl rfl rfl (by omega)) ?_ | refine sops_pure (.free rfl rfl) rfl rfl (po_arith rfl rfl rfl (ar_add (by first | rfl | (refine wrap_i64 ?_; omega)) rfl)) ?_) <;> (refine sops_pure (.free rfl rfl) rfl rfl (po_assign rfl rfl) ?_) <;> (refine sops_nil ?_))
                | refine swp_ret ?_
                | refine swp_skip ?_
                | refine swp_block ?_
                | refine swp_exit ?_
                | refine block_go ?_
                | refine block_exit ?_
                | refine block_far rfl ?_
                | refine block_ret ?_
                | refine then_ret ?_
                | refine then_exit ?_
                | refine for_ret ?_
                | refine for_exit ?_
                | refine ct ?_
                | refine cf ?_
                | refine swp_cond rfl (fun hc => ?_) (fun hc => ?_)
                | refine retq (by first | exact .inr rfl | exact .inl rfl) rfl (.tmp rfl (by first | exact .t _ | exact .own rfl (by first | rfl | assumption | (simp; done) | (simp; omega)) | exact .nil _ | exact .emp _ | exact .fn _) (.tmp rfl (by first | exact .t _ | exact .own rfl (by first | rfl | assumption | (simp; done) | (simp; omega)) | exact .nil _ | exact .emp _ | exact .fn _) .nil)) ?_)
            | false =>
              rw [ha] at c4
              obtain ⟨s1, s2⟩ := Pl.insOut_no hlt hp ha
              have s1' : (Pl.insOut rest d (k + 1)).map dueT = (Pl.insOut rest d k).map dueT ++ [dueT rest[k]] := by rw [s1, List.map_append]; rfl
              generalize (Pl.insOut rest d k).map dueT = F at *
              have g1 : (F.length + 1) * 24 ≤ 140737488355328 := by omega
              have g2 : F.length + 1 ≤ maxLen := by unfold maxLen; omega
              repeat' (first
                | refine then_go ?_
                | refine swp_seq ?_
                | refine for_next hlt (weak_sub (.cons rfl (by first | rfl | (simp only [s1', s2] <;> rfl)) rfl (.cons rfl (by first | rfl | (simp only [s1', s2] <;> rfl)) rfl (.cons rfl (by first | rfl | (simp only [s1', s2] <;> rfl)) rfl (.cons rfl (by first | rfl | (simp only [s1', s2] <;> rfl)) rfl (.cons rfl (by first | rfl | (simp only [s1', s2] <;> rfl)) rfl .nil))))) (.cons rfl (by first | rfl | (simp only [s1', s2] <;> rfl)) rfl .nil) (.cons rfl (by first | rfl | (simp only [s1', s2] <;> rfl)) .nil)) trivial
                | ((refine swp_region (id := 9) ?_) <;> (refine sops_pure (.free rfl rfl) rfl rfl (po_move rfl rfl) ?_) <;> (refine sops_pure (.free rfl rfl) rfl rfl (po_move rfl rfl) ?_) <;> (refine sops_pure (.free rfl rfl) rfl rfl (pln rfl (tyS rfl)) ?_) <;> (refine sops_pure (.free rfl rfl) rfl rfl (po_cmp rfl rfl rfl rfl) ?_) <;> (refine sops_nil ?_))
                | ((refine swp_draw_all (id := 11) mixed (by kernel_rfl) (by kernel_rfl) ?_) <;> (refine sdraw_pure (.free rfl rfl) rfl (po_move rfl rfl) ?_) <;> (refine sdraw_pure (.free rfl rfl) rfl (po_not rfl rfl) ?_) <;> (refine sdraw_pure (.free rfl rfl) rfl (po_move rfl rfl) ?_) <;> (first | refine sdraw_pure gy rfl (po_load_bx_agg rfl rfl (tyT rfl) rfl (vc (vc (vc .nil))) rfl) ?_ | refine sdraw_pure gy rfl (po_load_agg rfl rfl (tyT rfl) rfl rfl) ?_ | refine sdraw_skip gn1 rfl ?_ | ((refine sdraw_split rfl rfl rfl (fun hc => ?_) (fun hc => ?_)) <;> (first | refine sdraw_pure gy rfl (po_load_bx_agg rfl rfl (tyT rfl) rfl (vc (vc (vc .nil))) rfl) ?_ | refine sdraw_pure gy rfl (po_load_agg rfl rfl (tyT rfl) rfl rfl) ?_ | refine sdraw_skip gn1 rfl ?_))) <;> (first | refine sdraw_pure gy rfl (po_move rfl rfl) ?_ | refine sdraw_skip gn1 rfl ?_) <;> (first | refine sdraw_pure gy rfl (po_move rfl rfl) ?_ | refine sdraw_skip gn1 rfl ?_) <;> (first | refine sdraw_pure gy rfl (pix rfl (tyS rfl)) ?_ | refine sdraw_skip gn1 rfl ?_) <;> (first | refine sdraw_pure gy rfl (po_load_bx_agg rfl rfl (tyT rfl) rfl (vc (vc (vc .nil))) rfl) ?_ | refine sdraw_pure gy rfl (po_load_agg rfl rfl (tyT rfl) rfl rfl) ?_ | refine sdraw_skip gn1 rfl ?_) <;> (first | refine sdraw_pure gy rfl (po_call (c4) rfl (ac (ac .nil))) ?_ | refine sdraw_skip gn1 rfl ?_) <;> (first | refine sdraw_pure (.free rfl rfl) rfl (pkt rfl) ?_ | refine sdraw_pure (.free rfl rfl) rfl (pkf rfl) ?_) <;> (refine sdraw_nil ?_) <;> (refine sops_nil ?_))
                | ((refine swp_region (id := 14) ?_) <;> (refine sops_pure (.free rfl rfl) rfl rfl (po_move rfl rfl) ?_) <;> (refine sops_pure (.free rfl rfl) rfl rfl (po_move rfl rfl) ?_) <;> (refine sops_pure (.free rfl rfl) rfl rfl (po_move rfl rfl) ?_) <;> (refine sops_pure (.free rfl rfl) rfl rfl (pix rfl (tyS rfl)) ?_) <;> (first | refine sops_pure (.free rfl rfl) rfl rfl (po_load_bx_agg rfl rfl (tyT rfl) rfl (vc (vc (vc .nil))) rfl) ?_ | refine sops_pure (.free rfl rfl) rfl rfl (po_load_agg rfl rfl (tyT rfl) rfl rfl) ?_) <;> (refine sops_pure (.free rfl rfl) rfl rfl (po_buildSlice rfl (tyE rfl) (dc (.nil _)) rfl rfl rfl) ?_) <;> (first | refine sap rfl (tyE rfl) ?_ | refine san rfl (tyE rfl) ?_) <;> (refine sops_pure (.free rfl rfl) rfl rfl (po_assign rfl rfl) ?_) <;> (refine sops_nil ?_))
                | ((refine swp_region (id := 10) ?_) <;> (refine sops_pure (.free rfl rfl) rfl rfl (po_move rfl rfl) ?_) <;> (first | refine sops_pure (.free rfl rfl) rfl rfl (po_inc rfl rfl rfl (by omega)) ?_ | refine sops_pure (.free rfl rfl) rfl rfl (po_arith rfl rfl rfl (ar_add (by first | rfl | (refine wrap_i64 ?_; omega)) rfl)) ?_) <;> (refine sops_pure (.free rfl rfl) rfl rfl (po_assign rfl rfl) ?_) <;> (refine sops_nil ?_))
                | refine swp_ret ?_
                | refine swp_skip ?_
                | refine swp_block ?_
                | refine swp_exit ?_
                | refine block_go ?_
                | refine block_exit ?_
                | refine block_far rfl ?_
                | refine block_ret ?_
                | refine then_ret ?_
                | refine then_exit ?_
                | refine for_ret ?_
                | refine for_exit ?_
                | refine ct ?_
                | refine cf ?_
                | refine swp_cond rfl (fun hc => ?_) (fun hc => ?_)
                | refine retq (by first | exact .inr rfl | exact .inl rfl) rfl (.tmp rfl (by first | exact .t _ | exact .own rfl (by first | rfl | assumption | (simp; done) | (simp; omega)) | exact .nil _ | exact .emp _ | exact .fn _) (.tmp rfl (by first | exact .t _ | exact .own rfl (by first | rfl | assumption | (simp; done) | (simp; omega)) | exact .nil _ | exact .emp _ | exact .fn _) .nil)) ?_)
        · obtain rfl : k = rest.length := by omega
          have hend := Pl.insOut_end rest d
          rw [List.take_length]
          have hres : (if (true && true && decide (rest.length < 64)) = true then Pl.ins rest d else []) = Pl.ins rest d := by simp [h64]
          have hr2 : (if (true && true) = true then if rest.length < 64 then (0 : Int) else 3 else 1) = 0 := by simp [h64]
          rw [hres, hr2]
          cases hp : rest.any (Pl.ahead d) with
          | true =>
            rw [hp, if_pos rfl] at hend
            rw [← hend]
            repeat' (first
              | refine then_go ?_
              | refine swp_seq ?_
              | ((refine swp_region (id := 9) ?_) <;> (refine sops_pure (.free rfl rfl) rfl rfl (po_move rfl rfl) ?_) <;> (refine sops_pure (.free rfl rfl) rfl rfl (po_move rfl rfl) ?_) <;> (refine sops_pure (.free rfl rfl) rfl rfl (pln rfl (tyS rfl)) ?_) <;> (refine sops_pure (.free rfl rfl) rfl rfl (po_cmp rfl rfl rfl rfl) ?_) <;> (refine sops_nil ?_))
              | ((refine swp_region (id := 15) ?_) <;> (refine sops_pure (.free rfl rfl) rfl rfl (po_move rfl rfl) ?_) <;> (refine sops_pure (.free rfl rfl) rfl rfl (po_not rfl rfl) ?_) <;> (refine sops_nil ?_))
              | ((refine swp_region (id := 17) ?_) <;> (refine sops_pure (.free rfl rfl) rfl rfl (po_move rfl rfl) ?_) <;> (refine sops_pure (.free rfl rfl) rfl rfl (po_assign rfl rfl) ?_) <;> (refine sops_pure (.free rfl rfl) rfl rfl (po_assign rfl rfl) ?_) <;> (refine sops_nil ?_))
              | refine swp_ret ?_
              | refine swp_skip ?_
              | refine swp_block ?_
              | refine swp_exit ?_
              | refine block_go ?_
              | refine block_exit ?_
              | refine block_far rfl ?_
              | refine block_ret ?_
              | refine then_ret ?_
              | refine then_exit ?_
              | refine for_ret ?_
              | refine for_exit ?_
              | refine ct ?_
              | refine cf ?_
              | refine swp_cond rfl (fun hc => ?_) (fun hc => ?_)
              | refine retq (by first | exact .inr rfl | exact .inl rfl) rfl (.tmp rfl (by first | exact .t _ | exact .own rfl (by first | rfl | assumption | (simp; done) | (simp; omega)) | exact .nil _ | exact .emp _ | exact .fn _) (.tmp rfl (by first | exact .t _ | exact .own rfl (by first | rfl | assumption | (simp; done) | (simp; omega)) | exact .nil _ | exact .emp _ | exact .fn _) .nil)) ?_)
            rfl
          | false =>
            rw [hp, if_neg (by simp)] at hend
            rw [← hend]
            generalize hF : Pl.insOut rest d rest.length = F at *
            have g1 : ((F.map dueT).length + 1) * 24 ≤ 140737488355328 := by omega
            have g2 : (F.map dueT).length + 1 ≤ maxLen := by unfold maxLen; omega
            repeat' (first
              | refine then_go ?_
              | refine swp_seq ?_
              | ((refine swp_region (id := 9) ?_) <;> (refine sops_pure (.free rfl rfl) rfl rfl (po_move rfl rfl) ?_) <;> (refine sops_pure (.free rfl rfl) rfl rfl (po_move rfl rfl) ?_) <;> (refine sops_pure (.free rfl rfl) rfl rfl (pln rfl (tyS rfl)) ?_) <;> (refine sops_pure (.free rfl rfl) rfl rfl (po_cmp rfl rfl rfl rfl) ?_) <;> (refine sops_nil ?_))
              | ((refine swp_region (id := 15) ?_) <;> (refine sops_pure (.free rfl rfl) rfl rfl (po_move rfl rfl) ?_) <;> (refine sops_pure (.free rfl rfl) rfl rfl (po_not rfl rfl) ?_) <;> (refine sops_nil ?_))
              | ((refine swp_region (id := 16) ?_) <;> (refine sops_pure (.free rfl rfl) rfl rfl (po_move rfl rfl) ?_) <;> (first | refine sops_pure (.free rfl rfl) rfl rfl (po_load_bx_agg rfl rfl (tyT rfl) rfl (vc (vc (vc .nil))) rfl) ?_ | refine sops_pure (.free rfl rfl) rfl rfl (po_load_agg rfl rfl (tyT rfl) rfl rfl) ?_) <;> (refine sops_pure (.free rfl rfl) rfl rfl (po_buildSlice rfl (tyE rfl) (dc (.nil _)) rfl rfl rfl) ?_) <;> (first | refine sap rfl (tyE rfl) ?_ | refine san rfl (tyE rfl) ?_) <;> (refine sops_pure (.free rfl rfl) rfl rfl (po_assign rfl rfl) ?_) <;> (refine sops_nil ?_))
              | ((refine swp_region (id := 17) ?_) <;> (refine sops_pure (.free rfl rfl) rfl rfl (po_move rfl rfl) ?_) <;> (refine sops_pure (.free rfl rfl) rfl rfl (po_assign rfl rfl) ?_) <;> (refine sops_pure (.free rfl rfl) rfl rfl (po_assign rfl rfl) ?_) <;> (refine sops_nil ?_))
              | refine swp_ret ?_
              | refine swp_skip ?_
              | refine swp_block ?_
              | refine swp_exit ?_
              | refine block_go ?_
              | refine block_exit ?_
              | refine block_far rfl ?_
              | refine block_ret ?_
              | refine then_ret ?_
              | refine then_exit ?_
              | refine for_ret ?_
              | refine for_exit ?_
              | refine ct ?_
              | refine cf ?_
              | refine swp_cond rfl (fun hc => ?_) (fun hc => ?_)
              | refine retq (by first | exact .inr rfl | exact .inl rfl) rfl (.tmp rfl (by first | exact .t _ | exact .own rfl (by first | rfl | assumption | (simp; done) | (simp; omega)) | exact .nil _ | exact .emp _ | exact .fn _) (.tmp rfl (by first | exact .t _ | exact .own rfl (by first | rfl | assumption | (simp; done) | (simp; omega)) | exact .nil _ | exact .emp _ | exact .fn _) .nil)) ?_)
            simp [resT]
            rfl
      · have e1 : decide ((rest.map dueT).length ≥ 64) = true := by rw [hmr]; simp; omega
        repeat' (first
          | refine then_go ?_
          | refine swp_seq ?_
          | refine retq (.inr rfl) rfl (.tmp rfl (.nil 3) (.tmp rfl (.t _) .nil)) ?_
          | ((refine swp_region (id := 0) ?_) <;> (refine sops_box (.free rfl rfl) rfl rfl rfl rfl rfl rfl ?_) <;> (refine sops_pure (.free rfl rfl) rfl rfl (po_assign rfl rfl) ?_) <;> (refine sops_pure (.free rfl rfl) rfl rfl (po_assign rfl rfl) ?_) <;> (refine sops_nil ?_))
          | ((refine swp_region (id := 1) ?_) <;> (refine sops_pure (.free rfl rfl) rfl rfl (po_move rfl rfl) ?_) <;> (first | refine sops_pure (.free rfl rfl) rfl rfl (po_call (c1) rfl (ac .nil)) ?_ | refine sops_pure (.free rfl rfl) rfl rfl (po_call (c2) rfl (ac .nil)) ?_ | refine sops_pure (.free rfl rfl) rfl rfl (po_call (c3) rfl (ac .nil)) ?_) <;> (refine sops_pure (.free rfl rfl) rfl rfl (po_not rfl rfl) ?_) <;> (refine sops_pure (.free rfl rfl) rfl rfl (po_move rfl rfl) ?_) <;> (first | refine sops_pure gy rfl rfl (po_load_bx_agg rfl rfl (tyT rfl) rfl (vc (vc (vc .nil))) rfl) ?_ | refine sops_pure gy rfl rfl (po_load_agg rfl rfl (tyT rfl) rfl rfl) ?_ | refine sops_skip gn0 rfl rfl ?_ | ((refine sops_split rfl rfl rfl (fun hc => ?_) (fun hc => ?_)) <;> (first | refine sops_pure gy rfl rfl (po_load_bx_agg rfl rfl (tyT rfl) rfl (vc (vc (vc .nil))) rfl) ?_ | refine sops_pure gy rfl rfl (po_load_agg rfl rfl (tyT rfl) rfl rfl) ?_ | refine sops_skip gn0 rfl rfl ?_))) <;> (first | refine sops_pure gy rfl rfl (po_call (c1) rfl (ac .nil)) ?_ | refine sops_pure gy rfl rfl (po_call (c2) rfl (ac .nil)) ?_ | refine sops_pure gy rfl rfl (po_call (c3) rfl (ac .nil)) ?_ | refine sops_skip gn0 rfl rfl ?_) <;> (first | refine sops_pure gy rfl rfl (po_not rfl rfl) ?_ | refine sops_skip gn0 rfl rfl ?_) <;> (first | refine sops_pure (.free rfl rfl) rfl rfl (pkt rfl) ?_ | refine sops_pure (.free rfl rfl) rfl rfl (pkf rfl) ?_) <;> (refine sops_nil ?_))
          | ((refine swp_region (id := 3) ?_) <;> (refine sops_pure (.free rfl rfl) rfl rfl (po_move rfl rfl) ?_) <;> (first | refine sops_pure (.free rfl rfl) rfl rfl (po_field_bx rfl rfl (tyF rfl)) ?_ | refine sops_pure (.free rfl rfl) rfl rfl (po_field rfl rfl (tyF rfl)) ?_) <;> (first | refine sops_pure (.free rfl rfl) rfl rfl (po_load_bx rfl rfl (tyT rfl) rfl rfl) ?_ | refine sops_pure (.free rfl rfl) rfl rfl (po_load rfl rfl (tyT rfl) rfl) ?_) <;> (first | refine sops_pure (.free rfl rfl) rfl rfl (po_field_bx rfl rfl (tyF rfl)) ?_ | refine sops_pure (.free rfl rfl) rfl rfl (po_field rfl rfl (tyF rfl)) ?_) <;> (first | refine sops_pure (.free rfl rfl) rfl rfl (po_load_bx rfl rfl (tyT rfl) rfl rfl) ?_ | refine sops_pure (.free rfl rfl) rfl rfl (po_load rfl rfl (tyT rfl) rfl) ?_) <;> (first | refine sops_pure (.free rfl rfl) rfl rfl (po_call (c1) rfl (ac (ac (ac .nil)))) ?_ | refine sops_pure (.free rfl rfl) rfl rfl (po_call (c2) rfl (ac (ac (ac .nil)))) ?_ | refine sops_pure (.free rfl rfl) rfl rfl (po_call (c3) rfl (ac (ac (ac .nil)))) ?_) <;> (refine sops_pure (.free rfl rfl) rfl rfl (po_assign rfl rfl) ?_) <;> (refine sops_nil ?_))
          | ((refine swp_region (id := 4) ?_) <;> (refine sops_pure (.free rfl rfl) rfl rfl (po_move rfl rfl) ?_) <;> (refine sops_pure (.free rfl rfl) rfl rfl (pln rfl (tyS rfl)) ?_) <;> (refine sops_pure (.free rfl rfl) rfl rfl (po_cmp rfl rfl rfl rfl) ?_) <;> (refine sops_nil ?_))
          | ((refine swp_region (id := 5) ?_) <;> (refine sops_pure (.free rfl rfl) rfl rfl (po_assign rfl rfl) ?_) <;> (refine sops_pure (.free rfl rfl) rfl rfl (po_assign rfl rfl) ?_) <;> (refine sops_nil ?_))
          | refine swp_ret ?_
          | refine swp_skip ?_
          | refine swp_block ?_
          | refine swp_exit ?_
          | refine block_go ?_
          | refine block_exit ?_
          | refine block_far rfl ?_
          | refine block_ret ?_
          | refine then_ret ?_
          | refine then_exit ?_
          | refine for_ret ?_
          | refine for_exit ?_
          | refine ct ?_
          | refine cf ?_
          | refine swp_cond rfl (fun hc => ?_) (fun hc => ?_)
          | refine retq (by first | exact .inr rfl | exact .inl rfl) rfl (.tmp rfl (by first | exact .t _ | exact .own rfl (by first | rfl | assumption | (simp; done) | (simp; omega)) | exact .nil _ | exact .emp _ | exact .fn _) (.tmp rfl (by first | exact .t _ | exact .own rfl (by first | rfl | assumption | (simp; done) | (simp; omega)) | exact .nil _ | exact .emp _ | exact .fn _) .nil)) ?_)
        simp [resT, h64]
set_option maxRecDepth 100000 in
set_option maxHeartbeats 2000000 in
theorem rSooner (l : List Pl.Due) (d : Pl.Due) (hl : l.length ≤ 1000) : PCalls Try.prog 17 [duesT l, .agg (dueT d)] (.tup [duesT (Pl.soonL l d), .v (.int .i64 (Pl.addErr l d))]) := by
  have c1 := rAdd l d hl
  have c2 := rFind l d.kind d.key (by omega)
  have hml : (l.map dueT).length = l.length := List.length_map _
  have hs : Pl.soonL l d = if Pl.soonB l d then l else Pl.addL l d := rfl
  rw [hs, Pl.soon_ref]
  clear hs
  generalize Pl.addL l d = al at *
  generalize Pl.addErr l d = ae at *
  have g1 : (([] : List (List T)).length + (l.map dueT).length) * 24 ≤ 140737488355328 := by simp; omega
  have g2 : (([] : List (List T)).length + (l.map dueT).length) ≤ maxLen := by unfold maxLen; simp; omega
  refine pcalls_of Try.func17 rfl rfl Try.ntmps17 rfl ?_
  cases hf : Pl.findL l d.kind d.key with
  | none =>
    rw [hf] at c2
    unfold findT at c2
    dsimp only at c2
    by_cases h0 : ae = 0
    · have e1 : decide (ae = 0) = true := by simp [h0]
      repeat' (first
        | refine then_go ?_
        | refine swp_seq ?_
        | ((refine swp_region (id := 0) ?_) <;> (refine sops_box (.free rfl rfl) rfl rfl rfl rfl rfl rfl ?_) <;> (refine sops_pure (.free rfl rfl) rfl rfl (po_assign rfl rfl) ?_) <;> (refine sops_pure (.free rfl rfl) rfl rfl (po_assign rfl rfl) ?_) <;> (refine sops_nil ?_))
        | ((refine swp_region (id := 1) ?_) <;> (refine sops_pure (.free rfl rfl) rfl rfl (po_move rfl rfl) ?_) <;> (first | refine sops_pure (.free rfl rfl) rfl rfl (po_load_bx_agg rfl rfl (tyT rfl) rfl (vc (vc (vc .nil))) rfl) ?_ | refine sops_pure (.free rfl rfl) rfl rfl (po_load_agg rfl rfl (tyT rfl) rfl rfl) ?_) <;> (first | refine sops_pure (.free rfl rfl) rfl rfl (po_call (c1) rfl (ac (ac .nil))) ?_ | refine sops_pure (.free rfl rfl) rfl rfl (po_call (c2) rfl (ac (ac .nil))) ?_) <;> (refine sops_pure (.free rfl rfl) rfl rfl (po_move rfl rfl) ?_) <;> (refine sops_pure (.free rfl rfl) rfl rfl (po_extract rfl rfl rfl) ?_) <;> (refine sops_pure (.free rfl rfl) rfl rfl (po_extract rfl rfl rfl) ?_) <;> (refine sops_pure (.free rfl rfl) rfl rfl (po_assign rfl rfl) ?_) <;> (refine sops_pure (.free rfl rfl) rfl rfl (po_assign rfl rfl) ?_) <;> (refine sops_nil ?_))
        | ((refine swp_region (id := 2) ?_) <;> (refine sops_pure (.free rfl rfl) rfl rfl (po_move rfl rfl) ?_) <;> (first | refine sops_pure (.free rfl rfl) rfl rfl (po_field_bx rfl rfl (tyF rfl)) ?_ | refine sops_pure (.free rfl rfl) rfl rfl (po_field rfl rfl (tyF rfl)) ?_) <;> (first | refine sops_pure (.free rfl rfl) rfl rfl (po_load_bx rfl rfl (tyT rfl) rfl rfl) ?_ | refine sops_pure (.free rfl rfl) rfl rfl (po_load rfl rfl (tyT rfl) rfl) ?_) <;> (first | refine sops_pure (.free rfl rfl) rfl rfl (po_field_bx rfl rfl (tyF rfl)) ?_ | refine sops_pure (.free rfl rfl) rfl rfl (po_field rfl rfl (tyF rfl)) ?_) <;> (first | refine sops_pure (.free rfl rfl) rfl rfl (po_load_bx rfl rfl (tyT rfl) rfl rfl) ?_ | refine sops_pure (.free rfl rfl) rfl rfl (po_load rfl rfl (tyT rfl) rfl) ?_) <;> (first | refine sops_pure (.free rfl rfl) rfl rfl (po_call (c1) rfl (ac (ac (ac .nil)))) ?_ | refine sops_pure (.free rfl rfl) rfl rfl (po_call (c2) rfl (ac (ac (ac .nil)))) ?_) <;> (refine sops_pure (.free rfl rfl) rfl rfl (po_move rfl rfl) ?_) <;> (refine sops_pure (.free rfl rfl) rfl rfl (po_extract rfl rfl rfl) ?_) <;> (refine sops_pure (.free rfl rfl) rfl rfl (po_extract rfl rfl rfl) ?_) <;> (refine sops_pure (.free rfl rfl) rfl rfl (po_assign rfl rfl) ?_) <;> (refine sops_pure (.free rfl rfl) rfl rfl (po_assign rfl rfl) ?_) <;> (refine sops_nil ?_))
        | ((refine swp_region (id := 3) ?_) <;> (refine sops_pure (.free rfl rfl) rfl rfl (po_move rfl rfl) ?_) <;> (refine sops_pure (.free rfl rfl) rfl rfl (po_cmp rfl rfl rfl rfl) ?_) <;> (refine sops_pure (.free rfl rfl) rfl rfl (po_move rfl rfl) ?_) <;> (first | refine sops_pure gy rfl rfl (po_move rfl rfl) ?_ | refine sops_skip gn1 rfl rfl ?_ | ((refine sops_split rfl rfl rfl (fun hc => ?_) (fun hc => ?_)) <;> (first | refine sops_pure gy rfl rfl (po_move rfl rfl) ?_ | refine sops_skip gn1 rfl rfl ?_))) <;> (first | refine sops_pure (.free rfl rfl) rfl rfl (pkt rfl) ?_ | refine sops_pure (.free rfl rfl) rfl rfl (pkf rfl) ?_) <;> (refine sops_pure (.free rfl rfl) rfl rfl (po_move rfl rfl) ?_) <;> (first | refine sops_pure gy rfl rfl (po_move rfl rfl) ?_ | refine sops_skip gn1 rfl rfl ?_ | ((refine sops_split rfl rfl rfl (fun hc => ?_) (fun hc => ?_)) <;> (first | refine sops_pure gy rfl rfl (po_move rfl rfl) ?_ | refine sops_skip gn1 rfl rfl ?_))) <;> (first | refine sops_pure gy rfl rfl (po_field_bx rfl rfl (tyF rfl)) ?_ | refine sops_pure gy rfl rfl (po_field rfl rfl (tyF rfl)) ?_ | refine sops_skip gn1 rfl rfl ?_) <;> (first | refine sops_pure gy rfl rfl (po_load_bx rfl rfl (tyT rfl) rfl rfl) ?_ | refine sops_pure gy rfl rfl (po_load rfl rfl (tyT rfl) rfl) ?_ | refine sops_skip gn1 rfl rfl ?_) <;> (first | refine sops_pure gy rfl rfl (po_cmp rfl rfl rfl rfl) ?_ | refine sops_skip gn1 rfl rfl ?_) <;> (first | refine sops_pure (.free rfl rfl) rfl rfl (pkt rfl) ?_ | refine sops_pure (.free rfl rfl) rfl rfl (pkf rfl) ?_) <;> (refine sops_nil ?_))
        | ((refine swp_region (id := 5) ?_) <;> (refine sops_pure (.free rfl rfl) rfl rfl (po_move rfl rfl) ?_) <;> (refine sops_pure (.free rfl rfl) rfl rfl (po_move rfl rfl) ?_) <;> (refine sops_pure (.free rfl rfl) rfl rfl (po_assign rfl rfl) ?_) <;> (refine sops_pure (.free rfl rfl) rfl rfl (po_assign rfl rfl) ?_) <;> (refine sops_nil ?_))
        | refine swp_ret ?_
        | refine swp_skip ?_
        | refine swp_block ?_
        | refine swp_exit ?_
        | refine block_go ?_
        | refine block_exit ?_
        | refine block_far rfl ?_
        | refine block_ret ?_
        | refine then_ret ?_
        | refine then_exit ?_
        | refine for_ret ?_
        | refine for_exit ?_
        | refine ct ?_
        | refine cf ?_
        | refine swp_cond rfl (fun hc => ?_) (fun hc => ?_)
        | refine retq (by first | exact .inr rfl | exact .inl rfl) rfl (.tmp rfl (by first | exact .t _ | exact .own rfl (by first | rfl | assumption | (simp; done) | (simp; omega)) | exact .nil _ | exact .emp _ | exact .fn _) (.tmp rfl (by first | exact .t _ | exact .own rfl (by first | rfl | assumption | (simp; done) | (simp; omega)) | exact .nil _ | exact .emp _ | exact .fn _) .nil)) ?_)
      simp [resT]
    · have e1 : decide (ae = 0) = false := by simp [h0]
      repeat' (first
        | refine then_go ?_
        | refine swp_seq ?_
        | ((refine swp_region (id := 0) ?_) <;> (refine sops_box (.free rfl rfl) rfl rfl rfl rfl rfl rfl ?_) <;> (refine sops_pure (.free rfl rfl) rfl rfl (po_assign rfl rfl) ?_) <;> (refine sops_pure (.free rfl rfl) rfl rfl (po_assign rfl rfl) ?_) <;> (refine sops_nil ?_))
        | ((refine swp_region (id := 1) ?_) <;> (refine sops_pure (.free rfl rfl) rfl rfl (po_move rfl rfl) ?_) <;> (first | refine sops_pure (.free rfl rfl) rfl rfl (po_load_bx_agg rfl rfl (tyT rfl) rfl (vc (vc (vc .nil))) rfl) ?_ | refine sops_pure (.free rfl rfl) rfl rfl (po_load_agg rfl rfl (tyT rfl) rfl rfl) ?_) <;> (first | refine sops_pure (.free rfl rfl) rfl rfl (po_call (c1) rfl (ac (ac .nil))) ?_ | refine sops_pure (.free rfl rfl) rfl rfl (po_call (c2) rfl (ac (ac .nil))) ?_) <;> (refine sops_pure (.free rfl rfl) rfl rfl (po_move rfl rfl) ?_) <;> (refine sops_pure (.free rfl rfl) rfl rfl (po_extract rfl rfl rfl) ?_) <;> (refine sops_pure (.free rfl rfl) rfl rfl (po_extract rfl rfl rfl) ?_) <;> (refine sops_pure (.free rfl rfl) rfl rfl (po_assign rfl rfl) ?_) <;> (refine sops_pure (.free rfl rfl) rfl rfl (po_assign rfl rfl) ?_) <;> (refine sops_nil ?_))
        | ((refine swp_region (id := 2) ?_) <;> (refine sops_pure (.free rfl rfl) rfl rfl (po_move rfl rfl) ?_) <;> (first | refine sops_pure (.free rfl rfl) rfl rfl (po_field_bx rfl rfl (tyF rfl)) ?_ | refine sops_pure (.free rfl rfl) rfl rfl (po_field rfl rfl (tyF rfl)) ?_) <;> (first | refine sops_pure (.free rfl rfl) rfl rfl (po_load_bx rfl rfl (tyT rfl) rfl rfl) ?_ | refine sops_pure (.free rfl rfl) rfl rfl (po_load rfl rfl (tyT rfl) rfl) ?_) <;> (first | refine sops_pure (.free rfl rfl) rfl rfl (po_field_bx rfl rfl (tyF rfl)) ?_ | refine sops_pure (.free rfl rfl) rfl rfl (po_field rfl rfl (tyF rfl)) ?_) <;> (first | refine sops_pure (.free rfl rfl) rfl rfl (po_load_bx rfl rfl (tyT rfl) rfl rfl) ?_ | refine sops_pure (.free rfl rfl) rfl rfl (po_load rfl rfl (tyT rfl) rfl) ?_) <;> (first | refine sops_pure (.free rfl rfl) rfl rfl (po_call (c1) rfl (ac (ac (ac .nil)))) ?_ | refine sops_pure (.free rfl rfl) rfl rfl (po_call (c2) rfl (ac (ac (ac .nil)))) ?_) <;> (refine sops_pure (.free rfl rfl) rfl rfl (po_move rfl rfl) ?_) <;> (refine sops_pure (.free rfl rfl) rfl rfl (po_extract rfl rfl rfl) ?_) <;> (refine sops_pure (.free rfl rfl) rfl rfl (po_extract rfl rfl rfl) ?_) <;> (refine sops_pure (.free rfl rfl) rfl rfl (po_assign rfl rfl) ?_) <;> (refine sops_pure (.free rfl rfl) rfl rfl (po_assign rfl rfl) ?_) <;> (refine sops_nil ?_))
        | ((refine swp_region (id := 3) ?_) <;> (refine sops_pure (.free rfl rfl) rfl rfl (po_move rfl rfl) ?_) <;> (refine sops_pure (.free rfl rfl) rfl rfl (po_cmp rfl rfl rfl rfl) ?_) <;> (refine sops_pure (.free rfl rfl) rfl rfl (po_move rfl rfl) ?_) <;> (first | refine sops_pure gy rfl rfl (po_move rfl rfl) ?_ | refine sops_skip gn1 rfl rfl ?_ | ((refine sops_split rfl rfl rfl (fun hc => ?_) (fun hc => ?_)) <;> (first | refine sops_pure gy rfl rfl (po_move rfl rfl) ?_ | refine sops_skip gn1 rfl rfl ?_))) <;> (first | refine sops_pure (.free rfl rfl) rfl rfl (pkt rfl) ?_ | refine sops_pure (.free rfl rfl) rfl rfl (pkf rfl) ?_) <;> (refine sops_pure (.free rfl rfl) rfl rfl (po_move rfl rfl) ?_) <;> (first | refine sops_pure gy rfl rfl (po_move rfl rfl) ?_ | refine sops_skip gn1 rfl rfl ?_ | ((refine sops_split rfl rfl rfl (fun hc => ?_) (fun hc => ?_)) <;> (first | refine sops_pure gy rfl rfl (po_move rfl rfl) ?_ | refine sops_skip gn1 rfl rfl ?_))) <;> (first | refine sops_pure gy rfl rfl (po_field_bx rfl rfl (tyF rfl)) ?_ | refine sops_pure gy rfl rfl (po_field rfl rfl (tyF rfl)) ?_ | refine sops_skip gn1 rfl rfl ?_) <;> (first | refine sops_pure gy rfl rfl (po_load_bx rfl rfl (tyT rfl) rfl rfl) ?_ | refine sops_pure gy rfl rfl (po_load rfl rfl (tyT rfl) rfl) ?_ | refine sops_skip gn1 rfl rfl ?_) <;> (first | refine sops_pure gy rfl rfl (po_cmp rfl rfl rfl rfl) ?_ | refine sops_skip gn1 rfl rfl ?_) <;> (first | refine sops_pure (.free rfl rfl) rfl rfl (pkt rfl) ?_ | refine sops_pure (.free rfl rfl) rfl rfl (pkf rfl) ?_) <;> (refine sops_nil ?_))
        | ((refine swp_region (id := 5) ?_) <;> (refine sops_pure (.free rfl rfl) rfl rfl (po_move rfl rfl) ?_) <;> (refine sops_pure (.free rfl rfl) rfl rfl (po_move rfl rfl) ?_) <;> (refine sops_pure (.free rfl rfl) rfl rfl (po_assign rfl rfl) ?_) <;> (refine sops_pure (.free rfl rfl) rfl rfl (po_assign rfl rfl) ?_) <;> (refine sops_nil ?_))
        | refine swp_ret ?_
        | refine swp_skip ?_
        | refine swp_block ?_
        | refine swp_exit ?_
        | refine block_go ?_
        | refine block_exit ?_
        | refine block_far rfl ?_
        | refine block_ret ?_
        | refine then_ret ?_
        | refine then_exit ?_
        | refine for_ret ?_
        | refine for_exit ?_
        | refine ct ?_
        | refine cf ?_
        | refine swp_cond rfl (fun hc => ?_) (fun hc => ?_)
        | refine retq (by first | exact .inr rfl | exact .inl rfl) rfl (.tmp rfl (by first | exact .t _ | exact .own rfl (by first | rfl | assumption | (simp; done) | (simp; omega)) | exact .nil _ | exact .emp _ | exact .fn _) (.tmp rfl (by first | exact .t _ | exact .own rfl (by first | rfl | assumption | (simp; done) | (simp; omega)) | exact .nil _ | exact .emp _ | exact .fn _) .nil)) ?_)
      simp [resT]
  | some x =>
    rw [hf] at c2
    unfold findT at c2
    dsimp only at c2
    by_cases h0 : ae = 0
    · have e1 : decide (ae = 0) = true := by simp [h0]
      by_cases h1 : x.at_ ≤ d.at_
      · have e2 : decide (x.at_ ≤ d.at_) = true := by simp [h1]
        repeat' (first
          | refine then_go ?_
          | refine swp_seq ?_
          | ((refine swp_region (id := 0) ?_) <;> (refine sops_box (.free rfl rfl) rfl rfl rfl rfl rfl rfl ?_) <;> (refine sops_pure (.free rfl rfl) rfl rfl (po_assign rfl rfl) ?_) <;> (refine sops_pure (.free rfl rfl) rfl rfl (po_assign rfl rfl) ?_) <;> (refine sops_nil ?_))
          | ((refine swp_region (id := 1) ?_) <;> (refine sops_pure (.free rfl rfl) rfl rfl (po_move rfl rfl) ?_) <;> (first | refine sops_pure (.free rfl rfl) rfl rfl (po_load_bx_agg rfl rfl (tyT rfl) rfl (vc (vc (vc .nil))) rfl) ?_ | refine sops_pure (.free rfl rfl) rfl rfl (po_load_agg rfl rfl (tyT rfl) rfl rfl) ?_) <;> (first | refine sops_pure (.free rfl rfl) rfl rfl (po_call (c1) rfl (ac (ac .nil))) ?_ | refine sops_pure (.free rfl rfl) rfl rfl (po_call (c2) rfl (ac (ac .nil))) ?_) <;> (refine sops_pure (.free rfl rfl) rfl rfl (po_move rfl rfl) ?_) <;> (refine sops_pure (.free rfl rfl) rfl rfl (po_extract rfl rfl rfl) ?_) <;> (refine sops_pure (.free rfl rfl) rfl rfl (po_extract rfl rfl rfl) ?_) <;> (refine sops_pure (.free rfl rfl) rfl rfl (po_assign rfl rfl) ?_) <;> (refine sops_pure (.free rfl rfl) rfl rfl (po_assign rfl rfl) ?_) <;> (refine sops_nil ?_))
          | ((refine swp_region (id := 2) ?_) <;> (refine sops_pure (.free rfl rfl) rfl rfl (po_move rfl rfl) ?_) <;> (first | refine sops_pure (.free rfl rfl) rfl rfl (po_field_bx rfl rfl (tyF rfl)) ?_ | refine sops_pure (.free rfl rfl) rfl rfl (po_field rfl rfl (tyF rfl)) ?_) <;> (first | refine sops_pure (.free rfl rfl) rfl rfl (po_load_bx rfl rfl (tyT rfl) rfl rfl) ?_ | refine sops_pure (.free rfl rfl) rfl rfl (po_load rfl rfl (tyT rfl) rfl) ?_) <;> (first | refine sops_pure (.free rfl rfl) rfl rfl (po_field_bx rfl rfl (tyF rfl)) ?_ | refine sops_pure (.free rfl rfl) rfl rfl (po_field rfl rfl (tyF rfl)) ?_) <;> (first | refine sops_pure (.free rfl rfl) rfl rfl (po_load_bx rfl rfl (tyT rfl) rfl rfl) ?_ | refine sops_pure (.free rfl rfl) rfl rfl (po_load rfl rfl (tyT rfl) rfl) ?_) <;> (first | refine sops_pure (.free rfl rfl) rfl rfl (po_call (c1) rfl (ac (ac (ac .nil)))) ?_ | refine sops_pure (.free rfl rfl) rfl rfl (po_call (c2) rfl (ac (ac (ac .nil)))) ?_) <;> (refine sops_pure (.free rfl rfl) rfl rfl (po_move rfl rfl) ?_) <;> (refine sops_pure (.free rfl rfl) rfl rfl (po_extract rfl rfl rfl) ?_) <;> (refine sops_pure (.free rfl rfl) rfl rfl (po_extract rfl rfl rfl) ?_) <;> (refine sops_pure (.free rfl rfl) rfl rfl (po_assign rfl rfl) ?_) <;> (refine sops_pure (.free rfl rfl) rfl rfl (po_assign rfl rfl) ?_) <;> (refine sops_nil ?_))
          | ((refine swp_region (id := 3) ?_) <;> (refine sops_pure (.free rfl rfl) rfl rfl (po_move rfl rfl) ?_) <;> (refine sops_pure (.free rfl rfl) rfl rfl (po_cmp rfl rfl rfl rfl) ?_) <;> (refine sops_pure (.free rfl rfl) rfl rfl (po_move rfl rfl) ?_) <;> (first | refine sops_pure gy rfl rfl (po_move rfl rfl) ?_ | refine sops_skip gn1 rfl rfl ?_ | ((refine sops_split rfl rfl rfl (fun hc => ?_) (fun hc => ?_)) <;> (first | refine sops_pure gy rfl rfl (po_move rfl rfl) ?_ | refine sops_skip gn1 rfl rfl ?_))) <;> (first | refine sops_pure (.free rfl rfl) rfl rfl (pkt rfl) ?_ | refine sops_pure (.free rfl rfl) rfl rfl (pkf rfl) ?_) <;> (refine sops_pure (.free rfl rfl) rfl rfl (po_move rfl rfl) ?_) <;> (first | refine sops_pure gy rfl rfl (po_move rfl rfl) ?_ | refine sops_skip gn1 rfl rfl ?_ | ((refine sops_split rfl rfl rfl (fun hc => ?_) (fun hc => ?_)) <;> (first | refine sops_pure gy rfl rfl (po_move rfl rfl) ?_ | refine sops_skip gn1 rfl rfl ?_))) <;> (first | refine sops_pure gy rfl rfl (po_field_bx rfl rfl (tyF rfl)) ?_ | refine sops_pure gy rfl rfl (po_field rfl rfl (tyF rfl)) ?_ | refine sops_skip gn1 rfl rfl ?_) <;> (first | refine sops_pure gy rfl rfl (po_load_bx rfl rfl (tyT rfl) rfl rfl) ?_ | refine sops_pure gy rfl rfl (po_load rfl rfl (tyT rfl) rfl) ?_ | refine sops_skip gn1 rfl rfl ?_) <;> (first | refine sops_pure gy rfl rfl (po_cmp rfl rfl rfl rfl) ?_ | refine sops_skip gn1 rfl rfl ?_) <;> (first | refine sops_pure (.free rfl rfl) rfl rfl (pkt rfl) ?_ | refine sops_pure (.free rfl rfl) rfl rfl (pkf rfl) ?_) <;> (refine sops_nil ?_))
          | ((refine swp_region (id := 4) ?_) <;> (refine sops_build0 (.free rfl rfl) rfl rfl rfl (tyE rfl) rfl ?_) <;> (refine sops_pure (.free rfl rfl) rfl rfl (po_move rfl rfl) ?_) <;> (first | refine sap rfl (tyE rfl) ?_ | refine san rfl (tyE rfl) ?_) <;> (refine sops_pure (.free rfl rfl) rfl rfl (po_assign rfl rfl) ?_) <;> (refine sops_pure (.free rfl rfl) rfl rfl (po_assign rfl rfl) ?_) <;> (refine sops_nil ?_))
          | refine swp_ret ?_
          | refine swp_skip ?_
          | refine swp_block ?_
          | refine swp_exit ?_
          | refine block_go ?_
          | refine block_exit ?_
          | refine block_far rfl ?_
          | refine block_ret ?_
          | refine then_ret ?_
          | refine then_exit ?_
          | refine for_ret ?_
          | refine for_exit ?_
          | refine ct ?_
          | refine cf ?_
          | refine swp_cond rfl (fun hc => ?_) (fun hc => ?_)
          | refine retq (by first | exact .inr rfl | exact .inl rfl) rfl (.tmp rfl (by first | exact .t _ | exact .own rfl (by first | rfl | assumption | (simp; done) | (simp; omega)) | exact .nil _ | exact .emp _ | exact .fn _) (.tmp rfl (by first | exact .t _ | exact .own rfl (by first | rfl | assumption | (simp; done) | (simp; omega)) | exact .nil _ | exact .emp _ | exact .fn _) .nil)) ?_)
        simp [resT, h0, h1]
      · have e2 : decide (x.at_ ≤ d.at_) = false := by simp [h1]
        repeat' (first
          | refine then_go ?_
          | refine swp_seq ?_
          | ((refine swp_region (id := 0) ?_) <;> (refine sops_box (.free rfl rfl) rfl rfl rfl rfl rfl rfl ?_) <;> (refine sops_pure (.free rfl rfl) rfl rfl (po_assign rfl rfl) ?_) <;> (refine sops_pure (.free rfl rfl) rfl rfl (po_assign rfl rfl) ?_) <;> (refine sops_nil ?_))
          | ((refine swp_region (id := 1) ?_) <;> (refine sops_pure (.free rfl rfl) rfl rfl (po_move rfl rfl) ?_) <;> (first | refine sops_pure (.free rfl rfl) rfl rfl (po_load_bx_agg rfl rfl (tyT rfl) rfl (vc (vc (vc .nil))) rfl) ?_ | refine sops_pure (.free rfl rfl) rfl rfl (po_load_agg rfl rfl (tyT rfl) rfl rfl) ?_) <;> (first | refine sops_pure (.free rfl rfl) rfl rfl (po_call (c1) rfl (ac (ac .nil))) ?_ | refine sops_pure (.free rfl rfl) rfl rfl (po_call (c2) rfl (ac (ac .nil))) ?_) <;> (refine sops_pure (.free rfl rfl) rfl rfl (po_move rfl rfl) ?_) <;> (refine sops_pure (.free rfl rfl) rfl rfl (po_extract rfl rfl rfl) ?_) <;> (refine sops_pure (.free rfl rfl) rfl rfl (po_extract rfl rfl rfl) ?_) <;> (refine sops_pure (.free rfl rfl) rfl rfl (po_assign rfl rfl) ?_) <;> (refine sops_pure (.free rfl rfl) rfl rfl (po_assign rfl rfl) ?_) <;> (refine sops_nil ?_))
          | ((refine swp_region (id := 2) ?_) <;> (refine sops_pure (.free rfl rfl) rfl rfl (po_move rfl rfl) ?_) <;> (first | refine sops_pure (.free rfl rfl) rfl rfl (po_field_bx rfl rfl (tyF rfl)) ?_ | refine sops_pure (.free rfl rfl) rfl rfl (po_field rfl rfl (tyF rfl)) ?_) <;> (first | refine sops_pure (.free rfl rfl) rfl rfl (po_load_bx rfl rfl (tyT rfl) rfl rfl) ?_ | refine sops_pure (.free rfl rfl) rfl rfl (po_load rfl rfl (tyT rfl) rfl) ?_) <;> (first | refine sops_pure (.free rfl rfl) rfl rfl (po_field_bx rfl rfl (tyF rfl)) ?_ | refine sops_pure (.free rfl rfl) rfl rfl (po_field rfl rfl (tyF rfl)) ?_) <;> (first | refine sops_pure (.free rfl rfl) rfl rfl (po_load_bx rfl rfl (tyT rfl) rfl rfl) ?_ | refine sops_pure (.free rfl rfl) rfl rfl (po_load rfl rfl (tyT rfl) rfl) ?_) <;> (first | refine sops_pure (.free rfl rfl) rfl rfl (po_call (c1) rfl (ac (ac (ac .nil)))) ?_ | refine sops_pure (.free rfl rfl) rfl rfl (po_call (c2) rfl (ac (ac (ac .nil)))) ?_) <;> (refine sops_pure (.free rfl rfl) rfl rfl (po_move rfl rfl) ?_) <;> (refine sops_pure (.free rfl rfl) rfl rfl (po_extract rfl rfl rfl) ?_) <;> (refine sops_pure (.free rfl rfl) rfl rfl (po_extract rfl rfl rfl) ?_) <;> (refine sops_pure (.free rfl rfl) rfl rfl (po_assign rfl rfl) ?_) <;> (refine sops_pure (.free rfl rfl) rfl rfl (po_assign rfl rfl) ?_) <;> (refine sops_nil ?_))
          | ((refine swp_region (id := 3) ?_) <;> (refine sops_pure (.free rfl rfl) rfl rfl (po_move rfl rfl) ?_) <;> (refine sops_pure (.free rfl rfl) rfl rfl (po_cmp rfl rfl rfl rfl) ?_) <;> (refine sops_pure (.free rfl rfl) rfl rfl (po_move rfl rfl) ?_) <;> (first | refine sops_pure gy rfl rfl (po_move rfl rfl) ?_ | refine sops_skip gn1 rfl rfl ?_ | ((refine sops_split rfl rfl rfl (fun hc => ?_) (fun hc => ?_)) <;> (first | refine sops_pure gy rfl rfl (po_move rfl rfl) ?_ | refine sops_skip gn1 rfl rfl ?_))) <;> (first | refine sops_pure (.free rfl rfl) rfl rfl (pkt rfl) ?_ | refine sops_pure (.free rfl rfl) rfl rfl (pkf rfl) ?_) <;> (refine sops_pure (.free rfl rfl) rfl rfl (po_move rfl rfl) ?_) <;> (first | refine sops_pure gy rfl rfl (po_move rfl rfl) ?_ | refine sops_skip gn1 rfl rfl ?_ | ((refine sops_split rfl rfl rfl (fun hc => ?_) (fun hc => ?_)) <;> (first | refine sops_pure gy rfl rfl (po_move rfl rfl) ?_ | refine sops_skip gn1 rfl rfl ?_))) <;> (first | refine sops_pure gy rfl rfl (po_field_bx rfl rfl (tyF rfl)) ?_ | refine sops_pure gy rfl rfl (po_field rfl rfl (tyF rfl)) ?_ | refine sops_skip gn1 rfl rfl ?_) <;> (first | refine sops_pure gy rfl rfl (po_load_bx rfl rfl (tyT rfl) rfl rfl) ?_ | refine sops_pure gy rfl rfl (po_load rfl rfl (tyT rfl) rfl) ?_ | refine sops_skip gn1 rfl rfl ?_) <;> (first | refine sops_pure gy rfl rfl (po_cmp rfl rfl rfl rfl) ?_ | refine sops_skip gn1 rfl rfl ?_) <;> (first | refine sops_pure (.free rfl rfl) rfl rfl (pkt rfl) ?_ | refine sops_pure (.free rfl rfl) rfl rfl (pkf rfl) ?_) <;> (refine sops_nil ?_))
          | ((refine swp_region (id := 5) ?_) <;> (refine sops_pure (.free rfl rfl) rfl rfl (po_move rfl rfl) ?_) <;> (refine sops_pure (.free rfl rfl) rfl rfl (po_move rfl rfl) ?_) <;> (refine sops_pure (.free rfl rfl) rfl rfl (po_assign rfl rfl) ?_) <;> (refine sops_pure (.free rfl rfl) rfl rfl (po_assign rfl rfl) ?_) <;> (refine sops_nil ?_))
          | refine swp_ret ?_
          | refine swp_skip ?_
          | refine swp_block ?_
          | refine swp_exit ?_
          | refine block_go ?_
          | refine block_exit ?_
          | refine block_far rfl ?_
          | refine block_ret ?_
          | refine then_ret ?_
          | refine then_exit ?_
          | refine for_ret ?_
          | refine for_exit ?_
          | refine ct ?_
          | refine cf ?_
          | refine swp_cond rfl (fun hc => ?_) (fun hc => ?_)
          | refine retq (by first | exact .inr rfl | exact .inl rfl) rfl (.tmp rfl (by first | exact .t _ | exact .own rfl (by first | rfl | assumption | (simp; done) | (simp; omega)) | exact .nil _ | exact .emp _ | exact .fn _) (.tmp rfl (by first | exact .t _ | exact .own rfl (by first | rfl | assumption | (simp; done) | (simp; omega)) | exact .nil _ | exact .emp _ | exact .fn _) .nil)) ?_)
        simp [resT, h1]
    · have e1 : decide (ae = 0) = false := by simp [h0]
      repeat' (first
        | refine then_go ?_
        | refine swp_seq ?_
        | ((refine swp_region (id := 0) ?_) <;> (refine sops_box (.free rfl rfl) rfl rfl rfl rfl rfl rfl ?_) <;> (refine sops_pure (.free rfl rfl) rfl rfl (po_assign rfl rfl) ?_) <;> (refine sops_pure (.free rfl rfl) rfl rfl (po_assign rfl rfl) ?_) <;> (refine sops_nil ?_))
        | ((refine swp_region (id := 1) ?_) <;> (refine sops_pure (.free rfl rfl) rfl rfl (po_move rfl rfl) ?_) <;> (first | refine sops_pure (.free rfl rfl) rfl rfl (po_load_bx_agg rfl rfl (tyT rfl) rfl (vc (vc (vc .nil))) rfl) ?_ | refine sops_pure (.free rfl rfl) rfl rfl (po_load_agg rfl rfl (tyT rfl) rfl rfl) ?_) <;> (first | refine sops_pure (.free rfl rfl) rfl rfl (po_call (c1) rfl (ac (ac .nil))) ?_ | refine sops_pure (.free rfl rfl) rfl rfl (po_call (c2) rfl (ac (ac .nil))) ?_) <;> (refine sops_pure (.free rfl rfl) rfl rfl (po_move rfl rfl) ?_) <;> (refine sops_pure (.free rfl rfl) rfl rfl (po_extract rfl rfl rfl) ?_) <;> (refine sops_pure (.free rfl rfl) rfl rfl (po_extract rfl rfl rfl) ?_) <;> (refine sops_pure (.free rfl rfl) rfl rfl (po_assign rfl rfl) ?_) <;> (refine sops_pure (.free rfl rfl) rfl rfl (po_assign rfl rfl) ?_) <;> (refine sops_nil ?_))
        | ((refine swp_region (id := 2) ?_) <;> (refine sops_pure (.free rfl rfl) rfl rfl (po_move rfl rfl) ?_) <;> (first | refine sops_pure (.free rfl rfl) rfl rfl (po_field_bx rfl rfl (tyF rfl)) ?_ | refine sops_pure (.free rfl rfl) rfl rfl (po_field rfl rfl (tyF rfl)) ?_) <;> (first | refine sops_pure (.free rfl rfl) rfl rfl (po_load_bx rfl rfl (tyT rfl) rfl rfl) ?_ | refine sops_pure (.free rfl rfl) rfl rfl (po_load rfl rfl (tyT rfl) rfl) ?_) <;> (first | refine sops_pure (.free rfl rfl) rfl rfl (po_field_bx rfl rfl (tyF rfl)) ?_ | refine sops_pure (.free rfl rfl) rfl rfl (po_field rfl rfl (tyF rfl)) ?_) <;> (first | refine sops_pure (.free rfl rfl) rfl rfl (po_load_bx rfl rfl (tyT rfl) rfl rfl) ?_ | refine sops_pure (.free rfl rfl) rfl rfl (po_load rfl rfl (tyT rfl) rfl) ?_) <;> (first | refine sops_pure (.free rfl rfl) rfl rfl (po_call (c1) rfl (ac (ac (ac .nil)))) ?_ | refine sops_pure (.free rfl rfl) rfl rfl (po_call (c2) rfl (ac (ac (ac .nil)))) ?_) <;> (refine sops_pure (.free rfl rfl) rfl rfl (po_move rfl rfl) ?_) <;> (refine sops_pure (.free rfl rfl) rfl rfl (po_extract rfl rfl rfl) ?_) <;> (refine sops_pure (.free rfl rfl) rfl rfl (po_extract rfl rfl rfl) ?_) <;> (refine sops_pure (.free rfl rfl) rfl rfl (po_assign rfl rfl) ?_) <;> (refine sops_pure (.free rfl rfl) rfl rfl (po_assign rfl rfl) ?_) <;> (refine sops_nil ?_))
        | ((refine swp_region (id := 3) ?_) <;> (refine sops_pure (.free rfl rfl) rfl rfl (po_move rfl rfl) ?_) <;> (refine sops_pure (.free rfl rfl) rfl rfl (po_cmp rfl rfl rfl rfl) ?_) <;> (refine sops_pure (.free rfl rfl) rfl rfl (po_move rfl rfl) ?_) <;> (first | refine sops_pure gy rfl rfl (po_move rfl rfl) ?_ | refine sops_skip gn1 rfl rfl ?_ | ((refine sops_split rfl rfl rfl (fun hc => ?_) (fun hc => ?_)) <;> (first | refine sops_pure gy rfl rfl (po_move rfl rfl) ?_ | refine sops_skip gn1 rfl rfl ?_))) <;> (first | refine sops_pure (.free rfl rfl) rfl rfl (pkt rfl) ?_ | refine sops_pure (.free rfl rfl) rfl rfl (pkf rfl) ?_) <;> (refine sops_pure (.free rfl rfl) rfl rfl (po_move rfl rfl) ?_) <;> (first | refine sops_pure gy rfl rfl (po_move rfl rfl) ?_ | refine sops_skip gn1 rfl rfl ?_ | ((refine sops_split rfl rfl rfl (fun hc => ?_) (fun hc => ?_)) <;> (first | refine sops_pure gy rfl rfl (po_move rfl rfl) ?_ | refine sops_skip gn1 rfl rfl ?_))) <;> (first | refine sops_pure gy rfl rfl (po_field_bx rfl rfl (tyF rfl)) ?_ | refine sops_pure gy rfl rfl (po_field rfl rfl (tyF rfl)) ?_ | refine sops_skip gn1 rfl rfl ?_) <;> (first | refine sops_pure gy rfl rfl (po_load_bx rfl rfl (tyT rfl) rfl rfl) ?_ | refine sops_pure gy rfl rfl (po_load rfl rfl (tyT rfl) rfl) ?_ | refine sops_skip gn1 rfl rfl ?_) <;> (first | refine sops_pure gy rfl rfl (po_cmp rfl rfl rfl rfl) ?_ | refine sops_skip gn1 rfl rfl ?_) <;> (first | refine sops_pure (.free rfl rfl) rfl rfl (pkt rfl) ?_ | refine sops_pure (.free rfl rfl) rfl rfl (pkf rfl) ?_) <;> (refine sops_nil ?_))
        | ((refine swp_region (id := 5) ?_) <;> (refine sops_pure (.free rfl rfl) rfl rfl (po_move rfl rfl) ?_) <;> (refine sops_pure (.free rfl rfl) rfl rfl (po_move rfl rfl) ?_) <;> (refine sops_pure (.free rfl rfl) rfl rfl (po_assign rfl rfl) ?_) <;> (refine sops_pure (.free rfl rfl) rfl rfl (po_assign rfl rfl) ?_) <;> (refine sops_nil ?_))
        | refine swp_ret ?_
        | refine swp_skip ?_
        | refine swp_block ?_
        | refine swp_exit ?_
        | refine block_go ?_
        | refine block_exit ?_
        | refine block_far rfl ?_
        | refine block_ret ?_
        | refine then_ret ?_
        | refine then_exit ?_
        | refine for_ret ?_
        | refine for_exit ?_
        | refine ct ?_
        | refine cf ?_
        | refine swp_cond rfl (fun hc => ?_) (fun hc => ?_)
        | refine retq (by first | exact .inr rfl | exact .inl rfl) rfl (.tmp rfl (by first | exact .t _ | exact .own rfl (by first | rfl | assumption | (simp; done) | (simp; omega)) | exact .nil _ | exact .emp _ | exact .fn _) (.tmp rfl (by first | exact .t _ | exact .own rfl (by first | rfl | assumption | (simp; done) | (simp; omega)) | exact .nil _ | exact .emp _ | exact .fn _) .nil)) ?_)
      simp [resT, h0]
end Go.Proofs.Ytmjckopplkihlaa.Due

/- timers' functions hand back rows of the caller's own; a row that is written over. -/
namespace Go.Proofs.Ytmjckopplkihlaa.Due
set_option linter.unusedVariables false
set_option linter.unusedSimpArgs false
open Go.RowKit Mem Sim
abbrev DRow (i : Nat) (l : List Pl.Due) : List (Nat × Own) := [(i, ⟨25, 3, l.map dueT⟩)]
theorem argsA2 {m : Mm} {g : Gh} {x0 x1 : A} {vals : Array Value} (hl : vals.size = [x0, x1].length) (hv : ∀ (i : Nat) x v, [x0, x1][i]? = some x → vals[i]? = some v → AR m g x v) : ∃ v0 v1, vals = #[v0, v1] ∧ AR m g x0 v0 ∧ AR m g x1 v1 := by
  obtain ⟨l⟩ := vals
  match l, hl with
  | [v0, v1], _ => exact ⟨v0, v1, rfl, hv 0 _ _ rfl rfl, hv 1 _ _ rfl rfl⟩
theorem argsA3 {m : Mm} {g : Gh} {x0 x1 x2 : A} {vals : Array Value} (hl : vals.size = [x0, x1, x2].length) (hv : ∀ (i : Nat) x v, [x0, x1, x2][i]? = some x → vals[i]? = some v → AR m g x v) : ∃ v0 v1 v2, vals = #[v0, v1, v2] ∧ AR m g x0 v0 ∧ AR m g x1 v1 ∧ AR m g x2 v2 := by
  obtain ⟨l⟩ := vals
  match l, hl with
  | [v0, v1, v2], _ => exact ⟨v0, v1, v2, rfl, hv 0 _ _ rfl rfl, hv 1 _ _ rfl rfl, hv 2 _ _ rfl rfl⟩
theorem lc_new {C : Ctx} {w w' : World} {m : Mm} {g : Gh} (he : EnvG C [] [] w m g) (hl : Lo w w') {v : Value} {l : List Pl.Due} (hr : RowO w.heap.size w' v l) : ∃ m' g', EnvG C [] (DRow 1000 l) w' m' g' ∧ AR m' g' (.own 1000 (l.map dueT).length) v := by
  have h1 : w'.ownsRow w.heap.size 25 3 v l.length (l.flatMap dueCells) := hr.1
  have hlen : (l.map dueT).length = l.length := List.length_map _
  obtain ⟨h8, _⟩ := he.setO (hp := rfl) (w' := w') (i := 1000) (v := v) (e := 25) (sz := 3) (rows := l.map dueT) (vs := l.flatMap dueCells) (by rw [hlen]; exact owns_base h1 (Nat.zero_le _)) (fun r hr => by obtain ⟨x, _, rfl⟩ := List.mem_map.1 hr; rfl) (cells_flat _ l) (.inr rfl) (.inr ⟨fun b hb => (h1.lt b hb).1, hl⟩)
  obtain ⟨A, cap, hv, _⟩ := hr.at_
  refine ⟨_, _, h8, ⟨by simp [Gh.setO], by simp [Gh.setO], ⟨A, cap, ?_⟩, fun _ => by simp [Gh.setO]⟩⟩
  rw [hlen]; exact hv
theorem tu2 {m : Mm} {g : Gh} {x y : A} {u v : Value} (hx : AR1 m g x u) (hy : AR1 m g y v) : AR m g (.tu [x, y]) (.tuple #[u, v]) := ⟨#[u, v], rfl, rfl, fun j z q h1 h2 => by
  match j, h1, h2 with
  | 0, h1, h2 => simp at h1 h2; subst h1 h2; exact hx
  | 1, h1, h2 => simp at h1 h2; subst h1 h2; exact hy⟩
theorem l_add (l : List Pl.Due) (d : Pl.Due) (hn : l.length ≤ 1000) (hl : WfL l) (hd : wfD d) : LCalls Try.prog 13 [.t (duesT l), .t (.agg (dueT d))] [] [] (.tu [.own 1000 ((Pl.addL l d).map dueT).length, .t (.v (.int .i64 (Pl.addErr l d)))]) [] (DRow 1000 (Pl.addL l d)) where
  ent := ent_of Try.func13 rfl rfl
  run := fun m w g vals he hvl hv => by
    obtain ⟨x0, x1, rfl, h0, h1⟩ := argsA2 hvl hv
    obtain ⟨A, cap, rfl, hA, hc1, hc2⟩ := dues_fwd he.sub h0 hl
    rw [due_ex h1]
    refine (add_ A cap l d w (Nat.le_refl _) hA hn hc1 hd).mono fun e w' ⟨v, he', hlo, hr⟩ => ?_
    obtain ⟨m', g', h2, h3⟩ := lc_new he hlo hr
    exact ⟨_, m', g', he', h2, tu2 h3 (TR.v _)⟩
theorem l_sooner (l : List Pl.Due) (d : Pl.Due) (hn : l.length ≤ 1000) (hl : WfL l) (hd : wfD d) : LCalls Try.prog 16 [.t (duesT l), .t (.agg (dueT d))] [] [] (.tu [.own 1000 ((Pl.soonL l d).map dueT).length, .t (.v (.int .i64 (Pl.addErr l d)))]) [] (DRow 1000 (Pl.soonL l d)) where
  ent := ent_of Try.func16 rfl rfl
  run := fun m w g vals he hvl hv => by
    obtain ⟨x0, x1, rfl, h0, h1⟩ := argsA2 hvl hv
    obtain ⟨A, cap, rfl, hA, hc1, hc2⟩ := dues_fwd he.sub h0 hl
    rw [due_ex h1]
    refine (sooner_ A cap l d w (Nat.le_refl _) hA hn hc1 hd).mono fun e w' ⟨v, he', hlo, hr⟩ => ?_
    obtain ⟨m', g', h2, h3⟩ := lc_new he hlo hr
    rw [Pl.soon_err] at he'
    exact ⟨_, m', g', he', h2, tu2 h3 (TR.v _)⟩
theorem l_drop (l : List Pl.Due) (kind key : Int) (hn : l.length ≤ 1000) (hl : WfL l) : LCalls Try.prog 18 [.t (duesT l), .t (.v (.int .i64 kind)), .t (.v (.int .u64 key))] [] [] (.own 1000 ((Pl.dropL l kind key).map dueT).length) [] (DRow 1000 (Pl.dropL l kind key)) where
  ent := ent_of Try.func18 rfl rfl
  run := fun m w g vals he hvl hv => by
    obtain ⟨x0, x1, x2, rfl, h0, h1, h2⟩ := argsA3 hvl hv
    obtain ⟨A, cap, rfl, hA, hc1, hc2⟩ := dues_fwd he.sub h0 hl
    rw [tr_v h1, tr_v h2]
    refine (drop_ A cap l kind key w (Nat.le_refl _) hA (by omega)).mono fun e w' ⟨v, he', hlo, hr⟩ => ?_
    obtain ⟨m', g', h3, h4⟩ := lc_new he hlo hr
    exact ⟨_, m', g', he', h3, h4⟩
theorem p_find (l : List Pl.Due) (kind key : Int) (hl : WfL l) : PCalls Try.prog 22 [duesT l, .v (.int .i64 kind), .v (.int .u64 key)] (findT (Pl.findL l kind key)) where
  ent := ent_of Try.func22 rfl rfl
  run := fun m w vals hs hvl hv => by
    obtain ⟨x0, x1, x2, rfl, h0, h1, h2⟩ := args3 hvl hv
    obtain ⟨A, cap, rfl, hA, hc1, hc2⟩ := dues_fwd hs h0 hl
    rw [tr_v h1, tr_v h2]
    refine (find_ A cap l kind key w (Nat.le_refl _) hA (Nat.le_trans hc1 hc2)).mono fun e w' ⟨he, hlo⟩ => ?_
    rw [he]
    refine post_ex hs hlo ?_
    unfold findT findV
    cases Pl.findL l kind key with
    | none => exact tr2 (.v _) (.v _)
    | some x => exact tr2 (.v _) (.v _)
def TS (l : List Pl.Due) (now : Int) (k : Nat) : St := ⟨[(1, .t (.v (.int .u64 now))), (4, .own 1000 ((Pl.takeL now (l.take k)).map dueT).length), (5, .own 1001 ((Pl.leftL now (l.take k)).map dueT).length), (8, .t (.sl 3 (l.map dueT))), (9, .t (.v (.int .i64 (l.length : Int)))), (10, .t (.v (.int .i64 (k : Int))))], [], [(1000, ⟨25, 3, (Pl.takeL now (l.take k)).map dueT⟩), (1001, ⟨25, 3, (Pl.leftL now (l.take k)).map dueT⟩)]⟩
set_option maxRecDepth 100000 in
set_option maxHeartbeats 1000000 in
theorem l_take (l : List Pl.Due) (now : Int) (hn : l.length ≤ 1000) : LCalls Try.prog 20 [.t (duesT l), .t (.v (.int .u64 now))] [] [] (.tu [.own 1000 ((Pl.takeL now l).map dueT).length, .own 1001 ((Pl.leftL now l).map dueT).length]) [] [(1000, ⟨25, 3, (Pl.takeL now l).map dueT⟩), (1001, ⟨25, 3, (Pl.leftL now l).map dueT⟩)] := by
  have hml : (l.map dueT).length = l.length := List.length_map _
  refine lcalls_of Try.func20 rfl rfl Try.ntmps20 rfl ?_
  repeat' (first
    | refine then_go ?_
    | refine swp_seq ?_
    | ((refine swp_region (id := 0) ?_) <;> (refine sops_pure (.free rfl rfl) rfl rfl (po_assign rfl rfl) ?_) <;> (refine sops_pure (.free rfl rfl) rfl rfl (po_assign rfl rfl) ?_) <;> (refine sops_nil ?_))
    | ((refine swp_region (id := 1) ?_) <;> (refine sops_pure (.free rfl rfl) rfl rfl (po_move rfl rfl) ?_) <;> (refine sops_pure (.free rfl rfl) rfl rfl (pln rfl (tyS rfl)) ?_) <;> (refine sops_pure (.free rfl rfl) rfl rfl (po_move rfl rfl) ?_) <;> (refine sops_nil ?_))
    | refine swp_ret ?_
    | refine swp_skip ?_
    | refine swp_block ?_
    | refine swp_exit ?_
    | refine block_go ?_
    | refine block_exit ?_
    | refine block_far rfl ?_
    | refine block_ret ?_
    | refine then_ret ?_
    | refine then_exit ?_
    | refine for_ret ?_
    | refine for_exit ?_
    | refine ct ?_
    | refine cf ?_
    | refine swp_cond rfl (fun hc => ?_) (fun hc => ?_)
    | refine retq (by first | exact .inr rfl | exact .inl rfl) rfl (.tmp rfl (by first | exact .t _ | exact .own rfl (by first | rfl | assumption | (simp; done) | (simp; omega)) | exact .nil _ | exact .emp _ | exact .fn _) (.tmp rfl (by first | exact .t _ | exact .own rfl (by first | rfl | assumption | (simp; done) | (simp; omega)) | exact .nil _ | exact .emp _ | exact .fn _) .nil)) ?_)
  refine swp_for (TS l now) (fun _ => True) l.length ?_ trivial ?_
  · refine Weak.trans (weak_own0 (i := 1000) 25 3 (s := 4) rfl rfl) ?_
    refine Weak.trans (weak_own0 (i := 1001) 25 3 (s := 5) rfl rfl) ?_
    exact (weak_sub (.cons rfl (by first | rfl | (exact congrArg (fun n : Nat => A.t (.v (.int .i64 (n : Int)))) hml)) rfl (.cons rfl (by first | rfl | (exact congrArg (fun n : Nat => A.t (.v (.int .i64 (n : Int)))) hml)) rfl (.cons rfl (by first | rfl | (exact congrArg (fun n : Nat => A.t (.v (.int .i64 (n : Int)))) hml)) rfl (.cons rfl (by first | rfl | (exact congrArg (fun n : Nat => A.t (.v (.int .i64 (n : Int)))) hml)) rfl (.cons rfl (by first | rfl | (exact congrArg (fun n : Nat => A.t (.v (.int .i64 (n : Int)))) hml)) rfl (.cons rfl (by first | rfl | (exact congrArg (fun n : Nat => A.t (.v (.int .i64 (n : Int)))) hml)) rfl .nil)))))) .nil (.cons rfl (by first | rfl | (exact congrArg (fun n : Nat => A.t (.v (.int .i64 (n : Int)))) hml)) (.cons rfl (by first | rfl | (exact congrArg (fun n : Nat => A.t (.v (.int .i64 (n : Int)))) hml)) .nil)))
  intro k hk _
  unfold TS
  have q1 : ((Pl.takeL now (l.take k)).map dueT).length ≤ l.length := ff_len _ l k
  have q2 : ((Pl.leftL now (l.take k)).map dueT).length ≤ l.length := ff_len _ l k
  generalize hF : (Pl.takeL now (l.take k)).map dueT = F at *
  generalize hG : (Pl.leftL now (l.take k)).map dueT = G at *
  have g1 : (F.length + 1) * 24 ≤ 140737488355328 := by omega
  have g2 : F.length + 1 ≤ maxLen := by unfold maxLen; omega
  have g3 : (G.length + 1) * 24 ≤ 140737488355328 := by omega
  have g4 : G.length + 1 ≤ maxLen := by unfold maxLen; omega
  by_cases hlt : k < l.length
  · by_cases hd : l[k].at_ ≤ now
    · have s1 : (Pl.takeL now (l.take (k + 1))).map dueT = F ++ [dueT l[k]] := by rw [← hF]; exact filter_yes hlt (by simp [hd])
      have s2 : (Pl.leftL now (l.take (k + 1))).map dueT = G := by rw [← hG]; exact filter_no hlt (by simp [hd])
      repeat' (first
        | refine then_go ?_
        | refine swp_seq ?_
        | refine for_next hlt (weak_sub (.cons rfl (by first | rfl | (simp only [s1, s2] <;> rfl)) rfl (.cons rfl (by first | rfl | (simp only [s1, s2] <;> rfl)) rfl (.cons rfl (by first | rfl | (simp only [s1, s2] <;> rfl)) rfl (.cons rfl (by first | rfl | (simp only [s1, s2] <;> rfl)) rfl (.cons rfl (by first | rfl | (simp only [s1, s2] <;> rfl)) rfl (.cons rfl (by first | rfl | (simp only [s1, s2] <;> rfl)) rfl .nil)))))) .nil (.cons rfl (by first | rfl | (simp only [s1, s2] <;> rfl)) (.cons rfl (by first | rfl | (simp only [s1, s2] <;> rfl)) .nil))) trivial
        | ((refine swp_region (id := 2) ?_) <;> (refine sops_pure (.free rfl rfl) rfl rfl (po_cmp rfl rfl rfl rfl) ?_) <;> (refine sops_nil ?_))
        | ((refine swp_region (id := 3) ?_) <;> (refine sops_pure (.free rfl rfl) rfl rfl (pix rfl (tyS rfl)) ?_) <;> (first | refine sops_pure (.free rfl rfl) rfl rfl (po_load_bx_agg rfl rfl (tyT rfl) rfl (vc (vc (vc .nil))) rfl) ?_ | refine sops_pure (.free rfl rfl) rfl rfl (po_load_agg rfl rfl (tyT rfl) rfl rfl) ?_) <;> (refine sops_allocS str25 (.free rfl rfl) rfl rfl rfl rfl ?_) <;> (refine sops_store (.free rfl rfl) rfl rfl rfl rfl rfl rfl (tyT rfl) rfl rfl ?_) <;> (refine sops_nil ?_))
        | ((refine swp_region (id := 4) ?_) <;> (first | refine sops_pure (.free rfl rfl) rfl rfl (po_field_bx rfl rfl (tyF rfl)) ?_ | refine sops_pure (.free rfl rfl) rfl rfl (po_field rfl rfl (tyF rfl)) ?_) <;> (first | refine sops_pure (.free rfl rfl) rfl rfl (po_load_bx rfl rfl (tyT rfl) rfl rfl) ?_ | refine sops_pure (.free rfl rfl) rfl rfl (po_load rfl rfl (tyT rfl) rfl) ?_) <;> (refine sops_pure (.free rfl rfl) rfl rfl (po_move rfl rfl) ?_) <;> (refine sops_pure (.free rfl rfl) rfl rfl (po_cmp rfl rfl rfl rfl) ?_) <;> (refine sops_nil ?_))
        | ((refine swp_region (id := 5) ?_) <;> (refine sops_pure (.free rfl rfl) rfl rfl (po_move rfl rfl) ?_) <;> (first | refine sops_pure (.free rfl rfl) rfl rfl (po_load_bx_agg rfl rfl (tyT rfl) rfl (vc (vc (vc .nil))) rfl) ?_ | refine sops_pure (.free rfl rfl) rfl rfl (po_load_agg rfl rfl (tyT rfl) rfl rfl) ?_) <;> (refine sops_pure (.free rfl rfl) rfl rfl (po_buildSlice rfl (tyE rfl) (dc (.nil _)) rfl rfl rfl) ?_) <;> (first | refine sap rfl (tyE rfl) ?_ | refine san rfl (tyE rfl) ?_) <;> (refine sops_pure (.free rfl rfl) rfl rfl (po_assign rfl rfl) ?_) <;> (refine sops_nil ?_))
        | ((refine swp_region (id := 7) ?_) <;> (first | refine sops_pure (.free rfl rfl) rfl rfl (po_inc rfl rfl rfl (by omega)) ?_ | refine sops_pure (.free rfl rfl) rfl rfl (po_arith rfl rfl rfl (ar_add (by first | rfl | (refine wrap_i64 ?_; omega)) rfl)) ?_) <;> (refine sops_pure (.free rfl rfl) rfl rfl (po_move rfl rfl) ?_) <;> (refine sops_nil ?_))
        | refine swp_ret ?_
        | refine swp_skip ?_
        | refine swp_block ?_
        | refine swp_exit ?_
        | refine block_go ?_
        | refine block_exit ?_
        | refine block_far rfl ?_
        | refine block_ret ?_
        | refine then_ret ?_
        | refine then_exit ?_
        | refine for_ret ?_
        | refine for_exit ?_
        | refine ct ?_
        | refine cf ?_
        | refine swp_cond rfl (fun hc => ?_) (fun hc => ?_)
        | refine retq (by first | exact .inr rfl | exact .inl rfl) rfl (.tmp rfl (by first | exact .t _ | exact .own rfl (by first | rfl | assumption | (simp; done) | (simp; omega)) | exact .nil _ | exact .emp _ | exact .fn _) (.tmp rfl (by first | exact .t _ | exact .own rfl (by first | rfl | assumption | (simp; done) | (simp; omega)) | exact .nil _ | exact .emp _ | exact .fn _) .nil)) ?_)
    · have s1 : (Pl.takeL now (l.take (k + 1))).map dueT = F := by rw [← hF]; exact filter_no hlt (by simp [hd])
      have s2 : (Pl.leftL now (l.take (k + 1))).map dueT = G ++ [dueT l[k]] := by rw [← hG]; exact filter_yes hlt (by simp [hd])
      repeat' (first
        | refine then_go ?_
        | refine swp_seq ?_
        | refine for_next hlt (weak_sub (.cons rfl (by first | rfl | (simp only [s1, s2] <;> rfl)) rfl (.cons rfl (by first | rfl | (simp only [s1, s2] <;> rfl)) rfl (.cons rfl (by first | rfl | (simp only [s1, s2] <;> rfl)) rfl (.cons rfl (by first | rfl | (simp only [s1, s2] <;> rfl)) rfl (.cons rfl (by first | rfl | (simp only [s1, s2] <;> rfl)) rfl (.cons rfl (by first | rfl | (simp only [s1, s2] <;> rfl)) rfl .nil)))))) .nil (.cons rfl (by first | rfl | (simp only [s1, s2] <;> rfl)) (.cons rfl (by first | rfl | (simp only [s1, s2] <;> rfl)) .nil))) trivial
        | ((refine swp_region (id := 2) ?_) <;> (refine sops_pure (.free rfl rfl) rfl rfl (po_cmp rfl rfl rfl rfl) ?_) <;> (refine sops_nil ?_))
        | ((refine swp_region (id := 3) ?_) <;> (refine sops_pure (.free rfl rfl) rfl rfl (pix rfl (tyS rfl)) ?_) <;> (first | refine sops_pure (.free rfl rfl) rfl rfl (po_load_bx_agg rfl rfl (tyT rfl) rfl (vc (vc (vc .nil))) rfl) ?_ | refine sops_pure (.free rfl rfl) rfl rfl (po_load_agg rfl rfl (tyT rfl) rfl rfl) ?_) <;> (refine sops_allocS str25 (.free rfl rfl) rfl rfl rfl rfl ?_) <;> (refine sops_store (.free rfl rfl) rfl rfl rfl rfl rfl rfl (tyT rfl) rfl rfl ?_) <;> (refine sops_nil ?_))
        | ((refine swp_region (id := 4) ?_) <;> (first | refine sops_pure (.free rfl rfl) rfl rfl (po_field_bx rfl rfl (tyF rfl)) ?_ | refine sops_pure (.free rfl rfl) rfl rfl (po_field rfl rfl (tyF rfl)) ?_) <;> (first | refine sops_pure (.free rfl rfl) rfl rfl (po_load_bx rfl rfl (tyT rfl) rfl rfl) ?_ | refine sops_pure (.free rfl rfl) rfl rfl (po_load rfl rfl (tyT rfl) rfl) ?_) <;> (refine sops_pure (.free rfl rfl) rfl rfl (po_move rfl rfl) ?_) <;> (refine sops_pure (.free rfl rfl) rfl rfl (po_cmp rfl rfl rfl rfl) ?_) <;> (refine sops_nil ?_))
        | ((refine swp_region (id := 6) ?_) <;> (refine sops_pure (.free rfl rfl) rfl rfl (po_move rfl rfl) ?_) <;> (first | refine sops_pure (.free rfl rfl) rfl rfl (po_load_bx_agg rfl rfl (tyT rfl) rfl (vc (vc (vc .nil))) rfl) ?_ | refine sops_pure (.free rfl rfl) rfl rfl (po_load_agg rfl rfl (tyT rfl) rfl rfl) ?_) <;> (refine sops_pure (.free rfl rfl) rfl rfl (po_buildSlice rfl (tyE rfl) (dc (.nil _)) rfl rfl rfl) ?_) <;> (first | refine sap rfl (tyE rfl) ?_ | refine san rfl (tyE rfl) ?_) <;> (refine sops_pure (.free rfl rfl) rfl rfl (po_assign rfl rfl) ?_) <;> (refine sops_nil ?_))
        | ((refine swp_region (id := 7) ?_) <;> (first | refine sops_pure (.free rfl rfl) rfl rfl (po_inc rfl rfl rfl (by omega)) ?_ | refine sops_pure (.free rfl rfl) rfl rfl (po_arith rfl rfl rfl (ar_add (by first | rfl | (refine wrap_i64 ?_; omega)) rfl)) ?_) <;> (refine sops_pure (.free rfl rfl) rfl rfl (po_move rfl rfl) ?_) <;> (refine sops_nil ?_))
        | refine swp_ret ?_
        | refine swp_skip ?_
        | refine swp_block ?_
        | refine swp_exit ?_
        | refine block_go ?_
        | refine block_exit ?_
        | refine block_far rfl ?_
        | refine block_ret ?_
        | refine then_ret ?_
        | refine then_exit ?_
        | refine for_ret ?_
        | refine for_exit ?_
        | refine ct ?_
        | refine cf ?_
        | refine swp_cond rfl (fun hc => ?_) (fun hc => ?_)
        | refine retq (by first | exact .inr rfl | exact .inl rfl) rfl (.tmp rfl (by first | exact .t _ | exact .own rfl (by first | rfl | assumption | (simp; done) | (simp; omega)) | exact .nil _ | exact .emp _ | exact .fn _) (.tmp rfl (by first | exact .t _ | exact .own rfl (by first | rfl | assumption | (simp; done) | (simp; omega)) | exact .nil _ | exact .emp _ | exact .fn _) .nil)) ?_)
  · obtain rfl : k = l.length := by omega
    rw [List.take_length] at hF hG
    subst hF hG
    repeat' (first
      | refine then_go ?_
      | refine swp_seq ?_
      | ((refine swp_region (id := 2) ?_) <;> (refine sops_pure (.free rfl rfl) rfl rfl (po_cmp rfl rfl rfl rfl) ?_) <;> (refine sops_nil ?_))
      | ((refine swp_region (id := 8) ?_) <;> (refine sops_pure (.free rfl rfl) rfl rfl (po_move rfl rfl) ?_) <;> (refine sops_pure (.free rfl rfl) rfl rfl (po_move rfl rfl) ?_) <;> (refine sops_pure (.free rfl rfl) rfl rfl (po_assign rfl rfl) ?_) <;> (refine sops_pure (.free rfl rfl) rfl rfl (po_assign rfl rfl) ?_) <;> (refine sops_nil ?_))
      | refine swp_ret ?_
      | refine swp_skip ?_
      | refine swp_block ?_
      | refine swp_exit ?_
      | refine block_go ?_
      | refine block_exit ?_
      | refine block_far rfl ?_
      | refine block_ret ?_
      | refine then_ret ?_
      | refine then_exit ?_
      | refine for_ret ?_
      | refine for_exit ?_
      | refine ct ?_
      | refine cf ?_
      | refine swp_cond rfl (fun hc => ?_) (fun hc => ?_)
      | refine retl (by first | exact .inr rfl | exact .inl rfl) rfl (.tmp rfl rfl (.tmp rfl rfl .nil)) ?_ rfl .nil (.cons rfl (by first | rfl | assumption | (symm; assumption)) (.cons rfl (by first | rfl | assumption | (symm; assumption)) .nil)))
    all_goals rfl
/-- what stands where a row was written over -/
def spT : List T := [.v (.int .u64 0), .v (.int .i64 (-1)), .v (.int .u64 0)]
def spRows (l : List Pl.Due) : List (List T) := l.map fun _ => spT
@[simp] theorem spRows_len (l : List Pl.Due) : (spRows l).length = l.length := List.length_map _
def rowsK (l : List Pl.Due) (k : Nat) : List (List T) := (l.take k).map (fun _ => spT) ++ (l.drop k).map dueT
theorem rowsK_len (l : List Pl.Due) (k : Nat) : (rowsK l k).length = (l.map dueT).length := by unfold rowsK; simp; omega
theorem rowsK_at {l : List Pl.Due} {k : Nat} (hk : k < l.length) : (rowsK l k)[k]? = some (dueT l[k]) := by
  unfold rowsK
  have : ((l.take k).map fun _ => spT).length = k := by simp; omega
  rw [List.getElem?_append_right (by omega), this, Nat.sub_self, List.getElem?_map, List.getElem?_drop]
  simp [hk]
theorem rowsK_set {l : List Pl.Due} {k : Nat} (hk : k < l.length) : (rowsK l k).set k spT = rowsK l (k + 1) := by
  unfold rowsK
  have h1 : ((l.take k).map fun _ => spT).length = k := by simp; omega
  rw [List.set_append_right _ _ (by omega), h1, Nat.sub_self, List.drop_eq_getElem_cons hk, List.map_cons, List.set_cons_zero, List.take_succ_eq_append_getElem hk, List.map_append, List.append_assoc]
  rfl
def SS (l : List Pl.Due) (k : Nat) : St := ⟨[(0, .own 2000 (l.map dueT).length), (2, .t (.v (.int .i64 (k : Int))))], [], [(2000, ⟨25, 3, rowsK l k⟩)]⟩
set_option maxRecDepth 100000 in
set_option maxHeartbeats 1000000 in
theorem spoilL (l : List Pl.Due) (hn : l.length ≤ 1000) : LCalls Try.prog 37 [.own 2000 (l.map dueT).length] [] (DRow 2000 l) (.tu []) [] [(2000, ⟨25, 3, spRows l⟩)] := by
  have hml : (l.map dueT).length = l.length := List.length_map _
  refine lcalls_of Try.func37 rfl rfl Try.ntmps37 rfl ?_
  repeat' (first
    | refine then_go ?_
    | refine swp_seq ?_
    | ((refine swp_region (id := 0) ?_) <;> (refine sops_pure (.free rfl rfl) rfl rfl (po_assign rfl rfl) ?_) <;> (refine sops_nil ?_))
    | refine swp_ret ?_
    | refine swp_skip ?_
    | refine swp_block ?_
    | refine swp_exit ?_
    | refine block_go ?_
    | refine block_exit ?_
    | refine block_far rfl ?_
    | refine block_ret ?_
    | refine then_ret ?_
    | refine then_exit ?_
    | refine for_ret ?_
    | refine for_exit ?_
    | refine ct ?_
    | refine cf ?_
    | refine swp_cond rfl (fun hc => ?_) (fun hc => ?_)
    | refine retq (by first | exact .inr rfl | exact .inl rfl) rfl .nil ?_)
  refine swp_for (SS l) (fun _ => True) l.length (weak_sub (.cons rfl rfl rfl (.cons rfl rfl rfl .nil)) .nil (.cons rfl rfl .nil)) trivial ?_
  intro k hk _
  unfold SS
  have hr := (rowsK_len l k).symm
  by_cases hlt : k < l.length
  · have hat := rowsK_at hlt
    have hset := rowsK_set hlt
    repeat' (first
      | refine then_go ?_
      | refine swp_seq ?_
      | refine for_next hlt (weak_sub (.cons rfl (by first | rfl | (rw [← hset]; try rfl)) rfl (.cons rfl (by first | rfl | (rw [← hset]; try rfl)) rfl .nil)) .nil (.cons rfl (by first | rfl | (rw [← hset]; try rfl)) .nil)) trivial
      | ((refine swp_region (id := 1) ?_) <;> (refine sops_pure (.free rfl rfl) rfl rfl (po_move rfl rfl) ?_) <;> (refine sops_pure (.free rfl rfl) rfl rfl (po_move rfl rfl) ?_) <;> (first | refine sops_pure (.free rfl rfl) rfl rfl (po_len_own rfl rfl (tyS rfl)) ?_ | refine sops_pure (.free rfl rfl) rfl rfl (pln rfl (tyS rfl)) ?_) <;> (refine sops_pure (.free rfl rfl) rfl rfl (po_cmp rfl rfl rfl rfl) ?_) <;> (refine sops_nil ?_))
      | ((refine swp_region (id := 3) ?_) <;> (refine sops_pure (.free rfl rfl) rfl rfl (po_move rfl rfl) ?_) <;> (refine sops_pure (.free rfl rfl) rfl rfl (po_move rfl rfl) ?_) <;> (refine sops_pure (.free rfl rfl) rfl rfl (po_buildS str25 rfl (pc .nil) rfl) ?_) <;> (first | refine sops_pure (.free rfl rfl) rfl rfl (po_index_own rfl rfl rfl (by first | rfl | assumption | omega | (simp; done) | (simp; omega) | (simp at *; omega)) rfl (tyS rfl) (by first | rfl | omega) (by first | assumption | omega)) ?_ | refine sops_pure (.free rfl rfl) rfl rfl (pix rfl (tyS rfl)) ?_) <;> (first | refine sops_store (.free rfl rfl) rfl rfl rfl rfl rfl rfl (tyT rfl) rfl rfl ?_ | refine sops_store_own (by rfl) (.free rfl rfl) rfl rfl rfl rfl (by first | rfl | assumption | omega | (simp; done) | (simp; omega) | (simp at *; omega)) rfl (by first | exact .t _ | exact .own rfl (by first | rfl | assumption | (simp; done) | (simp; omega)) | exact .nil _ | exact .emp _ | exact .fn _) rfl rfl (tyT rfl) rfl (by first | rfl | assumption | exact map_at (by first | assumption | omega)) rfl ?_) <;> (refine sops_nil ?_))
      | ((refine swp_region (id := 2) ?_) <;> (refine sops_pure (.free rfl rfl) rfl rfl (po_move rfl rfl) ?_) <;> (first | refine sops_pure (.free rfl rfl) rfl rfl (po_inc rfl rfl rfl (by omega)) ?_ | refine sops_pure (.free rfl rfl) rfl rfl (po_arith rfl rfl rfl (ar_add (by first | rfl | (refine wrap_i64 ?_; omega)) rfl)) ?_) <;> (refine sops_pure (.free rfl rfl) rfl rfl (po_assign rfl rfl) ?_) <;> (refine sops_nil ?_))
      | refine swp_ret ?_
      | refine swp_skip ?_
      | refine swp_block ?_
      | refine swp_exit ?_
      | refine block_go ?_
      | refine block_exit ?_
      | refine block_far rfl ?_
      | refine block_ret ?_
      | refine then_ret ?_
      | refine then_exit ?_
      | refine for_ret ?_
      | refine for_exit ?_
      | refine ct ?_
      | refine cf ?_
      | refine swp_cond rfl (fun hc => ?_) (fun hc => ?_)
      | refine retq (by first | exact .inr rfl | exact .inl rfl) rfl .nil ?_)
  · obtain rfl : k = l.length := by omega
    have he : rowsK l l.length = spRows l := by unfold rowsK spRows; simp
    rw [he]
    repeat' (first
      | refine then_go ?_
      | refine swp_seq ?_
      | ((refine swp_region (id := 1) ?_) <;> (refine sops_pure (.free rfl rfl) rfl rfl (po_move rfl rfl) ?_) <;> (refine sops_pure (.free rfl rfl) rfl rfl (po_move rfl rfl) ?_) <;> (first | refine sops_pure (.free rfl rfl) rfl rfl (po_len_own rfl rfl (tyS rfl)) ?_ | refine sops_pure (.free rfl rfl) rfl rfl (pln rfl (tyS rfl)) ?_) <;> (refine sops_pure (.free rfl rfl) rfl rfl (po_cmp rfl rfl rfl rfl) ?_) <;> (refine sops_nil ?_))
      | refine swp_ret ?_
      | refine swp_skip ?_
      | refine swp_block ?_
      | refine swp_exit ?_
      | refine block_go ?_
      | refine block_exit ?_
      | refine block_far rfl ?_
      | refine block_ret ?_
      | refine then_ret ?_
      | refine then_exit ?_
      | refine for_ret ?_
      | refine for_exit ?_
      | refine ct ?_
      | refine cf ?_
      | refine swp_cond rfl (fun hc => ?_) (fun hc => ?_)
      | refine retl (by first | exact .inr rfl | exact .inl rfl) rfl .nil ?_ rfl .nil (.cons rfl (by first | rfl | assumption | (symm; assumption)) .nil))
    all_goals rfl
set_option maxRecDepth 100000 in
set_option maxHeartbeats 1000000 in
theorem isL (l : List Pl.Due) (e : Int) (hn : l.length ≤ 1000) : LCalls Try.prog 15 [.own 2000 (l.map dueT).length, .t (.v (.int .i64 e)), .t (duesT l), .t (.v (.int .i64 e))] [] (DRow 2000 l) (.t (.v (.bool true))) [] [(2000, ⟨25, 3, spRows l⟩)] := by
  have c1 := rSame l l hn hn
  rw [show decide (l = l) = true by simp] at c1
  have c2 := spoilL l hn
  have e1 : decide (e = e) = true := by simp
  refine lcalls_of Try.func15 rfl rfl Try.ntmps15 rfl ?_
  repeat' (first
    | refine then_go ?_
    | refine swp_seq ?_
    | ((refine swp_region (id := 0) ?_) <;> (refine sops_pure (.free rfl rfl) rfl rfl (po_assign rfl rfl) ?_) <;> (refine sops_nil ?_))
    | ((refine swp_region (id := 1) ?_) <;> (refine sops_pure (.free rfl rfl) rfl rfl (po_move rfl rfl) ?_) <;> (refine sops_pure (.free rfl rfl) rfl rfl (po_move rfl rfl) ?_) <;> (refine sops_pure (.free rfl rfl) rfl rfl (po_cmp rfl rfl rfl rfl) ?_) <;> (refine sops_pure (.free rfl rfl) rfl rfl (po_move rfl rfl) ?_) <;> (first | refine sops_pure gy rfl rfl (po_move rfl rfl) ?_ | refine sops_skip gn1 rfl rfl ?_ | ((refine sops_split rfl rfl rfl (fun hc => ?_) (fun hc => ?_)) <;> (first | refine sops_pure gy rfl rfl (po_move rfl rfl) ?_ | refine sops_skip gn1 rfl rfl ?_))) <;> (first | refine sops_pure gy rfl rfl (po_move rfl rfl) ?_ | refine sops_skip gn1 rfl rfl ?_) <;> (first | refine sops_lcall (c2) (fun i => i) (fun i => i) (fun _ => false) gy rfl rfl rfl (by first | ((repeat' (first | exact .nil | refine .cons rfl rfl rfl ?_ | refine .vw rfl (by first | exact .t _ | exact .own rfl (by first | rfl | assumption | (simp; done) | (simp; omega)) | exact .nil _ | exact .emp _ | exact .fn _) ?_)) <;> fail) | fail) .nil (.cons rfl rfl .nil) rfl rfl (fun _ h => Bool.noConfusion h) ?_ | refine sops_pure gy rfl rfl (po_call_see (c1) rfl (.cons rfl (by first | exact .t _ | exact .own rfl (by first | rfl | assumption | omega | (simp; done) | (simp; omega) | (simp at *; omega)) | exact .nil _ | exact .emp _ | exact .fn _ | (repeat' first | exact .agn | refine .agc ?_ ?_ | exact .t _ | exact .own rfl rfl)) (.cons rfl (by first | exact .t _ | exact .own rfl (by first | rfl | assumption | omega | (simp; done) | (simp; omega) | (simp at *; omega)) | exact .nil _ | exact .emp _ | exact .fn _ | (repeat' first | exact .agn | refine .agc ?_ ?_ | exact .t _ | exact .own rfl rfl)) .nil)) rfl) ?_ | refine sops_skip gn1 rfl rfl ?_) <;> (first | refine sops_pure (.free rfl rfl) rfl rfl (pkt rfl) ?_ | refine sops_pure (.free rfl rfl) rfl rfl (pkf rfl) ?_) <;> (refine sops_pure (.free rfl rfl) rfl rfl (po_assign rfl rfl) ?_) <;> (refine sops_nil ?_))
    | ((refine swp_region (id := 2) ?_) <;> (refine sops_pure (.free rfl rfl) rfl rfl (po_move rfl rfl) ?_) <;> (first | refine sops_lcall (c2) (fun i => i) (fun i => i) (fun _ => false) (.free rfl rfl) rfl rfl rfl (by first | ((repeat' (first | exact .nil | refine .cons rfl rfl rfl ?_ | refine .vw rfl (by first | exact .t _ | exact .own rfl (by first | rfl | assumption | (simp; done) | (simp; omega)) | exact .nil _ | exact .emp _ | exact .fn _) ?_)) <;> fail) | fail) .nil (.cons rfl rfl .nil) rfl rfl (fun _ h => Bool.noConfusion h) ?_ | refine sops_pure (.free rfl rfl) rfl rfl (po_call_see (c1) rfl (.cons rfl (by first | exact .t _ | exact .own rfl (by first | rfl | assumption | omega | (simp; done) | (simp; omega) | (simp at *; omega)) | exact .nil _ | exact .emp _ | exact .fn _ | (repeat' first | exact .agn | refine .agc ?_ ?_ | exact .t _ | exact .own rfl rfl)) .nil) rfl) ?_) <;> (refine sops_nil ?_))
    | ((refine swp_region (id := 3) ?_) <;> (refine sops_pure (.free rfl rfl) rfl rfl (po_move rfl rfl) ?_) <;> (refine sops_pure (.free rfl rfl) rfl rfl (po_assign rfl rfl) ?_) <;> (refine sops_nil ?_))
    | refine swp_ret ?_
    | refine swp_skip ?_
    | refine swp_block ?_
    | refine swp_exit ?_
    | refine block_go ?_
    | refine block_exit ?_
    | refine block_far rfl ?_
    | refine block_ret ?_
    | refine then_ret ?_
    | refine then_exit ?_
    | refine for_ret ?_
    | refine for_exit ?_
    | refine ct ?_
    | refine cf ?_
    | refine swp_cond rfl (fun hc => ?_) (fun hc => ?_)
    | refine retl (by first | exact .inr rfl | exact .inl rfl) rfl (.tmp rfl rfl .nil) ?_ rfl .nil (.cons rfl (by first | rfl | assumption | (symm; assumption)) .nil))
  all_goals rfl
end Go.Proofs.Ytmjckopplkihlaa.Due

/- For every two rows of things, thing and time, the law TimersDo returns true. -/
namespace Go.Proofs.Ytmjckopplkihlaa.TimersDo
set_option linter.unusedVariables false
set_option linter.unusedSimpArgs false
open Go.RowKit Mem Sim Due
theorem po_bne {P : Program} {bx : List (Nat × List A)} {ow : List (Nat × Own)} {o : Oper} {ρ : Operand → Option A} {t t2 : TypeId} {x y : Operand} {i j : Bool} (c : Bool) (ho : o.op = .binOp .neq t x y t2) (hx : ρ x = some (.t (.v (.bool i)))) (hy : ρ y = some (.t (.v (.bool j)))) (hu : P.underlying t = some .bool) (hc : (!(i == j)) = c) : PureOp P bx ow o ρ (.t (.v (.bool c))) := by
  have := po_boolq (bx := bx) (ow := ow) ho hx hy hu (.inr rfl)
  rw [if_neg (by decide), hc] at this
  exact this
theorem po_beq {P : Program} {bx : List (Nat × List A)} {ow : List (Nat × Own)} {o : Oper} {ρ : Operand → Option A} {t t2 : TypeId} {x y : Operand} {i j : Bool} (c : Bool) (ho : o.op = .binOp .eql t x y t2) (hx : ρ x = some (.t (.v (.bool i)))) (hy : ρ y = some (.t (.v (.bool j)))) (hu : P.underlying t = some .bool) (hc : (i == j) = c) : PureOp P bx ow o ρ (.t (.v (.bool c))) := by
  have := po_boolq (bx := bx) (ow := ow) ho hx hy hu (.inl rfl)
  rw [if_pos rfl, hc] at this
  exact this
theorem cellsAre_nil (m : Mm) : CellsAre m [] [] := ⟨rfl, fun j t v h => by simp at h⟩
theorem cellsAre_cons {m : Mm} {t : T} {v : Value} {ts : List T} {vs : List Value} (h : TR m t v) (h1 : v.oneCell' = true) (hs : CellsAre m ts vs) : CellsAre m (t :: ts) (v :: vs) := by
  refine ⟨by simp [hs.1], fun j t' v' h2 h3 => ?_⟩
  cases j with
  | zero => simp at h2 h3; subst h2 h3; exact ⟨h, h1⟩
  | succ j => exact hs.2 j t' v' (by simpa using h2) (by simpa using h3)
theorem agg_bwd {m : Mm} {cs : List T} {vs : List Value} (h : CellsAre m cs vs) : TR m (.agg cs) (.agg vs.toArray) :=
  .agg cs vs.toArray (by simpa using h.1) (fun v hv => by
    obtain ⟨j, hj⟩ := List.getElem?_of_mem hv
    obtain ⟨t, ht⟩ : ∃ t, cs[j]? = some t := by
      have : j < cs.length := by rw [← h.1]; exact (List.getElem?_eq_some_iff.1 hj).1
      exact ⟨_, List.getElem?_eq_getElem this⟩
    exact (h.2 j t v ht hj).2) (fun j t v h1 h2 => (h.2 j t v h1 (by simpa using h2)).1)
theorem wf_sub {l m : List Pl.Due} (h : WfL l) (hs : ∀ x ∈ m, x ∈ l) : WfL m := fun x hx => h x (hs x hx)
theorem find_form (o : Option Pl.Due) : ∃ (a : Int) (b : Bool), findT o = .tup [.v (.int .u64 a), .v (.bool b)] := by
  cases o with
  | none => exact ⟨0, false, rfl⟩
  | some x => exact ⟨x.at_, true, rfl⟩
theorem add_len (l : List Pl.Due) (d : Pl.Due) (hl : l.length ≤ 500) : (Pl.addL l d).length ≤ 1000 := by
  unfold Pl.addL
  split
  · rw [Pl.ins_len]
    have : (Pl.dropL l d.kind d.key).length ≤ l.length := List.length_filter_le _ _
    omega
  · simp
theorem soon_len (l : List Pl.Due) (d : Pl.Due) (hl : l.length ≤ 500) : (Pl.soonL l d).length ≤ 1000 := by
  unfold Pl.soonL
  split
  · omega
  · exact add_len l d hl
set_option maxRecDepth 100000 in
set_option maxHeartbeats 4000000 in
theorem law_ (l m : List Pl.Due) (hl : WfL l) (hm : WfL m) (n1 : (l.length : Int) ≤ 9223372036854775807) (n2 : (m.length : Int) ≤ 9223372036854775807) (d : Pl.Due) (hd : wfD d) (now : Int) : PCalls Try.prog 3 [duesT l, duesT m, .agg (dueT d), .v (.int .u64 now)] (.v (.bool true)) := by
  have haw := p_awake
  have hm1 : (l.map dueT).length = l.length := List.length_map _
  have hm2 : (m.map dueT).length = m.length := List.length_map _
  by_cases h1 : 500 < l.length
  · refine pcalls_of Try.func3 rfl rfl Try.ntmps3 rfl ?_
    repeat' (first
      | refine then_go ?_
      | refine swp_seq ?_
      | ((refine swp_region (id := 0) ?_) <;> (refine sops_box (.free rfl rfl) rfl rfl rfl rfl rfl rfl ?_) <;> (refine sops_pure (.free rfl rfl) rfl rfl (po_assign rfl rfl) ?_) <;> (refine sops_nil ?_))
      | ((refine swp_region (id := 1) ?_) <;> (refine sops_pure (.free rfl rfl) rfl rfl (po_move rfl rfl) ?_) <;> (refine sops_pure (.free rfl rfl) rfl rfl (pln rfl (tyS rfl)) ?_) <;> (refine sops_pure (.free rfl rfl) rfl rfl (po_cmp rfl rfl rfl rfl) ?_) <;> (refine sops_pure (.free rfl rfl) rfl rfl (po_move rfl rfl) ?_) <;> (first | refine sops_pure gy rfl rfl (po_move rfl rfl) ?_ | refine sops_skip gn0 rfl rfl ?_ | ((refine sops_split rfl rfl rfl (fun hc => ?_) (fun hc => ?_)) <;> (first | refine sops_pure gy rfl rfl (po_move rfl rfl) ?_ | refine sops_skip gn0 rfl rfl ?_))) <;> (first | refine sops_pure gy rfl rfl (pln rfl (tyS rfl)) ?_ | refine sops_skip gn0 rfl rfl ?_) <;> (first | refine sops_pure gy rfl rfl (po_cmp rfl rfl rfl rfl) ?_ | refine sops_skip gn0 rfl rfl ?_) <;> (first | refine sops_pure (.free rfl rfl) rfl rfl (pkt rfl) ?_ | refine sops_pure (.free rfl rfl) rfl rfl (pkf rfl) ?_) <;> (refine sops_nil ?_))
      | ((refine swp_region (id := 2) ?_) <;> (refine sops_pure (.free rfl rfl) rfl rfl (po_call (haw) rfl .nil) ?_) <;> (refine sops_pure (.free rfl rfl) rfl rfl (po_assign rfl rfl) ?_) <;> (refine sops_nil ?_))
      | refine swp_ret ?_
      | refine swp_skip ?_
      | refine swp_block ?_
      | refine swp_exit ?_
      | refine block_go ?_
      | refine block_exit ?_
      | refine block_far rfl ?_
      | refine block_ret ?_
      | refine then_ret ?_
      | refine then_exit ?_
      | refine for_ret ?_
      | refine for_exit ?_
      | refine ct ?_
      | refine cf ?_
      | refine swp_cond rfl (fun hc => ?_) (fun hc => ?_)
      | refine retq (by first | exact .inr rfl | exact .inl rfl) rfl (.tmp rfl (by first | exact .t _ | exact .own rfl (by first | rfl | assumption | (simp; done) | (simp; omega)) | exact .nil _ | exact .emp _ | exact .fn _) .nil) ?_)
    rfl
  by_cases h2 : 500 < m.length
  · refine pcalls_of Try.func3 rfl rfl Try.ntmps3 rfl ?_
    repeat' (first
      | refine then_go ?_
      | refine swp_seq ?_
      | ((refine swp_region (id := 0) ?_) <;> (refine sops_box (.free rfl rfl) rfl rfl rfl rfl rfl rfl ?_) <;> (refine sops_pure (.free rfl rfl) rfl rfl (po_assign rfl rfl) ?_) <;> (refine sops_nil ?_))
      | ((refine swp_region (id := 1) ?_) <;> (refine sops_pure (.free rfl rfl) rfl rfl (po_move rfl rfl) ?_) <;> (refine sops_pure (.free rfl rfl) rfl rfl (pln rfl (tyS rfl)) ?_) <;> (refine sops_pure (.free rfl rfl) rfl rfl (po_cmp rfl rfl rfl rfl) ?_) <;> (refine sops_pure (.free rfl rfl) rfl rfl (po_move rfl rfl) ?_) <;> (first | refine sops_pure gy rfl rfl (po_move rfl rfl) ?_ | refine sops_skip gn0 rfl rfl ?_ | ((refine sops_split rfl rfl rfl (fun hc => ?_) (fun hc => ?_)) <;> (first | refine sops_pure gy rfl rfl (po_move rfl rfl) ?_ | refine sops_skip gn0 rfl rfl ?_))) <;> (first | refine sops_pure gy rfl rfl (pln rfl (tyS rfl)) ?_ | refine sops_skip gn0 rfl rfl ?_) <;> (first | refine sops_pure gy rfl rfl (po_cmp rfl rfl rfl rfl) ?_ | refine sops_skip gn0 rfl rfl ?_) <;> (first | refine sops_pure (.free rfl rfl) rfl rfl (pkt rfl) ?_ | refine sops_pure (.free rfl rfl) rfl rfl (pkf rfl) ?_) <;> (refine sops_nil ?_))
      | ((refine swp_region (id := 2) ?_) <;> (refine sops_pure (.free rfl rfl) rfl rfl (po_call (haw) rfl .nil) ?_) <;> (refine sops_pure (.free rfl rfl) rfl rfl (po_assign rfl rfl) ?_) <;> (refine sops_nil ?_))
      | refine swp_ret ?_
      | refine swp_skip ?_
      | refine swp_block ?_
      | refine swp_exit ?_
      | refine block_go ?_
      | refine block_exit ?_
      | refine block_far rfl ?_
      | refine block_ret ?_
      | refine then_ret ?_
      | refine then_exit ?_
      | refine for_ret ?_
      | refine for_exit ?_
      | refine ct ?_
      | refine cf ?_
      | refine swp_cond rfl (fun hc => ?_) (fun hc => ?_)
      | refine retq (by first | exact .inr rfl | exact .inl rfl) rfl (.tmp rfl (by first | exact .t _ | exact .own rfl (by first | rfl | assumption | (simp; done) | (simp; omega)) | exact .nil _ | exact .emp _ | exact .fn _) .nil) ?_)
    rfl
  have l5 : l.length ≤ 500 := by omega
  have l1 : l.length ≤ 1000 := by omega
  have m1 : m.length ≤ 1000 := by omega
  have a1 := p_may l hl
  have a2 := rMay l l1
  have a3 := p_same l m hl hm
  have a4 := rSame l m l1 m1
  have a5 := p_same l l hl hl
  have a6 := rSame l l l1 l1
  rw [show decide (l = l) = true by simp] at a5 a6
  have b1 := l_add l d l1 hl hd
  have b2 := rAdd l d l1
  have b3 := isL (Pl.addL l d) (Pl.addErr l d) (add_len l d l5)
  have c1 := l_sooner l d l1 hl hd
  have c2 := rSooner l d l1
  have c3 := isL (Pl.soonL l d) (Pl.addErr l d) (soon_len l d l5)
  have d1 := l_drop l d.kind d.key l1 hl
  have d2 := rDrop l d.kind d.key l1
  have d3 := isL (Pl.dropL l d.kind d.key) 0 (Nat.le_trans (List.length_filter_le _ _) l1)
  have e1 := l_take l now l1
  have e2 := rTake l now true l1
  have e3 := rTake l now false l1
  rw [Pl.takeB_true] at e2
  rw [Pl.takeB_false] at e3
  have e4 := isL (Pl.takeL now l) 0 (Nat.le_trans (List.length_filter_le _ _) l1)
  have e5 := isL (Pl.leftL now l) 0 (Nat.le_trans (List.length_filter_le _ _) l1)
  have f1 := p_find l d.kind d.key hl
  have f2 := rFind l d.kind d.key n1
  have f3 := p_next l hl
  have f4 := rNext l l1
  obtain ⟨at0, ok, hfo⟩ := find_form (Pl.findL l d.kind d.key)
  rw [hfo] at f1 f2
  have g1 : (([] : List (List T)).length + (l.map dueT).length) * 24 ≤ 140737488355328 := by simp; omega
  have g2 : (([] : List (List T)).length + (l.map dueT).length) ≤ maxLen := by unfold maxLen; simp; omega
  generalize Pl.addL l d = al at *
  generalize Pl.addErr l d = ae at *
  generalize Pl.soonL l d = sl at *
  generalize Pl.dropL l d.kind d.key = dl at *
  generalize Pl.takeL now l = tl at *
  generalize Pl.leftL now l = fl at *
  generalize Pl.nextL l = nx at *
  generalize decide (0 < l.length) = nb at *
  generalize Pl.mayL l = ml at *
  generalize decide (l = m) = sm at *
  have q1 : (!(ml == ml)) = false := by simp
  have q2 : (!(sm == sm)) = false := by simp
  have q3 : (ok == ok) = true := by simp
  have q4 : (nb == nb) = true := by simp
  have q5 : decide (at0 = at0) = true := by simp
  have q6 : decide (nx = nx) = true := by simp
  refine pcalls_of Try.func3 rfl rfl Try.ntmps3 rfl ?_
  repeat' (first
    | refine then_go ?_
    | refine swp_seq ?_
    | ((refine swp_region (id := 0) ?_) <;> (refine sops_box (.free rfl rfl) rfl rfl rfl rfl rfl rfl ?_) <;> (refine sops_pure (.free rfl rfl) rfl rfl (po_assign rfl rfl) ?_) <;> (refine sops_nil ?_))
    | ((refine swp_region (id := 1) ?_) <;> (refine sops_pure (.free rfl rfl) rfl rfl (po_move rfl rfl) ?_) <;> (first | refine sops_pure (.free rfl rfl) rfl rfl (po_len_own rfl rfl (tyS rfl)) ?_ | refine sops_pure (.free rfl rfl) rfl rfl (pln rfl (tyS rfl)) ?_) <;> (first | refine sops_pure (.free rfl rfl) rfl rfl (po_bne false rfl rfl rfl (by kernel_rfl) q1) ?_ | refine sops_pure (.free rfl rfl) rfl rfl (po_bne false rfl rfl rfl (by kernel_rfl) q2) ?_ | refine sops_pure (.free rfl rfl) rfl rfl (po_cmp rfl rfl rfl rfl) ?_) <;> (refine sops_pure (.free rfl rfl) rfl rfl (po_move rfl rfl) ?_) <;> (first | refine sops_pure gy rfl rfl (po_move rfl rfl) ?_ | refine sops_skip gn0 rfl rfl ?_ | ((refine sops_split rfl rfl rfl (fun hc => ?_) (fun hc => ?_)) <;> (first | refine sops_pure gy rfl rfl (po_move rfl rfl) ?_ | refine sops_skip gn0 rfl rfl ?_))) <;> (first | refine sops_pure gy rfl rfl (po_len_own rfl rfl (tyS rfl)) ?_ | refine sops_pure gy rfl rfl (pln rfl (tyS rfl)) ?_ | refine sops_skip gn0 rfl rfl ?_) <;> (first | refine sops_pure gy rfl rfl (po_bne false rfl rfl rfl (by kernel_rfl) q1) ?_ | refine sops_pure gy rfl rfl (po_bne false rfl rfl rfl (by kernel_rfl) q2) ?_ | refine sops_pure gy rfl rfl (po_cmp rfl rfl rfl rfl) ?_ | refine sops_skip gn0 rfl rfl ?_) <;> (first | refine sops_pure (.free rfl rfl) rfl rfl (pkt rfl) ?_ | refine sops_pure (.free rfl rfl) rfl rfl (pkf rfl) ?_) <;> (refine sops_nil ?_))
    | ((refine swp_region (id := 3) ?_) <;> (refine sops_build0 (.free rfl rfl) rfl rfl rfl (tyE rfl) rfl ?_) <;> (refine sops_pure (.free rfl rfl) rfl rfl (po_move rfl rfl) ?_) <;> (first | refine sap rfl (tyE rfl) ?_ | refine san rfl (tyE rfl) ?_) <;> (refine sops_pure (.free rfl rfl) rfl rfl (po_assign rfl rfl) ?_) <;> (refine sops_nil ?_))
    | ((refine swp_region (id := 4) ?_) <;> (refine sops_pure (.free rfl rfl) rfl rfl (po_move rfl rfl) ?_) <;> (first | refine sops_lcall (b3) (fun i => i) (fun _ => 1000) (fun _ => false) (.free rfl rfl) rfl rfl rfl (by first | ((repeat' (first | exact .nil | refine .cons rfl rfl rfl ?_ | refine .vw rfl (by first | exact .t _ | exact .own rfl (by first | rfl | assumption | (simp; done) | (simp; omega)) | exact .nil _ | exact .emp _ | exact .fn _) ?_)) <;> fail) | fail) .nil (.cons rfl rfl .nil) rfl rfl (fun _ h => Bool.noConfusion h) ?_ | refine sops_lcall (c1) (fun i => i) (fun i => i + 1) (fun _ => false) (.free rfl rfl) rfl rfl rfl (by first | ((repeat' (first | exact .nil | refine .cons rfl rfl rfl ?_ | refine .vw rfl (by first | exact .t _ | exact .own rfl (by first | rfl | assumption | (simp; done) | (simp; omega)) | exact .nil _ | exact .emp _ | exact .fn _) ?_)) <;> fail) | fail) .nil .nil rfl rfl (fun _ h => Bool.noConfusion h) ?_ | refine sops_lcall (b1) (fun i => i) (fun i => i) (fun _ => false) (.free rfl rfl) rfl rfl rfl (by first | ((repeat' (first | exact .nil | refine .cons rfl rfl rfl ?_ | refine .vw rfl (by first | exact .t _ | exact .own rfl (by first | rfl | assumption | (simp; done) | (simp; omega)) | exact .nil _ | exact .emp _ | exact .fn _) ?_)) <;> fail) | fail) .nil .nil rfl rfl (fun _ h => Bool.noConfusion h) ?_ | refine sops_pure (.free rfl rfl) rfl rfl (po_call (a1) rfl (ac .nil)) ?_ | refine sops_pure (.free rfl rfl) rfl rfl (po_call (a2) rfl (ac .nil)) ?_ | refine sops_pure (.free rfl rfl) rfl rfl (po_call (a3) rfl (ac .nil)) ?_ | refine sops_pure (.free rfl rfl) rfl rfl (po_call (a4) rfl (ac .nil)) ?_ | refine sops_pure (.free rfl rfl) rfl rfl (po_call (a5) rfl (ac .nil)) ?_ | refine sops_pure (.free rfl rfl) rfl rfl (po_call (b2) rfl (ac .nil)) ?_ | refine sops_pure (.free rfl rfl) rfl rfl (po_call (c2) rfl (ac .nil)) ?_) <;> (refine sops_pure (.free rfl rfl) rfl rfl (po_move rfl rfl) ?_) <;> (first | refine sops_lcall (b3) (fun i => i) (fun _ => 1000) (fun _ => false) (.free rfl rfl) rfl rfl rfl (by first | ((repeat' (first | exact .nil | refine .cons rfl rfl rfl ?_ | refine .vw rfl (by first | exact .t _ | exact .own rfl (by first | rfl | assumption | (simp; done) | (simp; omega)) | exact .nil _ | exact .emp _ | exact .fn _) ?_)) <;> fail) | fail) .nil (.cons rfl rfl .nil) rfl rfl (fun _ h => Bool.noConfusion h) ?_ | refine sops_lcall (c1) (fun i => i) (fun i => i + 1) (fun _ => false) (.free rfl rfl) rfl rfl rfl (by first | ((repeat' (first | exact .nil | refine .cons rfl rfl rfl ?_ | refine .vw rfl (by first | exact .t _ | exact .own rfl (by first | rfl | assumption | (simp; done) | (simp; omega)) | exact .nil _ | exact .emp _ | exact .fn _) ?_)) <;> fail) | fail) .nil .nil rfl rfl (fun _ h => Bool.noConfusion h) ?_ | refine sops_lcall (b1) (fun i => i) (fun i => i) (fun _ => false) (.free rfl rfl) rfl rfl rfl (by first | ((repeat' (first | exact .nil | refine .cons rfl rfl rfl ?_ | refine .vw rfl (by first | exact .t _ | exact .own rfl (by first | rfl | assumption | (simp; done) | (simp; omega)) | exact .nil _ | exact .emp _ | exact .fn _) ?_)) <;> fail) | fail) .nil .nil rfl rfl (fun _ h => Bool.noConfusion h) ?_ | refine sops_pure (.free rfl rfl) rfl rfl (po_call (a1) rfl (ac .nil)) ?_ | refine sops_pure (.free rfl rfl) rfl rfl (po_call (a2) rfl (ac .nil)) ?_ | refine sops_pure (.free rfl rfl) rfl rfl (po_call (a3) rfl (ac .nil)) ?_ | refine sops_pure (.free rfl rfl) rfl rfl (po_call (a4) rfl (ac .nil)) ?_ | refine sops_pure (.free rfl rfl) rfl rfl (po_call (a5) rfl (ac .nil)) ?_ | refine sops_pure (.free rfl rfl) rfl rfl (po_call (b2) rfl (ac .nil)) ?_ | refine sops_pure (.free rfl rfl) rfl rfl (po_call (c2) rfl (ac .nil)) ?_) <;> (first | refine sops_pure (.free rfl rfl) rfl rfl (po_bne false rfl rfl rfl (by kernel_rfl) q1) ?_ | refine sops_pure (.free rfl rfl) rfl rfl (po_bne false rfl rfl rfl (by kernel_rfl) q2) ?_ | refine sops_pure (.free rfl rfl) rfl rfl (po_boolq rfl rfl rfl (by kernel_rfl) (by first | exact .inl rfl | exact .inr rfl)) ?_) <;> (refine sops_pure (.free rfl rfl) rfl rfl (po_move rfl rfl) ?_) <;> (first | refine sops_pure gy rfl rfl (po_move rfl rfl) ?_ | refine sops_skip gn0 rfl rfl ?_ | ((refine sops_split rfl rfl rfl (fun hc => ?_) (fun hc => ?_)) <;> (first | refine sops_pure gy rfl rfl (po_move rfl rfl) ?_ | refine sops_skip gn0 rfl rfl ?_))) <;> (first | refine sops_pure gy rfl rfl (po_move rfl rfl) ?_ | refine sops_skip gn0 rfl rfl ?_) <;> (first | refine sops_lcall (b3) (fun i => i) (fun _ => 1000) (fun _ => false) gy rfl rfl rfl (by first | ((repeat' (first | exact .nil | refine .cons rfl rfl rfl ?_ | refine .vw rfl (by first | exact .t _ | exact .own rfl (by first | rfl | assumption | (simp; done) | (simp; omega)) | exact .nil _ | exact .emp _ | exact .fn _) ?_)) <;> fail) | fail) .nil (.cons rfl rfl .nil) rfl rfl (fun _ h => Bool.noConfusion h) ?_ | refine sops_lcall (c1) (fun i => i) (fun i => i + 1) (fun _ => false) gy rfl rfl rfl (by first | ((repeat' (first | exact .nil | refine .cons rfl rfl rfl ?_ | refine .vw rfl (by first | exact .t _ | exact .own rfl (by first | rfl | assumption | (simp; done) | (simp; omega)) | exact .nil _ | exact .emp _ | exact .fn _) ?_)) <;> fail) | fail) .nil .nil rfl rfl (fun _ h => Bool.noConfusion h) ?_ | refine sops_lcall (b1) (fun i => i) (fun i => i) (fun _ => false) gy rfl rfl rfl (by first | ((repeat' (first | exact .nil | refine .cons rfl rfl rfl ?_ | refine .vw rfl (by first | exact .t _ | exact .own rfl (by first | rfl | assumption | (simp; done) | (simp; omega)) | exact .nil _ | exact .emp _ | exact .fn _) ?_)) <;> fail) | fail) .nil .nil rfl rfl (fun _ h => Bool.noConfusion h) ?_ | refine sops_pure gy rfl rfl (po_call (a1) rfl (ac (ac .nil))) ?_ | refine sops_pure gy rfl rfl (po_call (a2) rfl (ac (ac .nil))) ?_ | refine sops_pure gy rfl rfl (po_call (a3) rfl (ac (ac .nil))) ?_ | refine sops_pure gy rfl rfl (po_call (a4) rfl (ac (ac .nil))) ?_ | refine sops_pure gy rfl rfl (po_call (a5) rfl (ac (ac .nil))) ?_ | refine sops_pure gy rfl rfl (po_call (b2) rfl (ac (ac .nil))) ?_ | refine sops_pure gy rfl rfl (po_call (c2) rfl (ac (ac .nil))) ?_ | refine sops_skip gn0 rfl rfl ?_) <;> (first | refine sops_pure gy rfl rfl (po_move rfl rfl) ?_ | refine sops_skip gn0 rfl rfl ?_) <;> (first | refine sops_pure gy rfl rfl (po_move rfl rfl) ?_ | refine sops_skip gn0 rfl rfl ?_) <;> (first | refine sops_lcall (b3) (fun i => i) (fun _ => 1000) (fun _ => false) gy rfl rfl rfl (by first | ((repeat' (first | exact .nil | refine .cons rfl rfl rfl ?_ | refine .vw rfl (by first | exact .t _ | exact .own rfl (by first | rfl | assumption | (simp; done) | (simp; omega)) | exact .nil _ | exact .emp _ | exact .fn _) ?_)) <;> fail) | fail) .nil (.cons rfl rfl .nil) rfl rfl (fun _ h => Bool.noConfusion h) ?_ | refine sops_lcall (c1) (fun i => i) (fun i => i + 1) (fun _ => false) gy rfl rfl rfl (by first | ((repeat' (first | exact .nil | refine .cons rfl rfl rfl ?_ | refine .vw rfl (by first | exact .t _ | exact .own rfl (by first | rfl | assumption | (simp; done) | (simp; omega)) | exact .nil _ | exact .emp _ | exact .fn _) ?_)) <;> fail) | fail) .nil .nil rfl rfl (fun _ h => Bool.noConfusion h) ?_ | refine sops_lcall (b1) (fun i => i) (fun i => i) (fun _ => false) gy rfl rfl rfl (by first | ((repeat' (first | exact .nil | refine .cons rfl rfl rfl ?_ | refine .vw rfl (by first | exact .t _ | exact .own rfl (by first | rfl | assumption | (simp; done) | (simp; omega)) | exact .nil _ | exact .emp _ | exact .fn _) ?_)) <;> fail) | fail) .nil .nil rfl rfl (fun _ h => Bool.noConfusion h) ?_ | refine sops_pure gy rfl rfl (po_call (a1) rfl (ac (ac .nil))) ?_ | refine sops_pure gy rfl rfl (po_call (a2) rfl (ac (ac .nil))) ?_ | refine sops_pure gy rfl rfl (po_call (a3) rfl (ac (ac .nil))) ?_ | refine sops_pure gy rfl rfl (po_call (a4) rfl (ac (ac .nil))) ?_ | refine sops_pure gy rfl rfl (po_call (a5) rfl (ac (ac .nil))) ?_ | refine sops_pure gy rfl rfl (po_call (b2) rfl (ac (ac .nil))) ?_ | refine sops_pure gy rfl rfl (po_call (c2) rfl (ac (ac .nil))) ?_ | refine sops_skip gn0 rfl rfl ?_) <;> (first | refine sops_pure gy rfl rfl (po_bne false rfl rfl rfl (by kernel_rfl) q1) ?_ | refine sops_pure gy rfl rfl (po_bne false rfl rfl rfl (by kernel_rfl) q2) ?_ | refine sops_pure gy rfl rfl (po_boolq rfl rfl rfl (by kernel_rfl) (by first | exact .inl rfl | exact .inr rfl)) ?_ | refine sops_skip gn0 rfl rfl ?_) <;> (first | refine sops_pure (.free rfl rfl) rfl rfl (pkt rfl) ?_ | refine sops_pure (.free rfl rfl) rfl rfl (pkf rfl) ?_) <;> (refine sops_pure (.free rfl rfl) rfl rfl (po_move rfl rfl) ?_) <;> (first | refine sops_pure gy rfl rfl (po_move rfl rfl) ?_ | refine sops_skip gn0 rfl rfl ?_ | ((refine sops_split rfl rfl rfl (fun hc => ?_) (fun hc => ?_)) <;> (first | refine sops_pure gy rfl rfl (po_move rfl rfl) ?_ | refine sops_skip gn0 rfl rfl ?_))) <;> (first | refine sops_pure gy rfl rfl (po_move rfl rfl) ?_ | refine sops_skip gn0 rfl rfl ?_) <;> (first | refine sops_lcall (b3) (fun i => i) (fun _ => 1000) (fun _ => false) gy rfl rfl rfl (by first | ((repeat' (first | exact .nil | refine .cons rfl rfl rfl ?_ | refine .vw rfl (by first | exact .t _ | exact .own rfl (by first | rfl | assumption | (simp; done) | (simp; omega)) | exact .nil _ | exact .emp _ | exact .fn _) ?_)) <;> fail) | fail) .nil (.cons rfl rfl .nil) rfl rfl (fun _ h => Bool.noConfusion h) ?_ | refine sops_lcall (c1) (fun i => i) (fun i => i + 1) (fun _ => false) gy rfl rfl rfl (by first | ((repeat' (first | exact .nil | refine .cons rfl rfl rfl ?_ | refine .vw rfl (by first | exact .t _ | exact .own rfl (by first | rfl | assumption | (simp; done) | (simp; omega)) | exact .nil _ | exact .emp _ | exact .fn _) ?_)) <;> fail) | fail) .nil .nil rfl rfl (fun _ h => Bool.noConfusion h) ?_ | refine sops_lcall (b1) (fun i => i) (fun i => i) (fun _ => false) gy rfl rfl rfl (by first | ((repeat' (first | exact .nil | refine .cons rfl rfl rfl ?_ | refine .vw rfl (by first | exact .t _ | exact .own rfl (by first | rfl | assumption | (simp; done) | (simp; omega)) | exact .nil _ | exact .emp _ | exact .fn _) ?_)) <;> fail) | fail) .nil .nil rfl rfl (fun _ h => Bool.noConfusion h) ?_ | refine sops_pure gy rfl rfl (po_call (a1) rfl (ac (ac .nil))) ?_ | refine sops_pure gy rfl rfl (po_call (a2) rfl (ac (ac .nil))) ?_ | refine sops_pure gy rfl rfl (po_call (a3) rfl (ac (ac .nil))) ?_ | refine sops_pure gy rfl rfl (po_call (a4) rfl (ac (ac .nil))) ?_ | refine sops_pure gy rfl rfl (po_call (a5) rfl (ac (ac .nil))) ?_ | refine sops_pure gy rfl rfl (po_call (b2) rfl (ac (ac .nil))) ?_ | refine sops_pure gy rfl rfl (po_call (c2) rfl (ac (ac .nil))) ?_ | refine sops_skip gn0 rfl rfl ?_) <;> (first | refine sops_pure gy rfl rfl (po_not rfl rfl) ?_ | refine sops_skip gn0 rfl rfl ?_) <;> (first | refine sops_pure (.free rfl rfl) rfl rfl (pkt rfl) ?_ | refine sops_pure (.free rfl rfl) rfl rfl (pkf rfl) ?_) <;> (refine sops_nil ?_))
    | ((refine swp_region (id := 6) ?_) <;> (refine sops_pure (.free rfl rfl) rfl rfl (po_move rfl rfl) ?_) <;> (first | refine sops_pure (.free rfl rfl) rfl rfl (po_load_bx_agg rfl rfl (tyT rfl) rfl (vc (vc (vc .nil))) rfl) ?_ | refine sops_pure (.free rfl rfl) rfl rfl (po_load_agg rfl rfl (tyT rfl) rfl rfl) ?_ | refine sops_pure (.free rfl rfl) rfl rfl (po_load_own_agg rfl rfl rfl (by first | rfl | assumption | omega | (simp; done) | (simp; omega) | (simp at *; omega)) (tyT rfl) (by first | rfl | assumption | exact map_at (by first | assumption | omega)) rfl rfl) ?_ | refine sops_pure (.free rfl rfl) rfl rfl (po_load_bx_ag rfl rfl (tyT rfl) rfl rfl rfl rfl) ?_) <;> (first | refine sops_lcall (b3) (fun i => i) (fun _ => 1000) (fun _ => false) (.free rfl rfl) rfl rfl rfl (by first | ((repeat' (first | exact .nil | refine .cons rfl rfl rfl ?_ | refine .vw rfl (by first | exact .t _ | exact .own rfl (by first | rfl | assumption | (simp; done) | (simp; omega)) | exact .nil _ | exact .emp _ | exact .fn _) ?_)) <;> fail) | fail) .nil (.cons rfl rfl .nil) rfl rfl (fun _ h => Bool.noConfusion h) ?_ | refine sops_lcall (c1) (fun i => i) (fun i => i + 1) (fun _ => false) (.free rfl rfl) rfl rfl rfl (by first | ((repeat' (first | exact .nil | refine .cons rfl rfl rfl ?_ | refine .vw rfl (by first | exact .t _ | exact .own rfl (by first | rfl | assumption | (simp; done) | (simp; omega)) | exact .nil _ | exact .emp _ | exact .fn _) ?_)) <;> fail) | fail) .nil .nil rfl rfl (fun _ h => Bool.noConfusion h) ?_ | refine sops_lcall (b1) (fun i => i) (fun i => i) (fun _ => false) (.free rfl rfl) rfl rfl rfl (by first | ((repeat' (first | exact .nil | refine .cons rfl rfl rfl ?_ | refine .vw rfl (by first | exact .t _ | exact .own rfl (by first | rfl | assumption | (simp; done) | (simp; omega)) | exact .nil _ | exact .emp _ | exact .fn _) ?_)) <;> fail) | fail) .nil .nil rfl rfl (fun _ h => Bool.noConfusion h) ?_ | refine sops_pure (.free rfl rfl) rfl rfl (po_call (a1) rfl (ac (ac .nil))) ?_ | refine sops_pure (.free rfl rfl) rfl rfl (po_call (a2) rfl (ac (ac .nil))) ?_ | refine sops_pure (.free rfl rfl) rfl rfl (po_call (a3) rfl (ac (ac .nil))) ?_ | refine sops_pure (.free rfl rfl) rfl rfl (po_call (a4) rfl (ac (ac .nil))) ?_ | refine sops_pure (.free rfl rfl) rfl rfl (po_call (a5) rfl (ac (ac .nil))) ?_ | refine sops_pure (.free rfl rfl) rfl rfl (po_call (b2) rfl (ac (ac .nil))) ?_ | refine sops_pure (.free rfl rfl) rfl rfl (po_call (c2) rfl (ac (ac .nil))) ?_) <;> (refine sops_pure (.free rfl rfl) rfl rfl (po_move rfl rfl) ?_) <;> (first | refine sops_pure (.free rfl rfl) rfl rfl (po_extract rfl rfl rfl) ?_ | refine sops_pure (.free rfl rfl) rfl rfl (po_extract_tu rfl rfl rfl) ?_) <;> (first | refine sops_pure (.free rfl rfl) rfl rfl (po_extract rfl rfl rfl) ?_ | refine sops_pure (.free rfl rfl) rfl rfl (po_extract_tu rfl rfl rfl) ?_) <;> (refine sops_pure (.free rfl rfl) rfl rfl (po_assign rfl rfl) ?_) <;> (refine sops_pure (.free rfl rfl) rfl rfl (po_assign rfl rfl) ?_) <;> (refine sops_nil ?_))
    | ((refine swp_region (id := 7) ?_) <;> (refine sops_pure (.free rfl rfl) rfl rfl (po_move rfl rfl) ?_) <;> (first | refine sops_pure (.free rfl rfl) rfl rfl (po_load_bx_agg rfl rfl (tyT rfl) rfl (vc (vc (vc .nil))) rfl) ?_ | refine sops_pure (.free rfl rfl) rfl rfl (po_load_agg rfl rfl (tyT rfl) rfl rfl) ?_ | refine sops_pure (.free rfl rfl) rfl rfl (po_load_own_agg rfl rfl rfl (by first | rfl | assumption | omega | (simp; done) | (simp; omega) | (simp at *; omega)) (tyT rfl) (by first | rfl | assumption | exact map_at (by first | assumption | omega)) rfl rfl) ?_ | refine sops_pure (.free rfl rfl) rfl rfl (po_load_bx_ag rfl rfl (tyT rfl) rfl rfl rfl rfl) ?_) <;> (first | refine sops_lcall (b3) (fun i => i) (fun _ => 1000) (fun _ => false) (.free rfl rfl) rfl rfl rfl (by first | ((repeat' (first | exact .nil | refine .cons rfl rfl rfl ?_ | refine .vw rfl (by first | exact .t _ | exact .own rfl (by first | rfl | assumption | (simp; done) | (simp; omega)) | exact .nil _ | exact .emp _ | exact .fn _) ?_)) <;> fail) | fail) .nil (.cons rfl rfl .nil) rfl rfl (fun _ h => Bool.noConfusion h) ?_ | refine sops_lcall (c1) (fun i => i) (fun i => i + 1) (fun _ => false) (.free rfl rfl) rfl rfl rfl (by first | ((repeat' (first | exact .nil | refine .cons rfl rfl rfl ?_ | refine .vw rfl (by first | exact .t _ | exact .own rfl (by first | rfl | assumption | (simp; done) | (simp; omega)) | exact .nil _ | exact .emp _ | exact .fn _) ?_)) <;> fail) | fail) .nil .nil rfl rfl (fun _ h => Bool.noConfusion h) ?_ | refine sops_lcall (b1) (fun i => i) (fun i => i) (fun _ => false) (.free rfl rfl) rfl rfl rfl (by first | ((repeat' (first | exact .nil | refine .cons rfl rfl rfl ?_ | refine .vw rfl (by first | exact .t _ | exact .own rfl (by first | rfl | assumption | (simp; done) | (simp; omega)) | exact .nil _ | exact .emp _ | exact .fn _) ?_)) <;> fail) | fail) .nil .nil rfl rfl (fun _ h => Bool.noConfusion h) ?_ | refine sops_pure (.free rfl rfl) rfl rfl (po_call (a1) rfl (ac (ac .nil))) ?_ | refine sops_pure (.free rfl rfl) rfl rfl (po_call (a2) rfl (ac (ac .nil))) ?_ | refine sops_pure (.free rfl rfl) rfl rfl (po_call (a3) rfl (ac (ac .nil))) ?_ | refine sops_pure (.free rfl rfl) rfl rfl (po_call (a4) rfl (ac (ac .nil))) ?_ | refine sops_pure (.free rfl rfl) rfl rfl (po_call (a5) rfl (ac (ac .nil))) ?_ | refine sops_pure (.free rfl rfl) rfl rfl (po_call (b2) rfl (ac (ac .nil))) ?_ | refine sops_pure (.free rfl rfl) rfl rfl (po_call (c2) rfl (ac (ac .nil))) ?_) <;> (refine sops_pure (.free rfl rfl) rfl rfl (po_move rfl rfl) ?_) <;> (first | refine sops_pure (.free rfl rfl) rfl rfl (po_extract rfl rfl rfl) ?_ | refine sops_pure (.free rfl rfl) rfl rfl (po_extract_tu rfl rfl rfl) ?_) <;> (first | refine sops_pure (.free rfl rfl) rfl rfl (po_extract rfl rfl rfl) ?_ | refine sops_pure (.free rfl rfl) rfl rfl (po_extract_tu rfl rfl rfl) ?_) <;> (refine sops_pure (.free rfl rfl) rfl rfl (po_assign rfl rfl) ?_) <;> (refine sops_pure (.free rfl rfl) rfl rfl (po_assign rfl rfl) ?_) <;> (refine sops_nil ?_))
    | ((refine swp_region (id := 8) ?_) <;> (refine sops_pure (.free rfl rfl) rfl rfl (po_move rfl rfl) ?_) <;> (refine sops_pure (.free rfl rfl) rfl rfl (po_move rfl rfl) ?_) <;> (refine sops_pure (.free rfl rfl) rfl rfl (po_move rfl rfl) ?_) <;> (refine sops_pure (.free rfl rfl) rfl rfl (po_move rfl rfl) ?_) <;> (first | refine sops_lcall (b3) (fun i => i) (fun _ => 1000) (fun _ => false) (.free rfl rfl) rfl rfl rfl (by first | ((repeat' (first | exact .nil | refine .cons rfl rfl rfl ?_ | refine .vw rfl (by first | exact .t _ | exact .own rfl (by first | rfl | assumption | (simp; done) | (simp; omega)) | exact .nil _ | exact .emp _ | exact .fn _) ?_)) <;> fail) | fail) .nil (.cons rfl rfl .nil) rfl rfl (fun _ h => Bool.noConfusion h) ?_ | refine sops_lcall (c1) (fun i => i) (fun i => i + 1) (fun _ => false) (.free rfl rfl) rfl rfl rfl (by first | ((repeat' (first | exact .nil | refine .cons rfl rfl rfl ?_ | refine .vw rfl (by first | exact .t _ | exact .own rfl (by first | rfl | assumption | (simp; done) | (simp; omega)) | exact .nil _ | exact .emp _ | exact .fn _) ?_)) <;> fail) | fail) .nil .nil rfl rfl (fun _ h => Bool.noConfusion h) ?_ | refine sops_lcall (b1) (fun i => i) (fun i => i) (fun _ => false) (.free rfl rfl) rfl rfl rfl (by first | ((repeat' (first | exact .nil | refine .cons rfl rfl rfl ?_ | refine .vw rfl (by first | exact .t _ | exact .own rfl (by first | rfl | assumption | (simp; done) | (simp; omega)) | exact .nil _ | exact .emp _ | exact .fn _) ?_)) <;> fail) | fail) .nil .nil rfl rfl (fun _ h => Bool.noConfusion h) ?_ | refine sops_pure (.free rfl rfl) rfl rfl (po_call (a1) rfl (ac (ac (ac (ac .nil))))) ?_ | refine sops_pure (.free rfl rfl) rfl rfl (po_call (a2) rfl (ac (ac (ac (ac .nil))))) ?_ | refine sops_pure (.free rfl rfl) rfl rfl (po_call (a3) rfl (ac (ac (ac (ac .nil))))) ?_ | refine sops_pure (.free rfl rfl) rfl rfl (po_call (a4) rfl (ac (ac (ac (ac .nil))))) ?_ | refine sops_pure (.free rfl rfl) rfl rfl (po_call (a5) rfl (ac (ac (ac (ac .nil))))) ?_ | refine sops_pure (.free rfl rfl) rfl rfl (po_call (b2) rfl (ac (ac (ac (ac .nil))))) ?_ | refine sops_pure (.free rfl rfl) rfl rfl (po_call (c2) rfl (ac (ac (ac (ac .nil))))) ?_) <;> (refine sops_pure (.free rfl rfl) rfl rfl (po_not rfl rfl) ?_) <;> (refine sops_nil ?_))
    | ((refine swp_region (id := 10) ?_) <;> (refine sops_pure (.free rfl rfl) rfl rfl (po_move rfl rfl) ?_) <;> (first | refine sops_pure (.free rfl rfl) rfl rfl (po_load_bx_agg rfl rfl (tyT rfl) rfl (vc (vc (vc .nil))) rfl) ?_ | refine sops_pure (.free rfl rfl) rfl rfl (po_load_agg rfl rfl (tyT rfl) rfl rfl) ?_ | refine sops_pure (.free rfl rfl) rfl rfl (po_load_own_agg rfl rfl rfl (by first | rfl | assumption | omega | (simp; done) | (simp; omega) | (simp at *; omega)) (tyT rfl) (by first | rfl | assumption | exact map_at (by first | assumption | omega)) rfl rfl) ?_ | refine sops_pure (.free rfl rfl) rfl rfl (po_load_bx_ag rfl rfl (tyT rfl) rfl rfl rfl rfl) ?_) <;> (first | refine sops_lcall (b3) (fun i => i) (fun _ => 1000) (fun _ => false) (.free rfl rfl) rfl rfl rfl (by first | ((repeat' (first | exact .nil | refine .cons rfl rfl rfl ?_ | refine .vw rfl (by first | exact .t _ | exact .own rfl (by first | rfl | assumption | (simp; done) | (simp; omega)) | exact .nil _ | exact .emp _ | exact .fn _) ?_)) <;> fail) | fail) .nil (.cons rfl rfl .nil) rfl rfl (fun _ h => Bool.noConfusion h) ?_ | refine sops_lcall (c1) (fun i => i) (fun i => i + 1) (fun _ => false) (.free rfl rfl) rfl rfl rfl (by first | ((repeat' (first | exact .nil | refine .cons rfl rfl rfl ?_ | refine .vw rfl (by first | exact .t _ | exact .own rfl (by first | rfl | assumption | (simp; done) | (simp; omega)) | exact .nil _ | exact .emp _ | exact .fn _) ?_)) <;> fail) | fail) .nil .nil rfl rfl (fun _ h => Bool.noConfusion h) ?_ | refine sops_lcall (b1) (fun i => i) (fun i => i) (fun _ => false) (.free rfl rfl) rfl rfl rfl (by first | ((repeat' (first | exact .nil | refine .cons rfl rfl rfl ?_ | refine .vw rfl (by first | exact .t _ | exact .own rfl (by first | rfl | assumption | (simp; done) | (simp; omega)) | exact .nil _ | exact .emp _ | exact .fn _) ?_)) <;> fail) | fail) .nil .nil rfl rfl (fun _ h => Bool.noConfusion h) ?_ | refine sops_pure (.free rfl rfl) rfl rfl (po_call (a1) rfl (ac (ac .nil))) ?_ | refine sops_pure (.free rfl rfl) rfl rfl (po_call (a2) rfl (ac (ac .nil))) ?_ | refine sops_pure (.free rfl rfl) rfl rfl (po_call (a3) rfl (ac (ac .nil))) ?_ | refine sops_pure (.free rfl rfl) rfl rfl (po_call (a4) rfl (ac (ac .nil))) ?_ | refine sops_pure (.free rfl rfl) rfl rfl (po_call (a5) rfl (ac (ac .nil))) ?_ | refine sops_pure (.free rfl rfl) rfl rfl (po_call (b2) rfl (ac (ac .nil))) ?_ | refine sops_pure (.free rfl rfl) rfl rfl (po_call (c2) rfl (ac (ac .nil))) ?_) <;> (refine sops_pure (.free rfl rfl) rfl rfl (po_move rfl rfl) ?_) <;> (first | refine sops_pure (.free rfl rfl) rfl rfl (po_extract rfl rfl rfl) ?_ | refine sops_pure (.free rfl rfl) rfl rfl (po_extract_tu rfl rfl rfl) ?_) <;> (first | refine sops_pure (.free rfl rfl) rfl rfl (po_extract rfl rfl rfl) ?_ | refine sops_pure (.free rfl rfl) rfl rfl (po_extract_tu rfl rfl rfl) ?_) <;> (refine sops_pure (.free rfl rfl) rfl rfl (po_assign rfl rfl) ?_) <;> (refine sops_pure (.free rfl rfl) rfl rfl (po_assign rfl rfl) ?_) <;> (refine sops_nil ?_))
    | ((refine swp_region (id := 11) ?_) <;> (refine sops_pure (.free rfl rfl) rfl rfl (po_move rfl rfl) ?_) <;> (first | refine sops_pure (.free rfl rfl) rfl rfl (po_load_bx_agg rfl rfl (tyT rfl) rfl (vc (vc (vc .nil))) rfl) ?_ | refine sops_pure (.free rfl rfl) rfl rfl (po_load_agg rfl rfl (tyT rfl) rfl rfl) ?_ | refine sops_pure (.free rfl rfl) rfl rfl (po_load_own_agg rfl rfl rfl (by first | rfl | assumption | omega | (simp; done) | (simp; omega) | (simp at *; omega)) (tyT rfl) (by first | rfl | assumption | exact map_at (by first | assumption | omega)) rfl rfl) ?_ | refine sops_pure (.free rfl rfl) rfl rfl (po_load_bx_ag rfl rfl (tyT rfl) rfl rfl rfl rfl) ?_) <;> (first | refine sops_lcall (b3) (fun i => i) (fun _ => 1000) (fun _ => false) (.free rfl rfl) rfl rfl rfl (by first | ((repeat' (first | exact .nil | refine .cons rfl rfl rfl ?_ | refine .vw rfl (by first | exact .t _ | exact .own rfl (by first | rfl | assumption | (simp; done) | (simp; omega)) | exact .nil _ | exact .emp _ | exact .fn _) ?_)) <;> fail) | fail) .nil (.cons rfl rfl .nil) rfl rfl (fun _ h => Bool.noConfusion h) ?_ | refine sops_lcall (c1) (fun i => i) (fun i => i + 1) (fun _ => false) (.free rfl rfl) rfl rfl rfl (by first | ((repeat' (first | exact .nil | refine .cons rfl rfl rfl ?_ | refine .vw rfl (by first | exact .t _ | exact .own rfl (by first | rfl | assumption | (simp; done) | (simp; omega)) | exact .nil _ | exact .emp _ | exact .fn _) ?_)) <;> fail) | fail) .nil .nil rfl rfl (fun _ h => Bool.noConfusion h) ?_ | refine sops_lcall (b1) (fun i => i) (fun i => i) (fun _ => false) (.free rfl rfl) rfl rfl rfl (by first | ((repeat' (first | exact .nil | refine .cons rfl rfl rfl ?_ | refine .vw rfl (by first | exact .t _ | exact .own rfl (by first | rfl | assumption | (simp; done) | (simp; omega)) | exact .nil _ | exact .emp _ | exact .fn _) ?_)) <;> fail) | fail) .nil .nil rfl rfl (fun _ h => Bool.noConfusion h) ?_ | refine sops_pure (.free rfl rfl) rfl rfl (po_call (a1) rfl (ac (ac .nil))) ?_ | refine sops_pure (.free rfl rfl) rfl rfl (po_call (a2) rfl (ac (ac .nil))) ?_ | refine sops_pure (.free rfl rfl) rfl rfl (po_call (a3) rfl (ac (ac .nil))) ?_ | refine sops_pure (.free rfl rfl) rfl rfl (po_call (a4) rfl (ac (ac .nil))) ?_ | refine sops_pure (.free rfl rfl) rfl rfl (po_call (a5) rfl (ac (ac .nil))) ?_ | refine sops_pure (.free rfl rfl) rfl rfl (po_call (b2) rfl (ac (ac .nil))) ?_ | refine sops_pure (.free rfl rfl) rfl rfl (po_call (c2) rfl (ac (ac .nil))) ?_) <;> (refine sops_pure (.free rfl rfl) rfl rfl (po_move rfl rfl) ?_) <;> (first | refine sops_pure (.free rfl rfl) rfl rfl (po_extract rfl rfl rfl) ?_ | refine sops_pure (.free rfl rfl) rfl rfl (po_extract_tu rfl rfl rfl) ?_) <;> (first | refine sops_pure (.free rfl rfl) rfl rfl (po_extract rfl rfl rfl) ?_ | refine sops_pure (.free rfl rfl) rfl rfl (po_extract_tu rfl rfl rfl) ?_) <;> (refine sops_pure (.free rfl rfl) rfl rfl (po_assign rfl rfl) ?_) <;> (refine sops_pure (.free rfl rfl) rfl rfl (po_assign rfl rfl) ?_) <;> (refine sops_nil ?_))
    | refine swp_ret ?_
    | refine swp_skip ?_
    | refine swp_block ?_
    | refine swp_exit ?_
    | refine block_go ?_
    | refine block_exit ?_
    | refine block_far rfl ?_
    | refine block_ret ?_
    | refine then_ret ?_
    | refine then_exit ?_
    | refine for_ret ?_
    | refine for_exit ?_
    | refine ct ?_
    | refine cf ?_
    | refine swp_cond rfl (fun hc => ?_) (fun hc => ?_)
    | refine retq (by first | exact .inr rfl | exact .inl rfl) rfl (.tmp rfl (by first | exact .t _ | exact .own rfl (by first | rfl | assumption | (simp; done) | (simp; omega)) | exact .nil _ | exact .emp _ | exact .fn _) .nil) ?_)
  repeat' (first
    | refine then_go ?_
    | refine swp_seq ?_
    | ((refine swp_any (id := 12) [[], [], [], [], [1001], [], [], [], [], [], [], [], [1002], [], [], [], [], [], [], [1002], [], []] [[], [], [], [], [], [], [], [], [], [], [], [], [], [1002], [1002], [1002], [1002], [1002], [], [], [], []] mixed (by kernel_rfl) ?_) <;> (refine sany_pure (.free rfl rfl) rfl rfl (fun _ _ => po_move rfl rfl) ?_) <;> (refine sany_pure (.free rfl rfl) rfl rfl (fun _ _ => po_move rfl rfl) ?_) <;> (refine sany_pure (.free rfl rfl) rfl rfl (fun _ _ => po_move rfl rfl) ?_) <;> (refine sany_pure (.free rfl rfl) rfl rfl (fun _ _ => po_move rfl rfl) ?_) <;> (first | refine sany_eff [] [(1001, _)] (.free rfl rfl) rfl rfl (fun _ _ hb ho => e_lcall (c3) (fun i => i) (fun _ => 1001) rfl (by first | ((repeat' (first | exact .nil | refine .cons rfl rfl rfl ?_ | refine .vw rfl (by first | exact .t _ | exact .own rfl (by first | rfl | assumption | (simp; done) | (simp; omega)) | exact .nil _ | exact .emp _ | exact .fn _) ?_)) <;> fail) | fail) .nil (.cons rfl rfl .nil) rfl rfl (by first | ((repeat' (first | exact .nil | refine .old rfl ?_ | refine .new (hb _ rfl rfl) ?_)) <;> fail) | fail) (by first | ((repeat' (first | exact .nil | refine .old rfl ?_ | refine .new (ho _ rfl rfl) ?_)) <;> fail) | fail) (.cons rfl (by first | rfl | assumption | simp) .nil)) ?_ | refine sany_eff [] [(1001, _)] (.free rfl rfl) rfl rfl (fun _ _ hb ho => e_lcall (d1) (fun i => i) (fun i => i + 2) rfl (by first | ((repeat' (first | exact .nil | refine .cons rfl rfl rfl ?_ | refine .vw rfl (by first | exact .t _ | exact .own rfl (by first | rfl | assumption | (simp; done) | (simp; omega)) | exact .nil _ | exact .emp _ | exact .fn _) ?_)) <;> fail) | fail) .nil .nil rfl rfl (by first | ((repeat' (first | exact .nil | refine .old rfl ?_ | refine .new (hb _ rfl rfl) ?_)) <;> fail) | fail) (by first | ((repeat' (first | exact .nil | refine .old rfl ?_ | refine .new (ho _ rfl rfl) ?_)) <;> fail) | fail) .nil) ?_ | refine sany_eff [] [(1001, _)] (.free rfl rfl) rfl rfl (fun _ _ hb ho => e_lcall (d3) (fun i => i) (fun _ => 1002) rfl (by first | ((repeat' (first | exact .nil | refine .cons rfl rfl rfl ?_ | refine .vw rfl (by first | exact .t _ | exact .own rfl (by first | rfl | assumption | (simp; done) | (simp; omega)) | exact .nil _ | exact .emp _ | exact .fn _) ?_)) <;> fail) | fail) .nil (.cons rfl rfl .nil) rfl rfl (by first | ((repeat' (first | exact .nil | refine .old rfl ?_ | refine .new (hb _ rfl rfl) ?_)) <;> fail) | fail) (by first | ((repeat' (first | exact .nil | refine .old rfl ?_ | refine .new (ho _ rfl rfl) ?_)) <;> fail) | fail) (.cons rfl (by first | rfl | assumption | simp) .nil)) ?_) <;> (refine sany_pure (.free rfl rfl) rfl rfl (fun _ _ => po_not rfl rfl) ?_) <;> (refine sany_pure (.free rfl rfl) rfl rfl (fun _ _ => po_move rfl rfl) ?_) <;> (first | refine sany_pure gy rfl rfl (fun _ _ => po_move rfl rfl) ?_ | refine sany_skip gn0 rfl rfl ?_ | ((refine sany_split rfl rfl rfl (fun hc => ?_) (fun hc => ?_)) <;> (first | refine sany_pure gy rfl rfl (fun _ _ => po_move rfl rfl) ?_ | refine sany_skip gn0 rfl rfl ?_))) <;> (first | refine sany_pure gy rfl rfl (fun _ _ => po_field_bx rfl rfl (tyF rfl)) ?_ | refine sany_pure gy rfl rfl (fun _ _ => po_field rfl rfl (tyF rfl)) ?_ | refine sany_pure gy rfl rfl (fun _ _ => po_field_own rfl rfl rfl (by first | rfl | assumption | omega | (simp; done) | (simp; omega) | (simp at *; omega)) (tyF rfl)) ?_ | refine sany_skip gn0 rfl rfl ?_) <;> (first | refine sany_pure gy rfl rfl (fun _ _ => po_load_bx rfl rfl (tyT rfl) rfl rfl) ?_ | refine sany_pure gy rfl rfl (fun _ _ => po_load rfl rfl (tyT rfl) rfl) ?_ | refine sany_pure gy rfl rfl (fun _ _ => po_load_own rfl rfl rfl (by first | rfl | assumption | omega | (simp; done) | (simp; omega) | (simp at *; omega)) (tyT rfl) (by first | rfl | assumption | exact map_at (by first | assumption | omega)) rfl) ?_ | refine sany_skip gn0 rfl rfl ?_) <;> (first | refine sany_pure gy rfl rfl (fun _ _ => po_field_bx rfl rfl (tyF rfl)) ?_ | refine sany_pure gy rfl rfl (fun _ _ => po_field rfl rfl (tyF rfl)) ?_ | refine sany_pure gy rfl rfl (fun _ _ => po_field_own rfl rfl rfl (by first | rfl | assumption | omega | (simp; done) | (simp; omega) | (simp at *; omega)) (tyF rfl)) ?_ | refine sany_skip gn0 rfl rfl ?_) <;> (first | refine sany_pure gy rfl rfl (fun _ _ => po_load_bx rfl rfl (tyT rfl) rfl rfl) ?_ | refine sany_pure gy rfl rfl (fun _ _ => po_load rfl rfl (tyT rfl) rfl) ?_ | refine sany_pure gy rfl rfl (fun _ _ => po_load_own rfl rfl rfl (by first | rfl | assumption | omega | (simp; done) | (simp; omega) | (simp at *; omega)) (tyT rfl) (by first | rfl | assumption | exact map_at (by first | assumption | omega)) rfl) ?_ | refine sany_skip gn0 rfl rfl ?_) <;> (first | refine sany_eff [] [(1002, _)] gy rfl rfl (fun _ _ hb ho => e_lcall (c3) (fun i => i) (fun _ => 1001) rfl (by first | ((repeat' (first | exact .nil | refine .cons rfl rfl rfl ?_ | refine .vw rfl (by first | exact .t _ | exact .own rfl (by first | rfl | assumption | (simp; done) | (simp; omega)) | exact .nil _ | exact .emp _ | exact .fn _) ?_)) <;> fail) | fail) .nil (.cons rfl rfl .nil) rfl rfl (by first | ((repeat' (first | exact .nil | refine .old rfl ?_ | refine .new (hb _ rfl rfl) ?_)) <;> fail) | fail) (by first | ((repeat' (first | exact .nil | refine .old rfl ?_ | refine .new (ho _ rfl rfl) ?_)) <;> fail) | fail) (.cons rfl (by first | rfl | assumption | simp) .nil)) ?_ | refine sany_eff [] [(1002, _)] gy rfl rfl (fun _ _ hb ho => e_lcall (d1) (fun i => i) (fun i => i + 2) rfl (by first | ((repeat' (first | exact .nil | refine .cons rfl rfl rfl ?_ | refine .vw rfl (by first | exact .t _ | exact .own rfl (by first | rfl | assumption | (simp; done) | (simp; omega)) | exact .nil _ | exact .emp _ | exact .fn _) ?_)) <;> fail) | fail) .nil .nil rfl rfl (by first | ((repeat' (first | exact .nil | refine .old rfl ?_ | refine .new (hb _ rfl rfl) ?_)) <;> fail) | fail) (by first | ((repeat' (first | exact .nil | refine .old rfl ?_ | refine .new (ho _ rfl rfl) ?_)) <;> fail) | fail) .nil) ?_ | refine sany_eff [] [(1002, _)] gy rfl rfl (fun _ _ hb ho => e_lcall (d3) (fun i => i) (fun _ => 1002) rfl (by first | ((repeat' (first | exact .nil | refine .cons rfl rfl rfl ?_ | refine .vw rfl (by first | exact .t _ | exact .own rfl (by first | rfl | assumption | (simp; done) | (simp; omega)) | exact .nil _ | exact .emp _ | exact .fn _) ?_)) <;> fail) | fail) .nil (.cons rfl rfl .nil) rfl rfl (by first | ((repeat' (first | exact .nil | refine .old rfl ?_ | refine .new (hb _ rfl rfl) ?_)) <;> fail) | fail) (by first | ((repeat' (first | exact .nil | refine .old rfl ?_ | refine .new (ho _ rfl rfl) ?_)) <;> fail) | fail) (.cons rfl (by first | rfl | assumption | simp) .nil)) ?_ | refine sany_skip gn0 rfl rfl ?_) <;> (first | refine sany_pure gy rfl rfl (fun _ _ => po_move rfl rfl) ?_ | refine sany_skip gn0 rfl rfl ?_) <;> (first | refine sany_pure gy rfl rfl (fun _ _ => po_field_bx rfl rfl (tyF rfl)) ?_ | refine sany_pure gy rfl rfl (fun _ _ => po_field rfl rfl (tyF rfl)) ?_ | refine sany_pure gy rfl rfl (fun _ _ => po_field_own rfl rfl rfl (by first | rfl | assumption | omega | (simp; done) | (simp; omega) | (simp at *; omega)) (tyF rfl)) ?_ | refine sany_skip gn0 rfl rfl ?_) <;> (first | refine sany_pure gy rfl rfl (fun _ _ => po_load_bx rfl rfl (tyT rfl) rfl rfl) ?_ | refine sany_pure gy rfl rfl (fun _ _ => po_load rfl rfl (tyT rfl) rfl) ?_ | refine sany_pure gy rfl rfl (fun _ _ => po_load_own rfl rfl rfl (by first | rfl | assumption | omega | (simp; done) | (simp; omega) | (simp at *; omega)) (tyT rfl) (by first | rfl | assumption | exact map_at (by first | assumption | omega)) rfl) ?_ | refine sany_skip gn0 rfl rfl ?_) <;> (first | refine sany_pure gy rfl rfl (fun _ _ => po_field_bx rfl rfl (tyF rfl)) ?_ | refine sany_pure gy rfl rfl (fun _ _ => po_field rfl rfl (tyF rfl)) ?_ | refine sany_pure gy rfl rfl (fun _ _ => po_field_own rfl rfl rfl (by first | rfl | assumption | omega | (simp; done) | (simp; omega) | (simp at *; omega)) (tyF rfl)) ?_ | refine sany_skip gn0 rfl rfl ?_) <;> (first | refine sany_pure gy rfl rfl (fun _ _ => po_load_bx rfl rfl (tyT rfl) rfl rfl) ?_ | refine sany_pure gy rfl rfl (fun _ _ => po_load rfl rfl (tyT rfl) rfl) ?_ | refine sany_pure gy rfl rfl (fun _ _ => po_load_own rfl rfl rfl (by first | rfl | assumption | omega | (simp; done) | (simp; omega) | (simp at *; omega)) (tyT rfl) (by first | rfl | assumption | exact map_at (by first | assumption | omega)) rfl) ?_ | refine sany_skip gn0 rfl rfl ?_) <;> (first | refine sany_pure gy rfl rfl (fun _ _ => po_call (d2) rfl (ac (ac (ac .nil)))) ?_ | refine sany_skip gn0 rfl rfl ?_) <;> (first | refine sany_eff [] [(1002, _)] gy rfl rfl (fun _ _ hb ho => e_lcall (c3) (fun i => i) (fun _ => 1001) rfl (by first | ((repeat' (first | exact .nil | refine .cons rfl rfl rfl ?_ | refine .vw rfl (by first | exact .t _ | exact .own rfl (by first | rfl | assumption | (simp; done) | (simp; omega)) | exact .nil _ | exact .emp _ | exact .fn _) ?_)) <;> fail) | fail) .nil (.cons rfl rfl .nil) rfl rfl (by first | ((repeat' (first | exact .nil | refine .old rfl ?_ | refine .new (hb _ rfl rfl) ?_)) <;> fail) | fail) (by first | ((repeat' (first | exact .nil | refine .old rfl ?_ | refine .new (ho _ rfl rfl) ?_)) <;> fail) | fail) (.cons rfl (by first | rfl | assumption | simp) .nil)) ?_ | refine sany_eff [] [(1002, _)] gy rfl rfl (fun _ _ hb ho => e_lcall (d1) (fun i => i) (fun i => i + 2) rfl (by first | ((repeat' (first | exact .nil | refine .cons rfl rfl rfl ?_ | refine .vw rfl (by first | exact .t _ | exact .own rfl (by first | rfl | assumption | (simp; done) | (simp; omega)) | exact .nil _ | exact .emp _ | exact .fn _) ?_)) <;> fail) | fail) .nil .nil rfl rfl (by first | ((repeat' (first | exact .nil | refine .old rfl ?_ | refine .new (hb _ rfl rfl) ?_)) <;> fail) | fail) (by first | ((repeat' (first | exact .nil | refine .old rfl ?_ | refine .new (ho _ rfl rfl) ?_)) <;> fail) | fail) .nil) ?_ | refine sany_eff [] [(1002, _)] gy rfl rfl (fun _ _ hb ho => e_lcall (d3) (fun i => i) (fun _ => 1002) rfl (by first | ((repeat' (first | exact .nil | refine .cons rfl rfl rfl ?_ | refine .vw rfl (by first | exact .t _ | exact .own rfl (by first | rfl | assumption | (simp; done) | (simp; omega)) | exact .nil _ | exact .emp _ | exact .fn _) ?_)) <;> fail) | fail) .nil (.cons rfl rfl .nil) rfl rfl (by first | ((repeat' (first | exact .nil | refine .old rfl ?_ | refine .new (hb _ rfl rfl) ?_)) <;> fail) | fail) (by first | ((repeat' (first | exact .nil | refine .old rfl ?_ | refine .new (ho _ rfl rfl) ?_)) <;> fail) | fail) (.cons rfl (by first | rfl | assumption | simp) .nil)) ?_ | refine sany_skip gn0 rfl rfl ?_) <;> (first | refine sany_pure gy rfl rfl (fun _ _ => po_not rfl rfl) ?_ | refine sany_skip gn0 rfl rfl ?_) <;> (first | refine sany_pure (.free rfl rfl) rfl rfl (fun _ _ => pkt rfl) ?_ | refine sany_pure (.free rfl rfl) rfl rfl (fun _ _ => pkf rfl) ?_) <;> (refine sany_nil ?_))
    | refine swp_ret ?_
    | refine swp_skip ?_
    | refine swp_block ?_
    | refine swp_exit ?_
    | refine block_go ?_
    | refine block_exit ?_
    | refine block_far rfl ?_
    | refine block_ret ?_
    | refine then_ret ?_
    | refine then_exit ?_
    | refine for_ret ?_
    | refine for_exit ?_
    | refine ct ?_
    | refine cf ?_
    | refine swp_cond rfl (fun hc => ?_) (fun hc => ?_)
    | refine retq (by first | exact .inr rfl | exact .inl rfl) rfl (.tmp rfl (by first | exact .t _ | exact .own rfl (by first | rfl | assumption | (simp; done) | (simp; omega)) | exact .nil _ | exact .emp _ | exact .fn _) .nil) ?_)
  repeat' (first
    | refine then_go ?_
    | refine swp_seq ?_
    | ((refine swp_region (id := 14) ?_) <;> (refine sops_pure (.free rfl rfl) rfl rfl (po_move rfl rfl) ?_) <;> (refine sops_pure (.free rfl rfl) rfl rfl (po_move rfl rfl) ?_) <;> (refine sops_lcall (e1) (fun i => i) (fun i => i + 3) (fun _ => false) (.free rfl rfl) rfl rfl rfl (by first | ((repeat' (first | exact .nil | refine .cons rfl rfl rfl ?_ | refine .vw rfl (by first | exact .t _ | exact .own rfl (by first | rfl | assumption | (simp; done) | (simp; omega)) | exact .nil _ | exact .emp _ | exact .fn _) ?_)) <;> fail) | fail) .nil .nil rfl rfl (fun _ h => Bool.noConfusion h) ?_) <;> (refine sops_pure (.free rfl rfl) rfl rfl (po_move rfl rfl) ?_) <;> (first | refine sops_pure (.free rfl rfl) rfl rfl (po_extract rfl rfl rfl) ?_ | refine sops_pure (.free rfl rfl) rfl rfl (po_extract_tu rfl rfl rfl) ?_) <;> (first | refine sops_pure (.free rfl rfl) rfl rfl (po_extract rfl rfl rfl) ?_ | refine sops_pure (.free rfl rfl) rfl rfl (po_extract_tu rfl rfl rfl) ?_) <;> (refine sops_pure (.free rfl rfl) rfl rfl (po_assign rfl rfl) ?_) <;> (refine sops_pure (.free rfl rfl) rfl rfl (po_assign rfl rfl) ?_) <;> (refine sops_nil ?_))
    | refine swp_ret ?_
    | refine swp_skip ?_
    | refine swp_block ?_
    | refine swp_exit ?_
    | refine block_go ?_
    | refine block_exit ?_
    | refine block_far rfl ?_
    | refine block_ret ?_
    | refine then_ret ?_
    | refine then_exit ?_
    | refine for_ret ?_
    | refine for_exit ?_
    | refine ct ?_
    | refine cf ?_
    | refine swp_cond rfl (fun hc => ?_) (fun hc => ?_)
    | refine retq (by first | exact .inr rfl | exact .inl rfl) rfl (.tmp rfl (by first | exact .t _ | exact .own rfl (by first | rfl | assumption | (simp; done) | (simp; omega)) | exact .nil _ | exact .emp _ | exact .fn _) .nil) ?_)
  repeat' (first
    | refine then_go ?_
    | refine swp_seq ?_
    | ((refine swp_region (id := 15) ?_) <;> (refine sops_pure (.free rfl rfl) rfl rfl (po_move rfl rfl) ?_) <;> (refine sops_pure (.free rfl rfl) rfl rfl (po_move rfl rfl) ?_) <;> (refine sops_pure (.free rfl rfl) rfl rfl (po_move rfl rfl) ?_) <;> (first | refine sops_lcall (e5) (fun i => i) (fun _ => 1004) (fun _ => false) (.free rfl rfl) rfl rfl rfl (by first | ((repeat' (first | exact .nil | refine .cons rfl rfl rfl ?_ | refine .vw rfl (by first | exact .t _ | exact .own rfl (by first | rfl | assumption | (simp; done) | (simp; omega)) | exact .nil _ | exact .emp _ | exact .fn _) ?_)) <;> fail) | fail) .nil (.cons rfl rfl .nil) rfl rfl (fun _ h => Bool.noConfusion h) ?_ | refine sops_lcall (e4) (fun i => i) (fun _ => 1003) (fun _ => false) (.free rfl rfl) rfl rfl rfl (by first | ((repeat' (first | exact .nil | refine .cons rfl rfl rfl ?_ | refine .vw rfl (by first | exact .t _ | exact .own rfl (by first | rfl | assumption | (simp; done) | (simp; omega)) | exact .nil _ | exact .emp _ | exact .fn _) ?_)) <;> fail) | fail) .nil (.cons rfl rfl .nil) rfl rfl (fun _ h => Bool.noConfusion h) ?_ | refine sops_pure (.free rfl rfl) rfl rfl (po_call (e2) rfl (ac (ac (ac .nil)))) ?_ | refine sops_pure (.free rfl rfl) rfl rfl (po_call (e3) rfl (ac (ac (ac .nil)))) ?_) <;> (first | refine sops_lcall (e5) (fun i => i) (fun _ => 1004) (fun _ => false) (.free rfl rfl) rfl rfl rfl (by first | ((repeat' (first | exact .nil | refine .cons rfl rfl rfl ?_ | refine .vw rfl (by first | exact .t _ | exact .own rfl (by first | rfl | assumption | (simp; done) | (simp; omega)) | exact .nil _ | exact .emp _ | exact .fn _) ?_)) <;> fail) | fail) .nil (.cons rfl rfl .nil) rfl rfl (fun _ h => Bool.noConfusion h) ?_ | refine sops_lcall (e4) (fun i => i) (fun _ => 1003) (fun _ => false) (.free rfl rfl) rfl rfl rfl (by first | ((repeat' (first | exact .nil | refine .cons rfl rfl rfl ?_ | refine .vw rfl (by first | exact .t _ | exact .own rfl (by first | rfl | assumption | (simp; done) | (simp; omega)) | exact .nil _ | exact .emp _ | exact .fn _) ?_)) <;> fail) | fail) .nil (.cons rfl rfl .nil) rfl rfl (fun _ h => Bool.noConfusion h) ?_ | refine sops_pure (.free rfl rfl) rfl rfl (po_call (e2) rfl (ac (ac (ac (ac .nil))))) ?_ | refine sops_pure (.free rfl rfl) rfl rfl (po_call (e3) rfl (ac (ac (ac (ac .nil))))) ?_) <;> (refine sops_pure (.free rfl rfl) rfl rfl (po_not rfl rfl) ?_) <;> (refine sops_pure (.free rfl rfl) rfl rfl (po_move rfl rfl) ?_) <;> (first | refine sops_pure gy rfl rfl (po_move rfl rfl) ?_ | refine sops_skip gn0 rfl rfl ?_ | ((refine sops_split rfl rfl rfl (fun hc => ?_) (fun hc => ?_)) <;> (first | refine sops_pure gy rfl rfl (po_move rfl rfl) ?_ | refine sops_skip gn0 rfl rfl ?_))) <;> (first | refine sops_pure gy rfl rfl (po_move rfl rfl) ?_ | refine sops_skip gn0 rfl rfl ?_) <;> (first | refine sops_pure gy rfl rfl (po_move rfl rfl) ?_ | refine sops_skip gn0 rfl rfl ?_) <;> (first | refine sops_lcall (e5) (fun i => i) (fun _ => 1004) (fun _ => false) gy rfl rfl rfl (by first | ((repeat' (first | exact .nil | refine .cons rfl rfl rfl ?_ | refine .vw rfl (by first | exact .t _ | exact .own rfl (by first | rfl | assumption | (simp; done) | (simp; omega)) | exact .nil _ | exact .emp _ | exact .fn _) ?_)) <;> fail) | fail) .nil (.cons rfl rfl .nil) rfl rfl (fun _ h => Bool.noConfusion h) ?_ | refine sops_lcall (e4) (fun i => i) (fun _ => 1003) (fun _ => false) gy rfl rfl rfl (by first | ((repeat' (first | exact .nil | refine .cons rfl rfl rfl ?_ | refine .vw rfl (by first | exact .t _ | exact .own rfl (by first | rfl | assumption | (simp; done) | (simp; omega)) | exact .nil _ | exact .emp _ | exact .fn _) ?_)) <;> fail) | fail) .nil (.cons rfl rfl .nil) rfl rfl (fun _ h => Bool.noConfusion h) ?_ | refine sops_pure gy rfl rfl (po_call (e2) rfl (ac (ac (ac .nil)))) ?_ | refine sops_pure gy rfl rfl (po_call (e3) rfl (ac (ac (ac .nil)))) ?_ | refine sops_skip gn0 rfl rfl ?_) <;> (first | refine sops_lcall (e5) (fun i => i) (fun _ => 1004) (fun _ => false) gy rfl rfl rfl (by first | ((repeat' (first | exact .nil | refine .cons rfl rfl rfl ?_ | refine .vw rfl (by first | exact .t _ | exact .own rfl (by first | rfl | assumption | (simp; done) | (simp; omega)) | exact .nil _ | exact .emp _ | exact .fn _) ?_)) <;> fail) | fail) .nil (.cons rfl rfl .nil) rfl rfl (fun _ h => Bool.noConfusion h) ?_ | refine sops_lcall (e4) (fun i => i) (fun _ => 1003) (fun _ => false) gy rfl rfl rfl (by first | ((repeat' (first | exact .nil | refine .cons rfl rfl rfl ?_ | refine .vw rfl (by first | exact .t _ | exact .own rfl (by first | rfl | assumption | (simp; done) | (simp; omega)) | exact .nil _ | exact .emp _ | exact .fn _) ?_)) <;> fail) | fail) .nil (.cons rfl rfl .nil) rfl rfl (fun _ h => Bool.noConfusion h) ?_ | refine sops_pure gy rfl rfl (po_call (e2) rfl (ac (ac (ac (ac .nil))))) ?_ | refine sops_pure gy rfl rfl (po_call (e3) rfl (ac (ac (ac (ac .nil))))) ?_ | refine sops_skip gn0 rfl rfl ?_) <;> (first | refine sops_pure gy rfl rfl (po_not rfl rfl) ?_ | refine sops_skip gn0 rfl rfl ?_) <;> (first | refine sops_pure (.free rfl rfl) rfl rfl (pkt rfl) ?_ | refine sops_pure (.free rfl rfl) rfl rfl (pkf rfl) ?_) <;> (refine sops_nil ?_))
    | refine swp_ret ?_
    | refine swp_skip ?_
    | refine swp_block ?_
    | refine swp_exit ?_
    | refine block_go ?_
    | refine block_exit ?_
    | refine block_far rfl ?_
    | refine block_ret ?_
    | refine then_ret ?_
    | refine then_exit ?_
    | refine for_ret ?_
    | refine for_exit ?_
    | refine ct ?_
    | refine cf ?_
    | refine swp_cond rfl (fun hc => ?_) (fun hc => ?_)
    | refine retq (by first | exact .inr rfl | exact .inl rfl) rfl (.tmp rfl (by first | exact .t _ | exact .own rfl (by first | rfl | assumption | (simp; done) | (simp; omega)) | exact .nil _ | exact .emp _ | exact .fn _) .nil) ?_)
  repeat' (first
    | refine then_go ?_
    | refine swp_seq ?_
    | ((refine swp_region (id := 17) ?_) <;> (first | refine sops_pure (.free rfl rfl) rfl rfl (po_beq true rfl rfl rfl (by kernel_rfl) q3) ?_ | refine sops_pure (.free rfl rfl) rfl rfl (po_beq true rfl rfl rfl (by kernel_rfl) q4) ?_ | refine sops_pure (.free rfl rfl) rfl rfl (po_move rfl rfl) ?_) <;> (first | refine sops_pure (.free rfl rfl) rfl rfl (po_beq true rfl rfl rfl (by kernel_rfl) q3) ?_ | refine sops_pure (.free rfl rfl) rfl rfl (po_beq true rfl rfl rfl (by kernel_rfl) q4) ?_ | refine sops_pure (.free rfl rfl) rfl rfl (po_field_bx rfl rfl (tyF rfl)) ?_ | refine sops_pure (.free rfl rfl) rfl rfl (po_field rfl rfl (tyF rfl)) ?_ | refine sops_pure (.free rfl rfl) rfl rfl (po_field_own rfl rfl rfl (by first | rfl | assumption | omega | (simp; done) | (simp; omega) | (simp at *; omega)) (tyF rfl)) ?_) <;> (first | refine sops_pure (.free rfl rfl) rfl rfl (po_beq true rfl rfl rfl (by kernel_rfl) q3) ?_ | refine sops_pure (.free rfl rfl) rfl rfl (po_beq true rfl rfl rfl (by kernel_rfl) q4) ?_ | refine sops_pure (.free rfl rfl) rfl rfl (po_load_bx rfl rfl (tyT rfl) rfl rfl) ?_ | refine sops_pure (.free rfl rfl) rfl rfl (po_load rfl rfl (tyT rfl) rfl) ?_ | refine sops_pure (.free rfl rfl) rfl rfl (po_load_own rfl rfl rfl (by first | rfl | assumption | omega | (simp; done) | (simp; omega) | (simp at *; omega)) (tyT rfl) (by first | rfl | assumption | exact map_at (by first | assumption | omega)) rfl) ?_) <;> (first | refine sops_pure (.free rfl rfl) rfl rfl (po_beq true rfl rfl rfl (by kernel_rfl) q3) ?_ | refine sops_pure (.free rfl rfl) rfl rfl (po_beq true rfl rfl rfl (by kernel_rfl) q4) ?_ | refine sops_pure (.free rfl rfl) rfl rfl (po_field_bx rfl rfl (tyF rfl)) ?_ | refine sops_pure (.free rfl rfl) rfl rfl (po_field rfl rfl (tyF rfl)) ?_ | refine sops_pure (.free rfl rfl) rfl rfl (po_field_own rfl rfl rfl (by first | rfl | assumption | omega | (simp; done) | (simp; omega) | (simp at *; omega)) (tyF rfl)) ?_) <;> (first | refine sops_pure (.free rfl rfl) rfl rfl (po_beq true rfl rfl rfl (by kernel_rfl) q3) ?_ | refine sops_pure (.free rfl rfl) rfl rfl (po_beq true rfl rfl rfl (by kernel_rfl) q4) ?_ | refine sops_pure (.free rfl rfl) rfl rfl (po_load_bx rfl rfl (tyT rfl) rfl rfl) ?_ | refine sops_pure (.free rfl rfl) rfl rfl (po_load rfl rfl (tyT rfl) rfl) ?_ | refine sops_pure (.free rfl rfl) rfl rfl (po_load_own rfl rfl rfl (by first | rfl | assumption | omega | (simp; done) | (simp; omega) | (simp at *; omega)) (tyT rfl) (by first | rfl | assumption | exact map_at (by first | assumption | omega)) rfl) ?_) <;> (first | refine sops_pure (.free rfl rfl) rfl rfl (po_beq true rfl rfl rfl (by kernel_rfl) q3) ?_ | refine sops_pure (.free rfl rfl) rfl rfl (po_beq true rfl rfl rfl (by kernel_rfl) q4) ?_ | refine sops_pure (.free rfl rfl) rfl rfl (po_call (f1) rfl (ac (ac (ac .nil)))) ?_ | refine sops_pure (.free rfl rfl) rfl rfl (po_call (f2) rfl (ac (ac (ac .nil)))) ?_ | refine sops_pure (.free rfl rfl) rfl rfl (po_call (f3) rfl (ac (ac (ac .nil)))) ?_ | refine sops_pure (.free rfl rfl) rfl rfl (po_call (f4) rfl (ac (ac (ac .nil)))) ?_ | refine sops_pure (.free rfl rfl) rfl rfl (po_call (a6) rfl (ac (ac (ac .nil)))) ?_ | refine sops_pure (.free rfl rfl) rfl rfl (po_call (haw) rfl (ac (ac (ac .nil)))) ?_) <;> (first | refine sops_pure (.free rfl rfl) rfl rfl (po_beq true rfl rfl rfl (by kernel_rfl) q3) ?_ | refine sops_pure (.free rfl rfl) rfl rfl (po_beq true rfl rfl rfl (by kernel_rfl) q4) ?_ | refine sops_pure (.free rfl rfl) rfl rfl (po_move rfl rfl) ?_) <;> (first | refine sops_pure (.free rfl rfl) rfl rfl (po_beq true rfl rfl rfl (by kernel_rfl) q3) ?_ | refine sops_pure (.free rfl rfl) rfl rfl (po_beq true rfl rfl rfl (by kernel_rfl) q4) ?_ | refine sops_pure (.free rfl rfl) rfl rfl (po_extract rfl rfl rfl) ?_ | refine sops_pure (.free rfl rfl) rfl rfl (po_extract_tu rfl rfl rfl) ?_) <;> (first | refine sops_pure (.free rfl rfl) rfl rfl (po_beq true rfl rfl rfl (by kernel_rfl) q3) ?_ | refine sops_pure (.free rfl rfl) rfl rfl (po_beq true rfl rfl rfl (by kernel_rfl) q4) ?_ | refine sops_pure (.free rfl rfl) rfl rfl (po_extract rfl rfl rfl) ?_ | refine sops_pure (.free rfl rfl) rfl rfl (po_extract_tu rfl rfl rfl) ?_) <;> (first | refine sops_pure (.free rfl rfl) rfl rfl (po_beq true rfl rfl rfl (by kernel_rfl) q3) ?_ | refine sops_pure (.free rfl rfl) rfl rfl (po_beq true rfl rfl rfl (by kernel_rfl) q4) ?_ | refine sops_pure (.free rfl rfl) rfl rfl (po_assign rfl rfl) ?_) <;> (first | refine sops_pure (.free rfl rfl) rfl rfl (po_beq true rfl rfl rfl (by kernel_rfl) q3) ?_ | refine sops_pure (.free rfl rfl) rfl rfl (po_beq true rfl rfl rfl (by kernel_rfl) q4) ?_ | refine sops_pure (.free rfl rfl) rfl rfl (po_assign rfl rfl) ?_) <;> (refine sops_nil ?_))
    | ((refine swp_region (id := 18) ?_) <;> (first | refine sops_pure (.free rfl rfl) rfl rfl (po_beq true rfl rfl rfl (by kernel_rfl) q3) ?_ | refine sops_pure (.free rfl rfl) rfl rfl (po_beq true rfl rfl rfl (by kernel_rfl) q4) ?_ | refine sops_pure (.free rfl rfl) rfl rfl (po_move rfl rfl) ?_) <;> (first | refine sops_pure (.free rfl rfl) rfl rfl (po_beq true rfl rfl rfl (by kernel_rfl) q3) ?_ | refine sops_pure (.free rfl rfl) rfl rfl (po_beq true rfl rfl rfl (by kernel_rfl) q4) ?_ | refine sops_pure (.free rfl rfl) rfl rfl (po_field_bx rfl rfl (tyF rfl)) ?_ | refine sops_pure (.free rfl rfl) rfl rfl (po_field rfl rfl (tyF rfl)) ?_ | refine sops_pure (.free rfl rfl) rfl rfl (po_field_own rfl rfl rfl (by first | rfl | assumption | omega | (simp; done) | (simp; omega) | (simp at *; omega)) (tyF rfl)) ?_) <;> (first | refine sops_pure (.free rfl rfl) rfl rfl (po_beq true rfl rfl rfl (by kernel_rfl) q3) ?_ | refine sops_pure (.free rfl rfl) rfl rfl (po_beq true rfl rfl rfl (by kernel_rfl) q4) ?_ | refine sops_pure (.free rfl rfl) rfl rfl (po_load_bx rfl rfl (tyT rfl) rfl rfl) ?_ | refine sops_pure (.free rfl rfl) rfl rfl (po_load rfl rfl (tyT rfl) rfl) ?_ | refine sops_pure (.free rfl rfl) rfl rfl (po_load_own rfl rfl rfl (by first | rfl | assumption | omega | (simp; done) | (simp; omega) | (simp at *; omega)) (tyT rfl) (by first | rfl | assumption | exact map_at (by first | assumption | omega)) rfl) ?_) <;> (first | refine sops_pure (.free rfl rfl) rfl rfl (po_beq true rfl rfl rfl (by kernel_rfl) q3) ?_ | refine sops_pure (.free rfl rfl) rfl rfl (po_beq true rfl rfl rfl (by kernel_rfl) q4) ?_ | refine sops_pure (.free rfl rfl) rfl rfl (po_field_bx rfl rfl (tyF rfl)) ?_ | refine sops_pure (.free rfl rfl) rfl rfl (po_field rfl rfl (tyF rfl)) ?_ | refine sops_pure (.free rfl rfl) rfl rfl (po_field_own rfl rfl rfl (by first | rfl | assumption | omega | (simp; done) | (simp; omega) | (simp at *; omega)) (tyF rfl)) ?_) <;> (first | refine sops_pure (.free rfl rfl) rfl rfl (po_beq true rfl rfl rfl (by kernel_rfl) q3) ?_ | refine sops_pure (.free rfl rfl) rfl rfl (po_beq true rfl rfl rfl (by kernel_rfl) q4) ?_ | refine sops_pure (.free rfl rfl) rfl rfl (po_load_bx rfl rfl (tyT rfl) rfl rfl) ?_ | refine sops_pure (.free rfl rfl) rfl rfl (po_load rfl rfl (tyT rfl) rfl) ?_ | refine sops_pure (.free rfl rfl) rfl rfl (po_load_own rfl rfl rfl (by first | rfl | assumption | omega | (simp; done) | (simp; omega) | (simp at *; omega)) (tyT rfl) (by first | rfl | assumption | exact map_at (by first | assumption | omega)) rfl) ?_) <;> (first | refine sops_pure (.free rfl rfl) rfl rfl (po_beq true rfl rfl rfl (by kernel_rfl) q3) ?_ | refine sops_pure (.free rfl rfl) rfl rfl (po_beq true rfl rfl rfl (by kernel_rfl) q4) ?_ | refine sops_pure (.free rfl rfl) rfl rfl (po_call (f1) rfl (ac (ac (ac .nil)))) ?_ | refine sops_pure (.free rfl rfl) rfl rfl (po_call (f2) rfl (ac (ac (ac .nil)))) ?_ | refine sops_pure (.free rfl rfl) rfl rfl (po_call (f3) rfl (ac (ac (ac .nil)))) ?_ | refine sops_pure (.free rfl rfl) rfl rfl (po_call (f4) rfl (ac (ac (ac .nil)))) ?_ | refine sops_pure (.free rfl rfl) rfl rfl (po_call (a6) rfl (ac (ac (ac .nil)))) ?_ | refine sops_pure (.free rfl rfl) rfl rfl (po_call (haw) rfl (ac (ac (ac .nil)))) ?_) <;> (first | refine sops_pure (.free rfl rfl) rfl rfl (po_beq true rfl rfl rfl (by kernel_rfl) q3) ?_ | refine sops_pure (.free rfl rfl) rfl rfl (po_beq true rfl rfl rfl (by kernel_rfl) q4) ?_ | refine sops_pure (.free rfl rfl) rfl rfl (po_move rfl rfl) ?_) <;> (first | refine sops_pure (.free rfl rfl) rfl rfl (po_beq true rfl rfl rfl (by kernel_rfl) q3) ?_ | refine sops_pure (.free rfl rfl) rfl rfl (po_beq true rfl rfl rfl (by kernel_rfl) q4) ?_ | refine sops_pure (.free rfl rfl) rfl rfl (po_extract rfl rfl rfl) ?_ | refine sops_pure (.free rfl rfl) rfl rfl (po_extract_tu rfl rfl rfl) ?_) <;> (first | refine sops_pure (.free rfl rfl) rfl rfl (po_beq true rfl rfl rfl (by kernel_rfl) q3) ?_ | refine sops_pure (.free rfl rfl) rfl rfl (po_beq true rfl rfl rfl (by kernel_rfl) q4) ?_ | refine sops_pure (.free rfl rfl) rfl rfl (po_extract rfl rfl rfl) ?_ | refine sops_pure (.free rfl rfl) rfl rfl (po_extract_tu rfl rfl rfl) ?_) <;> (first | refine sops_pure (.free rfl rfl) rfl rfl (po_beq true rfl rfl rfl (by kernel_rfl) q3) ?_ | refine sops_pure (.free rfl rfl) rfl rfl (po_beq true rfl rfl rfl (by kernel_rfl) q4) ?_ | refine sops_pure (.free rfl rfl) rfl rfl (po_assign rfl rfl) ?_) <;> (first | refine sops_pure (.free rfl rfl) rfl rfl (po_beq true rfl rfl rfl (by kernel_rfl) q3) ?_ | refine sops_pure (.free rfl rfl) rfl rfl (po_beq true rfl rfl rfl (by kernel_rfl) q4) ?_ | refine sops_pure (.free rfl rfl) rfl rfl (po_assign rfl rfl) ?_) <;> (refine sops_nil ?_))
    | ((refine swp_region (id := 19) ?_) <;> (first | refine sops_pure (.free rfl rfl) rfl rfl (po_beq true rfl rfl rfl (by kernel_rfl) q3) ?_ | refine sops_pure (.free rfl rfl) rfl rfl (po_beq true rfl rfl rfl (by kernel_rfl) q4) ?_ | refine sops_pure (.free rfl rfl) rfl rfl (po_move rfl rfl) ?_) <;> (first | refine sops_pure (.free rfl rfl) rfl rfl (po_beq true rfl rfl rfl (by kernel_rfl) q3) ?_ | refine sops_pure (.free rfl rfl) rfl rfl (po_beq true rfl rfl rfl (by kernel_rfl) q4) ?_ | refine sops_pure (.free rfl rfl) rfl rfl (po_call (f1) rfl (ac .nil)) ?_ | refine sops_pure (.free rfl rfl) rfl rfl (po_call (f2) rfl (ac .nil)) ?_ | refine sops_pure (.free rfl rfl) rfl rfl (po_call (f3) rfl (ac .nil)) ?_ | refine sops_pure (.free rfl rfl) rfl rfl (po_call (f4) rfl (ac .nil)) ?_ | refine sops_pure (.free rfl rfl) rfl rfl (po_call (a6) rfl (ac .nil)) ?_ | refine sops_pure (.free rfl rfl) rfl rfl (po_call (haw) rfl (ac .nil)) ?_) <;> (first | refine sops_pure (.free rfl rfl) rfl rfl (po_beq true rfl rfl rfl (by kernel_rfl) q3) ?_ | refine sops_pure (.free rfl rfl) rfl rfl (po_beq true rfl rfl rfl (by kernel_rfl) q4) ?_ | refine sops_pure (.free rfl rfl) rfl rfl (po_move rfl rfl) ?_) <;> (first | refine sops_pure (.free rfl rfl) rfl rfl (po_beq true rfl rfl rfl (by kernel_rfl) q3) ?_ | refine sops_pure (.free rfl rfl) rfl rfl (po_beq true rfl rfl rfl (by kernel_rfl) q4) ?_ | refine sops_pure (.free rfl rfl) rfl rfl (po_extract rfl rfl rfl) ?_ | refine sops_pure (.free rfl rfl) rfl rfl (po_extract_tu rfl rfl rfl) ?_) <;> (first | refine sops_pure (.free rfl rfl) rfl rfl (po_beq true rfl rfl rfl (by kernel_rfl) q3) ?_ | refine sops_pure (.free rfl rfl) rfl rfl (po_beq true rfl rfl rfl (by kernel_rfl) q4) ?_ | refine sops_pure (.free rfl rfl) rfl rfl (po_extract rfl rfl rfl) ?_ | refine sops_pure (.free rfl rfl) rfl rfl (po_extract_tu rfl rfl rfl) ?_) <;> (first | refine sops_pure (.free rfl rfl) rfl rfl (po_beq true rfl rfl rfl (by kernel_rfl) q3) ?_ | refine sops_pure (.free rfl rfl) rfl rfl (po_beq true rfl rfl rfl (by kernel_rfl) q4) ?_ | refine sops_pure (.free rfl rfl) rfl rfl (po_assign rfl rfl) ?_) <;> (first | refine sops_pure (.free rfl rfl) rfl rfl (po_beq true rfl rfl rfl (by kernel_rfl) q3) ?_ | refine sops_pure (.free rfl rfl) rfl rfl (po_beq true rfl rfl rfl (by kernel_rfl) q4) ?_ | refine sops_pure (.free rfl rfl) rfl rfl (po_assign rfl rfl) ?_) <;> (refine sops_nil ?_))
    | ((refine swp_region (id := 20) ?_) <;> (first | refine sops_pure (.free rfl rfl) rfl rfl (po_beq true rfl rfl rfl (by kernel_rfl) q3) ?_ | refine sops_pure (.free rfl rfl) rfl rfl (po_beq true rfl rfl rfl (by kernel_rfl) q4) ?_ | refine sops_pure (.free rfl rfl) rfl rfl (po_move rfl rfl) ?_) <;> (first | refine sops_pure (.free rfl rfl) rfl rfl (po_beq true rfl rfl rfl (by kernel_rfl) q3) ?_ | refine sops_pure (.free rfl rfl) rfl rfl (po_beq true rfl rfl rfl (by kernel_rfl) q4) ?_ | refine sops_pure (.free rfl rfl) rfl rfl (po_call (f1) rfl (ac .nil)) ?_ | refine sops_pure (.free rfl rfl) rfl rfl (po_call (f2) rfl (ac .nil)) ?_ | refine sops_pure (.free rfl rfl) rfl rfl (po_call (f3) rfl (ac .nil)) ?_ | refine sops_pure (.free rfl rfl) rfl rfl (po_call (f4) rfl (ac .nil)) ?_ | refine sops_pure (.free rfl rfl) rfl rfl (po_call (a6) rfl (ac .nil)) ?_ | refine sops_pure (.free rfl rfl) rfl rfl (po_call (haw) rfl (ac .nil)) ?_) <;> (first | refine sops_pure (.free rfl rfl) rfl rfl (po_beq true rfl rfl rfl (by kernel_rfl) q3) ?_ | refine sops_pure (.free rfl rfl) rfl rfl (po_beq true rfl rfl rfl (by kernel_rfl) q4) ?_ | refine sops_pure (.free rfl rfl) rfl rfl (po_move rfl rfl) ?_) <;> (first | refine sops_pure (.free rfl rfl) rfl rfl (po_beq true rfl rfl rfl (by kernel_rfl) q3) ?_ | refine sops_pure (.free rfl rfl) rfl rfl (po_beq true rfl rfl rfl (by kernel_rfl) q4) ?_ | refine sops_pure (.free rfl rfl) rfl rfl (po_extract rfl rfl rfl) ?_ | refine sops_pure (.free rfl rfl) rfl rfl (po_extract_tu rfl rfl rfl) ?_) <;> (first | refine sops_pure (.free rfl rfl) rfl rfl (po_beq true rfl rfl rfl (by kernel_rfl) q3) ?_ | refine sops_pure (.free rfl rfl) rfl rfl (po_beq true rfl rfl rfl (by kernel_rfl) q4) ?_ | refine sops_pure (.free rfl rfl) rfl rfl (po_extract rfl rfl rfl) ?_ | refine sops_pure (.free rfl rfl) rfl rfl (po_extract_tu rfl rfl rfl) ?_) <;> (first | refine sops_pure (.free rfl rfl) rfl rfl (po_beq true rfl rfl rfl (by kernel_rfl) q3) ?_ | refine sops_pure (.free rfl rfl) rfl rfl (po_beq true rfl rfl rfl (by kernel_rfl) q4) ?_ | refine sops_pure (.free rfl rfl) rfl rfl (po_assign rfl rfl) ?_) <;> (first | refine sops_pure (.free rfl rfl) rfl rfl (po_beq true rfl rfl rfl (by kernel_rfl) q3) ?_ | refine sops_pure (.free rfl rfl) rfl rfl (po_beq true rfl rfl rfl (by kernel_rfl) q4) ?_ | refine sops_pure (.free rfl rfl) rfl rfl (po_assign rfl rfl) ?_) <;> (refine sops_nil ?_))
    | ((refine swp_region (id := 21) ?_) <;> (first | refine sops_pure (.free rfl rfl) rfl rfl (po_beq true rfl rfl rfl (by kernel_rfl) q3) ?_ | refine sops_pure (.free rfl rfl) rfl rfl (po_beq true rfl rfl rfl (by kernel_rfl) q4) ?_ | refine sops_pure (.free rfl rfl) rfl rfl (po_move rfl rfl) ?_) <;> (first | refine sops_pure (.free rfl rfl) rfl rfl (po_beq true rfl rfl rfl (by kernel_rfl) q3) ?_ | refine sops_pure (.free rfl rfl) rfl rfl (po_beq true rfl rfl rfl (by kernel_rfl) q4) ?_ | refine sops_pure (.free rfl rfl) rfl rfl (po_move rfl rfl) ?_) <;> (first | refine sops_pure (.free rfl rfl) rfl rfl (po_beq true rfl rfl rfl (by kernel_rfl) q3) ?_ | refine sops_pure (.free rfl rfl) rfl rfl (po_beq true rfl rfl rfl (by kernel_rfl) q4) ?_ | refine sops_pure (.free rfl rfl) rfl rfl (po_cmp rfl rfl rfl rfl) ?_) <;> (first | refine sops_pure (.free rfl rfl) rfl rfl (po_beq true rfl rfl rfl (by kernel_rfl) q3) ?_ | refine sops_pure (.free rfl rfl) rfl rfl (po_beq true rfl rfl rfl (by kernel_rfl) q4) ?_ | refine sops_pure (.free rfl rfl) rfl rfl (po_move rfl rfl) ?_) <;> (first | refine sops_pure gy rfl rfl (po_beq true rfl rfl rfl (by kernel_rfl) q3) ?_ | refine sops_pure gy rfl rfl (po_beq true rfl rfl rfl (by kernel_rfl) q4) ?_ | refine sops_pure gy rfl rfl (po_move rfl rfl) ?_ | refine sops_skip gn1 rfl rfl ?_ | ((refine sops_split rfl rfl rfl (fun hc => ?_) (fun hc => ?_)) <;> (first | refine sops_pure gy rfl rfl (po_beq true rfl rfl rfl (by kernel_rfl) q3) ?_ | refine sops_pure gy rfl rfl (po_beq true rfl rfl rfl (by kernel_rfl) q4) ?_ | refine sops_pure gy rfl rfl (po_move rfl rfl) ?_ | refine sops_skip gn1 rfl rfl ?_))) <;> (first | refine sops_pure gy rfl rfl (po_beq true rfl rfl rfl (by kernel_rfl) q3) ?_ | refine sops_pure gy rfl rfl (po_beq true rfl rfl rfl (by kernel_rfl) q4) ?_ | refine sops_pure gy rfl rfl (po_move rfl rfl) ?_ | refine sops_skip gn1 rfl rfl ?_) <;> (first | refine sops_pure gy rfl rfl (po_beq true rfl rfl rfl (by kernel_rfl) q3) ?_ | refine sops_pure gy rfl rfl (po_beq true rfl rfl rfl (by kernel_rfl) q4) ?_ | refine sops_pure gy rfl rfl (po_boolq rfl rfl rfl (by kernel_rfl) (by first | exact .inl rfl | exact .inr rfl)) ?_ | refine sops_skip gn1 rfl rfl ?_) <;> (first | refine sops_pure (.free rfl rfl) rfl rfl (po_beq true rfl rfl rfl (by kernel_rfl) q3) ?_ | refine sops_pure (.free rfl rfl) rfl rfl (po_beq true rfl rfl rfl (by kernel_rfl) q4) ?_ | refine sops_pure (.free rfl rfl) rfl rfl (pkt rfl) ?_ | refine sops_pure (.free rfl rfl) rfl rfl (pkf rfl) ?_) <;> (first | refine sops_pure (.free rfl rfl) rfl rfl (po_beq true rfl rfl rfl (by kernel_rfl) q3) ?_ | refine sops_pure (.free rfl rfl) rfl rfl (po_beq true rfl rfl rfl (by kernel_rfl) q4) ?_ | refine sops_pure (.free rfl rfl) rfl rfl (po_move rfl rfl) ?_) <;> (first | refine sops_pure gy rfl rfl (po_beq true rfl rfl rfl (by kernel_rfl) q3) ?_ | refine sops_pure gy rfl rfl (po_beq true rfl rfl rfl (by kernel_rfl) q4) ?_ | refine sops_pure gy rfl rfl (po_move rfl rfl) ?_ | refine sops_skip gn1 rfl rfl ?_ | ((refine sops_split rfl rfl rfl (fun hc => ?_) (fun hc => ?_)) <;> (first | refine sops_pure gy rfl rfl (po_beq true rfl rfl rfl (by kernel_rfl) q3) ?_ | refine sops_pure gy rfl rfl (po_beq true rfl rfl rfl (by kernel_rfl) q4) ?_ | refine sops_pure gy rfl rfl (po_move rfl rfl) ?_ | refine sops_skip gn1 rfl rfl ?_))) <;> (first | refine sops_pure gy rfl rfl (po_beq true rfl rfl rfl (by kernel_rfl) q3) ?_ | refine sops_pure gy rfl rfl (po_beq true rfl rfl rfl (by kernel_rfl) q4) ?_ | refine sops_pure gy rfl rfl (po_move rfl rfl) ?_ | refine sops_skip gn1 rfl rfl ?_) <;> (first | refine sops_pure gy rfl rfl (po_beq true rfl rfl rfl (by kernel_rfl) q3) ?_ | refine sops_pure gy rfl rfl (po_beq true rfl rfl rfl (by kernel_rfl) q4) ?_ | refine sops_pure gy rfl rfl (po_cmp rfl rfl rfl rfl) ?_ | refine sops_skip gn1 rfl rfl ?_) <;> (first | refine sops_pure (.free rfl rfl) rfl rfl (po_beq true rfl rfl rfl (by kernel_rfl) q3) ?_ | refine sops_pure (.free rfl rfl) rfl rfl (po_beq true rfl rfl rfl (by kernel_rfl) q4) ?_ | refine sops_pure (.free rfl rfl) rfl rfl (pkt rfl) ?_ | refine sops_pure (.free rfl rfl) rfl rfl (pkf rfl) ?_) <;> (first | refine sops_pure (.free rfl rfl) rfl rfl (po_beq true rfl rfl rfl (by kernel_rfl) q3) ?_ | refine sops_pure (.free rfl rfl) rfl rfl (po_beq true rfl rfl rfl (by kernel_rfl) q4) ?_ | refine sops_pure (.free rfl rfl) rfl rfl (po_move rfl rfl) ?_) <;> (first | refine sops_pure gy rfl rfl (po_beq true rfl rfl rfl (by kernel_rfl) q3) ?_ | refine sops_pure gy rfl rfl (po_beq true rfl rfl rfl (by kernel_rfl) q4) ?_ | refine sops_pure gy rfl rfl (po_move rfl rfl) ?_ | refine sops_skip gn1 rfl rfl ?_ | ((refine sops_split rfl rfl rfl (fun hc => ?_) (fun hc => ?_)) <;> (first | refine sops_pure gy rfl rfl (po_beq true rfl rfl rfl (by kernel_rfl) q3) ?_ | refine sops_pure gy rfl rfl (po_beq true rfl rfl rfl (by kernel_rfl) q4) ?_ | refine sops_pure gy rfl rfl (po_move rfl rfl) ?_ | refine sops_skip gn1 rfl rfl ?_))) <;> (first | refine sops_pure gy rfl rfl (po_beq true rfl rfl rfl (by kernel_rfl) q3) ?_ | refine sops_pure gy rfl rfl (po_beq true rfl rfl rfl (by kernel_rfl) q4) ?_ | refine sops_pure gy rfl rfl (po_move rfl rfl) ?_ | refine sops_skip gn1 rfl rfl ?_) <;> (first | refine sops_pure gy rfl rfl (po_beq true rfl rfl rfl (by kernel_rfl) q3) ?_ | refine sops_pure gy rfl rfl (po_beq true rfl rfl rfl (by kernel_rfl) q4) ?_ | refine sops_pure gy rfl rfl (po_boolq rfl rfl rfl (by kernel_rfl) (by first | exact .inl rfl | exact .inr rfl)) ?_ | refine sops_skip gn1 rfl rfl ?_) <;> (first | refine sops_pure (.free rfl rfl) rfl rfl (po_beq true rfl rfl rfl (by kernel_rfl) q3) ?_ | refine sops_pure (.free rfl rfl) rfl rfl (po_beq true rfl rfl rfl (by kernel_rfl) q4) ?_ | refine sops_pure (.free rfl rfl) rfl rfl (pkt rfl) ?_ | refine sops_pure (.free rfl rfl) rfl rfl (pkf rfl) ?_) <;> (first | refine sops_pure (.free rfl rfl) rfl rfl (po_beq true rfl rfl rfl (by kernel_rfl) q3) ?_ | refine sops_pure (.free rfl rfl) rfl rfl (po_beq true rfl rfl rfl (by kernel_rfl) q4) ?_ | refine sops_pure (.free rfl rfl) rfl rfl (po_move rfl rfl) ?_) <;> (first | refine sops_pure gy rfl rfl (po_beq true rfl rfl rfl (by kernel_rfl) q3) ?_ | refine sops_pure gy rfl rfl (po_beq true rfl rfl rfl (by kernel_rfl) q4) ?_ | refine sops_pure gy rfl rfl (po_move rfl rfl) ?_ | refine sops_skip gn1 rfl rfl ?_ | ((refine sops_split rfl rfl rfl (fun hc => ?_) (fun hc => ?_)) <;> (first | refine sops_pure gy rfl rfl (po_beq true rfl rfl rfl (by kernel_rfl) q3) ?_ | refine sops_pure gy rfl rfl (po_beq true rfl rfl rfl (by kernel_rfl) q4) ?_ | refine sops_pure gy rfl rfl (po_move rfl rfl) ?_ | refine sops_skip gn1 rfl rfl ?_))) <;> (first | refine sops_pure gy rfl rfl (po_beq true rfl rfl rfl (by kernel_rfl) q3) ?_ | refine sops_pure gy rfl rfl (po_beq true rfl rfl rfl (by kernel_rfl) q4) ?_ | refine sops_pure gy rfl rfl (po_move rfl rfl) ?_ | refine sops_skip gn1 rfl rfl ?_) <;> (first | refine sops_pure gy rfl rfl (po_beq true rfl rfl rfl (by kernel_rfl) q3) ?_ | refine sops_pure gy rfl rfl (po_beq true rfl rfl rfl (by kernel_rfl) q4) ?_ | refine sops_pure gy rfl rfl (po_call (f1) rfl (ac (ac .nil))) ?_ | refine sops_pure gy rfl rfl (po_call (f2) rfl (ac (ac .nil))) ?_ | refine sops_pure gy rfl rfl (po_call (f3) rfl (ac (ac .nil))) ?_ | refine sops_pure gy rfl rfl (po_call (f4) rfl (ac (ac .nil))) ?_ | refine sops_pure gy rfl rfl (po_call (a6) rfl (ac (ac .nil))) ?_ | refine sops_pure gy rfl rfl (po_call (haw) rfl (ac (ac .nil))) ?_ | refine sops_skip gn1 rfl rfl ?_) <;> (first | refine sops_pure (.free rfl rfl) rfl rfl (po_beq true rfl rfl rfl (by kernel_rfl) q3) ?_ | refine sops_pure (.free rfl rfl) rfl rfl (po_beq true rfl rfl rfl (by kernel_rfl) q4) ?_ | refine sops_pure (.free rfl rfl) rfl rfl (pkt rfl) ?_ | refine sops_pure (.free rfl rfl) rfl rfl (pkf rfl) ?_) <;> (first | refine sops_pure (.free rfl rfl) rfl rfl (po_beq true rfl rfl rfl (by kernel_rfl) q3) ?_ | refine sops_pure (.free rfl rfl) rfl rfl (po_beq true rfl rfl rfl (by kernel_rfl) q4) ?_ | refine sops_pure (.free rfl rfl) rfl rfl (po_move rfl rfl) ?_) <;> (first | refine sops_pure gy rfl rfl (po_beq true rfl rfl rfl (by kernel_rfl) q3) ?_ | refine sops_pure gy rfl rfl (po_beq true rfl rfl rfl (by kernel_rfl) q4) ?_ | refine sops_pure gy rfl rfl (po_call (f1) rfl .nil) ?_ | refine sops_pure gy rfl rfl (po_call (f2) rfl .nil) ?_ | refine sops_pure gy rfl rfl (po_call (f3) rfl .nil) ?_ | refine sops_pure gy rfl rfl (po_call (f4) rfl .nil) ?_ | refine sops_pure gy rfl rfl (po_call (a6) rfl .nil) ?_ | refine sops_pure gy rfl rfl (po_call (haw) rfl .nil) ?_ | refine sops_skip gn1 rfl rfl ?_ | ((refine sops_split rfl rfl rfl (fun hc => ?_) (fun hc => ?_)) <;> (first | refine sops_pure gy rfl rfl (po_beq true rfl rfl rfl (by kernel_rfl) q3) ?_ | refine sops_pure gy rfl rfl (po_beq true rfl rfl rfl (by kernel_rfl) q4) ?_ | refine sops_pure gy rfl rfl (po_call (f1) rfl .nil) ?_ | refine sops_pure gy rfl rfl (po_call (f2) rfl .nil) ?_ | refine sops_pure gy rfl rfl (po_call (f3) rfl .nil) ?_ | refine sops_pure gy rfl rfl (po_call (f4) rfl .nil) ?_ | refine sops_pure gy rfl rfl (po_call (a6) rfl .nil) ?_ | refine sops_pure gy rfl rfl (po_call (haw) rfl .nil) ?_ | refine sops_skip gn1 rfl rfl ?_))) <;> (first | refine sops_pure (.free rfl rfl) rfl rfl (po_beq true rfl rfl rfl (by kernel_rfl) q3) ?_ | refine sops_pure (.free rfl rfl) rfl rfl (po_beq true rfl rfl rfl (by kernel_rfl) q4) ?_ | refine sops_pure (.free rfl rfl) rfl rfl (pkt rfl) ?_ | refine sops_pure (.free rfl rfl) rfl rfl (pkf rfl) ?_) <;> (first | refine sops_pure (.free rfl rfl) rfl rfl (po_beq true rfl rfl rfl (by kernel_rfl) q3) ?_ | refine sops_pure (.free rfl rfl) rfl rfl (po_beq true rfl rfl rfl (by kernel_rfl) q4) ?_ | refine sops_pure (.free rfl rfl) rfl rfl (po_assign rfl rfl) ?_) <;> (refine sops_nil ?_))
    | refine swp_ret ?_
    | refine swp_skip ?_
    | refine swp_block ?_
    | refine swp_exit ?_
    | refine block_go ?_
    | refine block_exit ?_
    | refine block_far rfl ?_
    | refine block_ret ?_
    | refine then_ret ?_
    | refine then_exit ?_
    | refine for_ret ?_
    | refine for_exit ?_
    | refine ct ?_
    | refine cf ?_
    | refine swp_cond rfl (fun hc => ?_) (fun hc => ?_)
    | refine retq (by first | exact .inr rfl | exact .inl rfl) rfl (.tmp rfl (by first | exact .t _ | exact .own rfl (by first | rfl | assumption | (simp; done) | (simp; omega)) | exact .nil _ | exact .emp _ | exact .fn _) .nil) ?_)
  rfl
theorem walk (A0 : Option Addr) (cap0 : Nat) (l : List Pl.Due) (A1 : Option Addr) (cap1 : Nat) (m : List Pl.Due) (d : Pl.Due) (now : Int) (w : World) (hA : Dues w.heap.size w A0 l) (_ : w.heap.size ≤ w.heap.size) (hl1 : l.length ≤ cap0) (hl2 : cap0 ≤ maxLen) (hB : Dues w.heap.size w A1 m) (hm1 : m.length ≤ cap1) (hm2 : cap1 ≤ maxLen) (hd : wfD d) :
    Calls Try.prog 3 #[.slice A0 l.length cap0, .slice A1 m.length cap1, .agg #[.int .u64 d.at_, .int .i64 d.kind, .int .u64 d.key], .int .u64 now] w fun e w' => e = .returned (.bool true) ∧ Lo w w' := by
  have h := law_ l m (WfL.of_dues hA) (WfL.of_dues hB) (by unfold maxLen at hl2; omega) (by unfold maxLen at hm2; omega) d hd now
  exact h.law w _ rfl fun i t v h1 h2 => by
    match i, h1, h2 with
    | 0, h1, h2 => simp at h1 h2; subst h1 h2; exact dues_bwd hA hl1 hl2
    | 1, h1, h2 => simp at h1 h2; subst h1 h2; exact dues_bwd hB hm1 hm2
    | 2, h1, h2 => simp at h1 h2; subst h1 h2; exact agg_bwd (vs := [_, _, _]) (cellsAre_cons (.v _) rfl (cellsAre_cons (.v _) rfl (cellsAre_cons (.v _) rfl (cellsAre_nil _))))
    | 3, h1, h2 => simp at h1 h2; subst h1 h2; exact .v _
end Go.Proofs.Ytmjckopplkihlaa.TimersDo
