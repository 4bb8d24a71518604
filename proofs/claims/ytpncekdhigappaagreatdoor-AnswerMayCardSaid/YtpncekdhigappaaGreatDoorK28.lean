/- Merged by bundles.py: SimEq, SimAn4. -/
import Derived.Test.YtpncekdhigappaaGreatDoorK27
import Derived.Test.YtpncekdhigappaaGreatDoorK18
/- Headers, answers, messages: whether two are the same; walks. -/
namespace Go.Proofs.YtpncekdhigappaaGreatDoor.An
set_option linter.unusedVariables false
set_option linter.unusedSimpArgs false
open Go.RowKit Mem Sim Opn Hd Str Rq
instance decHead : DecidableEq Pl.Head := fun a b => if h : heqB a b = true then .isTrue ((heqB_iff a b).1 h) else .isFalse fun e => h ((heqB_iff a b).2 e)
theorem heads_take {a b : List Pl.Head} (hl : a.length = b.length) (h : a.take a.length = b.take a.length) : a = b := by
  rw [List.take_length, hl, List.take_length] at h; exact h
theorem ne_at {a b : List Pl.Head} {k : Nat} (h1 : k < a.length) (h2 : k < b.length) (h : ¬ a[k] = b[k]) : ¬ a = b := fun e => h (by subst e; rfl)
theorem ne_len {a b : List Pl.Head} (h : ¬ a.length = b.length) : ¬ a = b := fun e => h (by rw [e])
set_option maxRecDepth 100000 in
set_option maxHeartbeats 2000000 in
theorem refSameG_ (a b : List Pl.Head) (ha : a.length ≤ 1000) : PCalls Tryz.prog 60 [headsT a, headsT b] (.v (.bool (decide (a = b)))) := by
  have hma : (a.map headT).length = a.length := List.length_map _
  have hmb : (b.map headT).length = b.length := List.length_map _
  refine pcalls_of Tryz.func60 rfl rfl Tryz.ntmps60 rfl ?_
  by_cases hl : a.length = b.length
  · have h0 : (!decide (((a.map headT).length : Int) = ((b.map headT).length : Int))) = false := by rw [hma, hmb, hl]; simp
    repeat' (first | refine then_go ?_ | refine swp_seq ?_ | (refine rg 0 ?_; refine oAs ?_; refine oN ?_) | (refine rg 1 ?_; refine oMv ?_; refine sp (pln rfl (tyS rfl)) ?_; refine oMv ?_; refine sp (pln rfl (tyS rfl)) ?_; refine oCm ?_; refine oN ?_) | (refine rg 3 ?_; refine oAs ?_; refine oN ?_) | refine gc ?_ | refine ct ?_ | refine cf ?_ | refine swp_cond rfl (fun hc => ?_) (fun hc => ?_) | refine rq rfl (rt .nil) ?_)
    refine swp_for (fun k => ⟨[(0, .t (headsT a)), (1, .t (headsT b)), (5, .t (.v (.int .i64 (k : Int))))], [], []⟩) (fun k => a.take k = b.take k) a.length (weak_sub (.cons rfl rfl rfl (.cons rfl rfl rfl (.cons rfl rfl rfl .nil))) .nil .nil) rfl ?_
    intro k hk hI
    by_cases hlt : k < a.length
    · have hltb : k < b.length := by omega
      by_cases he : a[k] = b[k]
      · have hq : (!heqB a[k] b[k]) = false := by rw [(heqB_iff _ _).2 he]; rfl
        repeat' (first | refine then_go ?_ | refine swp_seq ?_ | refine for_next hlt (weak_sub (.cons rfl rfl rfl (.cons rfl rfl rfl (.cons rfl rfl rfl .nil))) .nil .nil) (take_eq_allH hlt hltb hI he) | (refine rg 4 ?_; refine oMv ?_; refine oMv ?_; refine sp (pln rfl (tyS rfl)) ?_; (first | refine sp (po_ex2 rfl rfl rfl (head_Ex a[k]) (head_Ex b[k]) (hne_run false _ _ hq)) ?_ | refine oCm ?_); refine oN ?_) | (refine rd 6 ?_; refine dMv ?_; refine dMv ?_; refine dp (pix rfl (tyS rfl)) ?_; (first | refine dp (po_load_bx_agg rfl rfl (tyT rfl) rfl (vc (vc .nil)) rfl) ?_ | refine dp (po_load_agg rfl rfl (tyT rfl) rfl rfl) ?_); refine dMv ?_; refine dMv ?_; refine dp (pix rfl (tyS rfl)) ?_; (first | refine dp (po_load_bx_agg rfl rfl (tyT rfl) rfl (vc (vc .nil)) rfl) ?_ | refine dp (po_load_agg rfl rfl (tyT rfl) rfl rfl) ?_); (first | refine dp (po_ex2 rfl rfl rfl (head_Ex a[k]) (head_Ex b[k]) (hne_run false _ _ hq)) ?_ | refine dp (po_boolq rfl rfl rfl (by kernel_rfl) (by first | exact .inl rfl | exact .inr rfl)) ?_); refine dN ?_; refine oN ?_) | (refine rg 5 ?_; refine oMv ?_; (first | refine sp (xinc rfl) ?_ | refine sp (po_arith rfl rfl rfl (ar_add (by first | rfl | (refine wrap_i64 ?_; omega)) rfl)) ?_); refine oAs ?_; refine oN ?_) | refine gc ?_ | refine ct ?_ | refine cf ?_ | refine swp_cond rfl (fun hc => ?_) (fun hc => ?_) | refine rq rfl (rt .nil) ?_)
      · have hq : (!heqB a[k] b[k]) = true := by
          have : heqB a[k] b[k] = false := by
            cases h : heqB a[k] b[k] with
            | false => rfl
            | true => exact absurd ((heqB_iff _ _).1 h) he
          rw [this]; rfl
        rw [decide_eq_false (ne_at hlt hltb he)]
        repeat' (first | refine then_go ?_ | refine swp_seq ?_ | (refine rg 4 ?_; refine oMv ?_; refine oMv ?_; refine sp (pln rfl (tyS rfl)) ?_; (first | refine sp (po_ex2 rfl rfl rfl (head_Ex a[k]) (head_Ex b[k]) (hne_run true _ _ hq)) ?_ | refine oCm ?_); refine oN ?_) | (refine rd 6 ?_; refine dMv ?_; refine dMv ?_; refine dp (pix rfl (tyS rfl)) ?_; (first | refine dp (po_load_bx_agg rfl rfl (tyT rfl) rfl (vc (vc .nil)) rfl) ?_ | refine dp (po_load_agg rfl rfl (tyT rfl) rfl rfl) ?_); refine dMv ?_; refine dMv ?_; refine dp (pix rfl (tyS rfl)) ?_; (first | refine dp (po_load_bx_agg rfl rfl (tyT rfl) rfl (vc (vc .nil)) rfl) ?_ | refine dp (po_load_agg rfl rfl (tyT rfl) rfl rfl) ?_); (first | refine dp (po_ex2 rfl rfl rfl (head_Ex a[k]) (head_Ex b[k]) (hne_run true _ _ hq)) ?_ | refine dp (po_boolq rfl rfl rfl (by kernel_rfl) (by first | exact .inl rfl | exact .inr rfl)) ?_); refine dN ?_; refine oN ?_) | (refine rg 7 ?_; refine oAs ?_; refine oN ?_) | refine gc ?_ | refine ct ?_ | refine cf ?_ | refine swp_cond rfl (fun hc => ?_) (fun hc => ?_) | refine rq rfl (rt .nil) ?_)
        rfl
    · obtain rfl : k = a.length := by omega
      rw [decide_eq_true (heads_take hl hI)]
      repeat' (first | refine then_go ?_ | refine swp_seq ?_ | (refine rg 4 ?_; refine oMv ?_; refine oMv ?_; refine sp (pln rfl (tyS rfl)) ?_; refine oCm ?_; refine oN ?_) | (refine rg 8 ?_; refine oAs ?_; refine oN ?_) | refine gc ?_ | refine ct ?_ | refine cf ?_ | refine swp_cond rfl (fun hc => ?_) (fun hc => ?_) | refine rq rfl (rt .nil) ?_)
      rfl
  · have h0 : (!decide (((a.map headT).length : Int) = ((b.map headT).length : Int))) = true := by rw [hma, hmb, decide_eq_false (by omega)]; rfl
    rw [decide_eq_false (ne_len hl)]
    repeat' (first | refine then_go ?_ | refine swp_seq ?_ | (refine rg 0 ?_; refine oAs ?_; refine oN ?_) | (refine rg 1 ?_; refine oMv ?_; refine sp (pln rfl (tyS rfl)) ?_; refine oMv ?_; refine sp (pln rfl (tyS rfl)) ?_; refine oCm ?_; refine oN ?_) | (refine rg 2 ?_; refine oAs ?_; refine oN ?_) | refine gc ?_ | refine ct ?_ | refine cf ?_ | refine swp_cond rfl (fun hc => ?_) (fun hc => ?_) | refine rq rfl (rt .nil) ?_)
    rfl
set_option maxRecDepth 100000 in
set_option maxHeartbeats 2000000 in
theorem equalH_ (a b : List Pl.Head) (ha : a.length ≤ 1000) : PCalls Tryz.prog 64 [headsT a, headsT b] (.v (.bool (decide (a = b)))) := by
  have hma : (a.map headT).length = a.length := List.length_map _
  have hmb : (b.map headT).length = b.length := List.length_map _
  refine pcalls_of Tryz.func64 rfl rfl Tryz.ntmps64 rfl ?_
  by_cases hl : a.length = b.length
  · have h0 : (!decide (((a.map headT).length : Int) = ((b.map headT).length : Int))) = false := by rw [hma, hmb, hl]; simp
    repeat' (first | refine then_go ?_ | refine swp_seq ?_ | (refine rg 0 ?_; refine oAs ?_; refine oN ?_) | (refine rg 1 ?_; refine oMv ?_; refine sp (pln rfl (tyS rfl)) ?_; refine oMv ?_; refine sp (pln rfl (tyS rfl)) ?_; refine oCm ?_; refine oN ?_) | (refine rg 3 ?_; refine oMv ?_; refine sp (pln rfl (tyS rfl)) ?_; refine oMv ?_; refine oN ?_) | refine gc ?_ | refine ct ?_ | refine cf ?_ | refine swp_cond rfl (fun hc => ?_) (fun hc => ?_) | refine rq rfl (rt .nil) ?_)
    refine swp_for (fun k => ⟨[(0, .t (headsT a)), (1, .t (headsT b)), (12, .t (.v (.int .i64 ((a.map headT).length : Int)))), (13, .t (.v (.int .i64 (k : Int))))], [], []⟩) (fun k => a.take k = b.take k) a.length (weak_sub (.cons rfl rfl rfl (.cons rfl rfl rfl (.cons rfl rfl rfl (.cons rfl rfl rfl .nil)))) .nil .nil) rfl ?_
    intro k hk hI
    by_cases hlt : k < a.length
    · have hltb : k < b.length := by omega
      by_cases he : a[k] = b[k]
      · have hq : (!heqB a[k] b[k]) = false := by rw [(heqB_iff _ _).2 he]; rfl
        repeat' (first | refine then_go ?_ | refine swp_seq ?_ | refine for_next hlt (weak_sub (.cons rfl rfl rfl (.cons rfl rfl rfl (.cons rfl rfl rfl (.cons rfl rfl rfl .nil)))) .nil .nil) (take_eq_allH hlt hltb hI he) | (refine rg 4 ?_; (first | refine sp (po_ex2 rfl rfl rfl (head_Ex a[k]) (head_Ex b[k]) (hne_run false _ _ hq)) ?_ | refine oCm ?_); refine oN ?_) | (refine rg 5 ?_; refine oMv ?_; refine oAs ?_; refine oN ?_) | (refine rd 6 ?_; refine dMv ?_; refine dMv ?_; refine dp (pix rfl (tyS rfl)) ?_; (first | refine dp (po_load_bx_agg rfl rfl (tyT rfl) rfl (vc (vc .nil)) rfl) ?_ | refine dp (po_load_agg rfl rfl (tyT rfl) rfl rfl) ?_); refine dMv ?_; refine dMv ?_; refine dp (pix rfl (tyS rfl)) ?_; (first | refine dp (po_load_bx_agg rfl rfl (tyT rfl) rfl (vc (vc .nil)) rfl) ?_ | refine dp (po_load_agg rfl rfl (tyT rfl) rfl rfl) ?_); (first | refine dp (po_ex2 rfl rfl rfl (head_Ex a[k]) (head_Ex b[k]) (hne_run false _ _ hq)) ?_ | refine dp (po_boolq rfl rfl rfl (by kernel_rfl) (by first | exact .inl rfl | exact .inr rfl)) ?_); refine dN ?_; refine oN ?_) | (refine rg 8 ?_; (first | refine sp (xinc rfl) ?_ | refine sp (po_arith rfl rfl rfl (ar_add (by first | rfl | (refine wrap_i64 ?_; omega)) rfl)) ?_); refine oMv ?_; refine oN ?_) | refine gc ?_ | refine ct ?_ | refine cf ?_ | refine swp_cond rfl (fun hc => ?_) (fun hc => ?_) | refine rq rfl (rt .nil) ?_)
      · have hq : (!heqB a[k] b[k]) = true := by
          have : heqB a[k] b[k] = false := by
            cases h : heqB a[k] b[k] with
            | false => rfl
            | true => exact absurd ((heqB_iff _ _).1 h) he
          rw [this]; rfl
        rw [decide_eq_false (ne_at hlt hltb he)]
        repeat' (first | refine then_go ?_ | refine swp_seq ?_ | (refine rg 4 ?_; (first | refine sp (po_ex2 rfl rfl rfl (head_Ex a[k]) (head_Ex b[k]) (hne_run true _ _ hq)) ?_ | refine oCm ?_); refine oN ?_) | (refine rg 5 ?_; refine oMv ?_; refine oAs ?_; refine oN ?_) | (refine rd 6 ?_; refine dMv ?_; refine dMv ?_; refine dp (pix rfl (tyS rfl)) ?_; (first | refine dp (po_load_bx_agg rfl rfl (tyT rfl) rfl (vc (vc .nil)) rfl) ?_ | refine dp (po_load_agg rfl rfl (tyT rfl) rfl rfl) ?_); refine dMv ?_; refine dMv ?_; refine dp (pix rfl (tyS rfl)) ?_; (first | refine dp (po_load_bx_agg rfl rfl (tyT rfl) rfl (vc (vc .nil)) rfl) ?_ | refine dp (po_load_agg rfl rfl (tyT rfl) rfl rfl) ?_); (first | refine dp (po_ex2 rfl rfl rfl (head_Ex a[k]) (head_Ex b[k]) (hne_run true _ _ hq)) ?_ | refine dp (po_boolq rfl rfl rfl (by kernel_rfl) (by first | exact .inl rfl | exact .inr rfl)) ?_); refine dN ?_; refine oN ?_) | (refine rg 7 ?_; refine oAs ?_; refine oN ?_) | refine gc ?_ | refine ct ?_ | refine cf ?_ | refine swp_cond rfl (fun hc => ?_) (fun hc => ?_) | refine rq rfl (rt .nil) ?_)
        rfl
    · obtain rfl : k = a.length := by omega
      rw [decide_eq_true (heads_take hl hI)]
      repeat' (first | refine then_go ?_ | refine swp_seq ?_ | (refine rg 4 ?_; refine oCm ?_; refine oN ?_) | (refine rg 9 ?_; refine oAs ?_; refine oN ?_) | refine gc ?_ | refine ct ?_ | refine cf ?_ | refine swp_cond rfl (fun hc => ?_) (fun hc => ?_) | refine rq rfl (rt .nil) ?_)
      rfl
  · have h0 : (!decide (((a.map headT).length : Int) = ((b.map headT).length : Int))) = true := by rw [hma, hmb, decide_eq_false (by omega)]; rfl
    rw [decide_eq_false (ne_len hl)]
    repeat' (first | refine then_go ?_ | refine swp_seq ?_ | (refine rg 0 ?_; refine oAs ?_; refine oN ?_) | (refine rg 1 ?_; refine oMv ?_; refine sp (pln rfl (tyS rfl)) ?_; refine oMv ?_; refine sp (pln rfl (tyS rfl)) ?_; refine oCm ?_; refine oN ?_) | (refine rg 2 ?_; refine oAs ?_; refine oN ?_) | refine gc ?_ | refine ct ?_ | refine cf ?_ | refine swp_cond rfl (fun hc => ?_) (fun hc => ?_) | refine rq rfl (rt .nil) ?_)
    rfl
def sameA (a b : PAns) : Bool := decide (a.code = b.code) && decide (a.heads = b.heads) && decide (bs a.body = bs b.body)
set_option maxRecDepth 100000 in
set_option maxHeartbeats 2000000 in
theorem sameA_ (a b : PAns) (ha : a.heads.length ≤ 1000) : PCalls Tryz.prog 26 [.agg (ansT a), .agg (ansT b)] (.v (.bool (sameA a b))) := by
  have c1 := equalH_ a.heads b.heads ha
  unfold sameA
  refine pcalls_of Tryz.func26 rfl rfl Tryz.ntmps26 rfl ?_
  by_cases h1 : a.code = b.code
  · rw [decide_eq_true h1]
    by_cases h2 : a.heads = b.heads
    · rw [decide_eq_true h2] at c1 ⊢
      repeat' (first | refine then_go ?_ | refine swp_seq ?_ | (refine rg 0 ?_; refine sbx ?_; refine sbx ?_; refine oAs ?_; refine oN ?_) | (refine rg 1 ?_; (first | refine oFb ?_ | refine oFd ?_); (first | refine oLb ?_ | refine oLd ?_); (first | refine oFb ?_ | refine oFd ?_); (first | refine oLb ?_ | refine oLd ?_); refine oCm ?_; refine oMv ?_; (first | refine oFb ?_ | refine oFd ?_ | refine oK ?_ | ((refine ssp (fun hc => ?_) (fun hc => ?_)) <;> first | refine oFb ?_ | refine oFd ?_ | refine oK ?_)) <;> (first | refine oLb ?_ | refine oLd ?_ | refine oK ?_) <;> (first | refine oFb ?_ | refine oFd ?_ | refine oK ?_) <;> (first | refine oLb ?_ | refine oLd ?_ | refine oK ?_) <;> (first | refine oC (c1) rfl (ac (ac .nil)) ?_ | refine oK ?_) <;> (first | refine oPt ?_ | refine oPf ?_) <;> (refine oMv ?_) <;> (first | refine oFb ?_ | refine oFd ?_ | refine oK ?_ | ((refine ssp (fun hc => ?_) (fun hc => ?_)) <;> first | refine oFb ?_ | refine oFd ?_ | refine oK ?_)) <;> (first | refine oLb ?_ | refine oLd ?_ | refine oK ?_) <;> (first | refine sp (po_bytes_str rfl rfl (by first | exact .t _ | exact .own rfl (by first | rfl | assumption | omega | (simp; done) | (simp; omega) | (simp at *; omega)) | exact .nil _ | exact .emp _) byt23 (tyR rfl)) ?_ | refine oK ?_) <;> (first | refine oFb ?_ | refine oFd ?_ | refine oK ?_) <;> (first | refine oLb ?_ | refine oLd ?_ | refine oK ?_) <;> (first | refine sp (po_bytes_str rfl rfl (by first | exact .t _ | exact .own rfl (by first | rfl | assumption | omega | (simp; done) | (simp; omega) | (simp at *; omega)) | exact .nil _ | exact .emp _) byt23 (tyR rfl)) ?_ | refine oK ?_) <;> (first | refine sp (po_str rfl rfl rfl rfl) ?_ | refine oK ?_) <;> (first | refine oPt ?_ | refine oPf ?_) <;> (refine oAs ?_) <;> (refine oN ?_)) | refine gc ?_ | refine ct ?_ | refine cf ?_ | refine swp_cond rfl (fun hc => ?_) (fun hc => ?_) | refine rq rfl (rt .nil) ?_)
      rfl
    · rw [decide_eq_false h2] at c1 ⊢
      repeat' (first | refine then_go ?_ | refine swp_seq ?_ | (refine rg 0 ?_; refine sbx ?_; refine sbx ?_; refine oAs ?_; refine oN ?_) | (refine rg 1 ?_; (first | refine oFb ?_ | refine oFd ?_); (first | refine oLb ?_ | refine oLd ?_); (first | refine oFb ?_ | refine oFd ?_); (first | refine oLb ?_ | refine oLd ?_); refine oCm ?_; refine oMv ?_; (first | refine oFb ?_ | refine oFd ?_ | refine oK ?_ | ((refine ssp (fun hc => ?_) (fun hc => ?_)) <;> first | refine oFb ?_ | refine oFd ?_ | refine oK ?_)) <;> (first | refine oLb ?_ | refine oLd ?_ | refine oK ?_) <;> (first | refine oFb ?_ | refine oFd ?_ | refine oK ?_) <;> (first | refine oLb ?_ | refine oLd ?_ | refine oK ?_) <;> (first | refine oC (c1) rfl (ac (ac .nil)) ?_ | refine oK ?_) <;> (first | refine oPt ?_ | refine oPf ?_) <;> (refine oMv ?_) <;> (first | refine oFb ?_ | refine oFd ?_ | refine oK ?_ | ((refine ssp (fun hc => ?_) (fun hc => ?_)) <;> first | refine oFb ?_ | refine oFd ?_ | refine oK ?_)) <;> (first | refine oLb ?_ | refine oLd ?_ | refine oK ?_) <;> (first | refine sp (po_bytes_str rfl rfl (by first | exact .t _ | exact .own rfl (by first | rfl | assumption | omega | (simp; done) | (simp; omega) | (simp at *; omega)) | exact .nil _ | exact .emp _) byt23 (tyR rfl)) ?_ | refine oK ?_) <;> (first | refine oFb ?_ | refine oFd ?_ | refine oK ?_) <;> (first | refine oLb ?_ | refine oLd ?_ | refine oK ?_) <;> (first | refine sp (po_bytes_str rfl rfl (by first | exact .t _ | exact .own rfl (by first | rfl | assumption | omega | (simp; done) | (simp; omega) | (simp at *; omega)) | exact .nil _ | exact .emp _) byt23 (tyR rfl)) ?_ | refine oK ?_) <;> (first | refine sp (po_str rfl rfl rfl rfl) ?_ | refine oK ?_) <;> (first | refine oPt ?_ | refine oPf ?_) <;> (refine oAs ?_) <;> (refine oN ?_)) | refine gc ?_ | refine ct ?_ | refine cf ?_ | refine swp_cond rfl (fun hc => ?_) (fun hc => ?_) | refine rq rfl (rt .nil) ?_)
      rfl
  · rw [decide_eq_false h1]
    repeat' (first | refine then_go ?_ | refine swp_seq ?_ | (refine rg 0 ?_; refine sbx ?_; refine sbx ?_; refine oAs ?_; refine oN ?_) | (refine rg 1 ?_; (first | refine oFb ?_ | refine oFd ?_); (first | refine oLb ?_ | refine oLd ?_); (first | refine oFb ?_ | refine oFd ?_); (first | refine oLb ?_ | refine oLd ?_); refine oCm ?_; refine oMv ?_; (first | refine oFb ?_ | refine oFd ?_ | refine oK ?_ | ((refine ssp (fun hc => ?_) (fun hc => ?_)) <;> first | refine oFb ?_ | refine oFd ?_ | refine oK ?_)) <;> (first | refine oLb ?_ | refine oLd ?_ | refine oK ?_) <;> (first | refine oFb ?_ | refine oFd ?_ | refine oK ?_) <;> (first | refine oLb ?_ | refine oLd ?_ | refine oK ?_) <;> (first | refine oC (c1) rfl (ac (ac .nil)) ?_ | refine oK ?_) <;> (first | refine oPt ?_ | refine oPf ?_) <;> (refine oMv ?_) <;> (first | refine oFb ?_ | refine oFd ?_ | refine oK ?_ | ((refine ssp (fun hc => ?_) (fun hc => ?_)) <;> first | refine oFb ?_ | refine oFd ?_ | refine oK ?_)) <;> (first | refine oLb ?_ | refine oLd ?_ | refine oK ?_) <;> (first | refine sp (po_bytes_str rfl rfl (by first | exact .t _ | exact .own rfl (by first | rfl | assumption | omega | (simp; done) | (simp; omega) | (simp at *; omega)) | exact .nil _ | exact .emp _) byt23 (tyR rfl)) ?_ | refine oK ?_) <;> (first | refine oFb ?_ | refine oFd ?_ | refine oK ?_) <;> (first | refine oLb ?_ | refine oLd ?_ | refine oK ?_) <;> (first | refine sp (po_bytes_str rfl rfl (by first | exact .t _ | exact .own rfl (by first | rfl | assumption | omega | (simp; done) | (simp; omega) | (simp at *; omega)) | exact .nil _ | exact .emp _) byt23 (tyR rfl)) ?_ | refine oK ?_) <;> (first | refine sp (po_str rfl rfl rfl rfl) ?_ | refine oK ?_) <;> (first | refine oPt ?_ | refine oPf ?_) <;> (refine oAs ?_) <;> (refine oN ?_)) | refine gc ?_ | refine ct ?_ | refine cf ?_ | refine swp_cond rfl (fun hc => ?_) (fun hc => ?_) | refine rq rfl (rt .nil) ?_)
    rfl
set_option maxRecDepth 100000 in
set_option maxHeartbeats 2000000 in
theorem refSameA_ (a b : PAns) (ha : a.heads.length ≤ 1000) : PCalls Tryz.prog 19 [.agg (ansT a), .agg (ansT b)] (.v (.bool (sameA a b))) := by
  have c1 := refSameG_ a.heads b.heads ha
  unfold sameA
  refine pcalls_of Tryz.func19 rfl rfl Tryz.ntmps19 rfl ?_
  by_cases h1 : a.code = b.code
  · rw [decide_eq_true h1]
    by_cases h2 : a.heads = b.heads
    · rw [decide_eq_true h2] at c1 ⊢
      repeat' (first | refine then_go ?_ | refine swp_seq ?_ | (refine rg 0 ?_; refine sbx ?_; refine sbx ?_; refine oAs ?_; refine oN ?_) | (refine rg 1 ?_; (first | refine oFb ?_ | refine oFd ?_); (first | refine oLb ?_ | refine oLd ?_); (first | refine oFb ?_ | refine oFd ?_); (first | refine oLb ?_ | refine oLd ?_); refine oCm ?_; refine oMv ?_; (first | refine oFb ?_ | refine oFd ?_ | refine oK ?_ | ((refine ssp (fun hc => ?_) (fun hc => ?_)) <;> first | refine oFb ?_ | refine oFd ?_ | refine oK ?_)) <;> (first | refine oLb ?_ | refine oLd ?_ | refine oK ?_) <;> (first | refine oFb ?_ | refine oFd ?_ | refine oK ?_) <;> (first | refine oLb ?_ | refine oLd ?_ | refine oK ?_) <;> (first | refine oC (c1) rfl (ac (ac .nil)) ?_ | refine oK ?_) <;> (first | refine oPt ?_ | refine oPf ?_) <;> (refine oMv ?_) <;> (first | refine oFb ?_ | refine oFd ?_ | refine oK ?_ | ((refine ssp (fun hc => ?_) (fun hc => ?_)) <;> first | refine oFb ?_ | refine oFd ?_ | refine oK ?_)) <;> (first | refine oLb ?_ | refine oLd ?_ | refine oK ?_) <;> (first | refine sp (po_bytes_str rfl rfl (by first | exact .t _ | exact .own rfl (by first | rfl | assumption | omega | (simp; done) | (simp; omega) | (simp at *; omega)) | exact .nil _ | exact .emp _) byt23 (tyR rfl)) ?_ | refine oK ?_) <;> (first | refine oFb ?_ | refine oFd ?_ | refine oK ?_) <;> (first | refine oLb ?_ | refine oLd ?_ | refine oK ?_) <;> (first | refine sp (po_bytes_str rfl rfl (by first | exact .t _ | exact .own rfl (by first | rfl | assumption | omega | (simp; done) | (simp; omega) | (simp at *; omega)) | exact .nil _ | exact .emp _) byt23 (tyR rfl)) ?_ | refine oK ?_) <;> (first | refine sp (po_str rfl rfl rfl rfl) ?_ | refine oK ?_) <;> (first | refine oPt ?_ | refine oPf ?_) <;> (refine oAs ?_) <;> (refine oN ?_)) | refine gc ?_ | refine ct ?_ | refine cf ?_ | refine swp_cond rfl (fun hc => ?_) (fun hc => ?_) | refine rq rfl (rt .nil) ?_)
      rfl
    · rw [decide_eq_false h2] at c1 ⊢
      repeat' (first | refine then_go ?_ | refine swp_seq ?_ | (refine rg 0 ?_; refine sbx ?_; refine sbx ?_; refine oAs ?_; refine oN ?_) | (refine rg 1 ?_; (first | refine oFb ?_ | refine oFd ?_); (first | refine oLb ?_ | refine oLd ?_); (first | refine oFb ?_ | refine oFd ?_); (first | refine oLb ?_ | refine oLd ?_); refine oCm ?_; refine oMv ?_; (first | refine oFb ?_ | refine oFd ?_ | refine oK ?_ | ((refine ssp (fun hc => ?_) (fun hc => ?_)) <;> first | refine oFb ?_ | refine oFd ?_ | refine oK ?_)) <;> (first | refine oLb ?_ | refine oLd ?_ | refine oK ?_) <;> (first | refine oFb ?_ | refine oFd ?_ | refine oK ?_) <;> (first | refine oLb ?_ | refine oLd ?_ | refine oK ?_) <;> (first | refine oC (c1) rfl (ac (ac .nil)) ?_ | refine oK ?_) <;> (first | refine oPt ?_ | refine oPf ?_) <;> (refine oMv ?_) <;> (first | refine oFb ?_ | refine oFd ?_ | refine oK ?_ | ((refine ssp (fun hc => ?_) (fun hc => ?_)) <;> first | refine oFb ?_ | refine oFd ?_ | refine oK ?_)) <;> (first | refine oLb ?_ | refine oLd ?_ | refine oK ?_) <;> (first | refine sp (po_bytes_str rfl rfl (by first | exact .t _ | exact .own rfl (by first | rfl | assumption | omega | (simp; done) | (simp; omega) | (simp at *; omega)) | exact .nil _ | exact .emp _) byt23 (tyR rfl)) ?_ | refine oK ?_) <;> (first | refine oFb ?_ | refine oFd ?_ | refine oK ?_) <;> (first | refine oLb ?_ | refine oLd ?_ | refine oK ?_) <;> (first | refine sp (po_bytes_str rfl rfl (by first | exact .t _ | exact .own rfl (by first | rfl | assumption | omega | (simp; done) | (simp; omega) | (simp at *; omega)) | exact .nil _ | exact .emp _) byt23 (tyR rfl)) ?_ | refine oK ?_) <;> (first | refine sp (po_str rfl rfl rfl rfl) ?_ | refine oK ?_) <;> (first | refine oPt ?_ | refine oPf ?_) <;> (refine oAs ?_) <;> (refine oN ?_)) | refine gc ?_ | refine ct ?_ | refine cf ?_ | refine swp_cond rfl (fun hc => ?_) (fun hc => ?_) | refine rq rfl (rt .nil) ?_)
      rfl
  · rw [decide_eq_false h1]
    repeat' (first | refine then_go ?_ | refine swp_seq ?_ | (refine rg 0 ?_; refine sbx ?_; refine sbx ?_; refine oAs ?_; refine oN ?_) | (refine rg 1 ?_; (first | refine oFb ?_ | refine oFd ?_); (first | refine oLb ?_ | refine oLd ?_); (first | refine oFb ?_ | refine oFd ?_); (first | refine oLb ?_ | refine oLd ?_); refine oCm ?_; refine oMv ?_; (first | refine oFb ?_ | refine oFd ?_ | refine oK ?_ | ((refine ssp (fun hc => ?_) (fun hc => ?_)) <;> first | refine oFb ?_ | refine oFd ?_ | refine oK ?_)) <;> (first | refine oLb ?_ | refine oLd ?_ | refine oK ?_) <;> (first | refine oFb ?_ | refine oFd ?_ | refine oK ?_) <;> (first | refine oLb ?_ | refine oLd ?_ | refine oK ?_) <;> (first | refine oC (c1) rfl (ac (ac .nil)) ?_ | refine oK ?_) <;> (first | refine oPt ?_ | refine oPf ?_) <;> (refine oMv ?_) <;> (first | refine oFb ?_ | refine oFd ?_ | refine oK ?_ | ((refine ssp (fun hc => ?_) (fun hc => ?_)) <;> first | refine oFb ?_ | refine oFd ?_ | refine oK ?_)) <;> (first | refine oLb ?_ | refine oLd ?_ | refine oK ?_) <;> (first | refine sp (po_bytes_str rfl rfl (by first | exact .t _ | exact .own rfl (by first | rfl | assumption | omega | (simp; done) | (simp; omega) | (simp at *; omega)) | exact .nil _ | exact .emp _) byt23 (tyR rfl)) ?_ | refine oK ?_) <;> (first | refine oFb ?_ | refine oFd ?_ | refine oK ?_) <;> (first | refine oLb ?_ | refine oLd ?_ | refine oK ?_) <;> (first | refine sp (po_bytes_str rfl rfl (by first | exact .t _ | exact .own rfl (by first | rfl | assumption | omega | (simp; done) | (simp; omega) | (simp at *; omega)) | exact .nil _ | exact .emp _) byt23 (tyR rfl)) ?_ | refine oK ?_) <;> (first | refine sp (po_str rfl rfl rfl rfl) ?_ | refine oK ?_) <;> (first | refine oPt ?_ | refine oPf ?_) <;> (refine oAs ?_) <;> (refine oN ?_)) | refine gc ?_ | refine ct ?_ | refine cf ?_ | refine swp_cond rfl (fun hc => ?_) (fun hc => ?_) | refine rq rfl (rt .nil) ?_)
    rfl
end Go.Proofs.YtpncekdhigappaaGreatDoor.An

/- Answers: a text's beginning; is a text plain; walks. -/
namespace Go.Proofs.YtpncekdhigappaaGreatDoor.An
set_option linter.unusedVariables false
set_option linter.unusedSimpArgs false
open Go.RowKit Mem Sim Opn Hd Str Rq
def hasP (s p : ByteArray) : Bool := decide (p.size ≤ s.size) && decide (s.extract 0 p.size = p)
def cutP (s p : ByteArray) : T := if hasP s p then .tup [.v (.string (s.extract p.size s.size)), .v (.bool true)] else .tup [.v (.string s), .v (.bool false)]
set_option maxRecDepth 100000 in
set_option maxHeartbeats 1000000 in
theorem hasPrefix_ (s p : ByteArray) (hs : s.size ≤ maxLen) : PCalls Tryz.prog 120 [.v (.string s), .v (.string p)] (.v (.bool (hasP s p))) := by
  unfold maxLen at hs
  unfold hasP
  refine pcalls_of Tryz.func120 rfl rfl Tryz.ntmps120 rfl ?_
  by_cases h : p.size ≤ s.size
  · rw [decide_eq_true h]
    repeat' (first | refine then_go ?_ | refine swp_seq ?_ | (refine rg 0 ?_; refine oAs ?_; refine oN ?_) | (refine rg 1 ?_; refine oMv ?_; refine sp (po_len_str rfl rfl (tyR rfl)) ?_; refine oMv ?_; refine sp (po_len_str rfl rfl (tyR rfl)) ?_; refine oCm ?_; refine oMv ?_; (first | refine oMv ?_ | refine oK ?_ | ((refine ssp (fun hc => ?_) (fun hc => ?_)) <;> first | refine oMv ?_ | refine oK ?_)) <;> (first | refine oMv ?_ | refine oK ?_) <;> (first | refine sp (po_len_str rfl rfl (tyR rfl)) ?_ | refine oK ?_) <;> (first | refine sp (po_slice_str rfl rfl (tyR rfl) (by first | rfl | exact ⟨_, rfl⟩) (by first | rfl | exact ⟨_, rfl⟩) (by omega) (by omega)) ?_ | refine oK ?_) <;> (first | refine oMv ?_ | refine oK ?_) <;> (first | refine sp (po_str rfl rfl rfl rfl) ?_ | refine oK ?_) <;> (first | refine oPt ?_ | refine oPf ?_) <;> (refine oAs ?_) <;> (refine oN ?_)) | refine gc ?_ | refine ct ?_ | refine cf ?_ | refine swp_cond rfl (fun hc => ?_) (fun hc => ?_) | refine rq rfl (rt .nil) ?_)
    rfl
  · rw [decide_eq_false h]
    repeat' (first | refine then_go ?_ | refine swp_seq ?_ | (refine rg 0 ?_; refine oAs ?_; refine oN ?_) | (refine rg 1 ?_; refine oMv ?_; refine sp (po_len_str rfl rfl (tyR rfl)) ?_; refine oMv ?_; refine sp (po_len_str rfl rfl (tyR rfl)) ?_; refine oCm ?_; refine oMv ?_; (first | refine oMv ?_ | refine oK ?_ | ((refine ssp (fun hc => ?_) (fun hc => ?_)) <;> first | refine oMv ?_ | refine oK ?_)) <;> (first | refine oMv ?_ | refine oK ?_) <;> (first | refine sp (po_len_str rfl rfl (tyR rfl)) ?_ | refine oK ?_) <;> (first | refine sp (po_slice_str rfl rfl (tyR rfl) (by first | rfl | exact ⟨_, rfl⟩) (by first | rfl | exact ⟨_, rfl⟩) (by omega) (by omega)) ?_ | refine oK ?_) <;> (first | refine oMv ?_ | refine oK ?_) <;> (first | refine sp (po_str rfl rfl rfl rfl) ?_ | refine oK ?_) <;> (first | refine oPt ?_ | refine oPf ?_) <;> (refine oAs ?_) <;> (refine oN ?_)) | refine gc ?_ | refine ct ?_ | refine cf ?_ | refine swp_cond rfl (fun hc => ?_) (fun hc => ?_) | refine rq rfl (rt .nil) ?_)
    rfl
set_option maxRecDepth 100000 in
set_option maxHeartbeats 1000000 in
theorem cutPrefix1_ (s p : ByteArray) (hs : s.size ≤ maxLen) : PCalls Tryz.prog 91 [.v (.string s), .v (.string p)] (cutP s p) := by
  have c1 := hasPrefix_ s p hs
  unfold maxLen at hs
  unfold cutP
  refine pcalls_of Tryz.func91 rfl rfl Tryz.ntmps91 rfl ?_
  cases h : hasP s p with
  | true =>
    have hle : p.size ≤ s.size := by unfold hasP at h; simp at h; exact h.1
    rw [h] at c1
    repeat' (first | refine then_go ?_ | refine swp_seq ?_ | (refine rg 0 ?_; refine oAs ?_; refine oAs ?_; refine oN ?_) | (refine rg 1 ?_; refine oMv ?_; refine oMv ?_; refine oC (c1) rfl (ac (ac .nil)) ?_; refine sp (po_not rfl rfl) ?_; refine oN ?_) | (refine rg 3 ?_; refine oMv ?_; refine oMv ?_; refine sp (po_len_str rfl rfl (tyR rfl)) ?_; refine sp (po_slice_str rfl rfl (tyR rfl) (by first | rfl | exact ⟨_, rfl⟩) (by first | rfl | exact ⟨_, rfl⟩) (by omega) (by omega)) ?_; refine oAs ?_; refine oAs ?_; refine oN ?_) | refine gc ?_ | refine ct ?_ | refine cf ?_ | refine swp_cond rfl (fun hc => ?_) (fun hc => ?_) | refine rq rfl (rt (rt .nil)) ?_)
    rfl
  | false =>
    rw [h] at c1
    repeat' (first | refine then_go ?_ | refine swp_seq ?_ | (refine rg 0 ?_; refine oAs ?_; refine oAs ?_; refine oN ?_) | (refine rg 1 ?_; refine oMv ?_; refine oMv ?_; refine oC (c1) rfl (ac (ac .nil)) ?_; refine sp (po_not rfl rfl) ?_; refine oN ?_) | (refine rg 2 ?_; refine oMv ?_; refine oAs ?_; refine oAs ?_; refine oN ?_) | refine gc ?_ | refine ct ?_ | refine cf ?_ | refine swp_cond rfl (fun hc => ?_) (fun hc => ?_) | refine rq rfl (rt (rt .nil)) ?_)
    rfl
set_option maxRecDepth 100000 in
set_option maxHeartbeats 1000000 in
theorem cutPrefix_ (s p : ByteArray) (hs : s.size ≤ maxLen) : PCalls Tryz.prog 53 [.v (.string s), .v (.string p)] (cutP s p) := by
  have c1 := cutPrefix1_ s p hs
  unfold cutP at c1 ⊢
  refine pcalls_of Tryz.func53 rfl rfl Tryz.ntmps53 rfl ?_
  cases h : hasP s p with
  | true =>
    rw [h, if_pos rfl] at c1
    repeat' (first | refine then_go ?_ | refine swp_seq ?_ | (refine rg 0 ?_; refine oAs ?_; refine oAs ?_; refine oN ?_) | (refine rg 1 ?_; refine oMv ?_; refine oMv ?_; refine oC (c1) rfl (ac (ac .nil)) ?_; refine oEx ?_; refine oEx ?_; refine oAs ?_; refine oAs ?_; refine oN ?_) | refine gc ?_ | refine ct ?_ | refine cf ?_ | refine swp_cond rfl (fun hc => ?_) (fun hc => ?_) | refine rq rfl (rt (rt .nil)) ?_)
    rfl
  | false =>
    rw [h, if_neg (by simp)] at c1
    repeat' (first | refine then_go ?_ | refine swp_seq ?_ | (refine rg 0 ?_; refine oAs ?_; refine oAs ?_; refine oN ?_) | (refine rg 1 ?_; refine oMv ?_; refine oMv ?_; refine oC (c1) rfl (ac (ac .nil)) ?_; refine oEx ?_; refine oEx ?_; refine oAs ?_; refine oAs ?_; refine oN ?_) | refine gc ?_ | refine ct ?_ | refine cf ?_ | refine swp_cond rfl (fun hc => ?_) (fun hc => ?_) | refine rq rfl (rt (rt .nil)) ?_)
    rfl
set_option maxRecDepth 100000 in
theorem of1_ (c : Nat) : PCalls Tryz.prog 59 [.v (.int .i32 (c : Int))] (.v (.bool (oddR c))) := by
  have h2 : decide (126 < (c : Int)) = decide (126 < c) := by by_cases h : 126 < c <;> simp [h] <;> omega
  unfold oddR
  refine pcalls_of Tryz.func59 rfl rfl Tryz.ntmps59 rfl ?_
  by_cases h : c < 32
  · rw [decide_eq_true h]
    repeat' (first | refine then_go ?_ | refine swp_seq ?_ | (refine rg 0 ?_; refine oAs ?_; refine oN ?_) | (refine rg 1 ?_; refine oMv ?_; refine oCm ?_; refine oMv ?_; (first | refine oMv ?_ | refine oK ?_ | ((refine ssp (fun hc => ?_) (fun hc => ?_)) <;> first | refine oMv ?_ | refine oK ?_)) <;> (first | refine oCm ?_ | refine oK ?_) <;> (first | refine oPt ?_ | refine oPf ?_) <;> (refine oAs ?_) <;> (refine oN ?_)) | refine gc ?_ | refine ct ?_ | refine cf ?_ | refine swp_cond rfl (fun hc => ?_) (fun hc => ?_) | refine rq rfl (rt .nil) ?_)
    rfl
  · rw [decide_eq_false h]
    repeat' (first | refine then_go ?_ | refine swp_seq ?_ | (refine rg 0 ?_; refine oAs ?_; refine oN ?_) | (refine rg 1 ?_; refine oMv ?_; refine oCm ?_; refine oMv ?_; (first | refine oMv ?_ | refine oK ?_ | ((refine ssp (fun hc => ?_) (fun hc => ?_)) <;> first | refine oMv ?_ | refine oK ?_)) <;> (first | refine oCm ?_ | refine oK ?_) <;> (first | refine oPt ?_ | refine oPf ?_) <;> (refine oAs ?_) <;> (refine oN ?_)) | refine gc ?_ | refine ct ?_ | refine cf ?_ | refine swp_cond rfl (fun hc => ?_) (fun hc => ?_) | refine rq rfl (rt .nil) ?_)
    rw [← h2]; rfl
set_option maxRecDepth 100000 in
theorem write1_ (c : Nat) : PCalls Tryz.prog 83 [.v (.int .i32 (c : Int))] (.v (.bool (oddR c))) := by
  have h2 : decide (126 < (c : Int)) = decide (126 < c) := by by_cases h : 126 < c <;> simp [h] <;> omega
  unfold oddR
  refine pcalls_of Tryz.func83 rfl rfl Tryz.ntmps83 rfl ?_
  by_cases h : c < 32
  · rw [decide_eq_true h]
    repeat' (first | refine then_go ?_ | refine swp_seq ?_ | (refine rg 0 ?_; refine oAs ?_; refine oN ?_) | (refine rg 1 ?_; refine oMv ?_; refine oCm ?_; refine oMv ?_; (first | refine oMv ?_ | refine oK ?_ | ((refine ssp (fun hc => ?_) (fun hc => ?_)) <;> first | refine oMv ?_ | refine oK ?_)) <;> (first | refine oCm ?_ | refine oK ?_) <;> (first | refine oPt ?_ | refine oPf ?_) <;> (refine oAs ?_) <;> (refine oN ?_)) | refine gc ?_ | refine ct ?_ | refine cf ?_ | refine swp_cond rfl (fun hc => ?_) (fun hc => ?_) | refine rq rfl (rt .nil) ?_)
    rfl
  · rw [decide_eq_false h]
    repeat' (first | refine then_go ?_ | refine swp_seq ?_ | (refine rg 0 ?_; refine oAs ?_; refine oN ?_) | (refine rg 1 ?_; refine oMv ?_; refine oCm ?_; refine oMv ?_; (first | refine oMv ?_ | refine oK ?_ | ((refine ssp (fun hc => ?_) (fun hc => ?_)) <;> first | refine oMv ?_ | refine oK ?_)) <;> (first | refine oCm ?_ | refine oK ?_) <;> (first | refine oPt ?_ | refine oPf ?_) <;> (refine oAs ?_) <;> (refine oN ?_)) | refine gc ?_ | refine ct ?_ | refine cf ?_ | refine swp_cond rfl (fun hc => ?_) (fun hc => ?_) | refine rq rfl (rt .nil) ?_)
    rw [← h2]; rfl
end Go.Proofs.YtpncekdhigappaaGreatDoor.An
