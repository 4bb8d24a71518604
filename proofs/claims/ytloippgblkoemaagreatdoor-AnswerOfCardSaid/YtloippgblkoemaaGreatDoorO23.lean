/- Merged by bundles.py: SimAn3, SimEq, SimAn4, SimAn5. -/
import Derived.Test.YtloippgblkoemaaGreatDoorO22
import Derived.Test.YtloippgblkoemaaGreatDoorO17
/- Answers: what a code is called; an answer as a message; a number of three digits; walks. -/
namespace Go.Proofs.YtloippgblkoemaaGreatDoor.An
set_option linter.unusedVariables false
set_option linter.unusedSimpArgs false
open Go.RowKit Mem Sim Opn Hd Str Rq
def reasonP (c : Int) : ByteArray :=
  if c = 200 then ⟨#[79, 75]⟩
  else if c = 204 then ⟨#[78, 111, 32, 67, 111, 110, 116, 101, 110, 116]⟩
  else if c = 400 then ⟨#[66, 97, 100, 32, 82, 101, 113, 117, 101, 115, 116]⟩
  else if c = 403 then ⟨#[70, 111, 114, 98, 105, 100, 100, 101, 110]⟩
  else if c = 404 then ⟨#[78, 111, 116, 32, 70, 111, 117, 110, 100]⟩
  else if c = 502 then ⟨#[66, 97, 100, 32, 71, 97, 116, 101, 119, 97, 121]⟩
  else if c = 503 then ⟨#[83, 101, 114, 118, 105, 99, 101, 32, 85, 110, 97, 118, 97, 105, 108, 97, 98, 108, 101]⟩
  else ⟨#[79, 116, 104, 101, 114]⟩
theorem reason_size (c : Int) : (reasonP c).size ≤ 19 := by
  unfold reasonP
  repeat' split
  all_goals decide
set_option maxRecDepth 100000 in
set_option maxHeartbeats 2000000 in
theorem reason_ (c : Int) : PCalls Tryz.prog 71 [.v (.int .i64 c)] (.v (.string (reasonP c))) := by
  unfold reasonP
  refine pcalls_of Tryz.func71 rfl rfl Tryz.ntmps71 rfl ?_
  by_cases h1 : c = 200
  · rw [if_pos h1]
    repeat' (first | (refine rg 0 ?_; refine oAs ?_; refine oN ?_) | (refine rg 1 ?_; refine oMv ?_; refine oN ?_) | (refine rg 2 ?_; refine oCm ?_; refine oAs ?_; refine oN ?_) | (refine rg 3 ?_; refine oAs ?_; refine oN ?_) | refine gc ?_ | refine ct ?_ | refine cf ?_ | refine swp_cond rfl (fun hc => ?_) (fun hc => ?_) | refine rq rfl (rt .nil) ?_)
    rfl
  · rw [if_neg h1]
    by_cases h2 : c = 204
    · rw [if_pos h2]
      repeat' (first | (refine rg 0 ?_; refine oAs ?_; refine oN ?_) | (refine rg 1 ?_; refine oMv ?_; refine oN ?_) | (refine rg 2 ?_; refine oCm ?_; refine oAs ?_; refine oN ?_) | (refine rg 4 ?_; refine oCm ?_; refine oAs ?_; refine oN ?_) | (refine rg 5 ?_; refine oAs ?_; refine oN ?_) | refine gc ?_ | refine ct ?_ | refine cf ?_ | refine swp_cond rfl (fun hc => ?_) (fun hc => ?_) | refine rq rfl (rt .nil) ?_)
      rfl
    · rw [if_neg h2]
      by_cases h3 : c = 400
      · rw [if_pos h3]
        repeat' (first | (refine rg 0 ?_; refine oAs ?_; refine oN ?_) | (refine rg 1 ?_; refine oMv ?_; refine oN ?_) | (refine rg 2 ?_; refine oCm ?_; refine oAs ?_; refine oN ?_) | (refine rg 4 ?_; refine oCm ?_; refine oAs ?_; refine oN ?_) | (refine rg 6 ?_; refine oCm ?_; refine oAs ?_; refine oN ?_) | (refine rg 7 ?_; refine oAs ?_; refine oN ?_) | refine gc ?_ | refine ct ?_ | refine cf ?_ | refine swp_cond rfl (fun hc => ?_) (fun hc => ?_) | refine rq rfl (rt .nil) ?_)
        rfl
      · rw [if_neg h3]
        by_cases h4 : c = 403
        · rw [if_pos h4]
          repeat' (first | (refine rg 0 ?_; refine oAs ?_; refine oN ?_) | (refine rg 1 ?_; refine oMv ?_; refine oN ?_) | (refine rg 2 ?_; refine oCm ?_; refine oAs ?_; refine oN ?_) | (refine rg 4 ?_; refine oCm ?_; refine oAs ?_; refine oN ?_) | (refine rg 6 ?_; refine oCm ?_; refine oAs ?_; refine oN ?_) | (refine rg 8 ?_; refine oCm ?_; refine oAs ?_; refine oN ?_) | (refine rg 9 ?_; refine oAs ?_; refine oN ?_) | refine gc ?_ | refine ct ?_ | refine cf ?_ | refine swp_cond rfl (fun hc => ?_) (fun hc => ?_) | refine rq rfl (rt .nil) ?_)
          rfl
        · rw [if_neg h4]
          by_cases h5 : c = 404
          · rw [if_pos h5]
            repeat' (first | (refine rg 0 ?_; refine oAs ?_; refine oN ?_) | (refine rg 1 ?_; refine oMv ?_; refine oN ?_) | (refine rg 2 ?_; refine oCm ?_; refine oAs ?_; refine oN ?_) | (refine rg 4 ?_; refine oCm ?_; refine oAs ?_; refine oN ?_) | (refine rg 6 ?_; refine oCm ?_; refine oAs ?_; refine oN ?_) | (refine rg 8 ?_; refine oCm ?_; refine oAs ?_; refine oN ?_) | (refine rg 10 ?_; refine oCm ?_; refine oAs ?_; refine oN ?_) | (refine rg 11 ?_; refine oAs ?_; refine oN ?_) | refine gc ?_ | refine ct ?_ | refine cf ?_ | refine swp_cond rfl (fun hc => ?_) (fun hc => ?_) | refine rq rfl (rt .nil) ?_)
            rfl
          · rw [if_neg h5]
            by_cases h6 : c = 502
            · rw [if_pos h6]
              repeat' (first | (refine rg 0 ?_; refine oAs ?_; refine oN ?_) | (refine rg 1 ?_; refine oMv ?_; refine oN ?_) | (refine rg 2 ?_; refine oCm ?_; refine oAs ?_; refine oN ?_) | (refine rg 4 ?_; refine oCm ?_; refine oAs ?_; refine oN ?_) | (refine rg 6 ?_; refine oCm ?_; refine oAs ?_; refine oN ?_) | (refine rg 8 ?_; refine oCm ?_; refine oAs ?_; refine oN ?_) | (refine rg 10 ?_; refine oCm ?_; refine oAs ?_; refine oN ?_) | (refine rg 12 ?_; refine oCm ?_; refine oAs ?_; refine oN ?_) | (refine rg 13 ?_; refine oAs ?_; refine oN ?_) | refine gc ?_ | refine ct ?_ | refine cf ?_ | refine swp_cond rfl (fun hc => ?_) (fun hc => ?_) | refine rq rfl (rt .nil) ?_)
              rfl
            · rw [if_neg h6]
              by_cases h7 : c = 503
              · rw [if_pos h7]
                repeat' (first | (refine rg 0 ?_; refine oAs ?_; refine oN ?_) | (refine rg 1 ?_; refine oMv ?_; refine oN ?_) | (refine rg 2 ?_; refine oCm ?_; refine oAs ?_; refine oN ?_) | (refine rg 4 ?_; refine oCm ?_; refine oAs ?_; refine oN ?_) | (refine rg 6 ?_; refine oCm ?_; refine oAs ?_; refine oN ?_) | (refine rg 8 ?_; refine oCm ?_; refine oAs ?_; refine oN ?_) | (refine rg 10 ?_; refine oCm ?_; refine oAs ?_; refine oN ?_) | (refine rg 12 ?_; refine oCm ?_; refine oAs ?_; refine oN ?_) | (refine rg 14 ?_; refine oCm ?_; refine oAs ?_; refine oN ?_) | (refine rg 15 ?_; refine oAs ?_; refine oN ?_) | refine gc ?_ | refine ct ?_ | refine cf ?_ | refine swp_cond rfl (fun hc => ?_) (fun hc => ?_) | refine rq rfl (rt .nil) ?_)
                rfl
              · rw [if_neg h7]
                repeat' (first | (refine rg 0 ?_; refine oAs ?_; refine oN ?_) | (refine rg 1 ?_; refine oMv ?_; refine oN ?_) | (refine rg 2 ?_; refine oCm ?_; refine oAs ?_; refine oN ?_) | (refine rg 4 ?_; refine oCm ?_; refine oAs ?_; refine oN ?_) | (refine rg 6 ?_; refine oCm ?_; refine oAs ?_; refine oN ?_) | (refine rg 8 ?_; refine oCm ?_; refine oAs ?_; refine oN ?_) | (refine rg 10 ?_; refine oCm ?_; refine oAs ?_; refine oN ?_) | (refine rg 12 ?_; refine oCm ?_; refine oAs ?_; refine oN ?_) | (refine rg 14 ?_; refine oCm ?_; refine oAs ?_; refine oN ?_) | (refine rg 16 ?_; refine oAs ?_; refine oN ?_) | refine gc ?_ | refine ct ?_ | refine cf ?_ | refine swp_cond rfl (fun hc => ?_) (fun hc => ?_) | refine rq rfl (rt .nil) ?_)
                rfl
def befS : ByteArray := ⟨#[72, 84, 84, 80, 47, 49, 46, 49, 32]⟩
def startS (n : Nat) : ByteArray := befS ++ digitsP n ++ ⟨#[32]⟩ ++ reasonP n
theorem digitsP_size (n : Nat) : (digitsP n).size ≤ 4 := by
  unfold digitsP
  have := dm_3 n
  rw [bs_size, sK_len]; omega
set_option maxRecDepth 100000 in
set_option maxHeartbeats 2000000 in
theorem raw_ (n : Nat) (hn : n ≤ 9999) (l : List Pl.Head) (b : List UInt8) : PCalls Tryz.prog 46 [.agg (ansT ⟨n, l, b⟩)] (.agg (rawT ⟨startS n, l, b⟩)) := by
  have c1 := digits_ n hn
  have c2 := reason_ n
  have h1 := digitsP_size n
  have h2 := reason_size n
  have h3 : (⟨#[72, 84, 84, 80, 47, 49, 46, 49, 32]⟩ : ByteArray).size = 9 := rfl
  have h4 : (⟨#[72, 84, 84, 80, 47, 49, 46, 49, 32]⟩ ++ digitsP n : ByteArray).size = 9 + (digitsP n).size := by rw [ByteArray.size_append, h3]
  have h5 : (⟨#[32]⟩ : ByteArray).size = 1 := rfl
  have h6 : (⟨#[72, 84, 84, 80, 47, 49, 46, 49, 32]⟩ ++ digitsP n ++ ⟨#[32]⟩ : ByteArray).size = 10 + (digitsP n).size := by rw [ByteArray.size_append, h4, h5]; omega
  unfold ansT
  refine pcalls_of Tryz.func46 rfl rfl Tryz.ntmps46 rfl ?_
  repeat' (first | (refine rg 0 ?_; refine sbx ?_; refine sal str25 ?_; refine oN ?_) | (refine swp_draw (id := 1) 14 mixed (by kernel_rfl) (by kernel_rfl) ?_; refine dFb ?_; refine dLb ?_; refine dC (c1) rfl (ac .nil) ?_; refine dp (po_cat rfl rfl rfl (by omega)) ?_; refine dp (po_cat rfl rfl rfl (by omega)) ?_; refine dFb ?_; refine dLb ?_; (first | refine dC (c1) rfl (ac .nil) ?_ | refine dC (c2) rfl (ac .nil) ?_); refine dp (po_cat rfl rfl rfl (by omega)) ?_; refine dFb ?_; refine dLb ?_; refine dFb ?_; refine dLb ?_; refine dp (po_buildS str25 rfl (pc (pc (pc .nil))) rfl) ?_; refine dN ?_; refine oS ?_; refine oN ?_) | refine gc ?_ | refine ct ?_ | refine cf ?_ | refine swp_cond rfl (fun hc => ?_) (fun hc => ?_) | refine rq rfl (.cell rfl rfl (tyT rfl) (vc (vc (vc .nil))) rfl .nil) ?_)
  rfl
end Go.Proofs.YtloippgblkoemaaGreatDoor.An

/- Headers, answers, messages: whether two are the same; walks. -/
namespace Go.Proofs.YtloippgblkoemaaGreatDoor.An
set_option linter.unusedVariables false
set_option linter.unusedSimpArgs false
open Go.RowKit Mem Sim Opn Hd Str Rq
instance decHead : DecidableEq Pl.Head := fun a b => if h : heqB a b = true then .isTrue ((heqB_iff a b).1 h) else .isFalse fun e => h ((heqB_iff a b).2 e)
theorem heads_take {a b : List Pl.Head} (hl : a.length = b.length) (h : a.take a.length = b.take a.length) : a = b := by
  rw [List.take_length, hl, List.take_length] at h; exact h
theorem ne_at {a b : List Pl.Head} {k : Nat} (h1 : k < a.length) (h2 : k < b.length) (h : ¬ a[k] = b[k]) : ¬ a = b := fun e => h (by subst e; rfl)
theorem ne_len {a b : List Pl.Head} (h : ¬ a.length = b.length) : ¬ a = b := fun e => h (by rw [e])
set_option maxRecDepth 100000 in
set_option maxHeartbeats 2000000 in
theorem refSameG_ (a b : List Pl.Head) (ha : a.length ≤ 1000) : PCalls Tryz.prog 33 [headsT a, headsT b] (.v (.bool (decide (a = b)))) := by
  have hma : (a.map headT).length = a.length := List.length_map _
  have hmb : (b.map headT).length = b.length := List.length_map _
  refine pcalls_of Tryz.func33 rfl rfl Tryz.ntmps33 rfl ?_
  by_cases hl : a.length = b.length
  · have h0 : (!decide (((a.map headT).length : Int) = ((b.map headT).length : Int))) = false := by rw [hma, hmb, hl]; simp
    repeat' (first | (refine rg 0 ?_; refine oAs ?_; refine oN ?_) | (refine rg 1 ?_; refine oMv ?_; refine sp (pln rfl (tyS rfl)) ?_; refine oMv ?_; refine sp (pln rfl (tyS rfl)) ?_; refine oCm ?_; refine oN ?_) | (refine rg 3 ?_; refine oAs ?_; refine oN ?_) | refine gc ?_ | refine ct ?_ | refine cf ?_ | refine swp_cond rfl (fun hc => ?_) (fun hc => ?_) | refine rq rfl (rt .nil) ?_)
    refine swp_for (fun k => ⟨[(0, .t (headsT a)), (1, .t (headsT b)), (5, .t (.v (.int .i64 (k : Int))))], [], []⟩) (fun k => a.take k = b.take k) a.length (weak_sub (.cons rfl rfl rfl (.cons rfl rfl rfl (.cons rfl rfl rfl .nil))) .nil .nil) rfl ?_
    intro k hk hI
    by_cases hlt : k < a.length
    · have hltb : k < b.length := by omega
      by_cases he : a[k] = b[k]
      · have hq : (!heqB a[k] b[k]) = false := by rw [(heqB_iff _ _).2 he]; rfl
        repeat' (first | refine for_next hlt (weak_sub (.cons rfl rfl rfl (.cons rfl rfl rfl (.cons rfl rfl rfl .nil))) .nil .nil) (take_eq_allH hlt hltb hI he) | (refine rg 4 ?_; refine oMv ?_; refine oMv ?_; refine sp (pln rfl (tyS rfl)) ?_; (first | refine sp (po_ex2 rfl rfl rfl (head_Ex a[k]) (head_Ex b[k]) (hne_run false _ _ hq)) ?_ | refine oCm ?_); refine oN ?_) | (refine rd 6 ?_; refine dMv ?_; refine dMv ?_; refine dp (pix rfl (tyS rfl)) ?_; (first | refine dp (po_load_bx_agg rfl rfl (tyT rfl) rfl (vc (vc .nil)) rfl) ?_ | refine dp (po_load_agg rfl rfl (tyT rfl) rfl rfl) ?_); refine dMv ?_; refine dMv ?_; refine dp (pix rfl (tyS rfl)) ?_; (first | refine dp (po_load_bx_agg rfl rfl (tyT rfl) rfl (vc (vc .nil)) rfl) ?_ | refine dp (po_load_agg rfl rfl (tyT rfl) rfl rfl) ?_); refine dp (po_ex2 rfl rfl rfl (head_Ex a[k]) (head_Ex b[k]) (hne_run false _ _ hq)) ?_; refine dN ?_; refine oN ?_) | (refine rg 5 ?_; refine oMv ?_; refine sp (xinc rfl) ?_; refine oAs ?_; refine oN ?_) | refine gc ?_ | refine ct ?_ | refine cf ?_)
      · have hq : (!heqB a[k] b[k]) = true := by
          have : heqB a[k] b[k] = false := by
            cases h : heqB a[k] b[k] with
            | false => rfl
            | true => exact absurd ((heqB_iff _ _).1 h) he
          rw [this]; rfl
        rw [decide_eq_false (ne_at hlt hltb he)]
        repeat' (first | (refine rg 4 ?_; refine oMv ?_; refine oMv ?_; refine sp (pln rfl (tyS rfl)) ?_; (first | refine sp (po_ex2 rfl rfl rfl (head_Ex a[k]) (head_Ex b[k]) (hne_run true _ _ hq)) ?_ | refine oCm ?_); refine oN ?_) | (refine rd 6 ?_; refine dMv ?_; refine dMv ?_; refine dp (pix rfl (tyS rfl)) ?_; (first | refine dp (po_load_bx_agg rfl rfl (tyT rfl) rfl (vc (vc .nil)) rfl) ?_ | refine dp (po_load_agg rfl rfl (tyT rfl) rfl rfl) ?_); refine dMv ?_; refine dMv ?_; refine dp (pix rfl (tyS rfl)) ?_; (first | refine dp (po_load_bx_agg rfl rfl (tyT rfl) rfl (vc (vc .nil)) rfl) ?_ | refine dp (po_load_agg rfl rfl (tyT rfl) rfl rfl) ?_); refine dp (po_ex2 rfl rfl rfl (head_Ex a[k]) (head_Ex b[k]) (hne_run true _ _ hq)) ?_; refine dN ?_; refine oN ?_) | (refine rg 7 ?_; refine oAs ?_; refine oN ?_) | refine gc ?_ | refine ct ?_ | refine cf ?_ | refine swp_cond rfl (fun hc => ?_) (fun hc => ?_) | refine rq rfl (rt .nil) ?_)
        rfl
    · obtain rfl : k = a.length := by omega
      rw [decide_eq_true (heads_take hl hI)]
      repeat' (first | (refine rg 4 ?_; refine oMv ?_; refine oMv ?_; refine sp (pln rfl (tyS rfl)) ?_; refine oCm ?_; refine oN ?_) | (refine rg 8 ?_; refine oAs ?_; refine oN ?_) | refine gc ?_ | refine ct ?_ | refine cf ?_ | refine swp_cond rfl (fun hc => ?_) (fun hc => ?_) | refine rq rfl (rt .nil) ?_)
      rfl
  · have h0 : (!decide (((a.map headT).length : Int) = ((b.map headT).length : Int))) = true := by rw [hma, hmb, decide_eq_false (by omega)]; rfl
    rw [decide_eq_false (ne_len hl)]
    repeat' (first | (refine rg 0 ?_; refine oAs ?_; refine oN ?_) | (refine rg 1 ?_; refine oMv ?_; refine sp (pln rfl (tyS rfl)) ?_; refine oMv ?_; refine sp (pln rfl (tyS rfl)) ?_; refine oCm ?_; refine oN ?_) | (refine rg 2 ?_; refine oAs ?_; refine oN ?_) | refine gc ?_ | refine ct ?_ | refine cf ?_ | refine swp_cond rfl (fun hc => ?_) (fun hc => ?_) | refine rq rfl (rt .nil) ?_)
    rfl
def sameA (a b : PAns) : Bool := decide (a.code = b.code) && decide (a.heads = b.heads) && decide (bs a.body = bs b.body)
theorem sameA_iff (a b : PAns) : sameA a b = true ↔ a = b := by
  cases a; cases b
  unfold sameA
  simp only [Bool.and_eq_true, decide_eq_true_eq, PAns.mk.injEq]
  exact ⟨fun h => ⟨h.1.1, h.1.2, by have := congrArg ByteArray.toList h.2; rwa [bs_toList, bs_toList] at this⟩, fun h => ⟨⟨h.1, h.2.1⟩, by rw [h.2.2]⟩⟩
set_option maxRecDepth 100000 in
set_option maxHeartbeats 2000000 in
theorem refSameA_ (a b : PAns) (ha : a.heads.length ≤ 1000) : PCalls Tryz.prog 10 [.agg (ansT a), .agg (ansT b)] (.v (.bool (sameA a b))) := by
  have c1 := refSameG_ a.heads b.heads ha
  unfold sameA
  refine pcalls_of Tryz.func10 rfl rfl Tryz.ntmps10 rfl ?_
  by_cases h1 : a.code = b.code
  · rw [decide_eq_true h1]
    by_cases h2 : a.heads = b.heads
    · rw [decide_eq_true h2] at c1 ⊢
      repeat' (first | (refine rg 0 ?_; refine sbx ?_; refine sbx ?_; refine oAs ?_; refine oN ?_) | (refine rg 1 ?_; refine oFb ?_; refine oLb ?_; refine oFb ?_; refine oLb ?_; refine oCm ?_; refine oMv ?_; refine oFb ?_ <;> refine oLb ?_ <;> refine oFb ?_ <;> refine oLb ?_ <;> refine oC (c1) rfl (ac (ac .nil)) ?_ <;> refine oPt ?_ <;> refine oMv ?_ <;> refine oFb ?_ <;> refine oLb ?_ <;> refine sp (po_bytes_str rfl rfl (by exact .t _) byt23 (tyR rfl)) ?_ <;> refine oFb ?_ <;> refine oLb ?_ <;> refine sp (po_bytes_str rfl rfl (by exact .t _) byt23 (tyR rfl)) ?_ <;> refine sp (po_str rfl rfl rfl rfl) ?_ <;> refine oPt ?_ <;> refine oAs ?_ <;> refine oN ?_) | refine gc ?_ | refine ct ?_ | refine cf ?_ | refine swp_cond rfl (fun hc => ?_) (fun hc => ?_) | refine rq rfl (rt .nil) ?_)
      rfl
    · rw [decide_eq_false h2] at c1 ⊢
      repeat' (first | (refine rg 0 ?_; refine sbx ?_; refine sbx ?_; refine oAs ?_; refine oN ?_) | (refine rg 1 ?_; refine oFb ?_; refine oLb ?_; refine oFb ?_; refine oLb ?_; refine oCm ?_; refine oMv ?_; refine oFb ?_ <;> refine oLb ?_ <;> refine oFb ?_ <;> refine oLb ?_ <;> refine oC (c1) rfl (ac (ac .nil)) ?_ <;> refine oPt ?_ <;> refine oMv ?_ <;> (first | refine oFb ?_ | refine oFd ?_ | refine oK ?_) <;> (first | refine oLb ?_ | refine oLd ?_ | refine oK ?_) <;> (first | refine sp (po_bytes_str rfl rfl (by first | exact .t _ | exact .own rfl (by rfl) | exact .nil _ | exact .emp _) byt23 (tyR rfl)) ?_ | refine oK ?_) <;> (first | refine oFb ?_ | refine oFd ?_ | refine oK ?_) <;> (first | refine oLb ?_ | refine oLd ?_ | refine oK ?_) <;> (first | refine sp (po_bytes_str rfl rfl (by first | exact .t _ | exact .own rfl (by rfl) | exact .nil _ | exact .emp _) byt23 (tyR rfl)) ?_ | refine oK ?_) <;> (first | refine sp (po_str rfl rfl rfl rfl) ?_ | refine oK ?_) <;> (first | refine oPt ?_ | refine oPf ?_) <;> refine oAs ?_ <;> refine oN ?_) | refine gc ?_ | refine ct ?_ | refine cf ?_ | refine swp_cond rfl (fun hc => ?_) (fun hc => ?_) | refine rq rfl (rt .nil) ?_)
      rfl
  · rw [decide_eq_false h1]
    repeat' (first | (refine rg 0 ?_; refine sbx ?_; refine sbx ?_; refine oAs ?_; refine oN ?_) | (refine rg 1 ?_; refine oFb ?_; refine oLb ?_; refine oFb ?_; refine oLb ?_; refine oCm ?_; refine oMv ?_; (first | refine oFb ?_ | refine oFd ?_ | refine oK ?_) <;> (first | refine oLb ?_ | refine oLd ?_ | refine oK ?_) <;> (first | refine oFb ?_ | refine oFd ?_ | refine oK ?_) <;> (first | refine oLb ?_ | refine oLd ?_ | refine oK ?_) <;> (first | refine oC (c1) rfl (ac (ac .nil)) ?_ | refine oK ?_) <;> (first | refine oPt ?_ | refine oPf ?_) <;> refine oMv ?_ <;> (first | refine oFb ?_ | refine oFd ?_ | refine oK ?_) <;> (first | refine oLb ?_ | refine oLd ?_ | refine oK ?_) <;> (first | refine sp (po_bytes_str rfl rfl (by first | exact .t _ | exact .own rfl (by rfl) | exact .nil _ | exact .emp _) byt23 (tyR rfl)) ?_ | refine oK ?_) <;> (first | refine oFb ?_ | refine oFd ?_ | refine oK ?_) <;> (first | refine oLb ?_ | refine oLd ?_ | refine oK ?_) <;> (first | refine sp (po_bytes_str rfl rfl (by first | exact .t _ | exact .own rfl (by rfl) | exact .nil _ | exact .emp _) byt23 (tyR rfl)) ?_ | refine oK ?_) <;> (first | refine sp (po_str rfl rfl rfl rfl) ?_ | refine oK ?_) <;> (first | refine oPt ?_ | refine oPf ?_) <;> refine oAs ?_ <;> refine oN ?_) | refine gc ?_ | refine ct ?_ | refine cf ?_ | refine swp_cond rfl (fun hc => ?_) (fun hc => ?_) | refine rq rfl (rt .nil) ?_)
    rfl
end Go.Proofs.YtloippgblkoemaaGreatDoor.An

/- Answers: a text's beginning; is a text plain; walks. -/
namespace Go.Proofs.YtloippgblkoemaaGreatDoor.An
set_option linter.unusedVariables false
set_option linter.unusedSimpArgs false
open Go.RowKit Mem Sim Opn Hd Str Rq
def hasP (s p : ByteArray) : Bool := decide (p.size ≤ s.size) && decide (s.extract 0 p.size = p)
def cutP (s p : ByteArray) : T := if hasP s p then .tup [.v (.string (s.extract p.size s.size)), .v (.bool true)] else .tup [.v (.string s), .v (.bool false)]
set_option maxRecDepth 100000 in
set_option maxHeartbeats 1000000 in
theorem hasPrefix_ (s p : ByteArray) (hs : s.size ≤ maxLen) : PCalls Tryz.prog 72 [.v (.string s), .v (.string p)] (.v (.bool (hasP s p))) := by
  unfold maxLen at hs
  unfold hasP
  refine pcalls_of Tryz.func72 rfl rfl Tryz.ntmps72 rfl ?_
  by_cases h : p.size ≤ s.size
  · rw [decide_eq_true h]
    repeat' (first | (refine rg 0 ?_; refine oAs ?_; refine oN ?_) | (refine rg 1 ?_; refine oMv ?_; refine sp (po_len_str rfl rfl (tyR rfl)) ?_; refine oMv ?_; refine sp (po_len_str rfl rfl (tyR rfl)) ?_; refine oCm ?_; refine oMv ?_; refine oMv ?_ <;> refine oMv ?_ <;> refine sp (po_len_str rfl rfl (tyR rfl)) ?_ <;> refine sp (po_slice_str rfl rfl (tyR rfl) (by rfl) (by first | rfl | exact ⟨_, rfl⟩) (by omega) (by omega)) ?_ <;> refine oMv ?_ <;> refine sp (po_str rfl rfl rfl rfl) ?_ <;> refine oPt ?_ <;> refine oAs ?_ <;> refine oN ?_) | refine gc ?_ | refine ct ?_ | refine cf ?_ | refine swp_cond rfl (fun hc => ?_) (fun hc => ?_) | refine rq rfl (rt .nil) ?_)
    rfl
  · rw [decide_eq_false h]
    repeat' (first | (refine rg 0 ?_; refine oAs ?_; refine oN ?_) | (refine rg 1 ?_; refine oMv ?_; refine sp (po_len_str rfl rfl (tyR rfl)) ?_; refine oMv ?_; refine sp (po_len_str rfl rfl (tyR rfl)) ?_; refine oCm ?_; refine oMv ?_; (first | refine oMv ?_ | refine oK ?_) <;> (first | refine oMv ?_ | refine oK ?_) <;> (first | refine sp (po_len_str rfl rfl (tyR rfl)) ?_ | refine oK ?_) <;> (first | refine sp (po_slice_str rfl rfl (tyR rfl) (by rfl) (by first | rfl | exact ⟨_, rfl⟩) (by omega) (by omega)) ?_ | refine oK ?_) <;> (first | refine oMv ?_ | refine oK ?_) <;> (first | refine sp (po_str rfl rfl rfl rfl) ?_ | refine oK ?_) <;> (first | refine oPt ?_ | refine oPf ?_) <;> refine oAs ?_ <;> refine oN ?_) | refine gc ?_ | refine ct ?_ | refine cf ?_ | refine swp_cond rfl (fun hc => ?_) (fun hc => ?_) | refine rq rfl (rt .nil) ?_)
    rfl
set_option maxRecDepth 100000 in
set_option maxHeartbeats 1000000 in
theorem cutPrefix1_ (s p : ByteArray) (hs : s.size ≤ maxLen) : PCalls Tryz.prog 47 [.v (.string s), .v (.string p)] (cutP s p) := by
  have c1 := hasPrefix_ s p hs
  unfold maxLen at hs
  unfold cutP
  refine pcalls_of Tryz.func47 rfl rfl Tryz.ntmps47 rfl ?_
  cases h : hasP s p with
  | true =>
    have hle : p.size ≤ s.size := by unfold hasP at h; simp at h; exact h.1
    rw [h] at c1
    repeat' (first | (refine rg 0 ?_; refine oAs ?_; refine oAs ?_; refine oN ?_) | (refine rg 1 ?_; refine oMv ?_; refine oMv ?_; refine oC (c1) rfl (ac (ac .nil)) ?_; refine sp (po_not rfl rfl) ?_; refine oN ?_) | (refine rg 3 ?_; refine oMv ?_; refine oMv ?_; refine sp (po_len_str rfl rfl (tyR rfl)) ?_; refine sp (po_slice_str rfl rfl (tyR rfl) (by first | rfl | exact ⟨_, rfl⟩) (by rfl) (by omega) (by omega)) ?_; refine oAs ?_; refine oAs ?_; refine oN ?_) | refine gc ?_ | refine ct ?_ | refine cf ?_ | refine swp_cond rfl (fun hc => ?_) (fun hc => ?_) | refine rq rfl (rt (rt .nil)) ?_)
    rfl
  | false =>
    rw [h] at c1
    repeat' (first | (refine rg 0 ?_; refine oAs ?_; refine oAs ?_; refine oN ?_) | (refine rg 1 ?_; refine oMv ?_; refine oMv ?_; refine oC (c1) rfl (ac (ac .nil)) ?_; refine sp (po_not rfl rfl) ?_; refine oN ?_) | (refine rg 2 ?_; refine oMv ?_; refine oAs ?_; refine oAs ?_; refine oN ?_) | refine gc ?_ | refine ct ?_ | refine cf ?_ | refine swp_cond rfl (fun hc => ?_) (fun hc => ?_) | refine rq rfl (rt (rt .nil)) ?_)
    rfl
set_option maxRecDepth 100000 in
set_option maxHeartbeats 1000000 in
theorem cutPrefix_ (s p : ByteArray) (hs : s.size ≤ maxLen) : PCalls Tryz.prog 24 [.v (.string s), .v (.string p)] (cutP s p) := by
  have c1 := cutPrefix1_ s p hs
  unfold cutP at c1 ⊢
  refine pcalls_of Tryz.func24 rfl rfl Tryz.ntmps24 rfl ?_
  cases h : hasP s p with
  | true =>
    rw [h, if_pos rfl] at c1
    repeat' (first | (refine rg 0 ?_; refine oAs ?_; refine oAs ?_; refine oN ?_) | (refine rg 1 ?_; refine oMv ?_; refine oMv ?_; refine oC (c1) rfl (ac (ac .nil)) ?_; refine oEx ?_; refine oEx ?_; refine oAs ?_; refine oAs ?_; refine oN ?_) | refine gc ?_ | refine ct ?_ | refine cf ?_ | refine swp_cond rfl (fun hc => ?_) (fun hc => ?_) | refine rq rfl (rt (rt .nil)) ?_)
    rfl
  | false =>
    rw [h, if_neg (by simp)] at c1
    repeat' (first | (refine rg 0 ?_; refine oAs ?_; refine oAs ?_; refine oN ?_) | (refine rg 1 ?_; refine oMv ?_; refine oMv ?_; refine oC (c1) rfl (ac (ac .nil)) ?_; refine oEx ?_; refine oEx ?_; refine oAs ?_; refine oAs ?_; refine oN ?_) | refine gc ?_ | refine ct ?_ | refine cf ?_ | refine swp_cond rfl (fun hc => ?_) (fun hc => ?_) | refine rq rfl (rt (rt .nil)) ?_)
    rfl
set_option maxRecDepth 100000 in
theorem of1_ (c : Nat) : PCalls Tryz.prog 30 [.v (.int .i32 (c : Int))] (.v (.bool (oddR c))) := by
  have h2 : decide (126 < (c : Int)) = decide (126 < c) := by by_cases h : 126 < c <;> simp [h] <;> omega
  unfold oddR
  refine pcalls_of Tryz.func30 rfl rfl Tryz.ntmps30 rfl ?_
  by_cases h : c < 32
  · rw [decide_eq_true h]
    repeat' (first | (refine rg 0 ?_; refine oAs ?_; refine oN ?_) | (refine rg 1 ?_; refine oMv ?_; refine oCm ?_; refine oMv ?_; (first | refine oMv ?_ | refine oK ?_) <;> (first | refine oCm ?_ | refine oK ?_) <;> refine oPt ?_ <;> refine oAs ?_ <;> refine oN ?_) | refine gc ?_ | refine ct ?_ | refine cf ?_ | refine swp_cond rfl (fun hc => ?_) (fun hc => ?_) | refine rq rfl (rt .nil) ?_)
    rfl
  · rw [decide_eq_false h]
    repeat' (first | (refine rg 0 ?_; refine oAs ?_; refine oN ?_) | (refine rg 1 ?_; refine oMv ?_; refine oCm ?_; refine oMv ?_; refine oMv ?_ <;> refine oCm ?_ <;> (first | refine oPt ?_ | refine oPf ?_) <;> refine oAs ?_ <;> refine oN ?_) | refine gc ?_ | refine ct ?_ | refine cf ?_ | refine swp_cond rfl (fun hc => ?_) (fun hc => ?_) | refine rq rfl (rt .nil) ?_)
    rw [← h2]; rfl
set_option maxRecDepth 100000 in
theorem write1_ (c : Nat) : PCalls Tryz.prog 55 [.v (.int .i32 (c : Int))] (.v (.bool (oddR c))) := by
  have h2 : decide (126 < (c : Int)) = decide (126 < c) := by by_cases h : 126 < c <;> simp [h] <;> omega
  unfold oddR
  refine pcalls_of Tryz.func55 rfl rfl Tryz.ntmps55 rfl ?_
  by_cases h : c < 32
  · rw [decide_eq_true h]
    repeat' (first | (refine rg 0 ?_; refine oAs ?_; refine oN ?_) | (refine rg 1 ?_; refine oMv ?_; refine oCm ?_; refine oMv ?_; (first | refine oMv ?_ | refine oK ?_) <;> (first | refine oCm ?_ | refine oK ?_) <;> refine oPt ?_ <;> refine oAs ?_ <;> refine oN ?_) | refine gc ?_ | refine ct ?_ | refine cf ?_ | refine swp_cond rfl (fun hc => ?_) (fun hc => ?_) | refine rq rfl (rt .nil) ?_)
    rfl
  · rw [decide_eq_false h]
    repeat' (first | (refine rg 0 ?_; refine oAs ?_; refine oN ?_) | (refine rg 1 ?_; refine oMv ?_; refine oCm ?_; refine oMv ?_; refine oMv ?_ <;> refine oCm ?_ <;> (first | refine oPt ?_ | refine oPf ?_) <;> refine oAs ?_ <;> refine oN ?_) | refine gc ?_ | refine ct ?_ | refine cf ?_ | refine swp_cond rfl (fun hc => ?_) (fun hc => ?_) | refine rq rfl (rt .nil) ?_)
    rw [← h2]; rfl
end Go.Proofs.YtloippgblkoemaaGreatDoor.An

/- Answers: is a text plain; a number of three digits; walks. -/
namespace Go.Proofs.YtloippgblkoemaaGreatDoor.An
set_option linter.unusedVariables false
set_option linter.unusedSimpArgs false
open Go.RowKit Mem Sim Opn Hd Str Rq
def oddAt (s : ByteArray) : Int := if plainP s then -1 else (s.toList.findIdx oddB : Int)
theorem even_rune {s : ByteArray} {k : Nat} (h : k < s.size) (hd : evenB s[k] = true) : Utf8.decode s k = ((s[k]).toNat, 1) ∧ oddR s[k].toNat = false := by
  unfold evenB oddB at hd
  have hd : oddR s[k].toNat = false := by simpa using hd
  have h2 := hd
  unfold oddR at h2
  simp at h2
  exact ⟨decode_ascii s k h (by omega), hd⟩
theorem odd_rune {s : ByteArray} {k : Nat} (h : k < s.size) (hd : evenB s[k] = false) : oddR (Utf8.decode s k).1 = true := by
  unfold evenB oddB at hd
  have hd : oddR s[k].toNat = true := by simpa using hd
  by_cases ha : s[k].toNat < 128
  · rw [decode_ascii s k h ha]; exact hd
  · have := (decode_high s k h (by omega)).1
    unfold oddR; simp; omega
theorem oddAt_at {s : ByteArray} {k : Nat} (hk : k < s.size) (hI : (s.toList.take k).all evenB = true) (hd : evenB s[k] = false) : oddAt s = (k : Int) := by
  have hl := toList_len s
  have h1 : plainP s = false := all_bad hk hd
  unfold oddAt
  rw [h1, if_neg (by simp)]
  have : s.toList.findIdx oddB = k := by
    rw [List.findIdx_eq (by omega)]
    refine ⟨?_, fun j hj => ?_⟩
    · rw [toList_at s hk]; unfold evenB at hd; simpa using hd
    · have h2 := (List.all_eq_true.1 hI) (s.toList[j]'(by omega)) (List.mem_of_getElem? (by rw [List.getElem?_take_of_lt hj]; exact List.getElem?_eq_getElem (by omega)))
      unfold evenB at h2; simpa using h2
  rw [this]
set_option maxRecDepth 100000 in
set_option maxHeartbeats 2000000 in
theorem indexFunc_ (F : FuncId) (hF : ∀ c : Nat, PCalls Tryz.prog F ([.v (.int .i32 (c : Int))] ++ []) (.v (.bool (oddR c)))) (s : ByteArray) (hs : s.size ≤ maxLen) : PCalls Tryz.prog 74 [.v (.string s), .clo F [], .v (.bool true)] (.v (.int .i64 (oddAt s))) := by
  unfold maxLen at hs
  refine pcalls_of Tryz.func74 rfl rfl Tryz.ntmps74 rfl ?_
  repeat' (first | (refine rg 0 ?_; refine oAs ?_; refine oN ?_) | (refine rg 1 ?_; refine oMv ?_; refine sops_range 1000 (.free rfl rfl) rfl rfl rfl rfl (tyR rfl) rfl ?_; refine oN ?_) | refine gc ?_ | refine ct ?_ | refine cf ?_ | refine swp_cond rfl (fun hc => ?_) (fun hc => ?_) | refine rq rfl (rt .nil) ?_)
  refine swp_for (fun k => ⟨[(1, .t (.clo F [])), (2, .t (.v (.bool true))), (10, .bp 1000 0)], [(1000, itC s k)], []⟩) (fun k => (s.toList.take k).all evenB = true) s.size (weak_sub (.cons rfl rfl rfl (.cons rfl rfl rfl (.cons rfl rfl rfl .nil))) (.cons rfl rfl rfl .nil) .nil) rfl ?_
  intro k hk hI
  by_cases hlt : k < s.size
  · have hK := hF (Utf8.decode s k).1
    cases hd : evenB s[k] with
    | true =>
      obtain ⟨hdec, ho⟩ := even_rune hlt hd
      rw [hdec] at hK
      rw [ho] at hK
      repeat' (first | refine for_next hlt (weak_sub (.cons rfl rfl rfl (.cons rfl rfl rfl (.cons rfl rfl rfl .nil))) (.cons rfl rfl rfl .nil) .nil) (all_snoc hI hlt hd) | (refine rg 2 ?_; refine sops_next 1000 (.free rfl rfl) rfl rfl rfl rfl rfl (by assumption) (by assumption) ?_; refine oEx ?_; refine oN ?_) | (refine rg 3 ?_; refine oEx ?_; refine oEx ?_; refine oAs ?_; refine oAs ?_; refine oN ?_) | (refine rg 4 ?_; refine oMv ?_; refine oMv ?_; refine sp (po_call_clo rfl rfl (ac .nil) (hK)) ?_; refine oMv ?_; refine sp (po_boolq rfl rfl rfl (by kernel_rfl) (by exact .inl rfl)) ?_; refine oN ?_) | refine gc ?_ | refine ct ?_ | refine cf ?_)
    | false =>
      have ho := odd_rune hlt hd
      rw [ho] at hK
      rw [oddAt_at hlt hI hd]
      generalize hdec : Utf8.decode s k = ck at hK
      obtain ⟨c, w⟩ := ck
      repeat' (first | (refine rg 2 ?_; refine sops_next 1000 (.free rfl rfl) rfl rfl rfl rfl rfl (by assumption) (by assumption) ?_; refine oEx ?_; refine oN ?_) | (refine rg 3 ?_; refine oEx ?_; refine oEx ?_; refine oAs ?_; refine oAs ?_; refine oN ?_) | (refine rg 4 ?_; refine oMv ?_; refine oMv ?_; refine sp (po_call_clo rfl rfl (ac .nil) (hK)) ?_; refine oMv ?_; refine sp (po_boolq rfl rfl rfl (by kernel_rfl) (by exact .inl rfl)) ?_; refine oN ?_) | (refine rg 5 ?_; refine oMv ?_; refine oAs ?_; refine oN ?_) | refine gc ?_ | refine ct ?_ | refine cf ?_ | refine swp_cond rfl (fun hc => ?_) (fun hc => ?_) | refine rq rfl (rt .nil) ?_)
      rfl
  · obtain rfl : k = s.size := by omega
    rw [take_full s (Nat.lt_irrefl _)] at hI
    have e1 : oddAt s = -1 := by unfold oddAt plainP; rw [hI]; rfl
    rw [e1]
    repeat' (first | (refine rg 2 ?_; (first | refine sops_next 1000 (.free rfl rfl) rfl rfl rfl rfl rfl (by first | assumption | omega) (by assumption) ?_ | refine sops_next_end 1000 (.free rfl rfl) rfl rfl rfl rfl rfl (by assumption) ?_); refine oEx ?_; refine oN ?_) | (refine rg 6 ?_; refine oAs ?_; refine oN ?_) | refine gc ?_ | refine ct ?_ | refine cf ?_ | refine swp_cond rfl (fun hc => ?_) (fun hc => ?_) | refine rq rfl (rt .nil) ?_)
    rfl
set_option maxRecDepth 100000 in
theorem indexFunc2_ (F : FuncId) (hF : ∀ c : Nat, PCalls Tryz.prog F ([.v (.int .i32 (c : Int))] ++ []) (.v (.bool (oddR c)))) (s : ByteArray) (hs : s.size ≤ maxLen) : PCalls Tryz.prog 49 [.v (.string s), .clo F []] (.v (.int .i64 (oddAt s))) := by
  have c1 := indexFunc_ F hF s hs
  refine pcalls_of Tryz.func49 rfl rfl Tryz.ntmps49 rfl ?_
  repeat' (first | (refine rg 0 ?_; refine oAs ?_; refine oN ?_) | (refine rg 1 ?_; refine oMv ?_; refine oMv ?_; refine oC (c1) rfl (ac (ac (ac .nil))) ?_; refine oAs ?_; refine oN ?_) | refine gc ?_ | refine ct ?_ | refine cf ?_ | refine swp_cond rfl (fun hc => ?_) (fun hc => ?_) | refine rq rfl (rt .nil) ?_)
  rfl
set_option maxRecDepth 100000 in
theorem containsFunc_ (F : FuncId) (hF : ∀ c : Nat, PCalls Tryz.prog F ([.v (.int .i32 (c : Int))] ++ []) (.v (.bool (oddR c)))) (s : ByteArray) (hs : s.size ≤ maxLen) : PCalls Tryz.prog 29 [.v (.string s), .clo F []] (.v (.bool (!plainP s))) := by
  have c1 := indexFunc2_ F hF s hs
  have e : (!plainP s) = decide (0 ≤ oddAt s) := by
    unfold oddAt
    cases plainP s <;> simp
  rw [e]
  refine pcalls_of Tryz.func29 rfl rfl Tryz.ntmps29 rfl ?_
  repeat' (first | (refine rg 0 ?_; refine oAs ?_; refine oN ?_) | (refine rg 1 ?_; refine oMv ?_; refine oMv ?_; refine oC (c1) rfl (ac (ac .nil)) ?_; refine oCm ?_; refine oAs ?_; refine oN ?_) | refine gc ?_ | refine ct ?_ | refine cf ?_ | refine swp_cond rfl (fun hc => ?_) (fun hc => ?_) | refine rq rfl (rt .nil) ?_)
  rfl
def num3 (s : ByteArray) : Int := if s.toList.all digB && decide (s.size = 3) then (numL s.toList : Int) else 0
set_option maxRecDepth 100000 in
set_option maxHeartbeats 2000000 in
theorem num_ (s : ByteArray) (hs : s.size ≤ maxLen) : PCalls Tryz.prog 26 [.v (.string s)] (.v (.int .i64 (num3 s))) := by
  unfold maxLen at hs
  have hl := toList_len s
  unfold num3
  refine pcalls_of Tryz.func26 rfl rfl Tryz.ntmps26 rfl ?_
  repeat' (first | (refine rg 0 ?_; refine oAs ?_; refine oN ?_) | (refine rg 1 ?_; refine oAs ?_; refine oN ?_) | (refine rg 2 ?_; refine oMv ?_; refine sp (po_len_str rfl rfl (tyR rfl)) ?_; refine oMv ?_; refine oN ?_) | refine gc ?_ | refine ct ?_ | refine cf ?_ | refine swp_cond rfl (fun hc => ?_) (fun hc => ?_) | refine rq rfl (rt .nil) ?_)
  by_cases h3 : s.size = 3
  · rw [decide_eq_true h3]
    have e3 : (!decide ((s.size : Int) = 3)) = false := by rw [decide_eq_true (by omega)]; rfl
    refine swp_for (fun k => ⟨[(0, .t (.v (.string s))), (3, .t (.v (.int .i64 ((numL (s.toList.take k) : Nat) : Int)))), (6, .t (.v (.int .i64 (s.size : Int)))), (7, .t (.v (.int .i64 (k : Int))))], [], []⟩) (fun k => (s.toList.take k).all digB = true) s.size (weak_sub (.cons rfl rfl rfl (.cons rfl rfl rfl (.cons rfl rfl rfl (.cons rfl rfl rfl .nil)))) .nil .nil) rfl ?_
    intro k hk hI
    by_cases hlt : k < s.size
    · cases hd : digB s[k] with
      | true =>
        have hb := numL_17 (s.toList.take k) hI (k := k) (by simp; omega) (by omega)
        rw [List.take_take, Nat.min_self] at hb
        have hn := numL_snoc s.toList (k := k) (by omega)
        rw [toList_at s hlt] at hn
        have hd2 : 48 ≤ s[k].toNat ∧ s[k].toNat ≤ 57 := by unfold digB at hd; simpa using hd
        repeat' (first | refine for_next hlt (weak_sub (.cons rfl (by rfl) rfl (.cons rfl (by first | rfl | (exact congrArg (fun n => A.t (T.v (Value.int .i64 n))) (by rw [hn]; omega))) rfl (.cons rfl (by rfl) rfl (.cons rfl (by rfl) rfl .nil)))) .nil .nil) (all_snoc hI hlt hd) | (refine rg 3 ?_; refine oCm ?_; refine oN ?_) | (refine rg 4 ?_; refine oMv ?_; refine oAs ?_; refine oN ?_) | (refine rg 5 ?_; refine oMv ?_; refine oMv ?_; refine sp (xist rfl) ?_; refine oCm ?_; refine oMv ?_; refine oMv ?_ <;> refine oMv ?_ <;> refine sp (xist rfl) ?_ <;> refine oCm ?_ <;> (first | refine oPt ?_ | refine oPf ?_) <;> refine oMv ?_ <;> refine oMv ?_ <;> refine sp (po_len_str rfl rfl (tyR rfl)) ?_ <;> refine oCm ?_ <;> (first | refine oPt ?_ | refine oPf ?_) <;> refine oN ?_) | (refine rg 7 ?_; refine oMv ?_; refine sp (po_arith rfl rfl rfl (ar_mul (by first | rfl | (refine wrap_i64 ?_; omega)) rfl)) ?_; refine oMv ?_; refine oMv ?_; refine sp (xist rfl) ?_; (first | refine sp (po_dec rfl rfl rfl (by omega)) ?_ | refine sp (po_arith rfl rfl rfl (ar_sub (by first | rfl | (refine wrap_i64 ?_; omega) | (refine wrap_u8 ?_; omega)) rfl)) ?_); refine sp (po_conv_int rfl rfl (tyK rfl) (tyK rfl) (by (refine wrap_i64 ?_; omega))) ?_; (first | refine sp (xinc rfl) ?_ | refine sp (po_arith rfl rfl rfl (ar_add (by first | rfl | (refine wrap_i64 ?_; omega)) rfl)) ?_); refine oAs ?_; refine oN ?_) | (refine rg 8 ?_; refine sp (xinc rfl) ?_; refine oMv ?_; refine oN ?_) | refine gc ?_ | refine ct ?_ | refine cf ?_)
      | false =>
        have hd2 : s[k].toNat < 48 ∨ 57 < s[k].toNat := by unfold digB at hd; simp at hd; omega
        rw [all_bad hlt hd]
        rcases hd2 with hd2 | hd2
        all_goals
          repeat' (first | (refine rg 3 ?_; refine oCm ?_; refine oN ?_) | (refine rg 4 ?_; refine oMv ?_; refine oAs ?_; refine oN ?_) | (refine rg 5 ?_; refine oMv ?_; refine oMv ?_; refine sp (xist rfl) ?_; refine oCm ?_; refine oMv ?_; (first | refine oMv ?_ | refine oK ?_) <;> (first | refine oMv ?_ | refine oK ?_) <;> (first | refine sp (xist rfl) ?_ | refine oK ?_) <;> (first | refine oCm ?_ | refine oK ?_) <;> (first | refine oPt ?_ | refine oPf ?_) <;> refine oMv ?_ <;> (first | refine oMv ?_ | refine oK ?_) <;> (first | refine sp (po_len_str rfl rfl (tyR rfl)) ?_ | refine oK ?_) <;> (first | refine oCm ?_ | refine oK ?_) <;> refine oPt ?_ <;> refine oN ?_) | (refine rg 6 ?_; refine oAs ?_; refine oN ?_) | refine gc ?_ | refine ct ?_ | refine cf ?_ | refine swp_cond rfl (fun hc => ?_) (fun hc => ?_) | refine rq rfl (rt .nil) ?_)
          rfl
    · obtain rfl : k = s.size := by omega
      rw [take_full s (Nat.lt_irrefl _)] at hI
      rw [hI, take_full s (Nat.lt_irrefl _)]
      repeat' (first | (refine rg 3 ?_; refine oCm ?_; refine oN ?_) | (refine rg 9 ?_; refine oMv ?_; refine oAs ?_; refine oN ?_) | refine gc ?_ | refine ct ?_ | refine cf ?_ | refine swp_cond rfl (fun hc => ?_) (fun hc => ?_) | refine rq rfl (rt .nil) ?_)
      rfl
  · rw [decide_eq_false h3, Bool.and_false, if_neg (by simp)]
    have e3 : (!decide ((s.size : Int) = 3)) = true := by rw [decide_eq_false (by omega)]; rfl
    refine swp_for (fun k => ⟨[(0, .t (.v (.string s))), (3, .t (.v (.int .i64 0))), (6, .t (.v (.int .i64 (s.size : Int)))), (7, .t (.v (.int .i64 (k : Int))))], [], []⟩) (fun k => k = 0) s.size (weak_sub (.cons rfl rfl rfl (.cons rfl rfl rfl (.cons rfl rfl rfl (.cons rfl rfl rfl .nil)))) .nil .nil) rfl ?_
    intro k hk hI
    subst hI
    by_cases hlt : 0 < s.size
    · have h3c : s[0].toNat < 48 ∨ 57 < s[0].toNat ∨ (48 ≤ s[0].toNat ∧ s[0].toNat ≤ 57) := by omega
      rcases h3c with hd2 | hd2 | hd2
      all_goals
        repeat' (first | (refine rg 3 ?_; refine oCm ?_; refine oN ?_) | (refine rg 4 ?_; refine oMv ?_; refine oAs ?_; refine oN ?_) | (refine rg 5 ?_; refine oMv ?_; refine oMv ?_; refine sp (xist rfl) ?_; refine oCm ?_; refine oMv ?_; (first | refine oMv ?_ | refine oK ?_) <;> (first | refine oMv ?_ | refine oK ?_) <;> (first | refine sp (xist rfl) ?_ | refine oK ?_) <;> (first | refine oCm ?_ | refine oK ?_) <;> (first | refine oPt ?_ | refine oPf ?_) <;> refine oMv ?_ <;> (first | refine oMv ?_ | refine oK ?_) <;> (first | refine sp (po_len_str rfl rfl (tyR rfl)) ?_ | refine oK ?_) <;> (first | refine oCm ?_ | refine oK ?_) <;> (first | refine oPt ?_ | refine oPf ?_) <;> refine oN ?_) | (refine rg 6 ?_; refine oAs ?_; refine oN ?_) | refine gc ?_ | refine ct ?_ | refine cf ?_ | refine swp_cond rfl (fun hc => ?_) (fun hc => ?_) | refine rq rfl (rt .nil) ?_)
        rfl
    · have h0 : s.size = 0 := by omega
      repeat' (first | (refine rg 3 ?_; refine oCm ?_; refine oN ?_) | (refine rg 9 ?_; refine oMv ?_; refine oAs ?_; refine oN ?_) | refine gc ?_ | refine ct ?_ | refine cf ?_ | refine swp_cond rfl (fun hc => ?_) (fun hc => ?_) | refine rq rfl (rt .nil) ?_)
      rfl
end Go.Proofs.YtloippgblkoemaaGreatDoor.An
