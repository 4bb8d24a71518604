/- The law AnswerBack: a walk. -/
import Derived.Test.YtpncekdhigappaaGreatDoorT27
import Derived.Test.YtpncekdhigappaaGreatDoorT36
namespace Go.Proofs.YtpncekdhigappaaGreatDoor.AnswerBack
set_option linter.unusedVariables false
set_option linter.unusedSimpArgs false
open Go.RowKit Mem Sim Opn Hd Str Rq An
theorem ans_no {r : PRaw} (h : ofP r = true) : Ro.ofR r = none := by
  unfold ofP at h
  simp only [Bool.and_eq_true] at h
  obtain ⟨h1, h2⟩ := (hasP_iff r.start).1 h.1.1.1
  refine Ro.no_ans (l := r.start.toList.drop 9) ?_
  have h3 := congrArg ByteArray.toList h2
  rw [ext_list, List.drop_zero] at h3
  have h4 : befS.toList = [72, 84, 84, 80, 47, 49, 46, 49, 32] := bs_toList _
  rw [h4] at h3
  rw [← h3, List.take_append_drop]
theorem one_no {l : List UInt8} {r : PRaw} (h1 : rawsL l = ([r], 0)) (h : ofP r = true) : Ro.oneT l = .tup [.agg Ro.reqT0, .v (.int .i64 2)] := by
  unfold Ro.oneT Ro.oneR
  rw [h1, if_neg (fun e => e rfl)]
  dsimp only
  rw [ans_no h]
theorem back_raws {a : PAns} (h : mayA a = true) : rawsL (msgP (rawOf a)) = ([rawOf a], 0) := by
  refine rawsL_idl ?_
  exact msg_back (rawOf a) (may_wr h) []
theorem back_one {a : PAns} (h : mayA a = true) : oneT (msgP (rawOf a)) = .tup [.agg (ansT a), .v (.int .i64 0)] := by
  obtain ⟨h1, h2⟩ := may_of h
  unfold oneT
  rw [back_raws h, if_neg (fun e => e rfl)]
  dsimp only
  unfold ofT
  rw [h1, if_pos rfl, h2]
theorem msg_len {r : PRaw} (h : wrP r = true) : (msgP r).length ≤ 20000 := by
  unfold wrP fitsP Hd.mayL at h
  simp only [Bool.and_eq_true, decide_eq_true_eq] at h
  obtain ⟨⟨⟨_, _⟩, h2⟩, ⟨⟨_, h4, h5⟩, hb⟩, _⟩ := h
  have hw := wL_len r (fun h hh => (List.all_eq_true.1 h5) h hh) h2 r.heads.length (Nat.le_refl _)
  have ht : (tailL (fram r.heads).1.chunked r.body).length ≤ r.body.length + 20 := by
    unfold tailL Rq.hexL
    have := hm_3 r.body.length
    split
    · omega
    · split
      · simp
      · simp only [List.length_append, hexK_len, List.length_cons, List.length_nil]; omega
  unfold msgP
  simp only [List.length_append, List.length_cons, List.length_nil]; omega
theorem same_r (a : PAns) : sameA a a = true := (sameA_iff a a).2 rfl
set_option maxRecDepth 100000 in
set_option maxHeartbeats 8000000 in
theorem law_ (a : PAns) (b : List UInt8) (hoa : okAns a) (hb : b.length ≤ maxLen) : PCalls Tryz.prog 14 [.agg (ansT a), .sl 1 (b.map byteT)] (.v (.bool true)) := by
  have k1 := longA_ a
  have c0 := awake_
  have hmb : (b.map byteT).length = b.length := List.length_map _
  cases hla : longA a with
  | true =>
    rw [hla] at k1
    unfold ansT at k1 ⊢
    refine pcalls_of Tryz.func14 rfl rfl Tryz.ntmps14 rfl ?_
    repeat' (first | (refine rg 0 ?_; refine sbx ?_; refine oAs ?_; refine oN ?_) | (refine rg 1 ?_; (refine sp (po_load_bx_agg rfl rfl (tyT rfl) rfl (vc (vc (vc .nil))) rfl) ?_); refine oC (k1) rfl (ac .nil) ?_; refine oMv ?_; (first | refine oMv ?_ | refine oK ?_) <;> (first | refine sp (pln rfl (tyS rfl)) ?_ | refine oK ?_) <;> (first | refine oCm ?_ | refine oK ?_) <;> refine oPt ?_ <;> refine oN ?_) | (refine rg 2 ?_; (first | refine oC (k1) rfl .nil ?_ | refine oC (c0) rfl .nil ?_); refine oAs ?_; refine oN ?_) | refine gc ?_ | refine ct ?_ | refine cf ?_ | refine swp_cond rfl (fun hc => ?_) (fun hc => ?_) | refine rq rfl (rt .nil) ?_)
    rfl
  | false =>
    rw [hla] at k1
    by_cases h8 : 8000 < b.length
    · unfold ansT at k1 ⊢
      refine pcalls_of Tryz.func14 rfl rfl Tryz.ntmps14 rfl ?_
      repeat' (first | (refine rg 0 ?_; refine sbx ?_; refine oAs ?_; refine oN ?_) | (refine rg 1 ?_; (refine sp (po_load_bx_agg rfl rfl (tyT rfl) rfl (vc (vc (vc .nil))) rfl) ?_); refine oC (k1) rfl (ac .nil) ?_; refine oMv ?_; refine oMv ?_ <;> refine sp (pln rfl (tyS rfl)) ?_ <;> refine oCm ?_ <;> (first | refine oPt ?_ | refine oPf ?_) <;> refine oN ?_) | (refine rg 2 ?_; (first | refine oC (k1) rfl .nil ?_ | refine oC (c0) rfl .nil ?_); refine oAs ?_; refine oN ?_) | refine gc ?_ | refine ct ?_ | refine cf ?_ | refine swp_cond rfl (fun hc => ?_) (fun hc => ?_) | refine rq rfl (rt .nil) ?_)
      rfl
    obtain ⟨l1, l2, _⟩ := longA_no hla
    have c1 := bytesA_ a (by omega) hoa.hh (by omega)
    have c2 := one_ b (by omega) (fun q hq => sane_ok (rawsL_sane b q hq))
    have c6 := refSameA_ a a (by omega)
    rw [same_r] at c6
    have c7 : mayA a = true → PCalls Tryz.prog 20 [.sl 1 ((msgP (rawOf a)).map byteT)] (.tup [.agg (ansT a), .v (.int .i64 0)]) := fun h => back_one h ▸ one_ (msgP (rawOf a)) (by have := msg_len (may_wr h); omega) (fun q hq => sane_ok (rawsL_sane _ q hq))
    have c8 : mayA a = true → PCalls Tryz.prog 36 [.sl 1 ((msgP (rawOf a)).map byteT)] (.tup [.agg Ro.reqT0, .v (.int .i64 2)]) := fun h => one_no (back_raws h) (may_of h).1 ▸ Ro.one2_ (msgP (rawOf a)) (by have := msg_len (may_wr h); omega)
    unfold bytesT at c1
    unfold Ro.reqT0 at c8
    rcases oneT_cases b with ⟨r, h1, h2, h3, h4⟩ | ⟨e, he, h4⟩
    · rw [h4] at c2
      have hso := sane_ok h3
      have hmr : mayA (ansOf r) = true := by unfold ofP at h2; simp only [Bool.and_eq_true] at h2; exact h2.2
      have d1 := bytesA_ (ansOf r) hso.hn hso.hh hso.hb
      have d2 := may_ (ansOf r) hso.hn hso.hh hso.hb
      have d3 := refSameA_ (ansOf r) (ansOf r) hso.hn
      rw [same_r] at d3
      have d4 := one_ (msgP (rawOf (ansOf r))) (by have := msg_len (may_wr hmr); omega) (fun q hq => sane_ok (rawsL_sane _ q hq))
      rw [back_one hmr] at d4
      have d5 := Ro.one2_ b (by omega)
      rw [one_no h1 h2] at d5
      unfold bytesT at d1
      rw [hmr, if_pos rfl] at d1
      rw [hmr] at d2
      unfold Ro.reqT0 at d5
      generalize ansOf r = x at *
      unfold ansT at k1 c1 c2 c6 c7 d1 d2 d3 d4 ⊢
      clear h1 h2 h3 h4 hso hmr hoa hla
      refine pcalls_of Tryz.func14 rfl rfl Tryz.ntmps14 rfl ?_
      cases hm : mayA a with
      | false =>
        rw [hm, if_neg (by simp)] at c1
        clear c7 c8 hm
        repeat' (first | (refine rg 0 ?_; refine sbx ?_; refine oAs ?_; refine oN ?_) | (refine rg 1 ?_; (refine sp (po_load_bx_agg rfl rfl (tyT rfl) rfl (vc (vc (vc .nil))) rfl) ?_); (first | refine oC (c0) rfl (ac .nil) ?_ | refine oC (k1) rfl (ac .nil) ?_); refine oMv ?_; refine oMv ?_ <;> refine sp (pln rfl (tyS rfl)) ?_ <;> refine oCm ?_ <;> (first | refine oPt ?_ | refine oPf ?_) <;> refine oN ?_) | (refine rg 3 ?_; (refine sp (po_load_bx_agg rfl rfl (tyT rfl) rfl (vc (vc (vc .nil))) rfl) ?_); (first | refine oC (c0) rfl (ac .nil) ?_ | refine oC (k1) rfl (ac .nil) ?_ | refine oC (c1) rfl (ac .nil) ?_); refine oMv ?_; refine oEx ?_; refine oEx ?_; refine oAs ?_; refine oAs ?_; refine oN ?_) | (refine rg 4 ?_; refine oMv ?_; refine oCm ?_; refine oN ?_) | (refine rg 9 ?_; refine oMv ?_; (first | refine oC (c0) rfl (ac .nil) ?_ | refine oC (k1) rfl (ac .nil) ?_ | refine oC (c1) rfl (ac .nil) ?_ | refine oC (c2) rfl (ac .nil) ?_); refine oMv ?_; refine oEx ?_; refine oEx ?_; refine sal str28 ?_; refine oS ?_; refine oAs ?_; refine oN ?_) | (refine rg 10 ?_; refine oMv ?_; refine oCm ?_; refine oN ?_) | (refine rg 12 ?_; (refine sp (po_load_bx_agg rfl rfl (tyT rfl) rfl (vc (vc (vc .nil))) rfl) ?_); (first | refine oC (c0) rfl (ac .nil) ?_ | refine oC (k1) rfl (ac .nil) ?_ | refine oC (c1) rfl (ac .nil) ?_ | refine oC (c2) rfl (ac .nil) ?_ | refine oC (d1) rfl (ac .nil) ?_); refine oMv ?_; refine oEx ?_; refine oEx ?_; refine oAs ?_; refine oAs ?_; refine oN ?_) | (refine rg 13 ?_; refine oMv ?_; (first | refine oC (c0) rfl (ac .nil) ?_ | refine oC (k1) rfl (ac .nil) ?_ | refine oC (c1) rfl (ac .nil) ?_ | refine oC (c2) rfl (ac .nil) ?_ | refine oC (d1) rfl (ac .nil) ?_ | refine oC (d2) rfl (ac .nil) ?_ | refine oC (d3) rfl (ac .nil) ?_ | refine oC (d4) rfl (ac .nil) ?_); refine oMv ?_; refine oEx ?_; refine oEx ?_; refine sal str28 ?_; refine oS ?_; refine oAs ?_; refine oN ?_) | (refine rg 14 ?_; refine oMv ?_; (first | refine oC (c0) rfl (ac .nil) ?_ | refine oC (k1) rfl (ac .nil) ?_ | refine oC (c1) rfl (ac .nil) ?_ | refine oC (c2) rfl (ac .nil) ?_ | refine oC (d1) rfl (ac .nil) ?_ | refine oC (d2) rfl (ac .nil) ?_ | refine oC (d3) rfl (ac .nil) ?_ | refine oC (d4) rfl (ac .nil) ?_ | refine oC (d5) rfl (ac .nil) ?_); refine oMv ?_; refine oEx ?_; refine oEx ?_; refine sal str57 ?_; refine oS ?_; refine oAs ?_; refine oN ?_) | (refine rg 15 ?_; (refine sp (po_load_bx_agg rfl rfl (tyT rfl) rfl (vc (vc (vc .nil))) rfl) ?_); (first | refine oC (c0) rfl (ac .nil) ?_ | refine oC (k1) rfl (ac .nil) ?_ | refine oC (c1) rfl (ac .nil) ?_ | refine oC (c2) rfl (ac .nil) ?_ | refine oC (d1) rfl (ac .nil) ?_ | refine oC (d2) rfl (ac .nil) ?_); refine oMv ?_; refine oMv ?_ <;> refine oCm ?_ <;> refine oPt ?_ <;> refine oMv ?_ <;> refine oMv ?_ <;> refine oCm ?_ <;> refine oPt ?_ <;> refine oMv ?_ <;> (refine sp (po_load_bx_agg rfl rfl (tyT rfl) rfl (vc (vc (vc .nil))) rfl) ?_) <;> (refine sp (po_load_bx_agg rfl rfl (tyT rfl) rfl (vc (vc (vc .nil))) rfl) ?_) <;> (first | refine oC (c0) rfl (ac (ac .nil)) ?_ | refine oC (k1) rfl (ac (ac .nil)) ?_ | refine oC (c1) rfl (ac (ac .nil)) ?_ | refine oC (c2) rfl (ac (ac .nil)) ?_ | refine oC (d1) rfl (ac (ac .nil)) ?_ | refine oC (d2) rfl (ac (ac .nil)) ?_ | refine oC (d3) rfl (ac (ac .nil)) ?_) <;> refine oPt ?_ <;> refine oMv ?_ <;> refine oMv ?_ <;> refine oCm ?_ <;> refine oPt ?_ <;> refine oMv ?_ <;> refine oC (c0) rfl .nil ?_ <;> refine oPt ?_ <;> refine oAs ?_ <;> refine oN ?_) | refine gc ?_ | refine ct ?_ | refine cf ?_ | refine swp_cond rfl (fun hc => ?_) (fun hc => ?_) | refine rq rfl (rt .nil) ?_)
        rfl
      | true =>
        have c7 := c7 hm
        have c8 := c8 hm
        rw [hm, if_pos rfl] at c1
        clear hm
        repeat' (first | (refine rg 0 ?_; refine sbx ?_; refine oAs ?_; refine oN ?_) | (refine rg 1 ?_; (refine sp (po_load_bx_agg rfl rfl (tyT rfl) rfl (vc (vc (vc .nil))) rfl) ?_); (first | refine oC (c0) rfl (ac .nil) ?_ | refine oC (k1) rfl (ac .nil) ?_); refine oMv ?_; refine oMv ?_ <;> refine sp (pln rfl (tyS rfl)) ?_ <;> refine oCm ?_ <;> (first | refine oPt ?_ | refine oPf ?_) <;> refine oN ?_) | (refine rg 3 ?_; (refine sp (po_load_bx_agg rfl rfl (tyT rfl) rfl (vc (vc (vc .nil))) rfl) ?_); (first | refine oC (c0) rfl (ac .nil) ?_ | refine oC (k1) rfl (ac .nil) ?_ | refine oC (c1) rfl (ac .nil) ?_); refine oMv ?_; refine oEx ?_; refine oEx ?_; refine oAs ?_; refine oAs ?_; refine oN ?_) | (refine rg 4 ?_; refine oMv ?_; refine oCm ?_; refine oN ?_) | (refine rg 5 ?_; refine oMv ?_; (first | refine oC (c0) rfl (ac .nil) ?_ | refine oC (k1) rfl (ac .nil) ?_ | refine oC (c1) rfl (ac .nil) ?_ | refine oC (c2) rfl (ac .nil) ?_ | refine oC (c6) rfl (ac .nil) ?_ | refine oC (c7) rfl (ac .nil) ?_); refine oMv ?_; refine oEx ?_; refine oEx ?_; refine sal str28 ?_; refine oS ?_; refine oAs ?_; refine oN ?_) | (refine rg 6 ?_; refine oMv ?_; (first | refine oC (c0) rfl (ac .nil) ?_ | refine oC (k1) rfl (ac .nil) ?_ | refine oC (c1) rfl (ac .nil) ?_ | refine oC (c2) rfl (ac .nil) ?_ | refine oC (c6) rfl (ac .nil) ?_ | refine oC (c7) rfl (ac .nil) ?_ | refine oC (c8) rfl (ac .nil) ?_); refine oMv ?_; refine oEx ?_; refine oEx ?_; refine sal str57 ?_; refine oS ?_; refine oAs ?_; refine oN ?_) | (refine rg 7 ?_; refine oMv ?_; refine oCm ?_; refine oMv ?_; (refine sp (po_load_bx_agg rfl rfl (tyT rfl) rfl (vc (vc (vc .nil))) rfl) ?_) <;> (refine sp (po_load_bx_agg rfl rfl (tyT rfl) rfl (vc (vc (vc .nil))) rfl) ?_) <;> (first | refine oC (c0) rfl (ac (ac .nil)) ?_ | refine oC (k1) rfl (ac (ac .nil)) ?_ | refine oC (c1) rfl (ac (ac .nil)) ?_ | refine oC (c2) rfl (ac (ac .nil)) ?_ | refine oC (c6) rfl (ac (ac .nil)) ?_) <;> refine sp (po_not rfl rfl) ?_ <;> (first | refine oPt ?_ | refine oPf ?_) <;> refine oMv ?_ <;> refine oMv ?_ <;> refine oCm ?_ <;> (first | refine oPt ?_ | refine oPf ?_) <;> refine oN ?_) | (refine rg 9 ?_; refine oMv ?_; (first | refine oC (c0) rfl (ac .nil) ?_ | refine oC (k1) rfl (ac .nil) ?_ | refine oC (c1) rfl (ac .nil) ?_ | refine oC (c2) rfl (ac .nil) ?_); refine oMv ?_; refine oEx ?_; refine oEx ?_; refine sal str28 ?_; refine oS ?_; refine oAs ?_; refine oN ?_) | (refine rg 10 ?_; refine oMv ?_; refine oCm ?_; refine oN ?_) | (refine rg 12 ?_; (refine sp (po_load_bx_agg rfl rfl (tyT rfl) rfl (vc (vc (vc .nil))) rfl) ?_); (first | refine oC (c0) rfl (ac .nil) ?_ | refine oC (k1) rfl (ac .nil) ?_ | refine oC (c1) rfl (ac .nil) ?_ | refine oC (c2) rfl (ac .nil) ?_ | refine oC (c6) rfl (ac .nil) ?_ | refine oC (c7) rfl (ac .nil) ?_ | refine oC (c8) rfl (ac .nil) ?_ | refine oC (d1) rfl (ac .nil) ?_); refine oMv ?_; refine oEx ?_; refine oEx ?_; refine oAs ?_; refine oAs ?_; refine oN ?_) | (refine rg 13 ?_; refine oMv ?_; (first | refine oC (c0) rfl (ac .nil) ?_ | refine oC (k1) rfl (ac .nil) ?_ | refine oC (c1) rfl (ac .nil) ?_ | refine oC (c2) rfl (ac .nil) ?_ | refine oC (c6) rfl (ac .nil) ?_ | refine oC (c7) rfl (ac .nil) ?_ | refine oC (c8) rfl (ac .nil) ?_ | refine oC (d1) rfl (ac .nil) ?_ | refine oC (d2) rfl (ac .nil) ?_ | refine oC (d3) rfl (ac .nil) ?_ | refine oC (d4) rfl (ac .nil) ?_); refine oMv ?_; refine oEx ?_; refine oEx ?_; refine sal str28 ?_; refine oS ?_; refine oAs ?_; refine oN ?_) | (refine rg 14 ?_; refine oMv ?_; (first | refine oC (c0) rfl (ac .nil) ?_ | refine oC (k1) rfl (ac .nil) ?_ | refine oC (c1) rfl (ac .nil) ?_ | refine oC (c2) rfl (ac .nil) ?_ | refine oC (c6) rfl (ac .nil) ?_ | refine oC (c7) rfl (ac .nil) ?_ | refine oC (c8) rfl (ac .nil) ?_ | refine oC (d1) rfl (ac .nil) ?_ | refine oC (d2) rfl (ac .nil) ?_ | refine oC (d3) rfl (ac .nil) ?_ | refine oC (d4) rfl (ac .nil) ?_ | refine oC (d5) rfl (ac .nil) ?_); refine oMv ?_; refine oEx ?_; refine oEx ?_; refine sal str57 ?_; refine oS ?_; refine oAs ?_; refine oN ?_) | (refine rg 15 ?_; (refine sp (po_load_bx_agg rfl rfl (tyT rfl) rfl (vc (vc (vc .nil))) rfl) ?_); (first | refine oC (c0) rfl (ac .nil) ?_ | refine oC (k1) rfl (ac .nil) ?_ | refine oC (c1) rfl (ac .nil) ?_ | refine oC (c2) rfl (ac .nil) ?_ | refine oC (c6) rfl (ac .nil) ?_ | refine oC (c7) rfl (ac .nil) ?_ | refine oC (c8) rfl (ac .nil) ?_ | refine oC (d1) rfl (ac .nil) ?_ | refine oC (d2) rfl (ac .nil) ?_); refine oMv ?_; refine oMv ?_ <;> refine oCm ?_ <;> refine oPt ?_ <;> refine oMv ?_ <;> refine oMv ?_ <;> refine oCm ?_ <;> refine oPt ?_ <;> refine oMv ?_ <;> (refine sp (po_load_bx_agg rfl rfl (tyT rfl) rfl (vc (vc (vc .nil))) rfl) ?_) <;> (refine sp (po_load_bx_agg rfl rfl (tyT rfl) rfl (vc (vc (vc .nil))) rfl) ?_) <;> (first | refine oC (c0) rfl (ac (ac .nil)) ?_ | refine oC (k1) rfl (ac (ac .nil)) ?_ | refine oC (c1) rfl (ac (ac .nil)) ?_ | refine oC (c2) rfl (ac (ac .nil)) ?_ | refine oC (c6) rfl (ac (ac .nil)) ?_ | refine oC (c7) rfl (ac (ac .nil)) ?_ | refine oC (c8) rfl (ac (ac .nil)) ?_ | refine oC (d1) rfl (ac (ac .nil)) ?_ | refine oC (d2) rfl (ac (ac .nil)) ?_ | refine oC (d3) rfl (ac (ac .nil)) ?_) <;> refine oPt ?_ <;> refine oMv ?_ <;> refine oMv ?_ <;> refine oCm ?_ <;> refine oPt ?_ <;> refine oMv ?_ <;> refine oC (c0) rfl .nil ?_ <;> refine oPt ?_ <;> refine oAs ?_ <;> refine oN ?_) | refine gc ?_ | refine ct ?_ | refine cf ?_ | refine swp_cond rfl (fun hc => ?_) (fun hc => ?_) | refine rq rfl (rt .nil) ?_)
        rfl
    · rw [h4] at c2
      have e1 : (!decide (e = 0)) = true := by rw [decide_eq_false he]; rfl
      unfold ansT at k1 c1 c6 c7 ⊢
      unfold ansT0 at c2
      clear h4 hoa hla he
      refine pcalls_of Tryz.func14 rfl rfl Tryz.ntmps14 rfl ?_
      cases hm : mayA a with
      | false =>
        rw [hm, if_neg (by simp)] at c1
        clear c7 c8 hm
        repeat' (first | (refine rg 0 ?_; refine sbx ?_; refine oAs ?_; refine oN ?_) | (refine rg 1 ?_; (refine sp (po_load_bx_agg rfl rfl (tyT rfl) rfl (vc (vc (vc .nil))) rfl) ?_); (first | refine oC (c0) rfl (ac .nil) ?_ | refine oC (k1) rfl (ac .nil) ?_); refine oMv ?_; refine oMv ?_ <;> refine sp (pln rfl (tyS rfl)) ?_ <;> refine oCm ?_ <;> (first | refine oPt ?_ | refine oPf ?_) <;> refine oN ?_) | (refine rg 3 ?_; (refine sp (po_load_bx_agg rfl rfl (tyT rfl) rfl (vc (vc (vc .nil))) rfl) ?_); (first | refine oC (c0) rfl (ac .nil) ?_ | refine oC (k1) rfl (ac .nil) ?_ | refine oC (c1) rfl (ac .nil) ?_); refine oMv ?_; refine oEx ?_; refine oEx ?_; refine oAs ?_; refine oAs ?_; refine oN ?_) | (refine rg 4 ?_; refine oMv ?_; refine oCm ?_; refine oN ?_) | (refine rg 9 ?_; refine oMv ?_; (first | refine oC (c0) rfl (ac .nil) ?_ | refine oC (k1) rfl (ac .nil) ?_ | refine oC (c1) rfl (ac .nil) ?_ | refine oC (c2) rfl (ac .nil) ?_); refine oMv ?_; refine oEx ?_; refine oEx ?_; refine sal str28 ?_; refine oS ?_; refine oAs ?_; refine oN ?_) | (refine rg 10 ?_; refine oMv ?_; refine oCm ?_; refine oN ?_) | (refine rg 11 ?_; refine oC (c0) rfl .nil ?_; refine oAs ?_; refine oN ?_) | refine gc ?_ | refine ct ?_ | refine cf ?_ | refine swp_cond rfl (fun hc => ?_) (fun hc => ?_) | refine rq rfl (rt .nil) ?_)
        rfl
      | true =>
        have c7 := c7 hm
        have c8 := c8 hm
        rw [hm, if_pos rfl] at c1
        clear hm
        repeat' (first | (refine rg 0 ?_; refine sbx ?_; refine oAs ?_; refine oN ?_) | (refine rg 1 ?_; (refine sp (po_load_bx_agg rfl rfl (tyT rfl) rfl (vc (vc (vc .nil))) rfl) ?_); (first | refine oC (c0) rfl (ac .nil) ?_ | refine oC (k1) rfl (ac .nil) ?_); refine oMv ?_; refine oMv ?_ <;> refine sp (pln rfl (tyS rfl)) ?_ <;> refine oCm ?_ <;> (first | refine oPt ?_ | refine oPf ?_) <;> refine oN ?_) | (refine rg 3 ?_; (refine sp (po_load_bx_agg rfl rfl (tyT rfl) rfl (vc (vc (vc .nil))) rfl) ?_); (first | refine oC (c0) rfl (ac .nil) ?_ | refine oC (k1) rfl (ac .nil) ?_ | refine oC (c1) rfl (ac .nil) ?_); refine oMv ?_; refine oEx ?_; refine oEx ?_; refine oAs ?_; refine oAs ?_; refine oN ?_) | (refine rg 4 ?_; refine oMv ?_; refine oCm ?_; refine oN ?_) | (refine rg 5 ?_; refine oMv ?_; (first | refine oC (c0) rfl (ac .nil) ?_ | refine oC (k1) rfl (ac .nil) ?_ | refine oC (c1) rfl (ac .nil) ?_ | refine oC (c2) rfl (ac .nil) ?_ | refine oC (c6) rfl (ac .nil) ?_ | refine oC (c7) rfl (ac .nil) ?_); refine oMv ?_; refine oEx ?_; refine oEx ?_; refine sal str28 ?_; refine oS ?_; refine oAs ?_; refine oN ?_) | (refine rg 6 ?_; refine oMv ?_; (first | refine oC (c0) rfl (ac .nil) ?_ | refine oC (k1) rfl (ac .nil) ?_ | refine oC (c1) rfl (ac .nil) ?_ | refine oC (c2) rfl (ac .nil) ?_ | refine oC (c6) rfl (ac .nil) ?_ | refine oC (c7) rfl (ac .nil) ?_ | refine oC (c8) rfl (ac .nil) ?_); refine oMv ?_; refine oEx ?_; refine oEx ?_; refine sal str57 ?_; refine oS ?_; refine oAs ?_; refine oN ?_) | (refine rg 7 ?_; refine oMv ?_; refine oCm ?_; refine oMv ?_; (refine sp (po_load_bx_agg rfl rfl (tyT rfl) rfl (vc (vc (vc .nil))) rfl) ?_) <;> (refine sp (po_load_bx_agg rfl rfl (tyT rfl) rfl (vc (vc (vc .nil))) rfl) ?_) <;> (first | refine oC (c0) rfl (ac (ac .nil)) ?_ | refine oC (k1) rfl (ac (ac .nil)) ?_ | refine oC (c1) rfl (ac (ac .nil)) ?_ | refine oC (c2) rfl (ac (ac .nil)) ?_ | refine oC (c6) rfl (ac (ac .nil)) ?_) <;> refine sp (po_not rfl rfl) ?_ <;> (first | refine oPt ?_ | refine oPf ?_) <;> refine oMv ?_ <;> refine oMv ?_ <;> refine oCm ?_ <;> (first | refine oPt ?_ | refine oPf ?_) <;> refine oN ?_) | (refine rg 9 ?_; refine oMv ?_; (first | refine oC (c0) rfl (ac .nil) ?_ | refine oC (k1) rfl (ac .nil) ?_ | refine oC (c1) rfl (ac .nil) ?_ | refine oC (c2) rfl (ac .nil) ?_); refine oMv ?_; refine oEx ?_; refine oEx ?_; refine sal str28 ?_; refine oS ?_; refine oAs ?_; refine oN ?_) | (refine rg 10 ?_; refine oMv ?_; refine oCm ?_; refine oN ?_) | (refine rg 11 ?_; refine oC (c0) rfl .nil ?_; refine oAs ?_; refine oN ?_) | refine gc ?_ | refine ct ?_ | refine cf ?_ | refine swp_cond rfl (fun hc => ?_) (fun hc => ?_) | refine rq rfl (rt .nil) ?_)
        rfl
end Go.Proofs.YtpncekdhigappaaGreatDoor.AnswerBack
