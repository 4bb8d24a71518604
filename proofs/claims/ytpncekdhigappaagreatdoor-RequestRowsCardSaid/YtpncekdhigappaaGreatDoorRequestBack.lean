/- The law RequestBack: a walk. -/
import Derived.Test.YtpncekdhigappaaGreatDoorS34
import Derived.Test.YtpncekdhigappaaGreatDoorS35
namespace Go.Proofs.YtpncekdhigappaaGreatDoor.RequestBack
set_option linter.unusedVariables false
set_option linter.unusedSimpArgs false
open Go.RowKit Mem Sim Opn Hd Str Pth Rq Ro RequestMay
theorem msg_len {r : PRaw} (h : wrP r = true) : (msgP r).length ≤ 20000 := by
  unfold wrP fitsP Hd.mayL at h
  simp only [Bool.and_eq_true, decide_eq_true_eq] at h
  obtain ⟨⟨⟨_, _⟩, h2⟩, ⟨⟨_, h4, h5⟩, hb⟩, _⟩ := h
  have hw := wL_len r (fun h hh => (List.all_eq_true.1 h5) h hh) h2 r.heads.length (Nat.le_refl _)
  have ht : (tailL (fram r.heads).1.chunked r.body).length ≤ r.body.length + 20 := by
    unfold tailL Rq.hexL
    have := hm_3 r.body.length
    split
    · omega
    · split
      · simp
      · simp only [List.length_append, hexK_len, List.length_cons, List.length_nil]; omega
  unfold msgP
  simp only [List.length_append, List.length_cons, List.length_nil]; omega
theorem one_req {b : L8} {x : Ro.PReq} (h : oneR b = .inl x) : ReqOk x ∧ mayR x = true := by
  obtain ⟨r, h1, h2⟩ := oneR_ok h
  have hs := An.rawsL_sane b r (by rw [h1]; simp)
  obtain ⟨k1, _, k3⟩ := sane_hyp hs
  obtain ⟨m, t, hi⟩ := ofR_is h2
  obtain ⟨_, m2, _⟩ := meth_plain hi.me
  obtain ⟨q, hq⟩ := hi.ta
  obtain ⟨_, t2⟩ := targ_plain hq
  refine ⟨⟨by rw [hi.xm, bs_size]; omega, by rw [hi.xt, bs_size]; omega, by rw [hi.xh]; exact k1.hn, by rw [hi.xh]; exact k1.hh, by rw [hi.xh]; exact k3, by rw [hi.xb]; exact k1.hb⟩, of_mayR h2 hs.2⟩
theorem oneT_back {x : Ro.PReq} (h : mayR x = true) : oneT (msgP (rawQ x)) = .tup [.agg (Ro.reqT x), .v (.int .i64 0)] := by
  unfold oneT; rw [oneR_back h]
set_option maxRecDepth 100000 in
set_option maxHeartbeats 8000000 in
theorem law2_ (a : Ro.PReq) (b : L8) (ha : Sm a) (hb : b.length ≤ maxLen) : PCalls Tryz.prog 11 [.agg (Ro.reqT a), .sl 1 (b.map byteT)] (.v (.bool true)) := by
  have c0 := awake_
  have k1 := longW_ (cutR a)
  have okA := short_ok ha
  have hmb : (b.map byteT).length = b.length := List.length_map _
  obtain ⟨a1, a2, _, _, _, _⟩ := ha
  unfold rawT at k1
  unfold Ro.reqT
  change PCalls _ _ [.agg [.v (.string (a.method ++ a.target)), headsT a.heads, .sl 1 (a.body.map byteT)]] _ at k1
  refine pcalls_of Tryz.func11 rfl rfl Tryz.ntmps11 rfl ?_
  cases hla : longW (cutR a) with
  | true =>
    rw [hla] at k1
    clear okA hla
    repeat' (first | (refine rg 0 ?_; refine sbx ?_; refine oAs ?_; refine oN ?_) | (refine rg 1 ?_; refine oFb ?_; refine oLb ?_; refine oFb ?_; refine oLb ?_; refine sp (po_cat rfl rfl rfl (by omega)) ?_; refine oFb ?_; refine oLb ?_; refine oFb ?_; refine oLb ?_; refine sp (po_buildS str25 rfl (pc (pc (pc .nil))) rfl) ?_; (first | refine oC (c0) rfl (ac .nil) ?_ | refine oC (k1) rfl (ac .nil) ?_); refine oMv ?_; (first | refine oMv ?_ | refine oK ?_) <;> (first | refine sp (pln rfl (tyS rfl)) ?_ | refine oK ?_) <;> (first | refine oCm ?_ | refine oK ?_) <;> refine oPt ?_ <;> refine oN ?_) | (refine rg 2 ?_; refine oC (c0) rfl .nil ?_; refine oAs ?_; refine oN ?_) | refine gc ?_ | refine ct ?_ | refine cf ?_ | refine swp_cond rfl (fun hc => ?_) (fun hc => ?_) | refine rq rfl (rt .nil) ?_)
    rfl
  | false =>
    rw [hla] at k1
    have okA := okA hla
    clear hla
    by_cases h1 : 8000 < b.length
    · clear okA
      repeat' (first | (refine rg 0 ?_; refine sbx ?_; refine oAs ?_; refine oN ?_) | (refine rg 1 ?_; refine oFb ?_; refine oLb ?_; refine oFb ?_; refine oLb ?_; refine sp (po_cat rfl rfl rfl (by omega)) ?_; refine oFb ?_; refine oLb ?_; refine oFb ?_; refine oLb ?_; refine sp (po_buildS str25 rfl (pc (pc (pc .nil))) rfl) ?_; (first | refine oC (c0) rfl (ac .nil) ?_ | refine oC (k1) rfl (ac .nil) ?_); refine oMv ?_; refine oMv ?_ <;> refine sp (pln rfl (tyS rfl)) ?_ <;> refine oCm ?_ <;> (first | refine oPt ?_ | refine oPf ?_) <;> refine oN ?_) | (refine rg 2 ?_; refine oC (c0) rfl .nil ?_; refine oAs ?_; refine oN ?_) | refine gc ?_ | refine ct ?_ | refine cf ?_ | refine swp_cond rfl (fun hc => ?_) (fun hc => ?_) | refine rq rfl (rt .nil) ?_)
      rfl
    have c1 := bytes_ a okA
    have c2 := one2_ b (by omega)
    have c6 := refSameR_ a a okA.hn
    rw [(sameR_iff a a).2 rfl] at c6
    have c7 : mayR a = true → _ := fun h => oneT_back h ▸ one2_ (msgP (rawQ a)) (by have := msg_len (mayR_of h).2.2; omega)
    unfold bytesT at c1
    unfold Ro.reqT at c1 c6
    clear okA
    cases hb1 : oneR b with
    | inr e =>
      have he := oneR_err hb1
      have e1 : (!decide (e = 0)) = true := by rw [decide_eq_false he]; rfl
      have hT : oneT b = .tup [.agg Ro.reqT0, .v (.int .i64 e)] := by unfold oneT; rw [hb1]
      rw [hT] at c2
      unfold Ro.reqT0 at c2
      clear hT hb1 he
      cases hm : mayR a with
      | false =>
        rw [hm, if_neg (by simp)] at c1
        clear c7 hm
        repeat' (first | (refine rg 0 ?_; refine sbx ?_; refine oAs ?_; refine oN ?_) | (refine rg 1 ?_; refine oFb ?_; refine oLb ?_; refine oFb ?_; refine oLb ?_; refine sp (po_cat rfl rfl rfl (by omega)) ?_; refine oFb ?_; refine oLb ?_; refine oFb ?_; refine oLb ?_; refine sp (po_buildS str25 rfl (pc (pc (pc .nil))) rfl) ?_; (first | refine oC (c0) rfl (ac .nil) ?_ | refine oC (k1) rfl (ac .nil) ?_); refine oMv ?_; refine oMv ?_ <;> refine sp (pln rfl (tyS rfl)) ?_ <;> refine oCm ?_ <;> (first | refine oPt ?_ | refine oPf ?_) <;> refine oN ?_) | (refine rg 3 ?_; (refine sp (po_load_bx_agg rfl rfl (tyT rfl) rfl (vc (vc (vc (vc (vc (vc (vc .nil))))))) rfl) ?_); (first | refine oC (c0) rfl (ac .nil) ?_ | refine oC (k1) rfl (ac .nil) ?_ | refine oC (c1) rfl (ac .nil) ?_); refine oMv ?_; refine oEx ?_; refine oEx ?_; refine oAs ?_; refine oAs ?_; refine oN ?_) | (refine rg 4 ?_; refine oMv ?_; refine oCm ?_; refine oN ?_) | (refine rg 8 ?_; refine oMv ?_; (first | refine oC (c0) rfl (ac .nil) ?_ | refine oC (k1) rfl (ac .nil) ?_ | refine oC (c1) rfl (ac .nil) ?_ | refine oC (c2) rfl (ac .nil) ?_); refine oMv ?_; refine oEx ?_; refine oEx ?_; refine sal str57 ?_; refine oS ?_; refine oAs ?_; refine oN ?_) | (refine rg 9 ?_; refine oMv ?_; refine oCm ?_; refine oN ?_) | (refine rg 10 ?_; refine oC (c0) rfl .nil ?_; refine oAs ?_; refine oN ?_) | refine gc ?_ | refine ct ?_ | refine cf ?_ | refine swp_cond rfl (fun hc => ?_) (fun hc => ?_) | refine rq rfl (rt .nil) ?_)
        rfl
      | true =>
        have c7 := c7 hm
        rw [hm, if_pos rfl] at c1
        unfold Ro.reqT at c7
        clear hm
        repeat' (first | (refine rg 0 ?_; refine sbx ?_; refine oAs ?_; refine oN ?_) | (refine rg 1 ?_; refine oFb ?_; refine oLb ?_; refine oFb ?_; refine oLb ?_; refine sp (po_cat rfl rfl rfl (by omega)) ?_; refine oFb ?_; refine oLb ?_; refine oFb ?_; refine oLb ?_; refine sp (po_buildS str25 rfl (pc (pc (pc .nil))) rfl) ?_; (first | refine oC (c0) rfl (ac .nil) ?_ | refine oC (k1) rfl (ac .nil) ?_); refine oMv ?_; refine oMv ?_ <;> refine sp (pln rfl (tyS rfl)) ?_ <;> refine oCm ?_ <;> (first | refine oPt ?_ | refine oPf ?_) <;> refine oN ?_) | (refine rg 3 ?_; (refine sp (po_load_bx_agg rfl rfl (tyT rfl) rfl (vc (vc (vc (vc (vc (vc (vc .nil))))))) rfl) ?_); (first | refine oC (c0) rfl (ac .nil) ?_ | refine oC (k1) rfl (ac .nil) ?_ | refine oC (c1) rfl (ac .nil) ?_); refine oMv ?_; refine oEx ?_; refine oEx ?_; refine oAs ?_; refine oAs ?_; refine oN ?_) | (refine rg 4 ?_; refine oMv ?_; refine oCm ?_; refine oN ?_) | (refine rg 5 ?_; refine oMv ?_; (first | refine oC (c0) rfl (ac .nil) ?_ | refine oC (k1) rfl (ac .nil) ?_ | refine oC (c1) rfl (ac .nil) ?_ | refine oC (c2) rfl (ac .nil) ?_ | refine oC (c6) rfl (ac .nil) ?_ | refine oC (c7) rfl (ac .nil) ?_); refine oMv ?_; refine oEx ?_; refine oEx ?_; refine sal str57 ?_; refine oS ?_; refine oAs ?_; refine oN ?_) | (refine rg 6 ?_; refine oMv ?_; refine oCm ?_; refine oMv ?_; (refine sp (po_load_bx_agg rfl rfl (tyT rfl) rfl (vc (vc (vc (vc (vc (vc (vc .nil))))))) rfl) ?_) <;> (refine sp (po_load_bx_agg rfl rfl (tyT rfl) rfl (vc (vc (vc (vc (vc (vc (vc .nil))))))) rfl) ?_) <;> (first | refine oC (c0) rfl (ac (ac .nil)) ?_ | refine oC (k1) rfl (ac (ac .nil)) ?_ | refine oC (c1) rfl (ac (ac .nil)) ?_ | refine oC (c2) rfl (ac (ac .nil)) ?_ | refine oC (c6) rfl (ac (ac .nil)) ?_) <;> refine sp (po_not rfl rfl) ?_ <;> (first | refine oPt ?_ | refine oPf ?_) <;> refine oN ?_) | (refine rg 8 ?_; refine oMv ?_; (first | refine oC (c0) rfl (ac .nil) ?_ | refine oC (k1) rfl (ac .nil) ?_ | refine oC (c1) rfl (ac .nil) ?_ | refine oC (c2) rfl (ac .nil) ?_); refine oMv ?_; refine oEx ?_; refine oEx ?_; refine sal str57 ?_; refine oS ?_; refine oAs ?_; refine oN ?_) | (refine rg 9 ?_; refine oMv ?_; refine oCm ?_; refine oN ?_) | (refine rg 10 ?_; refine oC (c0) rfl .nil ?_; refine oAs ?_; refine oN ?_) | refine gc ?_ | refine ct ?_ | refine cf ?_ | refine swp_cond rfl (fun hc => ?_) (fun hc => ?_) | refine rq rfl (rt .nil) ?_)
        rfl
    | inl x =>
      obtain ⟨ok, hmx⟩ := one_req hb1
      have hT : oneT b = .tup [.agg (Ro.reqT x), .v (.int .i64 0)] := by unfold oneT; rw [hb1]
      rw [hT] at c2
      have d1 := bytes_ x ok
      have d2 := may_ x ok
      have d3 := refSameR_ x x ok.hn
      rw [(sameR_iff x x).2 rfl] at d3
      have d4 := one2_ (msgP (rawQ x)) (by have := msg_len (mayR_of hmx).2.2; omega)
      rw [oneT_back hmx] at d4
      unfold bytesT at d1
      rw [hmx, if_pos rfl] at d1
      rw [hmx] at d2
      unfold Ro.reqT at c2 d1 d2 d3 d4
      clear hT hb1 ok hmx
      cases hm : mayR a with
      | false =>
        rw [hm, if_neg (by simp)] at c1
        clear c7 hm
        repeat' (first | (refine rg 0 ?_; refine sbx ?_; refine oAs ?_; refine oN ?_) | (refine rg 1 ?_; refine oFb ?_; refine oLb ?_; refine oFb ?_; refine oLb ?_; refine sp (po_cat rfl rfl rfl (by omega)) ?_; refine oFb ?_; refine oLb ?_; refine oFb ?_; refine oLb ?_; refine sp (po_buildS str25 rfl (pc (pc (pc .nil))) rfl) ?_; (first | refine oC (c0) rfl (ac .nil) ?_ | refine oC (k1) rfl (ac .nil) ?_); refine oMv ?_; refine oMv ?_ <;> refine sp (pln rfl (tyS rfl)) ?_ <;> refine oCm ?_ <;> (first | refine oPt ?_ | refine oPf ?_) <;> refine oN ?_) | (refine rg 3 ?_; (refine sp (po_load_bx_agg rfl rfl (tyT rfl) rfl (vc (vc (vc (vc (vc (vc (vc .nil))))))) rfl) ?_); (first | refine oC (c0) rfl (ac .nil) ?_ | refine oC (k1) rfl (ac .nil) ?_ | refine oC (c1) rfl (ac .nil) ?_); refine oMv ?_; refine oEx ?_; refine oEx ?_; refine oAs ?_; refine oAs ?_; refine oN ?_) | (refine rg 4 ?_; refine oMv ?_; refine oCm ?_; refine oN ?_) | (refine rg 8 ?_; refine oMv ?_; (first | refine oC (c0) rfl (ac .nil) ?_ | refine oC (k1) rfl (ac .nil) ?_ | refine oC (c1) rfl (ac .nil) ?_ | refine oC (c2) rfl (ac .nil) ?_); refine oMv ?_; refine oEx ?_; refine oEx ?_; refine sal str57 ?_; refine oS ?_; refine oAs ?_; refine oN ?_) | (refine rg 9 ?_; refine oMv ?_; refine oCm ?_; refine oN ?_) | (refine rg 11 ?_; (refine sp (po_load_bx_agg rfl rfl (tyT rfl) rfl (vc (vc (vc (vc (vc (vc (vc .nil))))))) rfl) ?_); (first | refine oC (c0) rfl (ac .nil) ?_ | refine oC (k1) rfl (ac .nil) ?_ | refine oC (c1) rfl (ac .nil) ?_ | refine oC (c2) rfl (ac .nil) ?_ | refine oC (d1) rfl (ac .nil) ?_); refine oMv ?_; refine oEx ?_; refine oEx ?_; refine oAs ?_; refine oAs ?_; refine oN ?_) | (refine rg 12 ?_; refine oMv ?_; (first | refine oC (c0) rfl (ac .nil) ?_ | refine oC (k1) rfl (ac .nil) ?_ | refine oC (c1) rfl (ac .nil) ?_ | refine oC (c2) rfl (ac .nil) ?_ | refine oC (d1) rfl (ac .nil) ?_ | refine oC (d2) rfl (ac .nil) ?_ | refine oC (d3) rfl (ac .nil) ?_ | refine oC (d4) rfl (ac .nil) ?_); refine oMv ?_; refine oEx ?_; refine oEx ?_; refine sal str57 ?_; refine oS ?_; refine oAs ?_; refine oN ?_) | (refine rg 13 ?_; (refine sp (po_load_bx_agg rfl rfl (tyT rfl) rfl (vc (vc (vc (vc (vc (vc (vc .nil))))))) rfl) ?_); (first | refine oC (c0) rfl (ac .nil) ?_ | refine oC (k1) rfl (ac .nil) ?_ | refine oC (c1) rfl (ac .nil) ?_ | refine oC (c2) rfl (ac .nil) ?_ | refine oC (d1) rfl (ac .nil) ?_ | refine oC (d2) rfl (ac .nil) ?_); refine oMv ?_; refine oMv ?_ <;> refine oCm ?_ <;> refine oPt ?_ <;> refine oMv ?_ <;> refine oMv ?_ <;> refine oCm ?_ <;> refine oPt ?_ <;> refine oMv ?_ <;> (refine sp (po_load_bx_agg rfl rfl (tyT rfl) rfl (vc (vc (vc (vc (vc (vc (vc .nil))))))) rfl) ?_) <;> (refine sp (po_load_bx_agg rfl rfl (tyT rfl) rfl (vc (vc (vc (vc (vc (vc (vc .nil))))))) rfl) ?_) <;> (first | refine oC (c0) rfl (ac (ac .nil)) ?_ | refine oC (k1) rfl (ac (ac .nil)) ?_ | refine oC (c1) rfl (ac (ac .nil)) ?_ | refine oC (c2) rfl (ac (ac .nil)) ?_ | refine oC (d1) rfl (ac (ac .nil)) ?_ | refine oC (d2) rfl (ac (ac .nil)) ?_ | refine oC (d3) rfl (ac (ac .nil)) ?_) <;> refine oPt ?_ <;> refine oMv ?_ <;> refine oC (c0) rfl .nil ?_ <;> refine oPt ?_ <;> refine oAs ?_ <;> refine oN ?_) | refine gc ?_ | refine ct ?_ | refine cf ?_ | refine swp_cond rfl (fun hc => ?_) (fun hc => ?_) | refine rq rfl (rt .nil) ?_)
        rfl
      | true =>
        have c7 := c7 hm
        rw [hm, if_pos rfl] at c1
        unfold Ro.reqT at c7
        clear hm
        repeat' (first | (refine rg 0 ?_; refine sbx ?_; refine oAs ?_; refine oN ?_) | (refine rg 1 ?_; refine oFb ?_; refine oLb ?_; refine oFb ?_; refine oLb ?_; refine sp (po_cat rfl rfl rfl (by omega)) ?_; refine oFb ?_; refine oLb ?_; refine oFb ?_; refine oLb ?_; refine sp (po_buildS str25 rfl (pc (pc (pc .nil))) rfl) ?_; (first | refine oC (c0) rfl (ac .nil) ?_ | refine oC (k1) rfl (ac .nil) ?_); refine oMv ?_; refine oMv ?_ <;> refine sp (pln rfl (tyS rfl)) ?_ <;> refine oCm ?_ <;> (first | refine oPt ?_ | refine oPf ?_) <;> refine oN ?_) | (refine rg 3 ?_; (refine sp (po_load_bx_agg rfl rfl (tyT rfl) rfl (vc (vc (vc (vc (vc (vc (vc .nil))))))) rfl) ?_); (first | refine oC (c0) rfl (ac .nil) ?_ | refine oC (k1) rfl (ac .nil) ?_ | refine oC (c1) rfl (ac .nil) ?_); refine oMv ?_; refine oEx ?_; refine oEx ?_; refine oAs ?_; refine oAs ?_; refine oN ?_) | (refine rg 4 ?_; refine oMv ?_; refine oCm ?_; refine oN ?_) | (refine rg 5 ?_; refine oMv ?_; (first | refine oC (c0) rfl (ac .nil) ?_ | refine oC (k1) rfl (ac .nil) ?_ | refine oC (c1) rfl (ac .nil) ?_ | refine oC (c2) rfl (ac .nil) ?_ | refine oC (c6) rfl (ac .nil) ?_ | refine oC (c7) rfl (ac .nil) ?_); refine oMv ?_; refine oEx ?_; refine oEx ?_; refine sal str57 ?_; refine oS ?_; refine oAs ?_; refine oN ?_) | (refine rg 6 ?_; refine oMv ?_; refine oCm ?_; refine oMv ?_; (refine sp (po_load_bx_agg rfl rfl (tyT rfl) rfl (vc (vc (vc (vc (vc (vc (vc .nil))))))) rfl) ?_) <;> (refine sp (po_load_bx_agg rfl rfl (tyT rfl) rfl (vc (vc (vc (vc (vc (vc (vc .nil))))))) rfl) ?_) <;> (first | refine oC (c0) rfl (ac (ac .nil)) ?_ | refine oC (k1) rfl (ac (ac .nil)) ?_ | refine oC (c1) rfl (ac (ac .nil)) ?_ | refine oC (c2) rfl (ac (ac .nil)) ?_ | refine oC (c6) rfl (ac (ac .nil)) ?_) <;> refine sp (po_not rfl rfl) ?_ <;> (first | refine oPt ?_ | refine oPf ?_) <;> refine oN ?_) | (refine rg 8 ?_; refine oMv ?_; (first | refine oC (c0) rfl (ac .nil) ?_ | refine oC (k1) rfl (ac .nil) ?_ | refine oC (c1) rfl (ac .nil) ?_ | refine oC (c2) rfl (ac .nil) ?_); refine oMv ?_; refine oEx ?_; refine oEx ?_; refine sal str57 ?_; refine oS ?_; refine oAs ?_; refine oN ?_) | (refine rg 9 ?_; refine oMv ?_; refine oCm ?_; refine oN ?_) | (refine rg 11 ?_; (refine sp (po_load_bx_agg rfl rfl (tyT rfl) rfl (vc (vc (vc (vc (vc (vc (vc .nil))))))) rfl) ?_); (first | refine oC (c0) rfl (ac .nil) ?_ | refine oC (k1) rfl (ac .nil) ?_ | refine oC (c1) rfl (ac .nil) ?_ | refine oC (c2) rfl (ac .nil) ?_ | refine oC (c6) rfl (ac .nil) ?_ | refine oC (c7) rfl (ac .nil) ?_ | refine oC (d1) rfl (ac .nil) ?_); refine oMv ?_; refine oEx ?_; refine oEx ?_; refine oAs ?_; refine oAs ?_; refine oN ?_) | (refine rg 12 ?_; refine oMv ?_; (first | refine oC (c0) rfl (ac .nil) ?_ | refine oC (k1) rfl (ac .nil) ?_ | refine oC (c1) rfl (ac .nil) ?_ | refine oC (c2) rfl (ac .nil) ?_ | refine oC (c6) rfl (ac .nil) ?_ | refine oC (c7) rfl (ac .nil) ?_ | refine oC (d1) rfl (ac .nil) ?_ | refine oC (d2) rfl (ac .nil) ?_ | refine oC (d3) rfl (ac .nil) ?_ | refine oC (d4) rfl (ac .nil) ?_); refine oMv ?_; refine oEx ?_; refine oEx ?_; refine sal str57 ?_; refine oS ?_; refine oAs ?_; refine oN ?_) | (refine rg 13 ?_; (refine sp (po_load_bx_agg rfl rfl (tyT rfl) rfl (vc (vc (vc (vc (vc (vc (vc .nil))))))) rfl) ?_); (first | refine oC (c0) rfl (ac .nil) ?_ | refine oC (k1) rfl (ac .nil) ?_ | refine oC (c1) rfl (ac .nil) ?_ | refine oC (c2) rfl (ac .nil) ?_ | refine oC (c6) rfl (ac .nil) ?_ | refine oC (c7) rfl (ac .nil) ?_ | refine oC (d1) rfl (ac .nil) ?_ | refine oC (d2) rfl (ac .nil) ?_); refine oMv ?_; refine oMv ?_ <;> refine oCm ?_ <;> refine oPt ?_ <;> refine oMv ?_ <;> refine oMv ?_ <;> refine oCm ?_ <;> refine oPt ?_ <;> refine oMv ?_ <;> (refine sp (po_load_bx_agg rfl rfl (tyT rfl) rfl (vc (vc (vc (vc (vc (vc (vc .nil))))))) rfl) ?_) <;> (refine sp (po_load_bx_agg rfl rfl (tyT rfl) rfl (vc (vc (vc (vc (vc (vc (vc .nil))))))) rfl) ?_) <;> (first | refine oC (c0) rfl (ac (ac .nil)) ?_ | refine oC (k1) rfl (ac (ac .nil)) ?_ | refine oC (c1) rfl (ac (ac .nil)) ?_ | refine oC (c2) rfl (ac (ac .nil)) ?_ | refine oC (c6) rfl (ac (ac .nil)) ?_ | refine oC (c7) rfl (ac (ac .nil)) ?_ | refine oC (d1) rfl (ac (ac .nil)) ?_ | refine oC (d2) rfl (ac (ac .nil)) ?_ | refine oC (d3) rfl (ac (ac .nil)) ?_) <;> refine oPt ?_ <;> refine oMv ?_ <;> refine oC (c0) rfl .nil ?_ <;> refine oPt ?_ <;> refine oAs ?_ <;> refine oN ?_) | refine gc ?_ | refine ct ?_ | refine cf ?_ | refine swp_cond rfl (fun hc => ?_) (fun hc => ?_) | refine rq rfl (rt .nil) ?_)
        rfl
theorem law_ (a : Rq.PReq) (b : L8) (ha : okReqW a) (hb : b.length ≤ maxLen) : PCalls Tryz.prog 11 [.agg (Rq.reqT a), .sl 1 (b.map byteT)] (.v (.bool true)) := law2_ (toR a) b (sm_ok ha) hb
end Go.Proofs.YtpncekdhigappaaGreatDoor.RequestBack
