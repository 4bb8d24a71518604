/- The law RequestRows: a walk. -/
import Derived.Test.YtpncekdhigappaaGreatDoorRequestBack
import Derived.Test.YtpncekdhigappaaGreatDoorS35
namespace Go.Proofs.YtpncekdhigappaaGreatDoor.RequestRows
set_option linter.unusedVariables false
set_option linter.unusedSimpArgs false
open Go.RowKit Mem Sim Opn Hd Str Pth Rq Ro RequestMay
def okL (l : List Ro.PReq) (k : Nat) : List Ro.PReq := (l.take k).filter mayR
def byL (l : List Ro.PReq) (k : Nat) : List UInt8 := ((okL l k).map rawQ).flatMap msgP
theorem okL_yes {l : List Ro.PReq} {k : Nat} (hk : k < l.length) (h : mayR l[k] = true) : okL l (k + 1) = okL l k ++ [l[k]] := by
  unfold okL
  rw [List.take_succ_eq_append_getElem hk, List.filter_append]; simp [h]
theorem okL_no {l : List Ro.PReq} {k : Nat} (hk : k < l.length) (h : mayR l[k] = false) : okL l (k + 1) = okL l k := by
  unfold okL
  rw [List.take_succ_eq_append_getElem hk, List.filter_append]; simp [h]
theorem byL_yes {l : List Ro.PReq} {k : Nat} (hk : k < l.length) (h : mayR l[k] = true) : byL l (k + 1) = byL l k ++ msgP (rawQ l[k]) := by
  unfold byL
  rw [okL_yes hk h, List.map_append, List.flatMap_append]; simp
theorem byL_no {l : List Ro.PReq} {k : Nat} (hk : k < l.length) (h : mayR l[k] = false) : byL l (k + 1) = byL l k := by
  unfold byL; rw [okL_no hk h]
theorem okL_may (l : List Ro.PReq) (k : Nat) : ∀ a ∈ okL l k, mayR a = true := fun a ha => (List.mem_filter.1 ha).2
theorem okL_len (l : List Ro.PReq) (k : Nat) : (okL l k).length ≤ k := by
  unfold okL
  exact Nat.le_trans (List.length_filter_le _ _) (by rw [List.length_take]; omega)
theorem okL_wr (l : List Ro.PReq) (k : Nat) : ∀ r ∈ (okL l k).map rawQ, wrP r = true := fun r hr => by
  obtain ⟨a, ha, rfl⟩ := List.mem_map.1 hr
  exact (mayR_of (okL_may l k a ha)).2.2
theorem byL_len (l : List Ro.PReq) (k : Nat) : (byL l k).length ≤ 20000 * k := by
  have h := An.flat_len _ (okL_wr l k)
  rw [List.length_map] at h
  have := okL_len l k
  unfold byL; omega
def LS (l : List Ro.PReq) (k : Nat) : St := ⟨[(0, .t (.sl 7 (l.map Ro.reqT))), (3, .own 103 ((byL l k).map byteT).length), (4, .own 104 ((okL l k).map Ro.reqT).length), (5, .t (.v (.int .i64 (k : Int))))], [], [(103, ⟨5, 1, (byL l k).map byteT⟩), (104, ⟨57, 7, (okL l k).map Ro.reqT⟩)]⟩
theorem req_at {l : List Ro.PReq} {k : Nat} (h : k < l.length) : (l.map Ro.reqT)[k]? = some (Ro.reqT l[k]) := by
  rw [List.getElem?_map, List.getElem?_eq_getElem h]; rfl
set_option maxRecDepth 100000 in
set_option maxHeartbeats 16000000 in
theorem law2_ (l : List Ro.PReq) (hl : ∀ a ∈ l, Sm a) : PCalls Tryz.prog 13 [.sl 7 (l.map Ro.reqT)] (.v (.bool true)) := by
  have c0 := awake_
  have hml : (l.map Ro.reqT).length = l.length := List.length_map _
  refine pcalls_of Tryz.func13 rfl rfl Tryz.ntmps13 rfl ?_
  by_cases h10 : 10 < l.length
  · repeat' (first | (refine rg 0 ?_; refine oAs ?_; refine oN ?_) | (refine rg 1 ?_; refine oMv ?_; refine sp (pln rfl (tyS rfl)) ?_; refine oCm ?_; refine oN ?_) | (refine rg 2 ?_; refine oC (c0) rfl .nil ?_; refine oAs ?_; refine oN ?_) | refine gc ?_ | refine ct ?_ | refine cf ?_ | refine swp_cond rfl (fun hc => ?_) (fun hc => ?_) | refine rq rfl (rt .nil) ?_)
    rfl
  · repeat' (first | (refine rg 0 ?_; refine oAs ?_; refine oN ?_) | (refine rg 1 ?_; refine oMv ?_; refine sp (pln rfl (tyS rfl)) ?_; refine oCm ?_; refine oN ?_) | (refine rg 3 ?_; refine oAs ?_; refine oN ?_) | (refine rg 4 ?_; refine oAs ?_; refine oN ?_) | (refine rg 5 ?_; refine oAs ?_; refine oN ?_) | refine gc ?_ | refine ct ?_ | refine cf ?_ | refine swp_cond rfl (fun hc => ?_) (fun hc => ?_) | refine rq rfl (rt .nil) ?_)
    refine swp_weak (weak_own0 (i := 103) 5 1 (s := 3) rfl rfl) ?_
    refine swp_weak (weak_own0 (i := 104) 57 7 (s := 4) rfl rfl) ?_
    refine swp_for (LS l) (fun k => ∀ a ∈ l.take k, longW (cutR a) = false) l.length (weak_sub (.cons rfl rfl rfl (.cons rfl rfl rfl (.cons rfl rfl rfl (.cons rfl rfl rfl .nil)))) .nil (.cons rfl rfl (.cons rfl rfl .nil))) (by simp) ?_
    intro k hk hI
    have hbl := byL_len l k
    have hol := okL_len l k
    have hmb : ((byL l k).map byteT).length = (byL l k).length := List.length_map _
    have hmo : ((okL l k).map Ro.reqT).length = (okL l k).length := List.length_map _
    unfold LS
    by_cases hlt : k < l.length
    · have k1 := longW_ (cutR l[k])
      have hmk := req_at hlt
      have hoa := hl l[k] (List.getElem_mem hlt)
      have okA := short_ok hoa
      obtain ⟨a1, a2, _, _, _, _⟩ := hoa
      unfold rawT at k1
      change PCalls _ _ [.agg [.v (.string (l[k].method ++ l[k].target)), headsT l[k].heads, .sl 1 (l[k].body.map byteT)]] _ at k1
      cases hlo : longW (cutR l[k]) with
      | true =>
        rw [hlo] at k1
        unfold Ro.reqT at hmk
        clear okA hlo
        repeat' (first | (refine rg 6 ?_; refine oMv ?_; refine oMv ?_; refine sp (pln rfl (tyS rfl)) ?_; refine oCm ?_; refine oN ?_) | (refine rd 8 ?_; refine dMv ?_; refine dMv ?_; refine dp (pix rfl (tyS rfl)) ?_; (first | refine dFb ?_ | refine dFd ?_); (first | refine dLb ?_ | refine dLd ?_); refine dMv ?_; refine dMv ?_; refine dp (pix rfl (tyS rfl)) ?_; (first | refine dFb ?_ | refine dFd ?_); (first | refine dLb ?_ | refine dLd ?_); refine dp (po_cat rfl rfl rfl (by omega)) ?_; refine dMv ?_; refine dMv ?_; refine dp (pix rfl (tyS rfl)) ?_; (first | refine dFb ?_ | refine dFd ?_); (first | refine dLb ?_ | refine dLd ?_); refine dMv ?_; refine dMv ?_; refine dp (pix rfl (tyS rfl)) ?_; (first | refine dFb ?_ | refine dFd ?_); (first | refine dLb ?_ | refine dLd ?_); refine dp (po_buildS str25 rfl (pc (pc (pc .nil))) rfl) ?_; refine dC (k1) rfl (ac .nil) ?_; refine dN ?_; refine oN ?_) | (refine rg 9 ?_; (first | refine oC (k1) rfl .nil ?_ | refine oC (c0) rfl .nil ?_); refine oAs ?_; refine oN ?_) | refine gc ?_ | refine ct ?_ | refine cf ?_ | refine swp_cond rfl (fun hc => ?_) (fun hc => ?_) | refine rq rfl (rt .nil) ?_)
        rfl
      | false =>
        rw [hlo] at k1
        have okA := okA hlo
        have hIn : ∀ a ∈ l.take (k + 1), longW (cutR a) = false := by
          intro a ha
          rw [List.take_succ_eq_append_getElem hlt] at ha
          rcases List.mem_append.1 ha with h | h
          · exact hI a h
          · simp at h; subst h; exact hlo
        have c2 := bytes_ l[k] okA
        unfold bytesT at c2
        clear okA hlo
        cases hm : mayR l[k] with
        | false =>
          have y1 := byL_no hlt hm
          have y2 := okL_no hlt hm
          rw [hm, if_neg (by simp)] at c2
          unfold Ro.reqT at hmk c2
          repeat' (first | refine for_next hlt (weak_sub (.cons rfl (by rfl) rfl (.cons rfl (by first | rfl | ((rw [y1]))) rfl (.cons rfl (by first | rfl | (first | (rw [y1]) | (rw [y2]))) rfl (.cons rfl (by rfl) rfl .nil)))) .nil (.cons rfl (by first | rfl | ((rw [y1]))) (.cons rfl (by first | rfl | (first | (rw [y1]) | (rw [y2]))) .nil))) hIn | (refine rg 6 ?_; refine oMv ?_; refine oMv ?_; refine sp (pln rfl (tyS rfl)) ?_; refine oCm ?_; refine oN ?_) | (refine rd 8 ?_; refine dMv ?_; refine dMv ?_; refine dp (pix rfl (tyS rfl)) ?_; (first | refine dFb ?_ | refine dFd ?_); (first | refine dLb ?_ | refine dLd ?_); refine dMv ?_; refine dMv ?_; refine dp (pix rfl (tyS rfl)) ?_; (first | refine dFb ?_ | refine dFd ?_); (first | refine dLb ?_ | refine dLd ?_); refine dp (po_cat rfl rfl rfl (by omega)) ?_; refine dMv ?_; refine dMv ?_; refine dp (pix rfl (tyS rfl)) ?_; (first | refine dFb ?_ | refine dFd ?_); (first | refine dLb ?_ | refine dLd ?_); refine dMv ?_; refine dMv ?_; refine dp (pix rfl (tyS rfl)) ?_; (first | refine dFb ?_ | refine dFd ?_); (first | refine dLb ?_ | refine dLd ?_); refine dp (po_buildS str25 rfl (pc (pc (pc .nil))) rfl) ?_; refine dC (k1) rfl (ac .nil) ?_; refine dN ?_; refine oN ?_) | (refine rg 10 ?_; refine oMv ?_; refine oMv ?_; refine sp (pix rfl (tyS rfl)) ?_; (first | refine sp (po_load_bx_agg rfl rfl (tyT rfl) rfl (vc (vc (vc (vc (vc (vc (vc .nil))))))) rfl) ?_ | refine sp (po_load_agg rfl rfl (tyT rfl) rfl rfl) ?_); (first | refine oC (k1) rfl (ac .nil) ?_ | refine oC (c2) rfl (ac .nil) ?_); refine oMv ?_; refine oEx ?_; refine oEx ?_; refine oAs ?_; refine oAs ?_; refine oN ?_) | (refine rg 11 ?_; refine oMv ?_; refine oCm ?_; refine oN ?_) | (refine rg 7 ?_; refine oMv ?_; refine sp (xinc rfl) ?_; refine oAs ?_; refine oN ?_) | refine gc ?_ | refine ct ?_ | refine cf ?_)
        | true =>
          have y1 := byL_yes hlt hm
          have y2 := okL_yes hlt hm
          rw [hm, if_pos rfl] at c2
          have hmp := An.msgP_len (mayR_of hm).2.2
          have hmm : ((msgP (rawQ l[k])).map byteT).length = (msgP (rawQ l[k])).length := List.length_map _
          have hbd : (((byL l k).map byteT).length + ((msgP (rawQ l[k])).map byteT).length) * 1 ≤ 140737488355328 := by omega
          have hbm : ((byL l k).map byteT).length + ((msgP (rawQ l[k])).map byteT).length ≤ maxLen := by unfold maxLen; omega
          have hod : (((okL l k).map Ro.reqT).length + 1) * 128 ≤ 140737488355328 := by omega
          have hom : ((okL l k).map Ro.reqT).length + 1 ≤ maxLen := by unfold maxLen; omega
          have z1 : (byL l (k + 1)).map byteT = (byL l k).map byteT ++ (msgP (rawQ l[k])).map byteT := by rw [y1, List.map_append]
          have z2 : (okL l (k + 1)).map Ro.reqT = (okL l k).map Ro.reqT ++ [Ro.reqT l[k]] := by rw [y2, List.map_append]; rfl
          generalize msgP (rawQ l[k]) = M at *
          unfold Ro.reqT at hmk c2
          repeat' (first | refine for_next hlt (weak_sub (.cons rfl (by rfl) rfl (.cons rfl (by first | rfl | (first | (rw [z1]; rfl) | (rw [z1]))) rfl (.cons rfl (by first | rfl | (first | (rw [z1]; rfl) | (rw [z1]) | (rw [z2]; rfl))) rfl (.cons rfl (by rfl) rfl .nil)))) .nil (.cons rfl (by first | rfl | (first | (rw [z1]; rfl) | (rw [z1]))) (.cons rfl (by first | rfl | (first | (rw [z1]; rfl) | (rw [z1]) | (rw [z2]; rfl))) .nil))) hIn | (refine rg 6 ?_; refine oMv ?_; refine oMv ?_; refine sp (pln rfl (tyS rfl)) ?_; refine oCm ?_; refine oN ?_) | (refine rd 8 ?_; refine dMv ?_; refine dMv ?_; refine dp (pix rfl (tyS rfl)) ?_; (first | refine dFb ?_ | refine dFd ?_); (first | refine dLb ?_ | refine dLd ?_); refine dMv ?_; refine dMv ?_; refine dp (pix rfl (tyS rfl)) ?_; (first | refine dFb ?_ | refine dFd ?_); (first | refine dLb ?_ | refine dLd ?_); refine dp (po_cat rfl rfl rfl (by omega)) ?_; refine dMv ?_; refine dMv ?_; refine dp (pix rfl (tyS rfl)) ?_; (first | refine dFb ?_ | refine dFd ?_); (first | refine dLb ?_ | refine dLd ?_); refine dMv ?_; refine dMv ?_; refine dp (pix rfl (tyS rfl)) ?_; (first | refine dFb ?_ | refine dFd ?_); (first | refine dLb ?_ | refine dLd ?_); refine dp (po_buildS str25 rfl (pc (pc (pc .nil))) rfl) ?_; refine dC (k1) rfl (ac .nil) ?_; refine dN ?_; refine oN ?_) | (refine rg 10 ?_; refine oMv ?_; refine oMv ?_; refine sp (pix rfl (tyS rfl)) ?_; (first | refine sp (po_load_bx_agg rfl rfl (tyT rfl) rfl (vc (vc (vc (vc (vc (vc (vc .nil))))))) rfl) ?_ | refine sp (po_load_agg rfl rfl (tyT rfl) rfl rfl) ?_); (first | refine oC (k1) rfl (ac .nil) ?_ | refine oC (c2) rfl (ac .nil) ?_); refine oMv ?_; refine oEx ?_; refine oEx ?_; refine oAs ?_; refine oAs ?_; refine oN ?_) | (refine rg 11 ?_; refine oMv ?_; refine oCm ?_; refine oN ?_) | (refine rg 12 ?_; refine oMv ?_; refine oMv ?_; refine sap rfl (tyE rfl) ?_; refine oAs ?_; refine oN ?_) | (refine rg 13 ?_; refine oMv ?_; refine oMv ?_; refine oMv ?_; refine sp (pix rfl (tyS rfl)) ?_; (first | refine sp (po_load_bx_agg rfl rfl (tyT rfl) rfl (vc (vc (vc (vc (vc (vc (vc .nil))))))) rfl) ?_ | refine sp (po_load_agg rfl rfl (tyT rfl) rfl rfl) ?_); refine sp (po_buildSlice rfl (tyE rfl) (dc (.nil _)) rfl rfl rfl) ?_; refine sap rfl (tyE rfl) ?_; refine oAs ?_; refine oN ?_) | (refine rg 7 ?_; refine oMv ?_; refine sp (xinc rfl) ?_; refine oAs ?_; refine oN ?_) | refine gc ?_ | refine ct ?_ | refine cf ?_)
    · obtain rfl : k = l.length := by omega
      have hIa : ∀ a ∈ l, longW (cutR a) = false := by rw [List.take_length] at hI; exact hI
      have hwh : ∀ a ∈ okL l l.length, ReqOk a := fun a ha => by
        have hal : a ∈ l := by
          have := (List.mem_filter.1 ha).1
          rwa [List.take_length] at this
        exact short_ok (hl a hal) (hIa a hal)
      have hw := okL_may l l.length
      have c3 := raws_ (byL l l.length) (by omega)
      have hR : rawsL (byL l l.length) = ((okL l l.length).map rawQ, 0) := An.rows_raws _ (okL_wr l l.length)
      rw [hR] at c3
      unfold rawsT at c3
      rw [if_pos rfl] at c3
      dsimp only at c3
      clear hR hI hIa hl
      generalize okL l l.length = W at *
      generalize byL l l.length = B at *
      have hmr : ((W.map rawQ).map rawT).length = W.length := by rw [List.length_map, List.length_map]
      have e1 : (!decide ((((W.map rawQ).map rawT).length : Int) = ((W.map Ro.reqT).length : Int))) = false := by rw [hmr, hmo]; simp
      repeat' (first | (refine rg 6 ?_; refine oMv ?_; refine oMv ?_; refine sp (pln rfl (tyS rfl)) ?_; refine oCm ?_; refine oN ?_) | (refine rg 14 ?_; refine oMv ?_; refine oC (c3) rfl (ac .nil) ?_; refine oMv ?_; refine oEx ?_; refine oEx ?_; refine oAs ?_; refine oAs ?_; refine oN ?_) | (refine rg 15 ?_; refine oMv ?_; refine oCm ?_; refine oMv ?_; refine oMv ?_ <;> refine sp (pln rfl (tyS rfl)) ?_ <;> refine oMv ?_ <;> refine sp (pln rfl (tyS rfl)) ?_ <;> refine oCm ?_ <;> (first | refine oPt ?_ | refine oPf ?_) <;> refine oN ?_) | (refine rg 17 ?_; refine oAs ?_; refine oN ?_) | refine gc ?_ | refine ct ?_ | refine cf ?_ | refine swp_cond rfl (fun hc => ?_) (fun hc => ?_) | refine rq rfl (rt .nil) ?_)
      refine swp_for (fun k => ⟨[(4, .own 104 (W.map Ro.reqT).length), (8, .t (.sl 3 ((W.map rawQ).map rawT))), (10, .t (.v (.int .i64 (k : Int))))], [], [(104, ⟨57, 7, W.map Ro.reqT⟩)]⟩) (fun _ => True) W.length (weak_sub (.cons rfl rfl rfl (.cons rfl rfl rfl (.cons rfl rfl rfl .nil))) .nil (.cons rfl rfl .nil)) trivial ?_
      clear hk hlt
      intro k hk _
      by_cases hlt : k < W.length
      · have hok := hwh _ (List.getElem_mem hlt)
        have c5 := of_ (rawQ W[k]) (rawQ_ok _ hok) (rawQ_size _ hok) hok.hv
        rw [(mayR_of (hw _ (List.getElem_mem hlt))).1] at c5
        have c6 := refSameR_ W[k] W[k] hok.hn
        rw [(sameR_iff _ _).2 rfl] at c6
        have hm1 : ((W.map rawQ).map rawT)[k]? = some (rawT (rawQ W[k])) := by rw [List.getElem?_map, List.getElem?_map, List.getElem?_eq_getElem hlt]; rfl
        have hm2 := req_at hlt
        unfold ofT at c5
        dsimp only at c5
        unfold rawT at hm1 c5
        unfold Ro.reqT at hm2 c5 c6
        clear hok
        repeat' (first | refine for_next hlt (weak_sub (.cons rfl rfl rfl (.cons rfl rfl rfl (.cons rfl rfl rfl .nil))) .nil (.cons rfl rfl .nil)) trivial | (refine rg 18 ?_; refine oMv ?_; refine oMv ?_; refine sp (pln rfl (tyS rfl)) ?_; refine oCm ?_; refine oN ?_) | (refine rg 20 ?_; refine oMv ?_; refine oMv ?_; refine sp (pix rfl (tyS rfl)) ?_; (first | refine sp (po_load_bx_agg rfl rfl (tyT rfl) rfl (vc (vc (vc .nil))) rfl) ?_ | refine sp (po_load_agg rfl rfl (tyT rfl) rfl rfl) ?_); refine oC (c5) rfl (ac .nil) ?_; refine oMv ?_; refine oEx ?_; refine oEx ?_; refine sal str57 ?_; refine oS ?_; refine oAs ?_; refine oN ?_) | (refine rd 21 ?_; refine dMv ?_; refine dCm ?_; refine dMv ?_; (refine dp (po_load_bx_agg rfl rfl (tyT rfl) rfl (vc (vc (vc (vc (vc (vc (vc .nil))))))) rfl) ?_) <;> refine dMv ?_ <;> refine dMv ?_ <;> refine dp (pix rfl (tyS rfl)) ?_ <;> (first | refine dp (po_load_bx_agg rfl rfl (tyT rfl) rfl (vc (vc (vc (vc (vc (vc (vc .nil))))))) rfl) ?_ | refine dp (po_load_agg rfl rfl (tyT rfl) rfl rfl) ?_) <;> (first | refine dC (c5) rfl (ac (ac .nil)) ?_ | refine dC (c6) rfl (ac (ac .nil)) ?_) <;> refine dp (po_not rfl rfl) ?_ <;> (first | refine dPt ?_ | refine dPf ?_) <;> refine dN ?_ <;> refine oN ?_) | (refine rg 19 ?_; refine oMv ?_; refine sp (xinc rfl) ?_; refine oAs ?_; refine oN ?_) | refine gc ?_ | refine ct ?_ | refine cf ?_)
      · obtain rfl : k = W.length := by omega
        repeat' (first | (refine rg 18 ?_; refine oMv ?_; refine oMv ?_; refine sp (pln rfl (tyS rfl)) ?_; refine oCm ?_; refine oN ?_) | (refine rg 23 ?_; refine oC (c0) rfl .nil ?_; refine oAs ?_; refine oN ?_) | refine gc ?_ | refine ct ?_ | refine cf ?_ | refine swp_cond rfl (fun hc => ?_) (fun hc => ?_) | refine rq rfl (rt .nil) ?_)
        rfl
theorem law_ (l : List Rq.PReq) (hl : ∀ a ∈ l, okReqW a) : PCalls Tryz.prog 13 [.sl 7 (l.map Rq.reqT)] (.v (.bool true)) := by
  have h := law2_ (l.map toR) (fun a ha => by obtain ⟨b, hb, rfl⟩ := List.mem_map.1 ha; exact sm_ok (hl b hb))
  rw [List.map_map] at h
  exact h
end Go.Proofs.YtpncekdhigappaaGreatDoor.RequestRows
