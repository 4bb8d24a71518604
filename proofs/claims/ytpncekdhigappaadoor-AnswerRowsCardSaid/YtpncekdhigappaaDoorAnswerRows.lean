/- The law AnswerRows: a walk. -/
import Derived.Test.YtpncekdhigappaaDoorR32
import Derived.Test.YtpncekdhigappaaDoorR24
namespace Go.Proofs.YtpncekdhigappaaDoor.AnswerRows
set_option linter.unusedVariables false
set_option linter.unusedSimpArgs false
open Go.RowKit Mem Sim Opn Hd Str Rq An
theorem sameA_refl (a : PAns) : sameA a a = true := (sameA_iff a a).2 rfl
def LS (l : List PAns) (c : Int) (s : ByteArray) (k : Nat) : St := ⟨[(0, .t (.sl 3 (l.map ansT))), (1, .t (.v (.int .i64 c))), (2, .t (.v (.string s))), (7, .own 107 ((byL l k).map byteT).length), (8, .own 108 ((okL l k).map ansT).length), (9, .t (.v (.int .i64 (k : Int))))], [], [(107, ⟨5, 1, (byL l k).map byteT⟩), (108, ⟨26, 3, (okL l k).map ansT⟩)]⟩
theorem rawOf_ok {a : PAns} (h : mayA a = true) (hh : ∀ x ∈ a.heads, okHead x) (hb : a.body.length ≤ 3000) : RawOk (rawOf a) := by
  obtain ⟨n, hc, h1, h2, hf⟩ := may_code h
  have hs := start_ok h1 h2
  have e : a.code.toNat = n := by omega
  unfold fitsP mayL at hf
  simp only [Bool.and_eq_true, decide_eq_true_eq] at hf
  refine ⟨by show a.heads.length ≤ 1000; omega, hh, by show a.body.length ≤ 100000; omega, by show (startS a.code.toNat).size ≤ maxLen; rw [e]; have := hs.most; unfold maxLen; omega⟩
set_option maxRecDepth 100000 in
set_option maxHeartbeats 16000000 in
/-- what stands behind the rows: they are read -/
theorem tail_ (w : List PAns) (hw : ∀ a ∈ w, mayA a = true) (hh : ∀ a ∈ w, (∀ x ∈ a.heads, okHead x) ∧ a.body.length ≤ 3000) (hn : w.length ≤ 11) (k : Nat) (hk : k < w.length) : PCalls Tryd.prog 12 [.agg (rawT (rawOf w[k]))] (.tup [.agg (ansT w[k]), .v (.int .i64 0)]) := by
  have hm := hw _ (List.getElem_mem hk)
  obtain ⟨h1, h2⟩ := hh _ (List.getElem_mem hk)
  have c := of_ (rawOf w[k]) (rawOf_ok hm h1 h2)
  obtain ⟨o1, o2⟩ := may_of hm
  unfold ofT at c
  rw [o1, if_pos rfl, o2] at c
  exact c
set_option maxRecDepth 100000 in
set_option maxHeartbeats 16000000 in
theorem law_ (l : List PAns) (c : Int) (s : ByteArray) (hl : ∀ a ∈ l, okAns a) (hc : (Lit.int .i64 c).wf = true) (hs : s.size ≤ maxLen) : PCalls Tryd.prog 4 [.sl 3 (l.map ansT), .v (.int .i64 c), .v (.string s)] (.v (.bool true)) := by
  have c0 := awake_
  have hml : (l.map ansT).length = l.length := List.length_map _
  refine pcalls_of Tryd.func4 rfl rfl Tryd.ntmps4 rfl ?_
  by_cases h10 : 10 < l.length
  · repeat' (first | (refine rg 0 ?_; refine oAs ?_; refine oN ?_) | (refine rg 1 ?_; refine oMv ?_; refine sp (pln rfl (tyS rfl)) ?_; refine oCm ?_; refine oMv ?_; (first | refine oMv ?_ | refine oK ?_ | ((refine ssp (fun hc => ?_) (fun hc => ?_)) <;> first | refine oMv ?_ | refine oK ?_)) <;> (first | refine sp (po_len_str rfl rfl (tyR rfl)) ?_ | refine oK ?_) <;> (first | refine oCm ?_ | refine oK ?_) <;> (first | refine oPt ?_ | refine oPf ?_) <;> (refine oN ?_)) | (refine rg 2 ?_; refine oC (c0) rfl .nil ?_; refine oAs ?_; refine oN ?_) | refine gc ?_ | refine ct ?_ | refine cf ?_ | refine swp_cond rfl (fun hc => ?_) (fun hc => ?_) | refine rq rfl (rt .nil) ?_)
    rfl
  · by_cases h3 : 3000 < s.size
    · repeat' (first | (refine rg 0 ?_; refine oAs ?_; refine oN ?_) | (refine rg 1 ?_; refine oMv ?_; refine sp (pln rfl (tyS rfl)) ?_; refine oCm ?_; refine oMv ?_; (first | refine oMv ?_ | refine oK ?_ | ((refine ssp (fun hc => ?_) (fun hc => ?_)) <;> first | refine oMv ?_ | refine oK ?_)) <;> (first | refine sp (po_len_str rfl rfl (tyR rfl)) ?_ | refine oK ?_) <;> (first | refine oCm ?_ | refine oK ?_) <;> (first | refine oPt ?_ | refine oPf ?_) <;> (refine oN ?_)) | (refine rg 2 ?_; refine oC (c0) rfl .nil ?_; refine oAs ?_; refine oN ?_) | refine gc ?_ | refine ct ?_ | refine cf ?_ | refine swp_cond rfl (fun hc => ?_) (fun hc => ?_) | refine rq rfl (rt .nil) ?_)
      rfl
    · repeat' (first | (refine rg 0 ?_; refine oAs ?_; refine oN ?_) | (refine rg 1 ?_; refine oMv ?_; refine sp (pln rfl (tyS rfl)) ?_; refine oCm ?_; refine oMv ?_; (first | refine oMv ?_ | refine oK ?_ | ((refine ssp (fun hc => ?_) (fun hc => ?_)) <;> first | refine oMv ?_ | refine oK ?_)) <;> (first | refine sp (po_len_str rfl rfl (tyR rfl)) ?_ | refine oK ?_) <;> (first | refine oCm ?_ | refine oK ?_) <;> (first | refine oPt ?_ | refine oPf ?_) <;> (refine oN ?_)) | (refine rg 3 ?_; refine oAs ?_; refine oN ?_) | (refine rg 4 ?_; refine oAs ?_; refine oN ?_) | (refine rg 5 ?_; refine oAs ?_; refine oN ?_) | refine gc ?_ | refine ct ?_ | refine cf ?_ | refine swp_cond rfl (fun hc => ?_) (fun hc => ?_) | refine rq rfl (rt .nil) ?_)
      refine swp_weak (weak_own0 (i := 107) 5 1 (s := 7) rfl rfl) ?_
      refine swp_weak (weak_own0 (i := 108) 26 3 (s := 8) rfl rfl) ?_
      refine swp_for (LS l c s) (fun k => ∀ a ∈ l.take k, longA a = false) l.length (weak_sub (.cons rfl rfl rfl (.cons rfl rfl rfl (.cons rfl rfl rfl (.cons rfl rfl rfl (.cons rfl rfl rfl (.cons rfl rfl rfl .nil)))))) .nil (.cons rfl rfl (.cons rfl rfl .nil))) (by simp) ?_
      intro k hk hI
      have hbl := byL_len l k
      have hol := okL_len l k
      have hmb : ((byL l k).map byteT).length = (byL l k).length := List.length_map _
      have hmo : ((okL l k).map ansT).length = (okL l k).length := List.length_map _
      unfold LS
      by_cases hlt : k < l.length
      · have k1 := longA_ l[k]
        have hmk : (l.map ansT)[k]? = some (ansT l[k]) := map_at hlt
        have hoa := hl l[k] (List.getElem_mem hlt)
        cases hlo : longA l[k] with
        | true =>
          rw [hlo] at k1
          unfold ansT at k1 hmk
          repeat' (first | (refine rg 6 ?_; refine oMv ?_; refine oMv ?_; refine sp (pln rfl (tyS rfl)) ?_; refine oCm ?_; refine oN ?_) | (refine rg 8 ?_; refine oMv ?_; refine oMv ?_; refine sp (pix rfl (tyS rfl)) ?_; (first | refine sp (po_load_bx_agg rfl rfl (tyT rfl) rfl (vc (vc (vc .nil))) rfl) ?_ | refine sp (po_load_agg rfl rfl (tyT rfl) rfl rfl) ?_); (first | refine oC (k1) rfl (ac .nil) ?_ | refine oC (c0) rfl (ac .nil) ?_); refine oN ?_) | (refine rg 9 ?_; (first | refine oC (k1) rfl .nil ?_ | refine oC (c0) rfl .nil ?_); refine oAs ?_; refine oN ?_) | refine gc ?_ | refine ct ?_ | refine cf ?_ | refine swp_cond rfl (fun hc => ?_) (fun hc => ?_) | refine rq rfl (rt .nil) ?_)
          rfl
        | false =>
          rw [hlo] at k1
          obtain ⟨l1, l2, _⟩ := longA_no hlo
          have hIn : ∀ a ∈ l.take (k + 1), longA a = false := by
            intro a ha
            rw [List.take_succ_eq_append_getElem hlt] at ha
            rcases List.mem_append.1 ha with h | h
            · exact hI a h
            · simp at h; subst h; exact hlo
          have c2 := bytesA_ l[k] (by omega) hoa.hh (by omega)
          unfold bytesT at c2
          cases hm : mayA l[k] with
          | false =>
            have y1 := byL_no hlt hm
            have y2 := okL_no hlt hm
            rw [hm, if_neg (by simp)] at c2
            unfold ansT at k1 hmk c2
            repeat' (first | refine for_next hlt (weak_sub (.cons rfl (by first | rfl | (first | (rw [y1]) | (rw [y2]))) rfl (.cons rfl (by first | rfl | (first | (rw [y1]) | (rw [y2]))) rfl (.cons rfl (by first | rfl | (first | (rw [y1]) | (rw [y2]))) rfl (.cons rfl (by first | rfl | (first | (rw [y1]) | (rw [y2]))) rfl (.cons rfl (by first | rfl | (first | (rw [y1]) | (rw [y2]))) rfl (.cons rfl (by first | rfl | (first | (rw [y1]) | (rw [y2]))) rfl .nil)))))) .nil (.cons rfl (by first | rfl | (first | (rw [y1]) | (rw [y2]))) (.cons rfl (by first | rfl | (first | (rw [y1]) | (rw [y2]))) .nil))) hIn | (refine rg 6 ?_; refine oMv ?_; refine oMv ?_; refine sp (pln rfl (tyS rfl)) ?_; refine oCm ?_; refine oN ?_) | (refine rg 8 ?_; refine oMv ?_; refine oMv ?_; refine sp (pix rfl (tyS rfl)) ?_; (first | refine sp (po_load_bx_agg rfl rfl (tyT rfl) rfl (vc (vc (vc .nil))) rfl) ?_ | refine sp (po_load_agg rfl rfl (tyT rfl) rfl rfl) ?_); (first | refine oC (k1) rfl (ac .nil) ?_ | refine oC (c2) rfl (ac .nil) ?_); refine oN ?_) | (refine rg 10 ?_; refine oMv ?_; refine oMv ?_; refine sp (pix rfl (tyS rfl)) ?_; (first | refine sp (po_load_bx_agg rfl rfl (tyT rfl) rfl (vc (vc (vc .nil))) rfl) ?_ | refine sp (po_load_agg rfl rfl (tyT rfl) rfl rfl) ?_); (first | refine oC (k1) rfl (ac .nil) ?_ | refine oC (c2) rfl (ac .nil) ?_); refine oMv ?_; refine oEx ?_; refine oEx ?_; refine oAs ?_; refine oAs ?_; refine oN ?_) | (refine rg 11 ?_; refine oMv ?_; refine oCm ?_; refine oN ?_) | (refine rg 7 ?_; refine oMv ?_; (first | refine sp (xinc rfl) ?_ | refine sp (xadd rfl) ?_); refine oAs ?_; refine oN ?_) | refine gc ?_ | refine ct ?_ | refine cf ?_ | refine swp_cond rfl (fun hc => ?_) (fun hc => ?_) | refine rq rfl (rt .nil) ?_)
          | true =>
            have y1 := byL_yes hlt hm
            have y2 := okL_yes hlt hm
            rw [hm, if_pos rfl] at c2
            have hmp := msgP_len (may_wr hm)
            have hmm : ((msgP (rawOf l[k])).map byteT).length = (msgP (rawOf l[k])).length := List.length_map _
            have hbd : (((byL l k).map byteT).length + ((msgP (rawOf l[k])).map byteT).length) * 1 ≤ 140737488355328 := by omega
            have hbm : ((byL l k).map byteT).length + ((msgP (rawOf l[k])).map byteT).length ≤ maxLen := by unfold maxLen; omega
            have hod : (((okL l k).map ansT).length + 1) * 56 ≤ 140737488355328 := by omega
            have hom : ((okL l k).map ansT).length + 1 ≤ maxLen := by unfold maxLen; omega
            have z1 : (byL l (k + 1)).map byteT = (byL l k).map byteT ++ (msgP (rawOf l[k])).map byteT := by rw [y1, List.map_append]
            have z2 : (okL l (k + 1)).map ansT = (okL l k).map ansT ++ [ansT l[k]] := by rw [y2, List.map_append]; rfl
            generalize msgP (rawOf l[k]) = M at *
            unfold ansT at k1 hmk c2
            repeat' (first | refine for_next hlt (weak_sub (.cons rfl (by first | rfl | (first | (rw [z1]; rfl) | (rw [z1]) | (rw [z2]; rfl) | (rw [z2]))) rfl (.cons rfl (by first | rfl | (first | (rw [z1]; rfl) | (rw [z1]) | (rw [z2]; rfl) | (rw [z2]))) rfl (.cons rfl (by first | rfl | (first | (rw [z1]; rfl) | (rw [z1]) | (rw [z2]; rfl) | (rw [z2]))) rfl (.cons rfl (by first | rfl | (first | (rw [z1]; rfl) | (rw [z1]) | (rw [z2]; rfl) | (rw [z2]))) rfl (.cons rfl (by first | rfl | (first | (rw [z1]; rfl) | (rw [z1]) | (rw [z2]; rfl) | (rw [z2]))) rfl (.cons rfl (by first | rfl | (first | (rw [z1]; rfl) | (rw [z1]) | (rw [z2]; rfl) | (rw [z2]))) rfl .nil)))))) .nil (.cons rfl (by first | rfl | (first | (rw [z1]; rfl) | (rw [z1]) | (rw [z2]; rfl) | (rw [z2]))) (.cons rfl (by first | rfl | (first | (rw [z1]; rfl) | (rw [z1]) | (rw [z2]; rfl) | (rw [z2]))) .nil))) hIn | (refine rg 6 ?_; refine oMv ?_; refine oMv ?_; refine sp (pln rfl (tyS rfl)) ?_; refine oCm ?_; refine oN ?_) | (refine rg 8 ?_; refine oMv ?_; refine oMv ?_; refine sp (pix rfl (tyS rfl)) ?_; (first | refine sp (po_load_bx_agg rfl rfl (tyT rfl) rfl (vc (vc (vc .nil))) rfl) ?_ | refine sp (po_load_agg rfl rfl (tyT rfl) rfl rfl) ?_); (first | refine oC (k1) rfl (ac .nil) ?_ | refine oC (c2) rfl (ac .nil) ?_); refine oN ?_) | (refine rg 10 ?_; refine oMv ?_; refine oMv ?_; refine sp (pix rfl (tyS rfl)) ?_; (first | refine sp (po_load_bx_agg rfl rfl (tyT rfl) rfl (vc (vc (vc .nil))) rfl) ?_ | refine sp (po_load_agg rfl rfl (tyT rfl) rfl rfl) ?_); (first | refine oC (k1) rfl (ac .nil) ?_ | refine oC (c2) rfl (ac .nil) ?_); refine oMv ?_; refine oEx ?_; refine oEx ?_; refine oAs ?_; refine oAs ?_; refine oN ?_) | (refine rg 11 ?_; refine oMv ?_; refine oCm ?_; refine oN ?_) | (refine rg 12 ?_; refine oMv ?_; refine oMv ?_; (first | refine sap rfl (tyE rfl) ?_ | refine san rfl (tyE rfl) ?_); refine oAs ?_; refine oN ?_) | (refine rg 13 ?_; refine oMv ?_; refine oMv ?_; refine oMv ?_; refine sp (pix rfl (tyS rfl)) ?_; (first | refine sp (po_load_bx_agg rfl rfl (tyT rfl) rfl (vc (vc (vc .nil))) rfl) ?_ | refine sp (po_load_agg rfl rfl (tyT rfl) rfl rfl) ?_); refine sp (po_buildSlice rfl (tyE rfl) (dc (.nil _)) rfl rfl rfl) ?_; (first | refine sap rfl (tyE rfl) ?_ | refine san rfl (tyE rfl) ?_); refine oAs ?_; refine oN ?_) | (refine rg 7 ?_; refine oMv ?_; (first | refine sp (xinc rfl) ?_ | refine sp (xadd rfl) ?_); refine oAs ?_; refine oN ?_) | refine gc ?_ | refine ct ?_ | refine cf ?_ | refine swp_cond rfl (fun hc => ?_) (fun hc => ?_) | refine rq rfl (rt .nil) ?_)
      · obtain rfl : k = l.length := by omega
        have hIa : ∀ a ∈ l, longA a = false := by rw [List.take_length] at hI; exact hI
        have hwh : ∀ a ∈ okL l l.length, (∀ x ∈ a.heads, okHead x) ∧ a.body.length ≤ 3000 := by
          intro a ha
          have hal : a ∈ l := by
            have := (List.mem_filter.1 ha).1
            rwa [List.take_length] at this
          exact ⟨(hl a hal).hh, (longA_no (hIa a hal)).1⟩
        have c1 := simple_ c s (by omega)
        unfold simpT at c1
        -- the end of the walk, for whatever rows there are
        have fin : ∀ (w : List PAns), (∀ a ∈ w, mayA a = true) → (∀ a ∈ w, (∀ x ∈ a.heads, okHead x) ∧ a.body.length ≤ 3000) → w.length ≤ 11 → rawsL ((w.map rawOf).flatMap msgP) = (w.map rawOf, 0) ∧ ((w.map rawOf).flatMap msgP).length ≤ 300000 := by
          intro w h1 h2 h4
          have hq : ∀ r ∈ w.map rawOf, wrP r = true := fun r hr => by obtain ⟨a, ha, rfl⟩ := List.mem_map.1 hr; exact may_wr (h1 a ha)
          refine ⟨rows_raws _ hq, ?_⟩
          have := flat_len _ hq
          rw [List.length_map] at this; omega
        cases hm : mayA (simpA c s) with
        | false =>
          rw [hm, if_neg (by simp)] at c1
          have hw := okL_may l l.length
          obtain ⟨f1, f2⟩ := fin (okL l l.length) hw hwh (by omega)
          have c3 := raws_ (byL l l.length) (by have : (byL l l.length).length ≤ 300000 := f2; omega)
          have ht := fun k hk => tail_ (okL l l.length) hw hwh (by omega) k hk
          have hR : rawsL (byL l l.length) = ((okL l l.length).map rawOf, 0) := f1
          rw [hR] at c3
          unfold rawsT at c3
          rw [if_pos rfl] at c3
          dsimp only at c3
          unfold ansT0 at c1
          generalize okL l l.length = W at *
          generalize byL l l.length = B at *
          have hmr : ((W.map rawOf).map rawT).length = W.length := by rw [List.length_map, List.length_map]
          have e1 : (!decide ((((W.map rawOf).map rawT).length : Int) = ((W.map ansT).length : Int))) = false := by rw [hmr, hmo]; simp
          repeat' (first | (refine rg 6 ?_; refine oMv ?_; refine oMv ?_; refine sp (pln rfl (tyS rfl)) ?_; refine oCm ?_; refine oN ?_) | (refine rg 14 ?_; refine oMv ?_; refine oMv ?_; (first | refine oC (c1) rfl (ac (ac .nil)) ?_ | refine oC (c3) rfl (ac (ac .nil)) ?_); refine oMv ?_; refine oEx ?_; refine oEx ?_; refine sal str26 ?_; refine oS ?_; refine oAs ?_; refine oN ?_) | (refine rg 15 ?_; refine oMv ?_; refine oCm ?_; refine oN ?_) | (refine rg 21 ?_; refine oMv ?_; (first | refine oC (c1) rfl (ac .nil) ?_ | refine oC (c3) rfl (ac .nil) ?_); refine oMv ?_; refine oEx ?_; refine oEx ?_; refine oAs ?_; refine oAs ?_; refine oN ?_) | (refine rg 22 ?_; refine oMv ?_; refine oCm ?_; refine oMv ?_; (first | refine oMv ?_ | refine oK ?_ | ((refine ssp (fun hc => ?_) (fun hc => ?_)) <;> first | refine oMv ?_ | refine oK ?_)) <;> (first | refine sp (pln rfl (tyS rfl)) ?_ | refine oK ?_) <;> (first | refine oMv ?_ | refine oK ?_) <;> (first | refine sp (pln rfl (tyS rfl)) ?_ | refine oK ?_) <;> (first | refine oCm ?_ | refine oK ?_) <;> (first | refine oPt ?_ | refine oPf ?_) <;> (refine oN ?_)) | (refine rg 24 ?_; refine oAs ?_; refine oN ?_) | refine gc ?_ | refine ct ?_ | refine cf ?_ | refine swp_cond rfl (fun hc => ?_) (fun hc => ?_) | refine rq rfl (rt .nil) ?_)
          refine swp_for (fun k => ⟨[(8, .own 108 (W.map ansT).length), (16, .t (.sl 3 ((W.map rawOf).map rawT))), (18, .t (.v (.int .i64 (k : Int))))], [], [(108, ⟨26, 3, W.map ansT⟩)]⟩) (fun _ => True) W.length (weak_sub (.cons rfl rfl rfl (.cons rfl rfl rfl (.cons rfl rfl rfl .nil))) .nil (.cons rfl rfl .nil)) trivial ?_
          clear hk hlt
          intro k hk _
          by_cases hlt : k < W.length
          · have c5 := ht k hlt
            have c6 := refSameA_ W[k] W[k] (by have := hw _ (List.getElem_mem hlt); obtain ⟨n, _, _, _, hf⟩ := may_code this; unfold fitsP mayL at hf; simp only [Bool.and_eq_true, decide_eq_true_eq] at hf; omega)
            rw [sameA_refl] at c6
            have hm1 : ((W.map rawOf).map rawT)[k]? = some (rawT (rawOf W[k])) := by rw [List.getElem?_map, List.getElem?_map, List.getElem?_eq_getElem hlt]; rfl
            have hm2 : (W.map ansT)[k]? = some (ansT W[k]) := map_at hlt
            unfold rawT at hm1 c5
            unfold ansT at hm2 c5 c6
            repeat' (first | refine for_next hlt (weak_sub (.cons rfl rfl rfl (.cons rfl rfl rfl (.cons rfl rfl rfl .nil))) .nil (.cons rfl rfl .nil)) trivial | (refine rg 25 ?_; refine oMv ?_; refine oMv ?_; refine sp (pln rfl (tyS rfl)) ?_; refine oCm ?_; refine oN ?_) | (refine rg 27 ?_; refine oMv ?_; refine oMv ?_; refine sp (pix rfl (tyS rfl)) ?_; (first | refine sp (po_load_bx_agg rfl rfl (tyT rfl) rfl (vc (vc (vc .nil))) rfl) ?_ | refine sp (po_load_agg rfl rfl (tyT rfl) rfl rfl) ?_); (first | refine oC (c5) rfl (ac .nil) ?_ | refine oC (c6) rfl (ac .nil) ?_); refine oMv ?_; refine oEx ?_; refine oEx ?_; refine sal str26 ?_; refine oS ?_; refine oAs ?_; refine oN ?_) | (refine rd 28 ?_; refine dMv ?_; refine dCm ?_; refine dMv ?_; (first | refine dp (po_load_bx_agg rfl rfl (tyT rfl) rfl (vc (vc (vc .nil))) rfl) ?_ | refine dp (po_load_agg rfl rfl (tyT rfl) rfl rfl) ?_ | refine dK ?_ | ((refine dsp (fun hc => ?_) (fun hc => ?_)) <;> first | refine dp (po_load_bx_agg rfl rfl (tyT rfl) rfl (vc (vc (vc .nil))) rfl) ?_ | refine dp (po_load_agg rfl rfl (tyT rfl) rfl rfl) ?_ | refine dK ?_)) <;> (first | refine dMv ?_ | refine dK ?_) <;> (first | refine dMv ?_ | refine dK ?_) <;> (first | refine dp (pix rfl (tyS rfl)) ?_ | refine dK ?_) <;> (first | refine dp (po_load_bx_agg rfl rfl (tyT rfl) rfl (vc (vc (vc .nil))) rfl) ?_ | refine dp (po_load_agg rfl rfl (tyT rfl) rfl rfl) ?_ | refine dK ?_) <;> (first | refine dC (c5) rfl (ac (ac .nil)) ?_ | refine dC (c6) rfl (ac (ac .nil)) ?_ | refine dK ?_) <;> (first | refine dp (po_not rfl rfl) ?_ | refine dK ?_) <;> (first | refine dPt ?_ | refine dPf ?_) <;> (refine dN ?_) <;> (refine oN ?_)) | (refine rg 26 ?_; refine oMv ?_; (first | refine sp (xinc rfl) ?_ | refine sp (xadd rfl) ?_); refine oAs ?_; refine oN ?_) | refine gc ?_ | refine ct ?_ | refine cf ?_ | refine swp_cond rfl (fun hc => ?_) (fun hc => ?_) | refine rq rfl (rt .nil) ?_)
          · obtain rfl : k = W.length := by omega
            repeat' (first | (refine rg 25 ?_; refine oMv ?_; refine oMv ?_; refine sp (pln rfl (tyS rfl)) ?_; refine oCm ?_; refine oN ?_) | (refine rg 30 ?_; refine oC (c0) rfl .nil ?_; refine oAs ?_; refine oN ?_) | refine gc ?_ | refine ct ?_ | refine cf ?_ | refine swp_cond rfl (fun hc => ?_) (fun hc => ?_) | refine rq rfl (rt .nil) ?_)
            rfl
        | true =>
          rw [hm, if_pos rfl] at c1
          have hcs : ∀ x ∈ (simpA c s).heads, okHead x := fun h hh => by
            simp [simpA] at hh; subst hh
            exact ⟨cl_okA, by have := digitsP_size s.size; show (digitsP s.size).size ≤ maxLen; unfold maxLen; omega⟩
          have hbs : (simpA c s).body.length ≤ 3000 := by show s.toList.length ≤ 3000; rw [toList_len]; omega
          have c2 := bytesA_ (simpA c s) (by simp [simpA]) hcs (by omega)
          unfold bytesT at c2
          rw [hm, if_pos rfl] at c2
          have hmp := msgP_len (may_wr hm)
          have hmm : ((msgP (rawOf (simpA c s))).map byteT).length = (msgP (rawOf (simpA c s))).length := List.length_map _
          have hw : ∀ a ∈ okL l l.length ++ [simpA c s], mayA a = true := fun a ha => by
            rcases List.mem_append.1 ha with h | h
            · exact okL_may l l.length a h
            · simp at h; subst h; exact hm
          have hwh2 : ∀ a ∈ okL l l.length ++ [simpA c s], (∀ x ∈ a.heads, okHead x) ∧ a.body.length ≤ 3000 := fun a ha => by
            rcases List.mem_append.1 ha with h | h
            · exact hwh a h
            · simp at h; subst h; exact ⟨hcs, hbs⟩
          have hwl : (okL l l.length ++ [simpA c s]).length ≤ 11 := by rw [List.length_append]; simp; omega
          obtain ⟨f1, f2⟩ := fin (okL l l.length ++ [simpA c s]) hw hwh2 hwl
          have hB : ((okL l l.length ++ [simpA c s]).map rawOf).flatMap msgP = byL l l.length ++ msgP (rawOf (simpA c s)) := by
            unfold byL; rw [List.map_append, List.flatMap_append]; simp
          rw [hB] at f1 f2
          have c3 := raws_ (byL l l.length ++ msgP (rawOf (simpA c s))) (by omega)
          have ht := fun k hk => tail_ (okL l l.length ++ [simpA c s]) hw hwh2 hwl k hk
          rw [f1] at c3
          unfold rawsT at c3
          rw [if_pos rfl] at c3
          dsimp only at c3
          have hbd : (((byL l l.length).map byteT).length + ((msgP (rawOf (simpA c s))).map byteT).length) * 1 ≤ 140737488355328 := by omega
          have hbm : ((byL l l.length).map byteT).length + ((msgP (rawOf (simpA c s))).map byteT).length ≤ maxLen := by unfold maxLen; omega
          have hod : (((okL l l.length).map ansT).length + 1) * 56 ≤ 140737488355328 := by omega
          have hom : ((okL l l.length).map ansT).length + 1 ≤ maxLen := by unfold maxLen; omega
          rw [List.map_append] at c3
          have hWm : (okL l l.length ++ [simpA c s]).map ansT = (okL l l.length).map ansT ++ [ansT (simpA c s)] := by rw [List.map_append]; rfl
          generalize hWd : okL l l.length ++ [simpA c s] = W at *
          have hmr : ((W.map rawOf).map rawT).length = W.length := by rw [List.length_map, List.length_map]
          have hmw : (W.map ansT).length = W.length := List.length_map _
          have hW2 : ((okL l l.length).map ansT ++ [ansT (simpA c s)]).length = W.length := by rw [← hWm, hmw]
          have e1 : (!decide ((((W.map rawOf).map rawT).length : Int) = (((okL l l.length).map ansT ++ [ansT (simpA c s)]).length : Int))) = false := by rw [hmr, hW2]; simp
          have e2 : (!decide (c = c)) = false := by simp
          have e3 : (!decide (bs s.toList = s)) = false := by rw [bs_list]; simp
          generalize msgP (rawOf (simpA c s)) = M at *
          unfold ansT simpA at c1 c2
          repeat' (first | (refine rg 6 ?_; refine oMv ?_; refine oMv ?_; refine sp (pln rfl (tyS rfl)) ?_; refine oCm ?_; refine oN ?_) | (refine rg 14 ?_; refine oMv ?_; refine oMv ?_; (first | refine oC (c1) rfl (ac (ac .nil)) ?_ | refine oC (c2) rfl (ac (ac .nil)) ?_ | refine oC (c3) rfl (ac (ac .nil)) ?_); refine oMv ?_; refine oEx ?_; refine oEx ?_; refine sal str26 ?_; refine oS ?_; refine oAs ?_; refine oN ?_) | (refine rg 15 ?_; refine oMv ?_; refine oCm ?_; refine oN ?_) | (refine rg 16 ?_; (first | refine sp (po_load_bx_agg rfl rfl (tyT rfl) rfl (vc (vc (vc .nil))) rfl) ?_ | refine sp (po_load_agg rfl rfl (tyT rfl) rfl rfl) ?_); (first | refine oC (c1) rfl (ac .nil) ?_ | refine oC (c2) rfl (ac .nil) ?_ | refine oC (c3) rfl (ac .nil) ?_); refine oMv ?_; refine oEx ?_; refine oEx ?_; refine oAs ?_; refine oAs ?_; refine oN ?_) | (refine rg 17 ?_; refine oMv ?_; refine oCm ?_; refine oMv ?_; (first | refine oFb ?_ | refine oFd ?_ | refine oK ?_ | ((refine ssp (fun hc => ?_) (fun hc => ?_)) <;> first | refine oFb ?_ | refine oFd ?_ | refine oK ?_)) <;> (first | refine oLb ?_ | refine oLd ?_ | refine oK ?_) <;> (first | refine oMv ?_ | refine oK ?_) <;> (first | refine oCm ?_ | refine oK ?_) <;> (first | refine oPt ?_ | refine oPf ?_) <;> (refine oMv ?_) <;> (first | refine oFb ?_ | refine oFd ?_ | refine oK ?_ | ((refine ssp (fun hc => ?_) (fun hc => ?_)) <;> first | refine oFb ?_ | refine oFd ?_ | refine oK ?_)) <;> (first | refine oLb ?_ | refine oLd ?_ | refine oK ?_) <;> (first | refine sp (po_bytes_str rfl rfl (by first | exact .t _ | exact .own rfl (by first | rfl | assumption | omega | (simp; done) | (simp; omega) | (simp at *; omega)) | exact .nil _ | exact .emp _) byt24 (tyR rfl)) ?_ | refine oK ?_) <;> (first | refine oMv ?_ | refine oK ?_) <;> (first | refine sp (po_str rfl rfl rfl rfl) ?_ | refine oK ?_) <;> (first | refine oPt ?_ | refine oPf ?_) <;> (refine oN ?_)) | (refine rg 19 ?_; refine oMv ?_; refine oMv ?_; (first | refine sap rfl (tyE rfl) ?_ | refine san rfl (tyE rfl) ?_); refine oAs ?_; refine oN ?_) | (refine rg 20 ?_; refine oMv ?_; (first | refine sp (po_load_bx_agg rfl rfl (tyT rfl) rfl (vc (vc (vc .nil))) rfl) ?_ | refine sp (po_load_agg rfl rfl (tyT rfl) rfl rfl) ?_); refine sp (po_buildSlice rfl (tyE rfl) (dc (.nil _)) rfl rfl rfl) ?_; (first | refine sap rfl (tyE rfl) ?_ | refine san rfl (tyE rfl) ?_); refine oAs ?_; refine oN ?_) | (refine rg 21 ?_; refine oMv ?_; (first | refine oC (c1) rfl (ac .nil) ?_ | refine oC (c2) rfl (ac .nil) ?_ | refine oC (c3) rfl (ac .nil) ?_); refine oMv ?_; refine oEx ?_; refine oEx ?_; refine oAs ?_; refine oAs ?_; refine oN ?_) | (refine rg 22 ?_; refine oMv ?_; refine oCm ?_; refine oMv ?_; (first | refine oMv ?_ | refine oK ?_ | ((refine ssp (fun hc => ?_) (fun hc => ?_)) <;> first | refine oMv ?_ | refine oK ?_)) <;> (first | refine sp (pln rfl (tyS rfl)) ?_ | refine oK ?_) <;> (first | refine oMv ?_ | refine oK ?_) <;> (first | refine sp (pln rfl (tyS rfl)) ?_ | refine oK ?_) <;> (first | refine oCm ?_ | refine oK ?_) <;> (first | refine oPt ?_ | refine oPf ?_) <;> (refine oN ?_)) | (refine rg 24 ?_; refine oAs ?_; refine oN ?_) | refine gc ?_ | refine ct ?_ | refine cf ?_ | refine swp_cond rfl (fun hc => ?_) (fun hc => ?_) | refine rq rfl (rt .nil) ?_)
          refine swp_for (fun k => ⟨[(8, .own 108 (W.map ansT).length), (16, .t (.sl 3 ((W.map rawOf).map rawT))), (18, .t (.v (.int .i64 (k : Int))))], [], [(108, ⟨26, 3, W.map ansT⟩)]⟩) (fun _ => True) W.length (weak_sub (.cons rfl (by first | rfl | (first | (rw [hWm]; rfl) | (rw [hWm]))) rfl (.cons rfl (by first | rfl | (first | (rw [hWm]; rfl) | (rw [hWm]))) rfl (.cons rfl (by first | rfl | (first | (rw [hWm]; rfl) | (rw [hWm]))) rfl .nil))) .nil (.cons rfl (by first | rfl | (first | (rw [hWm]; rfl) | (rw [hWm]))) .nil)) trivial ?_
          clear hk hlt
          intro k hk _
          by_cases hlt : k < W.length
          · have c5 := ht k hlt
            have c6 := refSameA_ W[k] W[k] (by have := hw _ (List.getElem_mem hlt); obtain ⟨n, _, _, _, hf⟩ := may_code this; unfold fitsP mayL at hf; simp only [Bool.and_eq_true, decide_eq_true_eq] at hf; omega)
            rw [sameA_refl] at c6
            have hm1 : ((W.map rawOf).map rawT)[k]? = some (rawT (rawOf W[k])) := by rw [List.getElem?_map, List.getElem?_map, List.getElem?_eq_getElem hlt]; rfl
            have hm2 : (W.map ansT)[k]? = some (ansT W[k]) := map_at hlt
            unfold rawT at hm1 c5
            unfold ansT at hm2 c5 c6
            repeat' (first | refine for_next hlt (weak_sub (.cons rfl rfl rfl (.cons rfl rfl rfl (.cons rfl rfl rfl .nil))) .nil (.cons rfl rfl .nil)) trivial | (refine rg 25 ?_; refine oMv ?_; refine oMv ?_; refine sp (pln rfl (tyS rfl)) ?_; refine oCm ?_; refine oN ?_) | (refine rg 27 ?_; refine oMv ?_; refine oMv ?_; refine sp (pix rfl (tyS rfl)) ?_; (first | refine sp (po_load_bx_agg rfl rfl (tyT rfl) rfl (vc (vc (vc .nil))) rfl) ?_ | refine sp (po_load_agg rfl rfl (tyT rfl) rfl rfl) ?_); (first | refine oC (c5) rfl (ac .nil) ?_ | refine oC (c6) rfl (ac .nil) ?_); refine oMv ?_; refine oEx ?_; refine oEx ?_; refine sal str26 ?_; refine oS ?_; refine oAs ?_; refine oN ?_) | (refine rd 28 ?_; refine dMv ?_; refine dCm ?_; refine dMv ?_; (first | refine dp (po_load_bx_agg rfl rfl (tyT rfl) rfl (vc (vc (vc .nil))) rfl) ?_ | refine dp (po_load_agg rfl rfl (tyT rfl) rfl rfl) ?_ | refine dK ?_ | ((refine dsp (fun hc => ?_) (fun hc => ?_)) <;> first | refine dp (po_load_bx_agg rfl rfl (tyT rfl) rfl (vc (vc (vc .nil))) rfl) ?_ | refine dp (po_load_agg rfl rfl (tyT rfl) rfl rfl) ?_ | refine dK ?_)) <;> (first | refine dMv ?_ | refine dK ?_) <;> (first | refine dMv ?_ | refine dK ?_) <;> (first | refine dp (pix rfl (tyS rfl)) ?_ | refine dK ?_) <;> (first | refine dp (po_load_bx_agg rfl rfl (tyT rfl) rfl (vc (vc (vc .nil))) rfl) ?_ | refine dp (po_load_agg rfl rfl (tyT rfl) rfl rfl) ?_ | refine dK ?_) <;> (first | refine dC (c5) rfl (ac (ac .nil)) ?_ | refine dC (c6) rfl (ac (ac .nil)) ?_ | refine dK ?_) <;> (first | refine dp (po_not rfl rfl) ?_ | refine dK ?_) <;> (first | refine dPt ?_ | refine dPf ?_) <;> (refine dN ?_) <;> (refine oN ?_)) | (refine rg 26 ?_; refine oMv ?_; (first | refine sp (xinc rfl) ?_ | refine sp (xadd rfl) ?_); refine oAs ?_; refine oN ?_) | refine gc ?_ | refine ct ?_ | refine cf ?_ | refine swp_cond rfl (fun hc => ?_) (fun hc => ?_) | refine rq rfl (rt .nil) ?_)
          · obtain rfl : k = W.length := by omega
            repeat' (first | (refine rg 25 ?_; refine oMv ?_; refine oMv ?_; refine sp (pln rfl (tyS rfl)) ?_; refine oCm ?_; refine oN ?_) | (refine rg 30 ?_; refine oC (c0) rfl .nil ?_; refine oAs ?_; refine oN ?_) | refine gc ?_ | refine ct ?_ | refine cf ?_ | refine swp_cond rfl (fun hc => ?_) (fun hc => ?_) | refine rq rfl (rt .nil) ?_)
            rfl
end Go.Proofs.YtpncekdhigappaaDoor.AnswerRows
