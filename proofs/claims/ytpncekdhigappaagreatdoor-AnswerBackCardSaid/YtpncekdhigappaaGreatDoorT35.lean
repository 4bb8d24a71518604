/- Merged by bundles.py: SimOf3b, PlOf2. -/
import Derived.Test.YtpncekdhigappaaGreatDoorT34
import Derived.Test.YtpncekdhigappaaGreatDoorT27
import Derived.Test.YtpncekdhigappaaGreatDoorT26
/- Requests: of a message: a walk. -/
namespace Go.Proofs.YtpncekdhigappaaGreatDoor.Ro
set_option linter.unusedVariables false
set_option linter.unusedSimpArgs false
open Go.RowKit Mem Sim Opn Hd Str Pth Rq
theorem ofR_cond {r : PRaw} (h : condP (splC 32 r.start.toList) (valsOf hostS r.heads) = true) : ofR r = none := by
  unfold condP at h
  split at h
  · rename_i m t v w h1 h2
    rw [ofR_ok h1 h2]
    unfold of3
    cases hq : (methB m && (decide (v = httpL) && hostB (w.toList.map lowU))) with
    | false => rfl
    | true => rw [hq] at h; cases h
  · rename_i hn
    unfold ofR
    split
    · rename_i m t v w h1 h2
      exact absurd (hn m t v w h1 h2) id
    · rfl
theorem ofR_go {r : PRaw} (h : condP (splC 32 r.start.toList) (valsOf hostS r.heads) = false) : ∃ m t v w, splC 32 r.start.toList = [m, t, v] ∧ valsOf hostS r.heads = [w] ∧ hostB (w.toList.map lowU) = true ∧ ofR r = (targL m t).map fun q => ⟨bs m, bs t, bs q.1, bs q.2, bs (w.toList.map lowU), r.heads, r.body⟩ := by
  unfold condP at h
  split at h
  · rename_i m t v w h1 h2
    have hq : (methB m && (decide (v = httpL) && hostB (w.toList.map lowU))) = true := by
      cases hq : (methB m && (decide (v = httpL) && hostB (w.toList.map lowU))) with
      | false => rw [hq] at h; cases h
      | true => rfl
    refine ⟨m, t, v, w, h1, h2, ?_, ?_⟩
    · simp only [Bool.and_eq_true] at hq; exact hq.2.2
    · rw [ofR_ok h1 h2]; unfold of3; rw [if_pos hq]; rfl
  · cases h
set_option maxRecDepth 100000 in
set_option maxHeartbeats 4000000 in
theorem of_ (r : PRaw) (hr : An.RawOk r) (hs : r.start.size ≤ 100000) (hv : ∀ v ∈ valsOf hostS r.heads, v.size ≤ 200000) : PCalls Tryz.prog 41 [.agg (rawT r)] (ofT (ofR r)) := by
  obtain ⟨hn, _, hb, _⟩ := hr
  have hl := toList_len r.start
  have c1 := split_ r.start 32 (by omega)
  have c2 := all_ hostS r.heads hn
  have co := ownRawP_ r hn (by omega)
  have hpl : ∀ p ∈ splC 32 r.start.toList, p.length ≤ 100000 := fun p hp => by have := splC_part 32 r.start.toList p hp; omega
  have hcond := @ofR_cond r
  have hgo := @ofR_go r
  unfold rawT at co ⊢
  refine pcalls_of Tryz.func41 rfl rfl Tryz.ntmps41 rfl ?_
  generalize ofR r = res at *
  generalize splC 32 r.start.toList = ps at *
  generalize valsOf hostS r.heads = vs at *
  cases hc : condP ps vs with
  | true =>
    rw [hcond hc]
    clear hcond hgo co
    repeat' (first | refine then_go ?_ | refine swp_seq ?_ | refine swp_weak (weak_sub (.cons rfl rfl rfl (.cons rfl rfl rfl (.cons rfl rfl rfl (.cons rfl rfl rfl .nil)))) (.cons rfl rfl rfl (.cons rfl rfl rfl .nil)) .nil) (r3_ rfl r ps vs hpl hv true hc ?_) | (refine rg 0 ?_; refine sbx ?_; refine sal str57 ?_; refine oAs ?_; refine oN ?_) | (refine rg 1 ?_; refine oFb ?_; refine oLb ?_; refine oC (c1) rfl (ac (ac .nil)) ?_; refine oAs ?_; refine oN ?_) | (refine rg 2 ?_; refine oFb ?_; refine oLb ?_; (first | refine oC (c1) rfl (ac (ac .nil)) ?_ | refine oC (c2) rfl (ac (ac .nil)) ?_); refine oAs ?_; refine oN ?_) | (refine rg 4 ?_; refine sp (po_buildS str57 rfl .nil rfl) ?_; refine oS ?_; refine oAs ?_; refine oN ?_) | refine swp_ret ?_ | refine swp_skip ?_ | refine swp_block ?_ | refine swp_exit ?_ | refine block_go ?_ | refine block_exit ?_ | refine block_far rfl ?_ | refine block_ret ?_ | refine then_ret ?_ | refine then_exit ?_ | refine for_ret ?_ | refine for_exit ?_ | refine ct ?_ | refine cf ?_ | refine swp_cond rfl (fun hc => ?_) (fun hc => ?_) | refine rq rfl (.cell rfl rfl (tyT rfl) (vc (vc (vc (vc (vc (vc (vc .nil))))))) rfl (rt .nil)) ?_)
    rfl
  | false =>
    obtain ⟨m, t, v, w, rfl, rfl, hhost, rfl⟩ := hgo hc
    clear hcond hgo
    have l2 := hpl t (by simp)
    have hz := hv w (by simp)
    have c4 := small_ w (by omega)
    rw [(host_map w.toList).2 hhost] at c4
    clear hhost hz
    repeat' (first | refine then_go ?_ | refine swp_seq ?_ | refine swp_weak (weak_sub (.cons rfl rfl rfl (.cons rfl rfl rfl (.cons rfl rfl rfl (.cons rfl rfl rfl .nil)))) (.cons rfl rfl rfl (.cons rfl rfl rfl .nil)) .nil) (r3_ rfl r [m, t, v] [w] hpl hv false hc ?_) | refine swp_weak (weak_sub (.cons rfl rfl rfl (.cons rfl rfl rfl (.cons rfl rfl rfl (.cons rfl rfl rfl .nil)))) (.cons rfl rfl rfl (.cons rfl rfl rfl .nil)) .nil) (r5_ rfl r m t v w _ c4 ?_) | (refine rg 0 ?_; refine sbx ?_; refine sal str57 ?_; refine oAs ?_; refine oN ?_) | (refine rg 1 ?_; refine oFb ?_; refine oLb ?_; refine oC (c1) rfl (ac (ac .nil)) ?_; refine oAs ?_; refine oN ?_) | (refine rg 2 ?_; refine oFb ?_; refine oLb ?_; (first | refine oC (c1) rfl (ac (ac .nil)) ?_ | refine oC (c2) rfl (ac (ac .nil)) ?_); refine oAs ?_; refine oN ?_) | refine swp_ret ?_ | refine swp_skip ?_ | refine swp_block ?_ | refine swp_exit ?_ | refine block_go ?_ | refine block_exit ?_ | refine block_far rfl ?_ | refine block_ret ?_ | refine then_ret ?_ | refine then_exit ?_ | refine for_ret ?_ | refine for_exit ?_ | refine ct ?_ | refine cf ?_ | refine swp_cond rfl (fun hc => ?_) (fun hc => ?_) | refine rq rfl (.cell rfl rfl (tyT rfl) (vc (vc (vc (vc (vc (vc (vc .nil))))))) rfl (rt .nil)) ?_)
    clear c1 c2 c4 hpl hv hc hl hs
    have e6 := bs_connL m
    unfold targL
    by_cases hcn : m = connL
    · have e7 : decide (bs m = ⟨#[67, 79, 78, 78, 69, 67, 84]⟩) = true := by rw [e6, decide_eq_true hcn]
      rw [if_pos hcn]
      have tmap := host_map t
      have tml := Mp.map_len _ t (Nat.le_refl _)
      have c6 := small_ (bs t) (by rw [bs_size]; omega)
      have c7 := mayHost_ (bs (Lib.mapD Mp.lowR t)) (by rw [bs_size]; omega)
      have c8 := contains1_ (bs (Lib.mapD Mp.lowR t)) 58
      rw [bs_toList] at c6 c8
      rw [bs_toList, tmap.1] at c7
      cases thb : hostB (t.map lowU) with
      | false =>
        rw [thb] at c7
        clear tmap tml
        generalize Lib.mapD Mp.lowR t = tm at *
        repeat' (first | (refine rg 6 ?_; refine oFb ?_; refine oLb ?_; refine sp (po_str rfl rfl rfl rfl) ?_; refine oN ?_) | (refine rg 7 ?_; refine oFb ?_; refine oLb ?_; refine oC (c6) rfl (ac .nil) ?_; refine oAs ?_; refine oN ?_) | (refine rg 8 ?_; refine oMv ?_; (first | refine oC (c6) rfl (ac .nil) ?_ | refine oC (c7) rfl (ac .nil) ?_); refine sp (po_not rfl rfl) ?_; refine oMv ?_; (first | refine oMv ?_ | refine oK ?_) <;> (first | refine oC (c6) rfl (ac (ac .nil)) ?_ | refine oC (c7) rfl (ac (ac .nil)) ?_ | refine oK ?_) <;> (first | refine sp (po_not rfl rfl) ?_ | refine oK ?_) <;> refine oPt ?_ <;> refine oN ?_) | (refine rg 9 ?_; refine sp (po_buildS str57 rfl .nil rfl) ?_; refine oS ?_; refine oAs ?_; refine oN ?_) | refine gc ?_ | refine ct ?_ | refine cf ?_ | refine swp_cond rfl (fun hc => ?_) (fun hc => ?_) | refine rq rfl (.cell rfl rfl (tyT rfl) (vc (vc (vc (vc (vc (vc (vc .nil))))))) rfl (rt .nil)) ?_)
        rfl
      | true =>
        rw [thb] at c7
        rw [tmap.2 thb] at c6 c7 c8
        change PCalls _ _ _ (.v (.bool (hasC (t.map lowU)))) at c8
        clear tmap tml thb
        generalize hasC (t.map lowU) = hc at *
        generalize t.map lowU = tl at *
        cases hc with
        | false =>
          repeat' (first | (refine rg 6 ?_; refine oFb ?_; refine oLb ?_; refine sp (po_str rfl rfl rfl rfl) ?_; refine oN ?_) | (refine rg 7 ?_; refine oFb ?_; refine oLb ?_; refine oC (c6) rfl (ac .nil) ?_; refine oAs ?_; refine oN ?_) | (refine rg 8 ?_; refine oMv ?_; (first | refine oC (c6) rfl (ac .nil) ?_ | refine oC (c7) rfl (ac .nil) ?_); refine sp (po_not rfl rfl) ?_; refine oMv ?_; refine oMv ?_ <;> (first | refine oC (c6) rfl (ac (ac .nil)) ?_ | refine oC (c7) rfl (ac (ac .nil)) ?_ | refine oC (c8) rfl (ac (ac .nil)) ?_) <;> refine sp (po_not rfl rfl) ?_ <;> (first | refine oPt ?_ | refine oPf ?_) <;> refine oN ?_) | (refine rg 9 ?_; refine sp (po_buildS str57 rfl .nil rfl) ?_; refine oS ?_; refine oAs ?_; refine oN ?_) | refine gc ?_ | refine ct ?_ | refine cf ?_ | refine swp_cond rfl (fun hc => ?_) (fun hc => ?_) | refine rq rfl (.cell rfl rfl (tyT rfl) (vc (vc (vc (vc (vc (vc (vc .nil))))))) rfl (rt .nil)) ?_)
          rfl
        | true =>
          repeat' (first | refine then_go ?_ | refine swp_seq ?_ | refine swp_weak (weak_sub (.cons rfl rfl rfl (.cons rfl rfl rfl (.cons rfl rfl rfl .nil))) (.cons rfl rfl rfl (.cons rfl rfl rfl (.cons rfl rfl rfl .nil))) .nil) (r15_ rfl r _ _ _ _ _ ?_) | (refine rg 6 ?_; refine oFb ?_; refine oLb ?_; refine sp (po_str rfl rfl rfl rfl) ?_; refine oN ?_) | (refine rg 7 ?_; refine oFb ?_; refine oLb ?_; refine oC (c6) rfl (ac .nil) ?_; refine oAs ?_; refine oN ?_) | (refine rg 8 ?_; refine oMv ?_; (first | refine oC (c6) rfl (ac .nil) ?_ | refine oC (c7) rfl (ac .nil) ?_); refine sp (po_not rfl rfl) ?_; refine oMv ?_; refine oMv ?_ <;> (first | refine oC (c6) rfl (ac (ac .nil)) ?_ | refine oC (c7) rfl (ac (ac .nil)) ?_ | refine oC (c8) rfl (ac (ac .nil)) ?_) <;> refine sp (po_not rfl rfl) ?_ <;> (first | refine oPt ?_ | refine oPf ?_) <;> refine oN ?_) | (refine rg 14 ?_; (refine sp (po_load_bx_agg rfl rfl (tyT rfl) rfl (vc (vc (vc .nil))) rfl) ?_); (first | refine oC (c6) rfl (ac .nil) ?_ | refine oC (c7) rfl (ac .nil) ?_ | refine oC (c8) rfl (ac .nil) ?_ | refine oC (co) rfl (ac .nil) ?_); refine oS ?_; refine oN ?_) | (refine rg 16 ?_; (refine sp (po_load_bx_agg rfl rfl (tyT rfl) rfl (vc (vc (vc (vc (vc (vc (vc .nil))))))) rfl) ?_); refine oS ?_; refine oAs ?_; refine oN ?_) | refine swp_ret ?_ | refine swp_skip ?_ | refine swp_block ?_ | refine swp_exit ?_ | refine block_go ?_ | refine block_exit ?_ | refine block_far rfl ?_ | refine block_ret ?_ | refine then_ret ?_ | refine then_exit ?_ | refine for_ret ?_ | refine for_exit ?_ | refine ct ?_ | refine cf ?_ | refine swp_cond rfl (fun hc => ?_) (fun hc => ?_) | refine rq rfl (.cell rfl rfl (tyT rfl) (vc (vc (vc (vc (vc (vc (vc .nil))))))) rfl (rt .nil)) ?_)
          rfl
    · have e7 : decide (bs m = ⟨#[67, 79, 78, 78, 69, 67, 84]⟩) = false := by rw [e6, decide_eq_false hcn]
      rw [if_neg hcn]
      have c7 := Normal_ (bs t) (by rw [bs_size]; omega)
      rw [bs_toList] at c7
      generalize normL t = nq at *
      cases nq with
      | none =>
        unfold normT at c7
        dsimp only at c7
        repeat' (first | (refine rg 6 ?_; refine oFb ?_; refine oLb ?_; refine sp (po_str rfl rfl rfl rfl) ?_; refine oN ?_) | (refine rg 10 ?_; refine oFb ?_; refine oLb ?_; refine oC (c7) rfl (ac .nil) ?_; refine oMv ?_; refine oEx ?_; refine oEx ?_; refine oEx ?_; refine oAs ?_; refine oAs ?_; refine oAs ?_; refine oN ?_) | (refine rg 11 ?_; refine oMv ?_; refine oCm ?_; refine oN ?_) | (refine rg 12 ?_; refine sp (po_buildS str57 rfl .nil rfl) ?_; refine oS ?_; refine oAs ?_; refine oN ?_) | refine gc ?_ | refine ct ?_ | refine cf ?_ | refine swp_cond rfl (fun hc => ?_) (fun hc => ?_) | refine rq rfl (.cell rfl rfl (tyT rfl) (vc (vc (vc (vc (vc (vc (vc .nil))))))) rfl (rt .nil)) ?_)
        rfl
      | some pq =>
        obtain ⟨p, q⟩ := pq
        unfold normT at c7
        dsimp only at c7
        repeat' (first | refine then_go ?_ | refine swp_seq ?_ | refine swp_weak (weak_sub (.cons rfl rfl rfl (.cons rfl rfl rfl (.cons rfl rfl rfl .nil))) (.cons rfl rfl rfl (.cons rfl rfl rfl (.cons rfl rfl rfl .nil))) .nil) (r15_ rfl r _ _ _ _ _ ?_) | (refine rg 6 ?_; refine oFb ?_; refine oLb ?_; refine sp (po_str rfl rfl rfl rfl) ?_; refine oN ?_) | (refine rg 10 ?_; refine oFb ?_; refine oLb ?_; refine oC (c7) rfl (ac .nil) ?_; refine oMv ?_; refine oEx ?_; refine oEx ?_; refine oEx ?_; refine oAs ?_; refine oAs ?_; refine oAs ?_; refine oN ?_) | (refine rg 11 ?_; refine oMv ?_; refine oCm ?_; refine oN ?_) | (refine rg 13 ?_; refine oMv ?_; refine oMv ?_; refine oFb ?_; refine oS ?_; refine oFb ?_; refine oS ?_; refine oN ?_) | (refine rg 14 ?_; (refine sp (po_load_bx_agg rfl rfl (tyT rfl) rfl (vc (vc (vc .nil))) rfl) ?_); (first | refine oC (c7) rfl (ac .nil) ?_ | refine oC (co) rfl (ac .nil) ?_); refine oS ?_; refine oN ?_) | (refine rg 16 ?_; (refine sp (po_load_bx_agg rfl rfl (tyT rfl) rfl (vc (vc (vc (vc (vc (vc (vc .nil))))))) rfl) ?_); refine oS ?_; refine oAs ?_; refine oN ?_) | refine swp_ret ?_ | refine swp_skip ?_ | refine swp_block ?_ | refine swp_exit ?_ | refine block_go ?_ | refine block_exit ?_ | refine block_far rfl ?_ | refine block_ret ?_ | refine then_ret ?_ | refine then_exit ?_ | refine for_ret ?_ | refine for_exit ?_ | refine ct ?_ | refine cf ?_ | refine swp_cond rfl (fun hc => ?_) (fun hc => ?_) | refine rq rfl (.cell rfl rfl (tyT rfl) (vc (vc (vc (vc (vc (vc (vc .nil))))))) rfl (rt .nil)) ?_)
        rfl
end Go.Proofs.YtpncekdhigappaaGreatDoor.Ro

/- Requests: what a message is, and back: in plain Lean. -/
namespace Go.Proofs.YtpncekdhigappaaGreatDoor.Ro
set_option linter.unusedVariables false
set_option linter.unusedSimpArgs false
open Go.RowKit Mem Sim Opn Hd Str Pth Rq
/-- what a message that is a request looks like -/
structure Is (r : PRaw) (x : PReq) (m t : L8) : Prop where
  sp : splC 32 r.start.toList = [m, t, httpL]
  me : methB m = true
  ta : ∃ q, targL m t = some q
  xm : x.method = bs m
  xt : x.target = bs t
  xh : x.heads = r.heads
  xb : x.body = r.body
theorem ofR_is {r : PRaw} {x : PReq} (h : ofR r = some x) : ∃ m t, Is r x m t := by
  unfold ofR at h
  split at h
  · rename_i m t v hh h1 _
    unfold of3 at h
    split at h
    · rename_i hc
      simp only [Bool.and_eq_true, decide_eq_true_eq] at hc
      obtain ⟨q, hq, hx⟩ := Option.map_eq_some_iff.1 h
      subst hx
      exact ⟨m, t, ⟨by rw [h1, hc.2.1], hc.1, ⟨q, hq⟩, rfl, rfl, rfl, rfl⟩⟩
    · cases h
  · cases h
theorem Is.start {r : PRaw} {x : PReq} {m t : L8} (h : Is r x m t) : r.start.toList = m ++ 32 :: (t ++ 32 :: httpL) := (splC_three h.sp).2
theorem meth_plain {m : L8} (h : methB m = true) : m.all evenB = true ∧ m.length ≤ 16 ∧ ∀ c ∈ m, 65 ≤ c.toNat ∧ c.toNat ≤ 90 := by
  unfold methB at h
  simp only [Bool.and_eq_true, decide_eq_true_eq] at h
  have h1 : ∀ c ∈ m, 65 ≤ c.toNat ∧ c.toNat ≤ 90 := fun c hc => by
    have := (List.all_eq_true.1 h.1) c hc
    simpa using this
  refine ⟨List.all_eq_true.2 fun c hc => ?_, h.2.2, h1⟩
  have := h1 c hc
  unfold evenB oddB oddR
  simp; omega
theorem okL_plain : ∀ {l : L8}, Pth.okL l = true → l.all evenB = true
  | [], _ => rfl
  | c :: l, h => by
    rw [okL_cons, Bool.and_eq_true, Bool.and_eq_true] at h
    rw [List.all_cons, okL_plain h.2, Bool.and_true]
    have hb : badC c = false := by simpa using h.1.1
    unfold badC at hb
    simp only [Bool.or_eq_false_iff, decide_eq_false_iff_not] at hb
    unfold evenB oddB oddR
    simp; omega
theorem low_plain {c : UInt8} (h : hostC (lowU c) = true ∨ digB (lowU c) = true ∨ lowU c = 58) : evenB c = true := by
  have key : ∀ n : Fin 256, ((hostC (lowU (UInt8.ofNat n.1)) || (digB (lowU (UInt8.ofNat n.1)) || decide (lowU (UInt8.ofNat n.1) = 58))) → evenB (UInt8.ofNat n.1) = true) := by decide +kernel
  have := key ⟨c.toNat, c.toNat_lt⟩
  rw [show UInt8.ofNat c.toNat = c by simp] at this
  refine this ?_
  rcases h with h | h | h
  · rw [h]; rfl
  · rw [h]; simp
  · rw [h]; simp
theorem host_plain {t : L8} (h : hostB (t.map lowU) = true) : t.all evenB = true ∧ t.length ≤ 64 := by
  unfold hostB at h
  simp only [Bool.and_eq_true, decide_eq_true_eq] at h
  obtain ⟨h1, _, h3, h4⟩ := h
  rw [List.length_map] at h3
  refine ⟨List.all_eq_true.2 fun c hc => low_plain ?_, h3⟩
  have hm : lowU c ∈ t.map lowU := List.mem_map.2 ⟨c, hc, rfl⟩
  rw [cut58 (t.map lowU), List.mem_append] at hm
  rcases hm with hm | hm
  · exact .inl ((List.all_eq_true.1 h1) _ hm)
  · split at hm
    · rename_i hp
      rw [hp] at h4
      rcases List.mem_cons.1 hm with e | e
      · exact .inr (.inr e)
      · unfold portB at h4
        simp only [Bool.not_true, Bool.false_or, Bool.and_eq_true] at h4
        exact .inr (.inl ((List.all_eq_true.1 h4.2.2.2.1) _ e))
    · cases hm
theorem targ_plain {m t : L8} {q : L8 × L8} (h : targL m t = some q) : t.all evenB = true ∧ t.length ≤ 512 := by
  unfold targL at h
  split at h
  · split at h
    · rename_i hc
      rw [Bool.and_eq_true] at hc
      obtain ⟨h1, h2⟩ := host_plain hc.1
      exact ⟨h1, by omega⟩
    · cases h
  · unfold normL at h
    split at h
    · rename_i hm
      unfold Pth.mayL at hm
      simp only [Bool.and_eq_true, decide_eq_true_eq] at hm
      exact ⟨okL_plain hm.2, hm.1.1⟩
    · cases h
theorem ofR_plain {r : PRaw} {x : PReq} (h : ofR r = some x) : plainP r.start = true ∧ 1 ≤ r.start.size ∧ r.start.size ≤ 578 := by
  obtain ⟨m, t, hi⟩ := ofR_is h
  have hs := hi.start
  obtain ⟨h1, h2, _⟩ := meth_plain hi.me
  obtain ⟨q, hq⟩ := hi.ta
  obtain ⟨h3, h4⟩ := targ_plain hq
  have hl := toList_len r.start
  have e : httpL.all evenB = true := by decide
  have e2 : evenB 32 = true := by decide
  unfold plainP
  rw [hs] at hl ⊢
  simp only [List.length_append, List.length_cons] at hl
  refine ⟨?_, by omega, ?_⟩
  · rw [List.all_append, List.all_cons, List.all_append, List.all_cons, h1, h3, e, e2]; rfl
  · simp only [List.length_nil] at hl
    omega
theorem mayR_of {x : PReq} (h : mayR x = true) : ofR (rawQ x) = some x ∧ fitsP x.heads x.body = true ∧ wrP (rawQ x) = true := by
  unfold mayR at h
  rw [Bool.and_eq_true] at h
  obtain ⟨h1, h2⟩ := h
  cases ho : ofR (rawQ x) with
  | none => rw [ho] at h1; cases h1
  | some y =>
    rw [ho] at h1
    obtain rfl := (sameR_iff y x).1 h1
    obtain ⟨p1, p2, p3⟩ := ofR_plain ho
    refine ⟨rfl, h2, ?_⟩
    unfold wrP
    have h3 : fitsP (rawQ y).heads (rawQ y).body = true := h2
    rw [p1, decide_eq_true p2, decide_eq_true p3, h3]; rfl
/-- a request's bytes are read as its message -/
theorem req_back {x : PReq} (h : mayR x = true) : rawsL (msgP (rawQ x)) = ([rawQ x], 0) := by
  obtain ⟨_, _, h3⟩ := mayR_of h
  refine rawsL_idl ?_
  have := msg_back (rawQ x) h3 []
  exact this
theorem oneR_ok {l : List UInt8} {x : PReq} (h : oneR l = .inl x) : ∃ r, rawsL l = ([r], 0) ∧ ofR r = some x := by
  unfold oneR at h
  split at h
  · cases h
  · rename_i he
    split at h
    · rename_i q hq
      split at h
      · rename_i y hy
        injection h with h; subst h
        refine ⟨q, ?_, hy⟩
        have : (rawsL l).2 = 0 := by simpa using he
        exact Prod.ext hq this
      · cases h
    · cases h
theorem oneR_err {l : List UInt8} {e : Int} (h : oneR l = .inr e) : e ≠ 0 := by
  unfold oneR at h
  split at h
  · rename_i he
    injection h with h; rw [← h]; exact he
  · split at h
    · split at h
      · cases h
      · injection h with h; omega
    · injection h with h; omega
/-- an answer's first line is no request's -/
theorem no_ans {r : PRaw} {l : L8} (h : r.start.toList = [72, 84, 84, 80, 47, 49, 46, 49, 32] ++ l) : ofR r = none := by
  cases ho : ofR r with
  | none => rfl
  | some x =>
    obtain ⟨m, t, hi⟩ := ofR_is ho
    have hs := hi.start
    obtain ⟨_, _, h3⟩ := meth_plain hi.me
    rw [h] at hs
    match m, h3, hs, hi.me with
    | [], _, _, hm => cases hm
    | [a], _, hs, _ => simp at hs
    | [a, b], _, hs, _ => simp at hs
    | [a, b, c], _, hs, _ => simp at hs
    | [a, b, c, d], _, hs, _ => simp at hs
    | a :: b :: c :: d :: e :: m, h3, hs, _ =>
      simp only [List.cons_append, List.cons.injEq] at hs
      have := h3 e (by simp)
      rw [← hs.2.2.2.2.1] at this
      have e : (47 : UInt8).toNat = 47 := rfl
      omega
end Go.Proofs.YtpncekdhigappaaGreatDoor.Ro
