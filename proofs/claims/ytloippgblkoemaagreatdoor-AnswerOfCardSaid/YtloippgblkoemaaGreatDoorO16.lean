/- Merged by bundles.py: SimHd7, SimHd8. -/
import Derived.Test.YtloippgblkoemaaGreatDoorO15
/- Headers: a line read: walks. -/
namespace Go.Proofs.YtloippgblkoemaaGreatDoor.Hd
set_option linter.unusedVariables false
set_option linter.unusedSimpArgs false
open Go.RowKit Mem Sim Opn Str
def head0 : Pl.Head := ⟨bs [], bs []⟩
def readC (s : ByteArray) : Pl.Head := ⟨small (s.extract 0 (fidx s 58)), bs (trimB ws (s.toList.drop (fidx s 58 + 1)))⟩
/-- what a line is read as -/
def readH (s : ByteArray) : Pl.Head × Int := if s.size ≤ 578 then (if fidx s 58 < s.size then (if good (readC s) then (readC s, 0) else (head0, 2)) else (head0, 2)) else (head0, 6)
def readT (r : Pl.Head × Int) : T := .tup [.agg (headT r.1), .v (.int .i64 r.2)]
theorem ba_extract (s : ByteArray) (a b : Nat) : s.extract a b = bs ((s.toList.take b).drop a) := by
  conv => lhs; rw [← toList_bs s]
  exact bs_extract _ _ _
theorem small_size (s : ByteArray) : (small s).size = s.size := by unfold small; rw [bs_size, List.length_map, toList_len]
theorem trimB_len (cs l : List UInt8) : (trimB cs l).length ≤ l.length := Nat.le_trans (rdrop_len _ _) (List.dropWhile_sublist _).length_le
theorem readC_ok (s : ByteArray) (hs : s.size ≤ maxLen) : okHead (readC s) := by
  constructor
  · show (small _).size ≤ maxLen
    rw [small_size, ByteArray.size_extract]; omega
  · show (bs _).size ≤ maxLen
    rw [bs_size]
    have h1 := trimB_len ws (s.toList.drop (fidx s 58 + 1))
    rw [List.length_drop, toList_len] at h1; omega
set_option maxRecDepth 100000 in
theorem read_ (s : ByteArray) (hs : s.size ≤ maxLen) : PCalls Tryz.prog 128 [.v (.string s)] (readT (readH s)) := by
  have c1 := cut_ s 58 hs
  have hml : s.size ≤ 9223372036854775807 := by unfold maxLen at hs; omega
  unfold readH
  refine pcalls_of Tryz.func128 rfl rfl Tryz.ntmps128 rfl ?_
  by_cases h578 : s.size ≤ 578
  · rw [if_pos h578]
    unfold cutT at c1
    by_cases hf : fidx s 58 < s.size
    · rw [if_pos hf]
      rw [if_pos hf, ba_extract s (fidx s 58 + 1), show s.toList.take s.size = s.toList from take_full s (Nat.lt_irrefl _)] at c1
      have c2 := small_ (s.extract 0 (fidx s 58)) (by rw [ByteArray.size_extract]; omega)
      have c3 := trim_ (s.toList.drop (fidx s 58 + 1)) (by rw [List.length_drop, toList_len]; omega)
      have c4 := may_ (readC s) (readC_ok s hs)
      cases hg : good (readC s) with
      | true =>
        rw [hg] at c4
        rw [if_pos rfl]
        repeat' (first | (refine rg 0 ?_; refine sal str65 ?_; refine oAs ?_; refine oN ?_) | (refine rg 1 ?_; refine oMv ?_; refine sp (po_len_str rfl rfl (tyR rfl)) ?_; refine oCm ?_; refine oN ?_) | (refine rg 3 ?_; refine oMv ?_; refine oC (c1) rfl (ac (ac .nil)) ?_; refine oMv ?_; refine oEx ?_; refine oEx ?_; refine oEx ?_; refine oAs ?_; refine oAs ?_; refine oAs ?_; refine oN ?_) | (refine rg 4 ?_; refine oMv ?_; (first | refine oC (c1) rfl (ac .nil) ?_ | refine oC (c2) rfl (ac .nil) ?_); refine oMv ?_; (first | refine oC (c1) rfl (ac (ac .nil)) ?_ | refine oC (c2) rfl (ac (ac .nil)) ?_ | refine oC (c3) rfl (ac (ac .nil)) ?_); refine sp (po_buildS str65 rfl (pc (pc .nil)) rfl) ?_; refine sal str65 ?_; refine oS ?_; refine oN ?_) | (refine rg 5 ?_; refine oMv ?_; refine sp (po_not rfl rfl) ?_; refine oMv ?_; refine sp (po_load_bx_agg rfl rfl (tyT rfl) rfl (vc (vc .nil)) rfl) ?_ <;> (first | refine oC (c1) rfl (ac .nil) ?_ | refine oC (c2) rfl (ac .nil) ?_ | refine oC (c3) rfl (ac .nil) ?_ | refine oC (c4) rfl (ac .nil) ?_) <;> refine sp (po_not rfl rfl) ?_ <;> (first | refine oPt ?_ | refine oPf ?_) <;> refine oN ?_) | (refine rg 7 ?_; refine sp (po_load_bx_agg rfl rfl (tyT rfl) rfl (vc (vc .nil)) rfl) ?_; refine oS ?_; refine oAs ?_; refine oN ?_) | refine gc ?_ | refine ct ?_ | refine cf ?_ | refine swp_cond rfl (fun hc => ?_) (fun hc => ?_) | refine rq rfl (.cell rfl rfl (tyT rfl) (vc (vc .nil)) rfl (rt .nil)) ?_)
        rfl
      | false =>
        rw [hg] at c4
        rw [if_neg (by simp)]
        repeat' (first | (refine rg 0 ?_; refine sal str65 ?_; refine oAs ?_; refine oN ?_) | (refine rg 1 ?_; refine oMv ?_; refine sp (po_len_str rfl rfl (tyR rfl)) ?_; refine oCm ?_; refine oN ?_) | (refine rg 3 ?_; refine oMv ?_; refine oC (c1) rfl (ac (ac .nil)) ?_; refine oMv ?_; refine oEx ?_; refine oEx ?_; refine oEx ?_; refine oAs ?_; refine oAs ?_; refine oAs ?_; refine oN ?_) | (refine rg 4 ?_; refine oMv ?_; (first | refine oC (c1) rfl (ac .nil) ?_ | refine oC (c2) rfl (ac .nil) ?_); refine oMv ?_; (first | refine oC (c1) rfl (ac (ac .nil)) ?_ | refine oC (c2) rfl (ac (ac .nil)) ?_ | refine oC (c3) rfl (ac (ac .nil)) ?_); refine sp (po_buildS str65 rfl (pc (pc .nil)) rfl) ?_; refine sal str65 ?_; refine oS ?_; refine oN ?_) | (refine rg 5 ?_; refine oMv ?_; refine sp (po_not rfl rfl) ?_; refine oMv ?_; refine sp (po_load_bx_agg rfl rfl (tyT rfl) rfl (vc (vc .nil)) rfl) ?_ <;> (first | refine oC (c1) rfl (ac .nil) ?_ | refine oC (c2) rfl (ac .nil) ?_ | refine oC (c3) rfl (ac .nil) ?_ | refine oC (c4) rfl (ac .nil) ?_) <;> refine sp (po_not rfl rfl) ?_ <;> (first | refine oPt ?_ | refine oPf ?_) <;> refine oN ?_) | (refine rg 6 ?_; refine sp (po_buildS str65 rfl .nil rfl) ?_; refine oS ?_; refine oAs ?_; refine oN ?_) | refine gc ?_ | refine ct ?_ | refine cf ?_ | refine swp_cond rfl (fun hc => ?_) (fun hc => ?_) | refine rq rfl (.cell rfl rfl (tyT rfl) (vc (vc .nil)) rfl (rt .nil)) ?_)
        rfl
    · rw [if_neg hf]
      rw [if_neg hf] at c1
      have c2 := small_ s hs
      have c3 := trim_ [] (by simp)
      repeat' (first | (refine rg 0 ?_; refine sal str65 ?_; refine oAs ?_; refine oN ?_) | (refine rg 1 ?_; refine oMv ?_; refine sp (po_len_str rfl rfl (tyR rfl)) ?_; refine oCm ?_; refine oN ?_) | (refine rg 3 ?_; refine oMv ?_; refine oC (c1) rfl (ac (ac .nil)) ?_; refine oMv ?_; refine oEx ?_; refine oEx ?_; refine oEx ?_; refine oAs ?_; refine oAs ?_; refine oAs ?_; refine oN ?_) | (refine rg 4 ?_; refine oMv ?_; (first | refine oC (c1) rfl (ac .nil) ?_ | refine oC (c2) rfl (ac .nil) ?_); refine oMv ?_; (first | refine oC (c1) rfl (ac (ac .nil)) ?_ | refine oC (c2) rfl (ac (ac .nil)) ?_ | refine oC (c3) rfl (ac (ac .nil)) ?_); refine sp (po_buildS str65 rfl (pc (pc .nil)) rfl) ?_; refine sal str65 ?_; refine oS ?_; refine oN ?_) | (refine rg 5 ?_; refine oMv ?_; refine sp (po_not rfl rfl) ?_; refine oMv ?_; (first | refine sp (po_load_bx_agg rfl rfl (tyT rfl) rfl (vc (vc .nil)) rfl) ?_ | refine sp (po_load_agg rfl rfl (tyT rfl) rfl rfl) ?_ | refine oK ?_) <;> (first | refine oC (c1) rfl (ac .nil) ?_ | refine oC (c2) rfl (ac .nil) ?_ | refine oC (c3) rfl (ac .nil) ?_ | refine oK ?_) <;> (first | refine sp (po_not rfl rfl) ?_ | refine oK ?_) <;> refine oPt ?_ <;> refine oN ?_) | (refine rg 6 ?_; refine sp (po_buildS str65 rfl .nil rfl) ?_; refine oS ?_; refine oAs ?_; refine oN ?_) | refine gc ?_ | refine ct ?_ | refine cf ?_ | refine swp_cond rfl (fun hc => ?_) (fun hc => ?_) | refine rq rfl (.cell rfl rfl (tyT rfl) (vc (vc .nil)) rfl (rt .nil)) ?_)
      rfl
  · rw [if_neg h578]
    repeat' (first | (refine rg 0 ?_; refine sal str65 ?_; refine oAs ?_; refine oN ?_) | (refine rg 1 ?_; refine oMv ?_; refine sp (po_len_str rfl rfl (tyR rfl)) ?_; refine oCm ?_; refine oN ?_) | (refine rg 2 ?_; refine sp (po_buildS str65 rfl .nil rfl) ?_; refine oS ?_; refine oAs ?_; refine oN ?_) | refine gc ?_ | refine ct ?_ | refine cf ?_ | refine swp_cond rfl (fun hc => ?_) (fun hc => ?_) | refine rq rfl (.cell rfl rfl (tyT rfl) (vc (vc .nil)) rfl (rt .nil)) ?_)
    rfl
theorem fidx_step {s : ByteArray} {c : UInt8} {k : Nat} (h : k ≤ fidx s c) (hk : k < s.size) (hne : s[k] ≠ c) : k + 1 ≤ fidx s c := by
  rcases Nat.lt_or_ge k (fidx s c) with h1 | h1
  · exact h1
  · exfalso
    have e : fidx s c = k := by omega
    unfold fidx at e
    have hl : k < s.toList.length := by rw [toList_len]; exact hk
    have h2 := List.findIdx_getElem (p := (· == c)) (xs := s.toList) (w := by rw [e]; exact hl)
    have h3 := toList_get s k hk
    rw [List.getElem?_eq_getElem hl] at h3
    have h3 := Option.some.inj h3
    simp only [e, h3] at h2
    exact hne (eq_of_beq h2)
theorem fidx_hit {s : ByteArray} {c : UInt8} {k : Nat} (h : k ≤ fidx s c) (hk : k < s.size) (he : s[k] = c) : fidx s c = k := by
  rcases Nat.lt_or_ge k (fidx s c) with h1 | h1
  · exfalso
    have hl : k < s.toList.length := by rw [toList_len]; exact hk
    have h2 := List.not_of_lt_findIdx (p := (· == c)) (xs := s.toList) h1
    have h3 := toList_get s k hk
    rw [List.getElem?_eq_getElem hl] at h3
    have h3 := Option.some.inj h3
    rw [h3] at h2
    exact absurd he (by simpa using h2)
  · omega
/-- blank or tab, as numbers -/
theorem ws_at (b : UInt8) : inB ws b = (decide ((b.toNat : Int) = 32) || decide ((b.toNat : Int) = 9)) := by
  unfold inB ws
  simp only [List.any_cons, List.any_nil, Bool.or_false]
  rw [Bool.eq_iff_iff]; simp; omega
theorem toList_at (s : ByteArray) {k : Nat} (h : k < s.size) : s.toList[k]'(by rw [toList_len]; exact h) = s[k] := by
  have h3 := toList_get s k h
  rw [List.getElem?_eq_getElem (by rw [toList_len]; exact h)] at h3
  exact Option.some.inj h3
theorem value_eq {s : ByteArray} {f a b : Nat} (hb : b ≤ s.size) (h1 : (s.toList.drop (f + 1)).dropWhile (inB ws) = s.toList.drop a) (h2 : rdrop (inB ws) (s.toList.drop a) = (s.toList.drop a).take (b - a)) (hab : a ≤ b) : s.extract a b = bs (trimB ws (s.toList.drop (f + 1))) := by
  rw [ba_extract]
  congr 1
  unfold trimB
  rw [h1, h2, List.drop_take]
theorem rd_step {s : ByteArray} {a b : Nat} (hab : a < b) (hb : b ≤ s.size) (h : rdrop (inB ws) (s.toList.drop a) = rdrop (inB ws) ((s.toList.drop a).take (b - a))) :
    rdrop (inB ws) (s.toList.drop a) = if inB ws (s[b - 1]'(by omega)) then rdrop (inB ws) ((s.toList.drop a).take (b - 1 - a)) else (s.toList.drop a).take (b - a) := by
  have hl : (s.toList.drop a).length = s.size - a := by rw [List.length_drop, toList_len]
  have hk : b - 1 - a < (s.toList.drop a).length := by omega
  have e3 : (s.toList.drop a).take (b - a) = (s.toList.drop a).take (b - 1 - a) ++ [s[b - 1]'(by omega)] := by
    conv => lhs; rw [show b - a = (b - 1 - a) + 1 by omega]
    rw [List.take_succ_eq_append_getElem hk, List.getElem_drop]
    congr 2
    rw [← toList_at s (show b - 1 < s.size by omega)]
    congr 1; omega
  rw [h, e3, rdrop_snoc]
set_option maxRecDepth 100000 in
set_option maxHeartbeats 4000000 in
theorem refRead_ (s : ByteArray) (hs : s.size ≤ maxLen) : PCalls Tryz.prog 80 [.v (.string s)] (readT (readH s)) := by
  have hml : s.size ≤ 9223372036854775807 := by unfold maxLen at hs; omega
  unfold readH
  refine pcalls_of Tryz.func80 rfl rfl Tryz.ntmps80 rfl ?_
  by_cases h578 : s.size ≤ 578
  · rw [if_pos h578]
    repeat' (first | (refine rg 0 ?_; refine sal str65 ?_; refine oAs ?_; refine oN ?_) | (refine rg 1 ?_; refine oMv ?_; refine sp (po_len_str rfl rfl (tyR rfl)) ?_; refine oCm ?_; refine oN ?_) | (refine rg 3 ?_; refine oAs ?_; refine oN ?_) | refine gc ?_ | refine ct ?_ | refine cf ?_ | refine swp_cond rfl (fun hc => ?_) (fun hc => ?_) | refine rq rfl (.cell rfl rfl (tyT rfl) (vc (vc .nil)) rfl (rt .nil)) ?_)
    refine swp_for (fun k => ⟨[(0, .t (.v (.string s))), (2, .bp 2 0), (4, .t (.v (.int .i64 (k : Int))))], [(2, (headT head0).map A.t)], []⟩) (fun k => k ≤ fidx s 58) s.size (weak_sub (.cons rfl rfl rfl (.cons rfl rfl rfl (.cons rfl rfl rfl .nil))) (.cons rfl rfl rfl .nil) .nil) (Nat.zero_le _) ?_
    intro k hk hI
    by_cases hlt : k < s.size
    · by_cases hc : s[k] = 58
      · have hc1 : (!decide (((s[k]).toNat : Int) = 58)) = false := by rw [hc]; rfl
        have hf := fidx_hit hI hlt hc
        have hfl : fidx s 58 < s.size := by omega
        rw [if_pos hfl]
        subst hf
        repeat' (first | (refine rg 4 ?_; refine oMv ?_; refine oMv ?_; refine sp (po_len_str rfl rfl (tyR rfl)) ?_; refine oCm ?_; refine oMv ?_; refine oMv ?_ <;> refine oMv ?_ <;> refine sp (xist rfl) ?_ <;> refine oCm ?_ <;> refine oPt ?_ <;> refine oN ?_) | (refine rg 6 ?_; refine oMv ?_; refine oMv ?_; refine sp (po_len_str rfl rfl (tyR rfl)) ?_; refine oCm ?_; refine oN ?_) | (refine rg 8 ?_; refine oMv ?_; refine sp (xinc rfl) ?_; refine oMv ?_; refine sp (po_len_str rfl rfl (tyR rfl)) ?_; refine oAs ?_; refine oAs ?_; refine oN ?_) | refine gc ?_ | refine ct ?_ | refine cf ?_ | refine swp_cond rfl (fun hc => ?_) (fun hc => ?_) | refine rq rfl (.cell rfl rfl (tyT rfl) (vc (vc .nil)) rfl (rt .nil)) ?_)
        refine swp_for (fun j => ⟨[(0, .t (.v (.string s))), (2, .bp 2 0), (4, .t (.v (.int .i64 ((fidx s 58 : Nat) : Int)))), (5, .t (.v (.int .i64 ((fidx s 58 + 1 + j : Nat) : Int)))), (6, .t (.v (.int .i64 (s.size : Int))))], [(2, (headT head0).map A.t)], []⟩) (fun j => (s.toList.drop (fidx s 58 + 1)).dropWhile (inB ws) = (s.toList.drop (fidx s 58 + 1 + j)).dropWhile (inB ws)) (s.size - (fidx s 58 + 1)) (weak_sub (.cons rfl rfl rfl (.cons rfl rfl rfl (.cons rfl rfl rfl (.cons rfl rfl rfl (.cons rfl rfl rfl .nil))))) (.cons rfl rfl rfl .nil) .nil) rfl ?_
        intro j hj hJ
        have hcs : (∃ h : fidx s 58 + 1 + j < s.size, inB ws s[fidx s 58 + 1 + j] = true) ∨ ((s.toList.drop (fidx s 58 + 1)).dropWhile (inB ws) = s.toList.drop (fidx s 58 + 1 + j) ∧ (fidx s 58 + 1 + j = s.size ∨ ∃ h : fidx s 58 + 1 + j < s.size, decide (((s[fidx s 58 + 1 + j]).toNat : Int) = 32) = false ∧ decide (((s[fidx s 58 + 1 + j]).toNat : Int) = 9) = false)) := by
          by_cases h : fidx s 58 + 1 + j < s.size
          · have hst := drop_step (inB ws) s.toList (k := fidx s 58 + 1 + j) (by rw [toList_len]; exact h)
            rw [toList_at s h] at hst
            cases hb : inB ws s[fidx s 58 + 1 + j] with
            | true => exact .inl ⟨h, hb⟩
            | false =>
              rw [hb, if_neg (by simp)] at hst
              rw [ws_at, Bool.or_eq_false_iff] at hb
              exact .inr ⟨hJ.trans hst, .inr ⟨h, hb.1, hb.2⟩⟩
          · refine .inr ⟨?_, .inl (by omega)⟩
            rw [hJ, List.drop_of_length_le (by rw [toList_len]; omega)]; rfl
        rcases hcs with ⟨h, hb⟩ | ⟨hA, hcs⟩
        · have hst := drop_step (inB ws) s.toList (k := fidx s 58 + 1 + j) (by rw [toList_len]; exact h)
          rw [toList_at s h, hb, if_pos rfl] at hst
          have hjl : j < s.size - (fidx s 58 + 1) := by omega
          rw [ws_at] at hb
          cases h32 : decide (((s[fidx s 58 + 1 + j]).toNat : Int) = 32)
          all_goals
            rw [h32] at hb
            try simp only [Bool.false_or] at hb
            repeat' (first | refine for_next hjl (weak_sub (.cons rfl rfl rfl (.cons rfl rfl rfl (.cons rfl rfl rfl (.cons rfl rfl rfl (.cons rfl rfl rfl .nil))))) (.cons rfl rfl rfl .nil) .nil) (hJ.trans hst) | (refine rg 9 ?_; refine oMv ?_; refine oMv ?_; refine oCm ?_; refine oMv ?_; refine oMv ?_ <;> refine oMv ?_ <;> refine sp (xist rfl) ?_ <;> refine oCm ?_ <;> refine oMv ?_ <;> (first | refine oMv ?_ | refine oK ?_) <;> (first | refine oMv ?_ | refine oK ?_) <;> (first | refine sp (xist rfl) ?_ | refine oK ?_) <;> (first | refine oCm ?_ | refine oK ?_) <;> (first | refine oPt ?_ | refine oPf ?_) <;> refine oPt ?_ <;> refine oN ?_) | (refine rg 10 ?_; refine oMv ?_; refine sp (xinc rfl) ?_; refine oAs ?_; refine oN ?_) | refine gc ?_ | refine ct ?_)
        have haS : fidx s 58 + 1 + j ≤ s.size := by omega
        rcases hcs with hcs | ⟨hal, h32, h9⟩
        all_goals
          repeat' (first | (refine rg 9 ?_; refine oMv ?_; refine oMv ?_; refine oCm ?_; refine oMv ?_; (first | refine oMv ?_ | refine oK ?_) <;> (first | refine oMv ?_ | refine oK ?_) <;> (first | refine sp (xist rfl) ?_ | refine oK ?_) <;> (first | refine oCm ?_ | refine oK ?_) <;> (first | refine oMv ?_ | refine oK ?_) <;> (first | refine oMv ?_ | refine oK ?_) <;> (first | refine oMv ?_ | refine oK ?_) <;> (first | refine sp (xist rfl) ?_ | refine oK ?_) <;> (first | refine oCm ?_ | refine oK ?_) <;> (first | refine oPt ?_ | refine oPf ?_ | refine oK ?_) <;> (first | refine oPt ?_ | refine oPf ?_) <;> refine oN ?_) | refine gc ?_ | refine ct ?_ | refine cf ?_ | refine swp_cond rfl (fun hc => ?_) (fun hc => ?_) | refine rq rfl (.cell rfl rfl (tyT rfl) (vc (vc .nil)) rfl (rt .nil)) ?_)
          generalize fidx s 58 + 1 + j = a at *
          refine swp_for (fun i => ⟨[(0, .t (.v (.string s))), (2, .bp 2 0), (4, .t (.v (.int .i64 ((fidx s 58 : Nat) : Int)))), (5, .t (.v (.int .i64 (a : Int)))), (6, .t (.v (.int .i64 ((s.size - i : Nat) : Int))))], [(2, (headT head0).map A.t)], []⟩) (fun i => rdrop (inB ws) (s.toList.drop a) = rdrop (inB ws) ((s.toList.drop a).take (s.size - i - a)) ∧ a ≤ s.size - i) (s.size - a) (weak_sub (.cons rfl rfl rfl (.cons rfl rfl rfl (.cons rfl rfl rfl (.cons rfl rfl rfl (.cons rfl rfl rfl .nil))))) (.cons rfl rfl rfl .nil) .nil) ⟨by rw [Nat.sub_zero, List.take_of_length_le (by rw [List.length_drop, toList_len]; omega)], by omega⟩ ?_
          rintro i hi ⟨hR, hai⟩
          have hcs2 : (∃ h : a < s.size - i, inB ws (s[s.size - i - 1]'(by omega)) = true) ∨ (rdrop (inB ws) (s.toList.drop a) = (s.toList.drop a).take (s.size - i - a) ∧ (a = s.size - i ∨ ∃ h : a < s.size - i, decide (((s[s.size - i - 1]'(by omega)).toNat : Int) = 32) = false ∧ decide (((s[s.size - i - 1]'(by omega)).toNat : Int) = 9) = false)) := by
            by_cases h : a < s.size - i
            · have hst := rd_step h (Nat.sub_le _ _) hR
              cases hb : inB ws (s[s.size - i - 1]'(by omega)) with
              | true => exact .inl ⟨h, by first | rfl | exact hb⟩
              | false =>
                rw [hb, if_neg (by simp)] at hst
                rw [ws_at, Bool.or_eq_false_iff] at hb
                exact .inr ⟨hst, .inr ⟨h, hb.1, hb.2⟩⟩
            · have e : s.size - i - a = 0 := by omega
              refine .inr ⟨?_, .inl (by omega)⟩
              rw [hR, e, List.take_zero]; rfl
          rcases hcs2 with ⟨h, hb⟩ | ⟨hB, hcs2⟩
          · have hst := rd_step h (Nat.sub_le _ _) hR
            rw [hb, if_pos rfl] at hst
            have hil : i < s.size - a := by omega
            have hI2 : rdrop (inB ws) (s.toList.drop a) = rdrop (inB ws) ((s.toList.drop a).take (s.size - (i + 1) - a)) ∧ a ≤ s.size - (i + 1) := ⟨hst, by omega⟩
            have hix : s.size - i - 1 < s.size := by omega
            rw [ws_at] at hb
            cases h32' : decide (((s[s.size - i - 1]'(by omega)).toNat : Int) = 32)
            all_goals
              rw [h32'] at hb
              try simp only [Bool.false_or] at hb
              repeat' (first | refine for_next hil (weak_sub (.cons rfl rfl rfl (.cons rfl rfl rfl (.cons rfl rfl rfl (.cons rfl rfl rfl (.cons rfl rfl rfl .nil))))) (.cons rfl rfl rfl .nil) .nil) hI2 | (refine rg 11 ?_; refine oMv ?_; refine oMv ?_; refine oCm ?_; refine oMv ?_; refine oMv ?_ <;> refine oMv ?_ <;> refine sp (po_dec rfl rfl rfl (by omega)) ?_ <;> refine sp (xist rfl) ?_ <;> refine oCm ?_ <;> refine oMv ?_ <;> (first | refine oMv ?_ | refine oK ?_) <;> (first | refine oMv ?_ | refine oK ?_) <;> (first | refine sp (po_dec rfl rfl rfl (by omega)) ?_ | refine sp (po_arith rfl rfl rfl (ar_sub (by first | rfl | (refine wrap_i64 ?_; omega)) rfl)) ?_ | refine oK ?_) <;> (first | refine sp (xist rfl) ?_ | refine oK ?_) <;> (first | refine oCm ?_ | refine oK ?_) <;> (first | refine oPt ?_ | refine oPf ?_) <;> refine oPt ?_ <;> refine oN ?_) | (refine rg 12 ?_; refine oMv ?_; refine sp (po_dec rfl rfl rfl (by omega)) ?_; refine oAs ?_; refine oN ?_) | refine gc ?_ | refine ct ?_)
          have hv := value_eq (Nat.sub_le s.size i) hA hB hai
          have e : readC s = ⟨small (s.extract 0 (fidx s 58)), s.extract a (s.size - i)⟩ := by unfold readC; rw [hv]
          have c2 := refSmall_ (s.extract 0 (fidx s 58)) (by rw [ByteArray.size_extract]; omega)
          have c4 := refGood_ (readC s) (readC_ok s hs)
          rw [e] at c4 ⊢
          have hb0 : s.size - i ≤ s.size := Nat.sub_le _ _
          rcases hcs2 with hcs2 | ⟨hal2, h322, h92⟩
          all_goals try (exfalso; omega)
          all_goals
            cases hg : good ⟨small (s.extract 0 (fidx s 58)), s.extract a (s.size - i)⟩
            all_goals
              rw [hg] at c4
              repeat' (first | (refine rg 11 ?_; refine oMv ?_; refine oMv ?_; refine oCm ?_; refine oMv ?_; (first | refine oMv ?_ | refine oK ?_) <;> (first | refine oMv ?_ | refine oK ?_) <;> (first | refine sp (po_dec rfl rfl rfl (by omega)) ?_ | refine sp (po_arith rfl rfl rfl (ar_sub (by first | rfl | (refine wrap_i64 ?_; omega)) rfl)) ?_ | refine oK ?_) <;> (first | refine sp (xist rfl) ?_ | refine oK ?_) <;> (first | refine oCm ?_ | refine oK ?_) <;> (first | refine oMv ?_ | refine oK ?_) <;> (first | refine oMv ?_ | refine oK ?_) <;> (first | refine oMv ?_ | refine oK ?_) <;> (first | refine sp (po_dec rfl rfl rfl (by omega)) ?_ | refine sp (po_arith rfl rfl rfl (ar_sub (by first | rfl | (refine wrap_i64 ?_; omega)) rfl)) ?_ | refine oK ?_) <;> (first | refine sp (xist rfl) ?_ | refine oK ?_) <;> (first | refine oCm ?_ | refine oK ?_) <;> (first | refine oPt ?_ | refine oPf ?_ | refine oK ?_) <;> (first | refine oPt ?_ | refine oPf ?_) <;> refine oN ?_) | ((refine swp_any (id := 13) [[], [], [], [], [], [], [], [], [], [7], [7]] [[7], [7], [7], [7], [7], [7], [7], [7], [7], [], []] mixed (by kernel_rfl) ?_) <;> refine yp (fun _ _ => po_move rfl rfl) ?_ <;> refine yp (fun _ _ => po_move rfl rfl) ?_ <;> refine yp (fun _ _ => po_slice_str rfl rfl (tyR rfl) (by rfl) (by first | rfl | exact ⟨_, rfl⟩) (by omega) (by omega)) ?_ <;> refine yp (fun _ _ => po_call (c2) rfl (ac .nil)) ?_ <;> refine yp (fun _ _ => po_move rfl rfl) ?_ <;> refine yp (fun _ _ => po_move rfl rfl) ?_ <;> refine yp (fun _ _ => po_move rfl rfl) ?_ <;> refine yp (fun _ _ => po_slice_str rfl rfl (tyR rfl) (by first | rfl | exact ⟨_, rfl⟩) (by first | rfl | exact ⟨_, rfl⟩) (by omega) (by omega)) ?_ <;> refine yp (fun _ _ => po_buildS str65 rfl (pc (pc .nil)) rfl) ?_ <;> refine sany_eff [(7, _)] [] (.free rfl rfl) rfl rfl (fun _ _ hb _ => e_allocS str65 rfl (hb 7 rfl rfl)) ?_ <;> refine sany_eff [(7, _)] [] (.free rfl rfl) rfl rfl (fun _ _ _ _ => e_store rfl rfl rfl rfl rfl rfl (tyT rfl) rfl rfl) ?_ <;> refine sany_nil ?_) | (refine rg 14 ?_; refine sp (po_load_bx_agg rfl rfl (tyT rfl) rfl (vc (vc .nil)) rfl) ?_; (first | refine oC (c2) rfl (ac .nil) ?_ | refine oC (c4) rfl (ac .nil) ?_); refine sp (po_not rfl rfl) ?_; refine oN ?_) | (refine rg 15 ?_; refine sp (po_buildS str65 rfl .nil rfl) ?_; refine oS ?_; refine oAs ?_; refine oN ?_) | (refine rg 16 ?_; refine sp (po_load_bx_agg rfl rfl (tyT rfl) rfl (vc (vc .nil)) rfl) ?_; refine oS ?_; refine oAs ?_; refine oN ?_) | refine gc ?_ | refine ct ?_ | refine cf ?_ | refine swp_cond rfl (fun hc => ?_) (fun hc => ?_) | refine rq rfl (.cell rfl rfl (tyT rfl) (vc (vc .nil)) rfl (rt .nil)) ?_)
              rfl
      · have hc1 : (!decide (((s[k]).toNat : Int) = 58)) = true := by
          have : s[k].toNat ≠ 58 := fun e => hc (UInt8.toNat_inj.1 e)
          simp; omega
        have hf := fidx_step hI hlt hc
        repeat' (first | refine for_next hlt (weak_sub (.cons rfl rfl rfl (.cons rfl rfl rfl (.cons rfl rfl rfl .nil))) (.cons rfl rfl rfl .nil) .nil) hf | (refine rg 4 ?_; refine oMv ?_; refine oMv ?_; refine sp (po_len_str rfl rfl (tyR rfl)) ?_; refine oCm ?_; refine oMv ?_; refine oMv ?_ <;> refine oMv ?_ <;> refine sp (xist rfl) ?_ <;> refine oCm ?_ <;> refine oPt ?_ <;> refine oN ?_) | (refine rg 5 ?_; refine oMv ?_; refine sp (xinc rfl) ?_; refine oAs ?_; refine oN ?_) | refine gc ?_ | refine ct ?_)
    · obtain rfl : k = s.size := by omega
      have hfl : ¬ fidx s 58 < s.size := by omega
      rw [if_neg hfl]
      have he : decide ((s.size : Int) = (s.size : Int)) = true := by simp
      repeat' (first | (refine rg 4 ?_; refine oMv ?_; refine oMv ?_; refine sp (po_len_str rfl rfl (tyR rfl)) ?_; refine oCm ?_; refine oMv ?_; (first | refine oMv ?_ | refine oK ?_) <;> (first | refine oMv ?_ | refine oK ?_) <;> (first | refine sp (xist rfl) ?_ | refine oK ?_) <;> (first | refine oCm ?_ | refine oK ?_) <;> (first | refine oPt ?_ | refine oPf ?_) <;> refine oN ?_) | (refine rg 6 ?_; refine oMv ?_; refine oMv ?_; refine sp (po_len_str rfl rfl (tyR rfl)) ?_; refine oCm ?_; refine oN ?_) | (refine rg 7 ?_; refine sp (po_buildS str65 rfl .nil rfl) ?_; refine oS ?_; refine oAs ?_; refine oN ?_) | refine gc ?_ | refine ct ?_ | refine cf ?_ | refine swp_cond rfl (fun hc => ?_) (fun hc => ?_) | refine rq rfl (.cell rfl rfl (tyT rfl) (vc (vc .nil)) rfl (rt .nil)) ?_)
      rfl
  · rw [if_neg h578]
    repeat' (first | (refine rg 0 ?_; refine sal str65 ?_; refine oAs ?_; refine oN ?_) | (refine rg 1 ?_; refine oMv ?_; refine sp (po_len_str rfl rfl (tyR rfl)) ?_; refine oCm ?_; refine oN ?_) | (refine rg 2 ?_; refine sp (po_buildS str65 rfl .nil rfl) ?_; refine oS ?_; refine oAs ?_; refine oN ?_) | refine gc ?_ | refine ct ?_ | refine cf ?_ | refine swp_cond rfl (fun hc => ?_) (fun hc => ?_) | refine rq rfl (.cell rfl rfl (tyT rfl) (vc (vc .nil)) rfl (rt .nil)) ?_)
    rfl
end Go.Proofs.YtloippgblkoemaaGreatDoor.Hd

/- Headers: how a body's end is told: walks. -/
namespace Go.Proofs.YtloippgblkoemaaGreatDoor.Hd
set_option linter.unusedVariables false
set_option linter.unusedSimpArgs false
open Go.RowKit Mem Sim Opn Str
def digB (b : UInt8) : Bool := decide (48 ≤ b.toNat ∧ b.toNat ≤ 57)
/-- the number that digits say -/
def numL (l : List UInt8) : Nat := l.foldl (fun n b => 10 * n + (b.toNat - 48)) 0
def lead0 (s : ByteArray) : Bool := match s.toList with
  | [] => true
  | b :: l => decide (b.toNat = 48) && decide (l ≠ [])
/-- the length that a text says, or what is wrong -/
def lenP (s : ByteArray) : Int × Int := if s.toList.all digB && !lead0 s then (if numL s.toList ≤ 1024 then ((numL s.toList : Int), 0) else (0, 6)) else (0, 2)
theorem numL_snoc (l : List UInt8) {k : Nat} (h : k < l.length) : numL (l.take (k + 1)) = 10 * numL (l.take k) + (l[k].toNat - 48) := by
  unfold numL
  rw [List.take_succ_eq_append_getElem h, List.foldl_append]; rfl
theorem numL_mono (l : List UInt8) (k : Nat) : ∀ d, k + d ≤ l.length → numL (l.take k) ≤ numL (l.take (k + d))
  | 0, _ => Nat.le_refl _
  | d + 1, h => by
    have ih := numL_mono l k d (by omega)
    have := numL_snoc l (k := k + d) (by omega)
    rw [show k + (d + 1) = k + d + 1 by omega, this]; omega
theorem numL_lt (l : List UInt8) (hd : l.all digB = true) : ∀ k, k ≤ l.length → numL (l.take k) < 10 ^ k
  | 0, _ => by simp [numL]
  | k + 1, h => by
    have ih := numL_lt l hd k (by omega)
    have hb := (List.all_eq_true.1 hd) l[k] (List.getElem_mem (by omega))
    unfold digB at hb; simp at hb
    rw [numL_snoc l (by omega), Nat.pow_succ]; omega
theorem numL_17 (l : List UInt8) (hd : l.all digB = true) {k : Nat} (h : k ≤ l.length) (h18 : k ≤ 17) : numL (l.take k) ≤ 99999999999999999 := by
  have h1 := numL_lt l hd k h
  have h2 : 10 ^ k ≤ 10 ^ 17 := Nat.pow_le_pow_right (by omega) h18
  omega
theorem numL_ge (l : List UInt8) (hd : l.all digB = true) (h1 : 0 < l.length) (h0 : l[0].toNat ≠ 48) : ∀ k, k + 1 ≤ l.length → 10 ^ k ≤ numL (l.take (k + 1))
  | 0, h => by
    have hb := (List.all_eq_true.1 hd) l[0] (List.getElem_mem h1)
    unfold digB at hb; simp at hb
    rw [numL_snoc l h1]; simp [numL]; omega
  | k + 1, h => by
    have ih := numL_ge l hd h1 h0 k (by omega)
    rw [numL_snoc l (k := k + 1) (by omega), Nat.pow_succ]; omega
theorem lead0_no {s : ByteArray} (h : lead0 s = false) : 0 < s.size ∧ ∀ h0 : 0 < s.size, (s[0].toNat = 48 → s.size = 1) := by
  unfold lead0 at h
  have hl := toList_len s
  cases e : s.toList with
  | nil => rw [e] at h; cases h
  | cons b l =>
    rw [e] at h hl
    refine ⟨by simp at hl; omega, fun h0 hb => ?_⟩
    have := toList_get s 0 h0
    rw [e] at this; simp at this
    rw [← this] at hb
    simp [hb] at h
    rw [h] at hl; simpa using hl.symm
theorem lead0_yes {s : ByteArray} (h : lead0 s = true) : s.size = 0 ∨ (1 < s.size ∧ ∀ h0 : 0 < s.size, s[0].toNat = 48) := by
  unfold lead0 at h
  have hl := toList_len s
  cases e : s.toList with
  | nil => rw [e] at hl; exact .inl (by simpa using hl.symm)
  | cons b l =>
    rw [e] at h hl
    simp at h hl
    have hne : 0 < l.length := List.length_pos_iff.2 h.2
    refine .inr ⟨by omega, fun h0 => ?_⟩
    have := toList_get s 0 h0
    rw [e] at this; simp at this
    rw [← this]; exact h.1
theorem num_18 {s : ByteArray} (hd : s.toList.all digB = true) (h0 : lead0 s = false) (h18 : 18 < s.size) : ¬ numL s.toList ≤ 1024 := by
  obtain ⟨h1, h2⟩ := lead0_no h0
  have hl := toList_len s
  have hl1 : 0 < s.toList.length := by omega
  have hg : s.toList[0].toNat ≠ 48 := fun e => by
    have := h2 h1 (by rw [← toList_at s h1]; exact e)
    omega
  have h3 : 10 ^ 4 ≤ numL (s.toList.take 5) := numL_ge s.toList hd hl1 hg 4 (by omega)
  have h4 := numL_mono s.toList 5 (s.toList.length - 5) (by omega)
  rw [show 5 + (s.toList.length - 5) = s.toList.length by omega, List.take_length] at h4
  omega
theorem dig_rune {s : ByteArray} {k : Nat} (h : k < s.size) (hd : digB s[k] = true) : Utf8.decode s k = ((s[k]).toNat, 1) := by
  unfold digB at hd; simp at hd
  exact decode_ascii s k h (by omega)
theorem nodig_rune {s : ByteArray} {k : Nat} (h : k < s.size) (hd : digB s[k] = false) : (Utf8.decode s k).1 < 48 ∨ 57 < (Utf8.decode s k).1 := by
  unfold digB at hd; simp at hd
  by_cases ha : s[k].toNat < 128
  · rw [decode_ascii s k h ha]; simp; omega
  · have := (decode_high s k h (by omega)).1; omega
theorem size_nil (s : ByteArray) : decide (s = ⟨#[]⟩) = decide (s.size = 0) := by
  have h := bs_eq_nil s.toList
  rw [toList_bs] at h
  rw [h]
  have := toList_len s
  cases e : s.toList with
  | nil => rw [e] at this; simp at this; simp [← this]
  | cons b l =>
    rw [e] at this; simp at this
    rw [decide_eq_false (show ¬ s.size = 0 by omega)]; simp
set_option maxRecDepth 100000 in
set_option maxHeartbeats 4000000 in
theorem length_ (s : ByteArray) (hs : s.size ≤ maxLen) : PCalls Tryz.prog 84 [.v (.string s)] (.tup [.v (.int .i64 (lenP s).1), .v (.int .i64 (lenP s).2)]) := by
  unfold maxLen at hs
  have hl := toList_len s
  have hnil := size_nil s
  unfold lenP
  refine pcalls_of Tryz.func84 rfl rfl Tryz.ntmps84 rfl ?_
  repeat' (first | (refine rg 0 ?_; refine oAs ?_; refine oAs ?_; refine oN ?_) | (refine rg 1 ?_; refine oMv ?_; refine sops_range 1000 (.free rfl rfl) rfl rfl rfl rfl (tyR rfl) rfl ?_; refine oN ?_) | refine gc ?_ | refine ct ?_ | refine cf ?_ | refine swp_cond rfl (fun hc => ?_) (fun hc => ?_) | refine rq rfl (rt (rt .nil)) ?_)
  refine swp_for (fun k => ⟨[(0, .t (.v (.string s))), (9, .bp 1000 0)], [(1000, itC s k)], []⟩) (fun k => (s.toList.take k).all digB = true) s.size (weak_sub (.cons rfl rfl rfl (.cons rfl rfl rfl .nil)) (.cons rfl rfl rfl .nil) .nil) rfl ?_
  intro k hk hI
  by_cases hlt : k < s.size
  · cases hd : digB s[k] with
    | true =>
      have hdec := dig_rune hlt hd
      have hd2 : 48 ≤ s[k].toNat ∧ s[k].toNat ≤ 57 := by unfold digB at hd; simpa using hd
      repeat' (first | refine for_next hlt (weak_sub (.cons rfl rfl rfl (.cons rfl rfl rfl .nil)) (.cons rfl rfl rfl .nil) .nil) (all_snoc hI hlt hd) | (refine rg 2 ?_; refine sops_next 1000 (.free rfl rfl) rfl rfl rfl rfl rfl (by assumption) (by assumption) ?_; refine oEx ?_; refine oN ?_) | (refine rg 3 ?_; refine oEx ?_; refine oAs ?_; refine oN ?_) | (refine rg 4 ?_; refine oMv ?_; refine oCm ?_; refine oMv ?_; refine oMv ?_ <;> refine oCm ?_ <;> (first | refine oPt ?_ | refine oPf ?_) <;> refine oN ?_) | refine gc ?_ | refine ct ?_ | refine cf ?_)
    | false =>
      have hr := nodig_rune hlt hd
      rw [all_bad hlt hd]
      generalize hdec : Utf8.decode s k = ck at hr
      obtain ⟨c, w⟩ := ck
      rcases hr with hr | hr
      all_goals
        simp only [] at hr
        repeat' (first | (refine rg 2 ?_; refine sops_next 1000 (.free rfl rfl) rfl rfl rfl rfl rfl (by assumption) (by assumption) ?_; refine oEx ?_; refine oN ?_) | (refine rg 3 ?_; refine oEx ?_; refine oAs ?_; refine oN ?_) | (refine rg 4 ?_; refine oMv ?_; refine oCm ?_; refine oMv ?_; (first | refine oMv ?_ | refine oK ?_) <;> (first | refine oCm ?_ | refine oK ?_) <;> (first | refine oPt ?_ | refine oPf ?_) <;> refine oN ?_) | (refine rg 5 ?_; refine oAs ?_; refine oAs ?_; refine oN ?_) | refine gc ?_ | refine ct ?_ | refine cf ?_ | refine swp_cond rfl (fun hc => ?_) (fun hc => ?_) | refine rq rfl (rt (rt .nil)) ?_)
        rfl
  · obtain rfl : k = s.size := by omega
    rw [take_full s (Nat.lt_irrefl _)] at hI
    rw [hI]
    cases h0 : lead0 s with
    | true =>
      rcases lead0_yes h0 with h1 | ⟨h1, h2⟩
      · have e1 : decide (s = ⟨#[]⟩) = true := by rw [hnil]; exact decide_eq_true h1
        repeat' (first | (refine rg 2 ?_; (first | refine sops_next 1000 (.free rfl rfl) rfl rfl rfl rfl rfl (by first | assumption | omega) (by assumption) ?_ | refine sops_next_end 1000 (.free rfl rfl) rfl rfl rfl rfl rfl (by assumption) ?_); refine oEx ?_; refine oN ?_) | (refine rg 6 ?_; refine oMv ?_; refine sp (po_str rfl rfl rfl rfl) ?_; refine oMv ?_; (first | refine oMv ?_ | refine oK ?_) <;> (first | refine sp (po_len_str rfl rfl (tyR rfl)) ?_ | refine oK ?_) <;> (first | refine oCm ?_ | refine oK ?_) <;> (first | refine oMv ?_ | refine oK ?_) <;> (first | refine oMv ?_ | refine oK ?_) <;> (first | refine sp (po_index_str (k := 0) rfl rfl rfl (tyR rfl) (by rfl) (by first | assumption | omega)) ?_ | refine oK ?_) <;> (first | refine oCm ?_ | refine oK ?_) <;> (first | refine oPt ?_ | refine oPf ?_ | refine oK ?_) <;> refine oPt ?_ <;> refine oN ?_) | (refine rg 7 ?_; refine oAs ?_; refine oAs ?_; refine oN ?_) | refine gc ?_ | refine ct ?_ | refine cf ?_ | refine swp_cond rfl (fun hc => ?_) (fun hc => ?_) | refine rq rfl (rt (rt .nil)) ?_)
        rfl
      · have e1 : decide (s = ⟨#[]⟩) = false := by rw [hnil]; exact decide_eq_false (by omega)
        have h3 := h2 (by omega)
        repeat' (first | (refine rg 2 ?_; (first | refine sops_next 1000 (.free rfl rfl) rfl rfl rfl rfl rfl (by first | assumption | omega) (by assumption) ?_ | refine sops_next_end 1000 (.free rfl rfl) rfl rfl rfl rfl rfl (by assumption) ?_); refine oEx ?_; refine oN ?_) | (refine rg 6 ?_; refine oMv ?_; refine sp (po_str rfl rfl rfl rfl) ?_; refine oMv ?_; refine oMv ?_ <;> refine sp (po_len_str rfl rfl (tyR rfl)) ?_ <;> refine oCm ?_ <;> refine oMv ?_ <;> refine oMv ?_ <;> refine sp (po_index_str (k := 0) rfl rfl rfl (tyR rfl) (by rfl) (by first | assumption | omega)) ?_ <;> refine oCm ?_ <;> refine oPt ?_ <;> (first | refine oPt ?_ | refine oPf ?_) <;> refine oN ?_) | (refine rg 7 ?_; refine oAs ?_; refine oAs ?_; refine oN ?_) | refine gc ?_ | refine ct ?_ | refine cf ?_ | refine swp_cond rfl (fun hc => ?_) (fun hc => ?_) | refine rq rfl (rt (rt .nil)) ?_)
        rfl
    | false =>
      obtain ⟨h1, h2⟩ := lead0_no h0
      have h3 := h2 h1
      have e1 : decide (s = ⟨#[]⟩) = false := by rw [hnil]; exact decide_eq_false (by omega)
      by_cases h18 : s.size ≤ 18
      · have hcs : s.size = 1 ∨ (1 < s.size ∧ s[0].toNat ≠ 48) := by omega
        rcases hcs with h4 | ⟨h4, h5⟩
        all_goals
          repeat' (first | (refine rg 2 ?_; (first | refine sops_next 1000 (.free rfl rfl) rfl rfl rfl rfl rfl (by first | assumption | omega) (by assumption) ?_ | refine sops_next_end 1000 (.free rfl rfl) rfl rfl rfl rfl rfl (by assumption) ?_); refine oEx ?_; refine oN ?_) | (refine rg 6 ?_; refine oMv ?_; refine sp (po_str rfl rfl rfl rfl) ?_; refine oMv ?_; refine oMv ?_ <;> refine sp (po_len_str rfl rfl (tyR rfl)) ?_ <;> refine oCm ?_ <;> refine oMv ?_ <;> (first | refine oMv ?_ | refine oK ?_) <;> (first | refine sp (po_index_str (k := 0) rfl rfl rfl (tyR rfl) (by rfl) (by assumption)) ?_ | refine oK ?_) <;> (first | refine oCm ?_ | refine oK ?_) <;> (first | refine oPt ?_ | refine oPf ?_) <;> (first | refine oPt ?_ | refine oPf ?_) <;> refine oN ?_) | (refine rg 8 ?_; refine oMv ?_; refine sp (po_len_str rfl rfl (tyR rfl)) ?_; refine oCm ?_; refine oN ?_) | (refine rg 10 ?_; refine oAs ?_; refine oN ?_) | (refine rg 11 ?_; refine oAs ?_; refine oN ?_) | refine gc ?_ | refine ct ?_ | refine cf ?_ | refine swp_cond rfl (fun hc => ?_) (fun hc => ?_) | refine rq rfl (rt (rt .nil)) ?_)
          refine swp_for (fun k => ⟨[(0, .t (.v (.string s))), (6, .t (.v (.int .i64 ((numL (s.toList.take k) : Nat) : Int)))), (7, .t (.v (.int .i64 (k : Int))))], [], []⟩) (fun _ => True) s.size (weak_sub (.cons rfl rfl rfl (.cons rfl rfl rfl (.cons rfl rfl rfl .nil))) .nil .nil) trivial ?_
          intro k hk _
          by_cases hlt : k < s.size
          · have hb := numL_17 s.toList hI (k := k) (by omega) (by omega)
            have hn := numL_snoc s.toList (k := k) (by omega)
            have hd := (List.all_eq_true.1 hI) (s.toList[k]'(by omega)) (List.getElem_mem _)
            rw [toList_at s hlt] at hn hd
            have hd2 : 48 ≤ s[k].toNat ∧ s[k].toNat ≤ 57 := by unfold digB at hd; simpa using hd
            repeat' (first | refine for_next hlt (weak_sub (.cons rfl (by rfl) rfl (.cons rfl (by first | rfl | (exact congrArg (fun n => A.t (T.v (Value.int .i64 n))) (by rw [hn]; omega))) rfl (.cons rfl (by rfl) rfl .nil))) .nil .nil) trivial | (refine rg 12 ?_; refine oMv ?_; refine oMv ?_; refine sp (po_len_str rfl rfl (tyR rfl)) ?_; refine oCm ?_; refine oN ?_) | (refine rg 14 ?_; refine oMv ?_; refine sp (po_arith rfl rfl rfl (ar_mul (by first | rfl | (refine wrap_i64 ?_; omega)) rfl)) ?_; refine oMv ?_; refine oMv ?_; refine sp (xist rfl) ?_; (first | refine sp (po_dec rfl rfl rfl (by omega)) ?_ | refine sp (po_arith rfl rfl rfl (ar_sub (by first | rfl | (refine wrap_i64 ?_; omega) | (refine wrap_u8 ?_; omega)) rfl)) ?_); refine sp (po_conv_int rfl rfl (tyK rfl) (tyK rfl) (by (refine wrap_i64 ?_; omega))) ?_; (first | refine sp (xinc rfl) ?_ | refine sp (po_arith rfl rfl rfl (ar_add (by first | rfl | (refine wrap_i64 ?_; omega)) rfl)) ?_); refine oAs ?_; refine oN ?_) | (refine rg 13 ?_; refine oMv ?_; refine sp (xinc rfl) ?_; refine oAs ?_; refine oN ?_) | refine gc ?_ | refine ct ?_)
          · obtain rfl : k = s.size := by omega
            rw [take_full s (Nat.lt_irrefl _)]
            by_cases hm : numL s.toList ≤ 1024
            · rw [if_pos hm]
              repeat' (first | (refine rg 12 ?_; refine oMv ?_; refine oMv ?_; refine sp (po_len_str rfl rfl (tyR rfl)) ?_; refine oCm ?_; refine oN ?_) | (refine rg 15 ?_; refine oMv ?_; refine oCm ?_; refine oN ?_) | (refine rg 17 ?_; refine oMv ?_; refine oAs ?_; refine oAs ?_; refine oN ?_) | refine gc ?_ | refine ct ?_ | refine cf ?_ | refine swp_cond rfl (fun hc => ?_) (fun hc => ?_) | refine rq rfl (rt (rt .nil)) ?_)
              rfl
            · rw [if_neg hm]
              repeat' (first | (refine rg 12 ?_; refine oMv ?_; refine oMv ?_; refine sp (po_len_str rfl rfl (tyR rfl)) ?_; refine oCm ?_; refine oN ?_) | (refine rg 15 ?_; refine oMv ?_; refine oCm ?_; refine oN ?_) | (refine rg 16 ?_; refine oAs ?_; refine oAs ?_; refine oN ?_) | refine gc ?_ | refine ct ?_ | refine cf ?_ | refine swp_cond rfl (fun hc => ?_) (fun hc => ?_) | refine rq rfl (rt (rt .nil)) ?_)
              rfl
      · have hm := num_18 hI h0 (by omega)
        rw [if_neg hm]
        have h5 : s[0].toNat ≠ 48 := by omega
        repeat' (first | (refine rg 2 ?_; (first | refine sops_next 1000 (.free rfl rfl) rfl rfl rfl rfl rfl (by first | assumption | omega) (by assumption) ?_ | refine sops_next_end 1000 (.free rfl rfl) rfl rfl rfl rfl rfl (by assumption) ?_); refine oEx ?_; refine oN ?_) | (refine rg 6 ?_; refine oMv ?_; refine sp (po_str rfl rfl rfl rfl) ?_; refine oMv ?_; refine oMv ?_ <;> refine sp (po_len_str rfl rfl (tyR rfl)) ?_ <;> refine oCm ?_ <;> refine oMv ?_ <;> refine oMv ?_ <;> refine sp (po_index_str (k := 0) rfl rfl rfl (tyR rfl) (by rfl) (by assumption)) ?_ <;> refine oCm ?_ <;> refine oPt ?_ <;> (first | refine oPt ?_ | refine oPf ?_) <;> refine oN ?_) | (refine rg 8 ?_; refine oMv ?_; refine sp (po_len_str rfl rfl (tyR rfl)) ?_; refine oCm ?_; refine oN ?_) | (refine rg 9 ?_; refine oAs ?_; refine oAs ?_; refine oN ?_) | refine gc ?_ | refine ct ?_ | refine cf ?_ | refine swp_cond rfl (fun hc => ?_) (fun hc => ?_) | refine rq rfl (rt (rt .nil)) ?_)
        rfl
end Go.Proofs.YtloippgblkoemaaGreatDoor.Hd
