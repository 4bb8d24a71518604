/- Merged by bundles.py: SimAn5. -/
import Derived.Test.YtpncekdhigappaaDoorR28
/- Answers: is a text plain; a number of three digits; walks. -/
namespace Go.Proofs.YtpncekdhigappaaDoor.An
set_option linter.unusedVariables false
set_option linter.unusedSimpArgs false
open Go.RowKit Mem Sim Opn Hd Str Rq
def oddAt (s : ByteArray) : Int := if plainP s then -1 else (s.toList.findIdx oddB : Int)
theorem even_rune {s : ByteArray} {k : Nat} (h : k < s.size) (hd : evenB s[k] = true) : Utf8.decode s k = ((s[k]).toNat, 1) ∧ oddR s[k].toNat = false := by
  unfold evenB oddB at hd
  have hd : oddR s[k].toNat = false := by simpa using hd
  have h2 := hd
  unfold oddR at h2
  simp at h2
  exact ⟨decode_ascii s k h (by omega), hd⟩
theorem odd_rune {s : ByteArray} {k : Nat} (h : k < s.size) (hd : evenB s[k] = false) : oddR (Utf8.decode s k).1 = true := by
  unfold evenB oddB at hd
  have hd : oddR s[k].toNat = true := by simpa using hd
  by_cases ha : s[k].toNat < 128
  · rw [decode_ascii s k h ha]; exact hd
  · have := (decode_high s k h (by omega)).1
    unfold oddR; simp; omega
theorem oddAt_at {s : ByteArray} {k : Nat} (hk : k < s.size) (hI : (s.toList.take k).all evenB = true) (hd : evenB s[k] = false) : oddAt s = (k : Int) := by
  have hl := toList_len s
  have h1 : plainP s = false := all_bad hk hd
  unfold oddAt
  rw [h1, if_neg (by simp)]
  have : s.toList.findIdx oddB = k := by
    rw [List.findIdx_eq (by omega)]
    refine ⟨?_, fun j hj => ?_⟩
    · rw [toList_at s hk]; unfold evenB at hd; simpa using hd
    · have h2 := (List.all_eq_true.1 hI) (s.toList[j]'(by omega)) (List.mem_of_getElem? (by rw [List.getElem?_take_of_lt hj]; exact List.getElem?_eq_getElem (by omega)))
      unfold evenB at h2; simpa using h2
  rw [this]
set_option maxRecDepth 100000 in
set_option maxHeartbeats 2000000 in
theorem indexFunc_ (F : FuncId) (hF : ∀ c : Nat, PCalls Tryd.prog F ([.v (.int .i32 (c : Int))] ++ []) (.v (.bool (oddR c)))) (s : ByteArray) (hs : s.size ≤ maxLen) : PCalls Tryd.prog 61 [.v (.string s), .clo F [], .v (.bool true)] (.v (.int .i64 (oddAt s))) := by
  unfold maxLen at hs
  refine pcalls_of Tryd.func61 rfl rfl Tryd.ntmps61 rfl ?_
  repeat' (first | (refine rg 0 ?_; refine oAs ?_; refine oN ?_) | (refine rg 1 ?_; refine oMv ?_; refine sops_range 1000 (.free rfl rfl) rfl rfl rfl rfl (tyR rfl) rfl ?_; refine oN ?_) | refine gc ?_ | refine ct ?_ | refine cf ?_ | refine swp_cond rfl (fun hc => ?_) (fun hc => ?_) | refine rq rfl (rt .nil) ?_)
  refine swp_for (fun k => ⟨[(1, .t (.clo F [])), (2, .t (.v (.bool true))), (10, .bp 1000 0)], [(1000, itC s k)], []⟩) (fun k => (s.toList.take k).all evenB = true) s.size (weak_sub (.cons rfl rfl rfl (.cons rfl rfl rfl (.cons rfl rfl rfl .nil))) (.cons rfl rfl rfl .nil) .nil) rfl ?_
  intro k hk hI
  by_cases hlt : k < s.size
  · have hK := hF (Utf8.decode s k).1
    cases hd : evenB s[k] with
    | true =>
      obtain ⟨hdec, ho⟩ := even_rune hlt hd
      rw [hdec] at hK
      rw [ho] at hK
      repeat' (first | refine for_next hlt (weak_sub (.cons rfl rfl rfl (.cons rfl rfl rfl (.cons rfl rfl rfl .nil))) (.cons rfl rfl rfl .nil) .nil) (all_snoc hI hlt hd) | (refine rg 2 ?_; (first | refine sops_next 1000 (.free rfl rfl) rfl rfl rfl rfl rfl (by first | assumption | omega) (by assumption) ?_ | refine sops_next_end 1000 (.free rfl rfl) rfl rfl rfl rfl rfl (by first | assumption | omega) ?_); refine oEx ?_; refine oN ?_) | (refine rg 3 ?_; refine oEx ?_; refine oEx ?_; refine oAs ?_; refine oAs ?_; refine oN ?_) | (refine rg 4 ?_; refine oMv ?_; refine oMv ?_; refine sp (po_call_clo rfl rfl (ac .nil) (hK)) ?_; refine oMv ?_; refine sp (po_boolq rfl rfl rfl (by kernel_rfl) (by first | exact .inl rfl | exact .inr rfl)) ?_; refine oN ?_) | refine gc ?_ | refine ct ?_ | refine cf ?_ | refine swp_cond rfl (fun hc => ?_) (fun hc => ?_) | refine rq rfl (rt .nil) ?_)
    | false =>
      have ho := odd_rune hlt hd
      rw [ho] at hK
      rw [oddAt_at hlt hI hd]
      generalize hdec : Utf8.decode s k = ck at hK
      obtain ⟨c, w⟩ := ck
      repeat' (first | (refine rg 2 ?_; (first | refine sops_next 1000 (.free rfl rfl) rfl rfl rfl rfl rfl (by first | assumption | omega) (by assumption) ?_ | refine sops_next_end 1000 (.free rfl rfl) rfl rfl rfl rfl rfl (by first | assumption | omega) ?_); refine oEx ?_; refine oN ?_) | (refine rg 3 ?_; refine oEx ?_; refine oEx ?_; refine oAs ?_; refine oAs ?_; refine oN ?_) | (refine rg 4 ?_; refine oMv ?_; refine oMv ?_; refine sp (po_call_clo rfl rfl (ac .nil) (hK)) ?_; refine oMv ?_; refine sp (po_boolq rfl rfl rfl (by kernel_rfl) (by first | exact .inl rfl | exact .inr rfl)) ?_; refine oN ?_) | (refine rg 5 ?_; refine oMv ?_; refine oAs ?_; refine oN ?_) | refine gc ?_ | refine ct ?_ | refine cf ?_ | refine swp_cond rfl (fun hc => ?_) (fun hc => ?_) | refine rq rfl (rt .nil) ?_)
      rfl
  · obtain rfl : k = s.size := by omega
    rw [take_full s (Nat.lt_irrefl _)] at hI
    have e1 : oddAt s = -1 := by unfold oddAt plainP; rw [hI]; rfl
    rw [e1]
    repeat' (first | (refine rg 2 ?_; (first | refine sops_next 1000 (.free rfl rfl) rfl rfl rfl rfl rfl (by first | assumption | omega) (by assumption) ?_ | refine sops_next_end 1000 (.free rfl rfl) rfl rfl rfl rfl rfl (by first | assumption | omega) ?_); refine oEx ?_; refine oN ?_) | (refine rg 6 ?_; refine oAs ?_; refine oN ?_) | refine gc ?_ | refine ct ?_ | refine cf ?_ | refine swp_cond rfl (fun hc => ?_) (fun hc => ?_) | refine rq rfl (rt .nil) ?_)
    rfl
set_option maxRecDepth 100000 in
theorem indexFunc2_ (F : FuncId) (hF : ∀ c : Nat, PCalls Tryd.prog F ([.v (.int .i32 (c : Int))] ++ []) (.v (.bool (oddR c)))) (s : ByteArray) (hs : s.size ≤ maxLen) : PCalls Tryd.prog 49 [.v (.string s), .clo F []] (.v (.int .i64 (oddAt s))) := by
  have c1 := indexFunc_ F hF s hs
  refine pcalls_of Tryd.func49 rfl rfl Tryd.ntmps49 rfl ?_
  repeat' (first | (refine rg 0 ?_; refine oAs ?_; refine oN ?_) | (refine rg 1 ?_; refine oMv ?_; refine oMv ?_; refine oC (c1) rfl (ac (ac (ac .nil))) ?_; refine oAs ?_; refine oN ?_) | refine gc ?_ | refine ct ?_ | refine cf ?_ | refine swp_cond rfl (fun hc => ?_) (fun hc => ?_) | refine rq rfl (rt .nil) ?_)
  rfl
set_option maxRecDepth 100000 in
theorem containsFunc_ (F : FuncId) (hF : ∀ c : Nat, PCalls Tryd.prog F ([.v (.int .i32 (c : Int))] ++ []) (.v (.bool (oddR c)))) (s : ByteArray) (hs : s.size ≤ maxLen) : PCalls Tryd.prog 30 [.v (.string s), .clo F []] (.v (.bool (!plainP s))) := by
  have c1 := indexFunc2_ F hF s hs
  have e : (!plainP s) = decide (0 ≤ oddAt s) := by
    unfold oddAt
    cases plainP s <;> simp
  rw [e]
  refine pcalls_of Tryd.func30 rfl rfl Tryd.ntmps30 rfl ?_
  repeat' (first | (refine rg 0 ?_; refine oAs ?_; refine oN ?_) | (refine rg 1 ?_; refine oMv ?_; refine oMv ?_; refine oC (c1) rfl (ac (ac .nil)) ?_; refine oCm ?_; refine oAs ?_; refine oN ?_) | refine gc ?_ | refine ct ?_ | refine cf ?_ | refine swp_cond rfl (fun hc => ?_) (fun hc => ?_) | refine rq rfl (rt .nil) ?_)
  rfl
def num3 (s : ByteArray) : Int := if s.toList.all digB && decide (s.size = 3) then (numL s.toList : Int) else 0
set_option maxRecDepth 100000 in
set_option maxHeartbeats 2000000 in
theorem num_ (s : ByteArray) (hs : s.size ≤ maxLen) : PCalls Tryd.prog 27 [.v (.string s)] (.v (.int .i64 (num3 s))) := by
  unfold maxLen at hs
  have hl := toList_len s
  unfold num3
  refine pcalls_of Tryd.func27 rfl rfl Tryd.ntmps27 rfl ?_
  repeat' (first | (refine rg 0 ?_; refine oAs ?_; refine oN ?_) | (refine rg 1 ?_; refine oAs ?_; refine oN ?_) | (refine rg 2 ?_; refine oMv ?_; refine sp (po_len_str rfl rfl (tyR rfl)) ?_; refine oMv ?_; refine oN ?_) | refine gc ?_ | refine ct ?_ | refine cf ?_ | refine swp_cond rfl (fun hc => ?_) (fun hc => ?_) | refine rq rfl (rt .nil) ?_)
  by_cases h3 : s.size = 3
  · rw [decide_eq_true h3]
    have e3 : (!decide ((s.size : Int) = 3)) = false := by rw [decide_eq_true (by omega)]; rfl
    refine swp_for (fun k => ⟨[(0, .t (.v (.string s))), (3, .t (.v (.int .i64 ((numL (s.toList.take k) : Nat) : Int)))), (6, .t (.v (.int .i64 (s.size : Int)))), (7, .t (.v (.int .i64 (k : Int))))], [], []⟩) (fun k => (s.toList.take k).all digB = true) s.size (weak_sub (.cons rfl rfl rfl (.cons rfl rfl rfl (.cons rfl rfl rfl (.cons rfl rfl rfl .nil)))) .nil .nil) rfl ?_
    intro k hk hI
    by_cases hlt : k < s.size
    · cases hd : digB s[k] with
      | true =>
        have hb := numL_17 (s.toList.take k) hI (k := k) (by simp; omega) (by omega)
        rw [List.take_take, Nat.min_self] at hb
        have hn := numL_snoc s.toList (k := k) (by omega)
        rw [toList_at s hlt] at hn
        have hd2 : 48 ≤ s[k].toNat ∧ s[k].toNat ≤ 57 := by unfold digB at hd; simpa using hd
        repeat' (first | refine for_next hlt (weak_sub (.cons rfl (by first | rfl | (exact congrArg (fun n => A.t (T.v (Value.int .i64 n))) (by rw [hn]; omega))) rfl (.cons rfl (by first | rfl | (exact congrArg (fun n => A.t (T.v (Value.int .i64 n))) (by rw [hn]; omega))) rfl (.cons rfl (by first | rfl | (exact congrArg (fun n => A.t (T.v (Value.int .i64 n))) (by rw [hn]; omega))) rfl (.cons rfl (by first | rfl | (exact congrArg (fun n => A.t (T.v (Value.int .i64 n))) (by rw [hn]; omega))) rfl .nil)))) .nil .nil) (all_snoc hI hlt hd) | (refine rg 3 ?_; refine oCm ?_; refine oN ?_) | (refine rg 4 ?_; refine oMv ?_; refine oAs ?_; refine oN ?_) | (refine rg 5 ?_; refine oMv ?_; refine oMv ?_; refine sp (xist rfl) ?_; refine oCm ?_; refine oMv ?_; (first | refine oMv ?_ | refine oK ?_ | ((refine ssp (fun hc => ?_) (fun hc => ?_)) <;> first | refine oMv ?_ | refine oK ?_)) <;> (first | refine oMv ?_ | refine oK ?_) <;> (first | refine sp (xist rfl) ?_ | refine oK ?_) <;> (first | refine oCm ?_ | refine oK ?_) <;> (first | refine oPt ?_ | refine oPf ?_) <;> (refine oMv ?_) <;> (first | refine oMv ?_ | refine oK ?_ | ((refine ssp (fun hc => ?_) (fun hc => ?_)) <;> first | refine oMv ?_ | refine oK ?_)) <;> (first | refine sp (po_len_str rfl rfl (tyR rfl)) ?_ | refine oK ?_) <;> (first | refine oCm ?_ | refine oK ?_) <;> (first | refine oPt ?_ | refine oPf ?_) <;> (refine oN ?_)) | (refine rg 7 ?_; refine oMv ?_; refine sp (po_arith rfl rfl rfl (ar_mul (by first | rfl | (refine wrap_i64 ?_; omega) | (refine wrap_u8 ?_; omega)) rfl)) ?_; refine oMv ?_; refine oMv ?_; refine sp (xist rfl) ?_; (first | refine sp (po_dec rfl rfl rfl (by omega)) ?_ | refine sp (po_arith rfl rfl rfl (ar_sub (by first | rfl | (refine wrap_i64 ?_; omega) | (refine wrap_u8 ?_; omega)) rfl)) ?_); refine sp (po_conv_int rfl rfl (tyK rfl) (tyK rfl) (by first | (refine wrap_i64 ?_; omega) | (refine wrap_u8 ?_; omega) | rfl)) ?_; (first | refine sp (xinc rfl) ?_ | refine sp (po_arith rfl rfl rfl (ar_add (by first | rfl | (refine wrap_i64 ?_; omega) | (refine wrap_u8 ?_; omega)) rfl)) ?_); refine oAs ?_; refine oN ?_) | (refine rg 8 ?_; (first | refine sp (xinc rfl) ?_ | refine sp (po_arith rfl rfl rfl (ar_add (by first | rfl | (refine wrap_i64 ?_; omega) | (refine wrap_u8 ?_; omega)) rfl)) ?_); refine oMv ?_; refine oN ?_) | refine gc ?_ | refine ct ?_ | refine cf ?_ | refine swp_cond rfl (fun hc => ?_) (fun hc => ?_) | refine rq rfl (rt .nil) ?_)
      | false =>
        have hd2 : s[k].toNat < 48 ∨ 57 < s[k].toNat := by unfold digB at hd; simp at hd; omega
        rw [all_bad hlt hd]
        rcases hd2 with hd2 | hd2
        all_goals
          repeat' (first | (refine rg 3 ?_; refine oCm ?_; refine oN ?_) | (refine rg 4 ?_; refine oMv ?_; refine oAs ?_; refine oN ?_) | (refine rg 5 ?_; refine oMv ?_; refine oMv ?_; refine sp (xist rfl) ?_; refine oCm ?_; refine oMv ?_; (first | refine oMv ?_ | refine oK ?_ | ((refine ssp (fun hc => ?_) (fun hc => ?_)) <;> first | refine oMv ?_ | refine oK ?_)) <;> (first | refine oMv ?_ | refine oK ?_) <;> (first | refine sp (xist rfl) ?_ | refine oK ?_) <;> (first | refine oCm ?_ | refine oK ?_) <;> (first | refine oPt ?_ | refine oPf ?_) <;> (refine oMv ?_) <;> (first | refine oMv ?_ | refine oK ?_ | ((refine ssp (fun hc => ?_) (fun hc => ?_)) <;> first | refine oMv ?_ | refine oK ?_)) <;> (first | refine sp (po_len_str rfl rfl (tyR rfl)) ?_ | refine oK ?_) <;> (first | refine oCm ?_ | refine oK ?_) <;> (first | refine oPt ?_ | refine oPf ?_) <;> (refine oN ?_)) | (refine rg 6 ?_; refine oAs ?_; refine oN ?_) | refine gc ?_ | refine ct ?_ | refine cf ?_ | refine swp_cond rfl (fun hc => ?_) (fun hc => ?_) | refine rq rfl (rt .nil) ?_)
          rfl
    · obtain rfl : k = s.size := by omega
      rw [take_full s (Nat.lt_irrefl _)] at hI
      rw [hI, take_full s (Nat.lt_irrefl _)]
      repeat' (first | (refine rg 3 ?_; refine oCm ?_; refine oN ?_) | (refine rg 9 ?_; refine oMv ?_; refine oAs ?_; refine oN ?_) | refine gc ?_ | refine ct ?_ | refine cf ?_ | refine swp_cond rfl (fun hc => ?_) (fun hc => ?_) | refine rq rfl (rt .nil) ?_)
      rfl
  · rw [decide_eq_false h3, Bool.and_false, if_neg (by simp)]
    have e3 : (!decide ((s.size : Int) = 3)) = true := by rw [decide_eq_false (by omega)]; rfl
    refine swp_for (fun k => ⟨[(0, .t (.v (.string s))), (3, .t (.v (.int .i64 0))), (6, .t (.v (.int .i64 (s.size : Int)))), (7, .t (.v (.int .i64 (k : Int))))], [], []⟩) (fun k => k = 0) s.size (weak_sub (.cons rfl rfl rfl (.cons rfl rfl rfl (.cons rfl rfl rfl (.cons rfl rfl rfl .nil)))) .nil .nil) rfl ?_
    intro k hk hI
    subst hI
    by_cases hlt : 0 < s.size
    · have h3c : s[0].toNat < 48 ∨ 57 < s[0].toNat ∨ (48 ≤ s[0].toNat ∧ s[0].toNat ≤ 57) := by omega
      rcases h3c with hd2 | hd2 | hd2
      all_goals
        repeat' (first | (refine rg 3 ?_; refine oCm ?_; refine oN ?_) | (refine rg 4 ?_; refine oMv ?_; refine oAs ?_; refine oN ?_) | (refine rg 5 ?_; refine oMv ?_; refine oMv ?_; refine sp (xist rfl) ?_; refine oCm ?_; refine oMv ?_; (first | refine oMv ?_ | refine oK ?_ | ((refine ssp (fun hc => ?_) (fun hc => ?_)) <;> first | refine oMv ?_ | refine oK ?_)) <;> (first | refine oMv ?_ | refine oK ?_) <;> (first | refine sp (xist rfl) ?_ | refine oK ?_) <;> (first | refine oCm ?_ | refine oK ?_) <;> (first | refine oPt ?_ | refine oPf ?_) <;> (refine oMv ?_) <;> (first | refine oMv ?_ | refine oK ?_ | ((refine ssp (fun hc => ?_) (fun hc => ?_)) <;> first | refine oMv ?_ | refine oK ?_)) <;> (first | refine sp (po_len_str rfl rfl (tyR rfl)) ?_ | refine oK ?_) <;> (first | refine oCm ?_ | refine oK ?_) <;> (first | refine oPt ?_ | refine oPf ?_) <;> (refine oN ?_)) | (refine rg 6 ?_; refine oAs ?_; refine oN ?_) | refine gc ?_ | refine ct ?_ | refine cf ?_ | refine swp_cond rfl (fun hc => ?_) (fun hc => ?_) | refine rq rfl (rt .nil) ?_)
        rfl
    · have h0 : s.size = 0 := by omega
      repeat' (first | (refine rg 3 ?_; refine oCm ?_; refine oN ?_) | (refine rg 9 ?_; refine oMv ?_; refine oAs ?_; refine oN ?_) | refine gc ?_ | refine ct ?_ | refine cf ?_ | refine swp_cond rfl (fun hc => ?_) (fun hc => ?_) | refine rq rfl (rt .nil) ?_)
      rfl
end Go.Proofs.YtpncekdhigappaaDoor.An
