/- Merged by bundles.py: SimPath8, SimJn. -/
import Derived.Test.YtkmhaijefpgfiaaDoorQ14
import Derived.Test.YtkmhaijefpgfiaaDoorQ15
import Derived.Test.YtkmhaijefpgfiaaDoorQ8
/- Targets: the document's answer, digits and what may be: walks. -/
namespace Go.Proofs.YtkmhaijefpgfiaaDoor.Pth
set_option linter.unusedVariables false
set_option linter.unusedSimpArgs false
open Go.RowKit Mem Sim Opn Str
abbrev hexD : ByteArray := ⟨#[48, 49, 50, 51, 52, 53, 54, 55, 56, 57, 97, 98, 99, 100, 101, 102, 65, 66, 67, 68, 69, 70]⟩
abbrev hexL : L8 := [48, 49, 50, 51, 52, 53, 54, 55, 56, 57, 97, 98, 99, 100, 101, 102, 65, 66, 67, 68, 69, 70]
theorem hexD_dig : ∀ k : Nat, (h : k < hexD.size) → dig hexD[k] = (if 15 < k then (k : Int) - 6 else (k : Int)) := by
  intro k h
  have key : ∀ m : Fin 22, dig (hexD[m.1]'m.2) = (if 15 < m.1 then (m.1 : Int) - 6 else (m.1 : Int)) := by decide
  exact key ⟨k, h⟩
theorem hexL_no {c : UInt8} (h : hexL.any (· == c) = false) : dig c = -1 := by
  have h' : ∀ d ∈ hexL, d ≠ c := fun d hd e => by
    have := List.any_eq_false.1 h d hd
    simp [e] at this
  have hl := c.toNat_lt
  have key : ∀ n : Nat, n < 256 → (UInt8.ofNat n ∈ hexL ∨ dig (UInt8.ofNat n) = -1) := by
    have : ∀ m : Fin 256, (UInt8.ofNat m.1 ∈ hexL ∨ dig (UInt8.ofNat m.1) = -1) := by decide +kernel
    exact fun n hn => this ⟨n, hn⟩
  have := key c.toNat hl
  rw [show UInt8.ofNat c.toNat = c by simp] at this
  rcases this with h1 | h1
  · exact absurd rfl (h' c h1)
  · exact h1
theorem any_take_succ {l : L8} {c : UInt8} {k : Nat} (h : (l.take k).any (· == c) = false) (hk : k < l.length) (hc : l[k] ≠ c) : (l.take (k + 1)).any (· == c) = false := by
  rw [List.take_succ_eq_append_getElem hk, List.any_append, h]; simpa using hc
theorem any_at {l : L8} {c : UInt8} {k : Nat} (hk : k < l.length) (hc : l[k] = c) : l.any (· == c) = true := List.any_eq_true.2 ⟨l[k], List.getElem_mem hk, by simpa using hc⟩
set_option maxRecDepth 100000 in
set_option maxHeartbeats 1000000 in
theorem refHex_ (c : UInt8) : PCalls Tryd.prog 35 [.v (.int .u8 (c.toNat : Int))] (.v (.int .i64 (dig c))) := by
  refine pcalls_of Tryd.func35 rfl rfl Tryd.ntmps35 rfl ?_
  repeat' (first | (refine rg 0 ?_; refine oAs ?_; refine oN ?_) | (refine rg 1 ?_; refine oAs ?_; refine oN ?_) | refine gc ?_ | refine ct ?_ | refine cf ?_ | refine swp_cond rfl (fun hc => ?_) (fun hc => ?_) | refine rq rfl (rt .nil) ?_)
  refine swp_for (fun k => ⟨[(0, .t (.v (.int .u8 (c.toNat : Int)))), (3, .t (.v (.int .i64 (k : Int))))], [], []⟩) (fun k => (hexL.take k).any (· == c) = false) 22 (weak_sub (.cons rfl rfl rfl (.cons rfl rfl rfl .nil)) .nil .nil) rfl ?_
  intro k hk hI
  by_cases hlt : k < 22
  · have h2 : k < hexD.size := hlt
    have h3 : k < hexL.length := hlt
    have he : hexL[k] = hexD[k] := rfl
    have hd := hexD_dig k h2
    by_cases hc : hexD[k].toNat = c.toNat
    · have hc' : hexD[k] = c := UInt8.toNat_inj.1 hc
      rw [hc'] at hd
      rw [hd]
      have hcd : decide (((hexD[k].toNat : Nat) : Int) = (c.toNat : Int)) = true := decide_eq_true (by omega)
      by_cases h15 : 15 < k
      · rw [if_pos h15]
        repeat' (first | (refine rg 2 ?_; refine oMv ?_; refine oCm ?_; refine oN ?_) | (refine rg 4 ?_; refine oMv ?_; refine sp (xist rfl) ?_; refine oMv ?_; refine oCm ?_; refine oN ?_) | (refine rg 5 ?_; refine oMv ?_; refine oCm ?_; refine oN ?_) | (refine rg 6 ?_; refine oMv ?_; (first | refine sp (po_dec rfl rfl rfl (by omega)) ?_ | refine sp (po_arith rfl rfl rfl (ar_sub (by first | rfl | (refine wrap_i64 ?_; omega)) rfl)) ?_); refine oAs ?_; refine oN ?_) | refine gc ?_ | refine ct ?_ | refine cf ?_ | refine swp_cond rfl (fun hc => ?_) (fun hc => ?_) | refine rq rfl (rt .nil) ?_)
        rfl
      · rw [if_neg h15]
        repeat' (first | (refine rg 2 ?_; refine oMv ?_; refine oCm ?_; refine oN ?_) | (refine rg 4 ?_; refine oMv ?_; refine sp (xist rfl) ?_; refine oMv ?_; refine oCm ?_; refine oN ?_) | (refine rg 5 ?_; refine oMv ?_; refine oCm ?_; refine oN ?_) | (refine rg 7 ?_; refine oMv ?_; refine oAs ?_; refine oN ?_) | refine gc ?_ | refine ct ?_ | refine cf ?_ | refine swp_cond rfl (fun hc => ?_) (fun hc => ?_) | refine rq rfl (rt .nil) ?_)
        rfl
    · have hcd : decide (((hexD[k].toNat : Nat) : Int) = (c.toNat : Int)) = false := decide_eq_false (by omega)
      have hne : hexL[k] ≠ c := fun e => hc (by rw [← he, e])
      repeat' (first | refine for_next hlt (weak_sub (.cons rfl rfl rfl (.cons rfl rfl rfl .nil)) .nil .nil) (any_take_succ hI h3 hne) | (refine rg 2 ?_; refine oMv ?_; refine oCm ?_; refine oN ?_) | (refine rg 4 ?_; refine oMv ?_; refine sp (xist rfl) ?_; refine oMv ?_; refine oCm ?_; refine oN ?_) | (refine rg 3 ?_; refine oMv ?_; (first | refine sp (xinc rfl) ?_ | refine sp (xadd rfl) ?_); refine oAs ?_; refine oN ?_) | refine gc ?_ | refine ct ?_ | refine cf ?_ | refine swp_cond rfl (fun hc => ?_) (fun hc => ?_) | refine rq rfl (rt .nil) ?_)
  · obtain rfl : k = 22 := by omega
    rw [hexL_no hI]
    repeat' (first | (refine rg 2 ?_; refine oMv ?_; refine oCm ?_; refine oN ?_) | (refine rg 8 ?_; refine oAs ?_; refine oN ?_) | refine gc ?_ | refine ct ?_ | refine cf ?_ | refine swp_cond rfl (fun hc => ?_) (fun hc => ?_) | refine rq rfl (rt .nil) ?_)
    rfl
abbrev noD : ByteArray := ⟨#[34, 35, 60, 62, 92, 94, 96, 123, 124, 125]⟩
abbrev noL : L8 := [34, 35, 60, 62, 92, 94, 96, 123, 124, 125]
set_option maxRecDepth 100000 in
set_option maxHeartbeats 2000000 in
theorem refMay_ (s : ByteArray) (hs : s.size ≤ 100000) : PCalls Tryd.prog 26 [.v (.string s)] (.v (.bool (mayL s.toList))) := by
  have hsz : s.toList.length = s.size := toList_len s
  refine pcalls_of Tryd.func26 rfl rfl Tryd.ntmps26 rfl ?_
  have hng : (s.size < 1 ∨ 512 < s.size ∨ s.toList.head? ≠ some 47) → mayL s.toList = false := by
    intro h
    unfold mayL
    rcases h with h | h | h
    · have : s.toList = [] := List.eq_nil_of_length_eq_zero (by omega)
      rw [this]; rfl
    · rw [decide_eq_false (by omega)]; rfl
    · rw [decide_eq_false h]; simp
  by_cases h1 : s.size < 1
  · rw [hng (.inl h1)]
    repeat' (first | (refine rg 0 ?_; refine oAs ?_; refine oN ?_) | (refine rg 1 ?_; refine oMv ?_; refine sp (po_len_str rfl rfl (tyR rfl)) ?_; refine oCm ?_; refine oMv ?_; (first | refine oMv ?_ | refine oK ?_ | ((refine ssp (fun hc => ?_) (fun hc => ?_)) <;> first | refine oMv ?_ | refine oK ?_)) <;> (first | refine sp (po_len_str rfl rfl (tyR rfl)) ?_ | refine oK ?_) <;> (first | refine oCm ?_ | refine oK ?_) <;> (first | refine oPt ?_ | refine oPf ?_) <;> (refine oMv ?_) <;> (first | refine oMv ?_ | refine oK ?_ | ((refine ssp (fun hc => ?_) (fun hc => ?_)) <;> first | refine oMv ?_ | refine oK ?_)) <;> (first | refine sp (po_index_str (k := 0) rfl rfl rfl (tyR rfl) (by first | rfl | omega) (by first | assumption | omega)) ?_ | refine oK ?_) <;> (first | refine oCm ?_ | refine oK ?_) <;> (first | refine oPt ?_ | refine oPf ?_) <;> (refine oN ?_)) | (refine rg 2 ?_; refine oAs ?_; refine oN ?_) | refine gc ?_ | refine ct ?_ | refine cf ?_ | refine swp_cond rfl (fun hc => ?_) (fun hc => ?_) | refine rq rfl (rt .nil) ?_)
    rfl
  by_cases h2 : 512 < s.size
  · rw [hng (.inr (.inl h2))]
    repeat' (first | (refine rg 0 ?_; refine oAs ?_; refine oN ?_) | (refine rg 1 ?_; refine oMv ?_; refine sp (po_len_str rfl rfl (tyR rfl)) ?_; refine oCm ?_; refine oMv ?_; (first | refine oMv ?_ | refine oK ?_ | ((refine ssp (fun hc => ?_) (fun hc => ?_)) <;> first | refine oMv ?_ | refine oK ?_)) <;> (first | refine sp (po_len_str rfl rfl (tyR rfl)) ?_ | refine oK ?_) <;> (first | refine oCm ?_ | refine oK ?_) <;> (first | refine oPt ?_ | refine oPf ?_) <;> (refine oMv ?_) <;> (first | refine oMv ?_ | refine oK ?_ | ((refine ssp (fun hc => ?_) (fun hc => ?_)) <;> first | refine oMv ?_ | refine oK ?_)) <;> (first | refine sp (po_index_str (k := 0) rfl rfl rfl (tyR rfl) (by first | rfl | omega) (by first | assumption | omega)) ?_ | refine oK ?_) <;> (first | refine oCm ?_ | refine oK ?_) <;> (first | refine oPt ?_ | refine oPf ?_) <;> (refine oN ?_)) | (refine rg 2 ?_; refine oAs ?_; refine oN ?_) | refine gc ?_ | refine ct ?_ | refine cf ?_ | refine swp_cond rfl (fun hc => ?_) (fun hc => ?_) | refine rq rfl (rt .nil) ?_)
    rfl
  have h0 : 0 < s.size := by omega
  have hhd := head_at s h0
  by_cases h3 : s[0].toNat = 47
  · have hm : mayL s.toList = okL s.toList := by
      unfold mayL
      rw [decide_eq_true (by omega : s.toList.length ≤ 512), hhd, decide_eq_true (by rw [show s[0] = 47 from UInt8.toNat_inj.1 h3])]; rfl
    rw [hm]
    have h3' : (!decide (((s[0].toNat : Nat) : Int) = 47)) = false := by rw [h3]; rfl
    repeat' (first | (refine rg 0 ?_; refine oAs ?_; refine oN ?_) | (refine rg 1 ?_; refine oMv ?_; refine sp (po_len_str rfl rfl (tyR rfl)) ?_; refine oCm ?_; refine oMv ?_; (first | refine oMv ?_ | refine oK ?_ | ((refine ssp (fun hc => ?_) (fun hc => ?_)) <;> first | refine oMv ?_ | refine oK ?_)) <;> (first | refine sp (po_len_str rfl rfl (tyR rfl)) ?_ | refine oK ?_) <;> (first | refine oCm ?_ | refine oK ?_) <;> (first | refine oPt ?_ | refine oPf ?_) <;> (refine oMv ?_) <;> (first | refine oMv ?_ | refine oK ?_ | ((refine ssp (fun hc => ?_) (fun hc => ?_)) <;> first | refine oMv ?_ | refine oK ?_)) <;> (first | refine sp (po_index_str (k := 0) rfl rfl rfl (tyR rfl) (by first | rfl | omega) (by first | assumption | omega)) ?_ | refine oK ?_) <;> (first | refine oCm ?_ | refine oK ?_) <;> (first | refine oPt ?_ | refine oPf ?_) <;> (refine oN ?_)) | (refine rg 3 ?_; refine oAs ?_; refine oN ?_) | refine gc ?_ | refine ct ?_ | refine cf ?_ | refine swp_cond rfl (fun hc => ?_) (fun hc => ?_) | refine rq rfl (rt .nil) ?_)
    refine swp_for (fun k => ⟨[(0, .t (.v (.string s))), (3, .t (.v (.int .i64 (k : Int))))], [], []⟩) (fun k => okL s.toList = okL (s.toList.drop k)) s.size (weak_sub (.cons rfl rfl rfl (.cons rfl rfl rfl .nil)) .nil .nil) rfl ?_
    intro k hk hI
    by_cases hlt : k < s.size
    · have e1 := tl_drop s hlt
      have e2 : okL (s.toList.drop k) = (!badC s[k] && (!decide (s[k] = 37) || pctB (s.toList.drop (k + 1))) && okL (s.toList.drop (k + 1))) := by rw [e1]; rfl
      rw [e2, pct_at] at hI
      by_cases hz1 : s[k].toNat < 33
      · have hb : badC s[k] = true := by unfold badC; rw [decide_eq_true hz1]; rfl
        rw [hb] at hI
        rw [show okL s.toList = false from hI]
        repeat' (first | (refine rg 4 ?_; refine oMv ?_; refine oMv ?_; refine sp (po_len_str rfl rfl (tyR rfl)) ?_; refine oCm ?_; refine oN ?_) | (refine rg 6 ?_; refine oMv ?_; refine oMv ?_; refine sp (xist rfl) ?_; refine oCm ?_; refine oMv ?_; (first | refine oMv ?_ | refine oK ?_ | ((refine ssp (fun hc => ?_) (fun hc => ?_)) <;> first | refine oMv ?_ | refine oK ?_)) <;> (first | refine oMv ?_ | refine oK ?_) <;> (first | refine sp (xist rfl) ?_ | refine oK ?_) <;> (first | refine oCm ?_ | refine oK ?_) <;> (first | refine oPt ?_ | refine oPf ?_) <;> (refine oN ?_)) | (refine rg 7 ?_; refine oAs ?_; refine oN ?_) | refine gc ?_ | refine ct ?_ | refine cf ?_ | refine swp_cond rfl (fun hc => ?_) (fun hc => ?_) | refine rq rfl (rt .nil) ?_)
        rfl
      by_cases hz2 : 126 < s[k].toNat
      · have hb : badC s[k] = true := by unfold badC; rw [decide_eq_true hz2]; simp
        rw [hb] at hI
        rw [show okL s.toList = false from hI]
        repeat' (first | (refine rg 4 ?_; refine oMv ?_; refine oMv ?_; refine sp (po_len_str rfl rfl (tyR rfl)) ?_; refine oCm ?_; refine oN ?_) | (refine rg 6 ?_; refine oMv ?_; refine oMv ?_; refine sp (xist rfl) ?_; refine oCm ?_; refine oMv ?_; (first | refine oMv ?_ | refine oK ?_ | ((refine ssp (fun hc => ?_) (fun hc => ?_)) <;> first | refine oMv ?_ | refine oK ?_)) <;> (first | refine oMv ?_ | refine oK ?_) <;> (first | refine sp (xist rfl) ?_ | refine oK ?_) <;> (first | refine oCm ?_ | refine oK ?_) <;> (first | refine oPt ?_ | refine oPf ?_) <;> (refine oN ?_)) | (refine rg 7 ?_; refine oAs ?_; refine oN ?_) | refine gc ?_ | refine ct ?_ | refine cf ?_ | refine swp_cond rfl (fun hc => ?_) (fun hc => ?_) | refine rq rfl (rt .nil) ?_)
        rfl
      repeat' (first | (refine rg 4 ?_; refine oMv ?_; refine oMv ?_; refine sp (po_len_str rfl rfl (tyR rfl)) ?_; refine oCm ?_; refine oN ?_) | (refine rg 6 ?_; refine oMv ?_; refine oMv ?_; refine sp (xist rfl) ?_; refine oCm ?_; refine oMv ?_; (first | refine oMv ?_ | refine oK ?_ | ((refine ssp (fun hc => ?_) (fun hc => ?_)) <;> first | refine oMv ?_ | refine oK ?_)) <;> (first | refine oMv ?_ | refine oK ?_) <;> (first | refine sp (xist rfl) ?_ | refine oK ?_) <;> (first | refine oCm ?_ | refine oK ?_) <;> (first | refine oPt ?_ | refine oPf ?_) <;> (refine oN ?_)) | (refine rg 8 ?_; refine oAs ?_; refine oN ?_) | refine gc ?_ | refine ct ?_ | refine cf ?_ | refine swp_cond rfl (fun hc => ?_) (fun hc => ?_) | refine rq rfl (rt .nil) ?_)
      refine swp_for (fun j => ⟨[(0, .t (.v (.string s))), (3, .t (.v (.int .i64 (k : Int)))), (4, .t (.v (.int .i64 (j : Int))))], [], []⟩) (fun j => (noL.take j).any (· == s[k]) = false) 10 (weak_sub (.cons rfl rfl rfl (.cons rfl rfl rfl (.cons rfl rfl rfl .nil))) .nil .nil) rfl ?_
      intro j hj hJ
      by_cases hjt : j < 10
      · have j2 : j < noD.size := hjt
        have j3 : j < noL.length := hjt
        have he : noL[j] = noD[j] := rfl
        by_cases hc : s[k].toNat = noD[j].toNat
        · have hcd : decide (((s[k].toNat : Nat) : Int) = (noD[j].toNat : Int)) = true := decide_eq_true (by omega)
          have hb : badC s[k] = true := by
            unfold badC
            rw [show noL.any (· == s[k]) = true from any_at j3 (by rw [he]; exact (UInt8.toNat_inj.1 hc).symm)]; simp
          rw [hb] at hI
          rw [show okL s.toList = false from hI]
          repeat' (first | refine gc ?_ | refine for_ret ?_ | (refine rg 9 ?_; refine oMv ?_; refine oCm ?_; refine oN ?_) | (refine rd 11 ?_; refine dMv ?_; refine dMv ?_; refine dp (xist rfl) ?_; refine dMv ?_; refine dp (xist rfl) ?_; refine dCm ?_; refine dN ?_; refine oN ?_) | (refine rg 12 ?_; refine oAs ?_; refine oN ?_) | refine ct ?_ | refine cf ?_ | refine swp_cond rfl (fun hc => ?_) (fun hc => ?_) | refine rq rfl (rt .nil) ?_)
          rfl
        · have hcd : decide (((s[k].toNat : Nat) : Int) = (noD[j].toNat : Int)) = false := decide_eq_false (by omega)
          have hne : noL[j] ≠ s[k] := fun e => hc (by rw [← e, he])
          repeat' (first | refine for_next hjt (weak_sub (.cons rfl rfl rfl (.cons rfl rfl rfl (.cons rfl rfl rfl .nil))) .nil .nil) (any_take_succ hJ j3 hne) | (refine rg 9 ?_; refine oMv ?_; refine oCm ?_; refine oN ?_) | (refine rd 11 ?_; refine dMv ?_; refine dMv ?_; refine dp (xist rfl) ?_; refine dMv ?_; refine dp (xist rfl) ?_; refine dCm ?_; refine dN ?_; refine oN ?_) | (refine rg 10 ?_; refine oMv ?_; (first | refine sp (xinc rfl) ?_ | refine sp (xadd rfl) ?_); refine oAs ?_; refine oN ?_) | refine gc ?_ | refine ct ?_ | refine cf ?_ | refine swp_cond rfl (fun hc => ?_) (fun hc => ?_) | refine rq rfl (rt .nil) ?_)
      · obtain rfl : j = 10 := by omega
        have hbf : badC s[k] = false := by
          unfold badC
          rw [decide_eq_false hz1, decide_eq_false hz2, show noL.any (· == s[k]) = false from hJ]; rfl
        rw [hbf] at hI
        by_cases hp : s[k].toNat = 37
        · have hp' : s[k] = 37 := UInt8.toNat_inj.1 hp
          rw [decide_eq_true hp'] at hI
          by_cases h5 : k + 2 < s.size
          · rw [dif_pos h5] at hI
            have ca := refHex_ s[k + 1]
            have cb := refHex_ s[k + 2]
            generalize dig s[k + 1] = da at *
            generalize dig s[k + 2] = db at *
            by_cases h6 : 0 ≤ da
            · by_cases h7 : 0 ≤ db
              · rw [decide_eq_true h6, decide_eq_true h7] at hI
                repeat' (first | refine for_next hlt (weak_sub (.cons rfl rfl rfl (.cons rfl rfl rfl .nil)) .nil .nil) (by simpa using hI) | (refine rg 9 ?_; refine oMv ?_; refine oCm ?_; refine oN ?_) | (refine rg 13 ?_; refine oMv ?_; refine oMv ?_; refine sp (xist rfl) ?_; refine oCm ?_; refine oMv ?_; (first | refine oMv ?_ | refine oK ?_ | ((refine ssp (fun hc => ?_) (fun hc => ?_)) <;> first | refine oMv ?_ | refine oK ?_)) <;> (first | refine sp (xinc rfl) ?_ | refine sp (xadd rfl) ?_ | refine oK ?_) <;> (first | refine oMv ?_ | refine oK ?_) <;> (first | refine sp (po_len_str rfl rfl (tyR rfl)) ?_ | refine oK ?_) <;> (first | refine oCm ?_ | refine oK ?_) <;> (first | refine oMv ?_ | refine oK ?_) <;> (first | refine oMv ?_ | refine oK ?_ | ((refine ssp (fun hc => ?_) (fun hc => ?_)) <;> first | refine oMv ?_ | refine oK ?_)) <;> (first | refine oMv ?_ | refine oK ?_) <;> (first | refine sp (xinc rfl) ?_ | refine sp (xadd rfl) ?_ | refine oK ?_) <;> (first | refine sp (xist rfl) ?_ | refine oK ?_) <;> (first | refine oC (ca) rfl (ac .nil) ?_ | refine oC (cb) rfl (ac .nil) ?_ | refine oK ?_) <;> (first | refine oCm ?_ | refine oK ?_) <;> (first | refine oPt ?_ | refine oPf ?_ | refine oK ?_) <;> (first | refine oMv ?_ | refine oK ?_) <;> (first | refine oMv ?_ | refine oK ?_ | ((refine ssp (fun hc => ?_) (fun hc => ?_)) <;> first | refine oMv ?_ | refine oK ?_)) <;> (first | refine oMv ?_ | refine oK ?_) <;> (first | refine sp (xinc rfl) ?_ | refine sp (xadd rfl) ?_ | refine oK ?_) <;> (first | refine sp (xist rfl) ?_ | refine oK ?_) <;> (first | refine oC (ca) rfl (ac .nil) ?_ | refine oC (cb) rfl (ac .nil) ?_ | refine oK ?_) <;> (first | refine oCm ?_ | refine oK ?_) <;> (first | refine oPt ?_ | refine oPf ?_ | refine oK ?_) <;> (first | refine oPt ?_ | refine oPf ?_) <;> (refine oN ?_)) | (refine rg 5 ?_; refine oMv ?_; (first | refine sp (xinc rfl) ?_ | refine sp (xadd rfl) ?_); refine oAs ?_; refine oN ?_) | refine gc ?_ | refine ct ?_ | refine cf ?_ | refine swp_cond rfl (fun hc => ?_) (fun hc => ?_) | refine rq rfl (rt .nil) ?_)
              · rw [decide_eq_true h6, decide_eq_false h7] at hI
                rw [show okL s.toList = false from by simpa using hI]
                repeat' (first | (refine rg 9 ?_; refine oMv ?_; refine oCm ?_; refine oN ?_) | (refine rg 13 ?_; refine oMv ?_; refine oMv ?_; refine sp (xist rfl) ?_; refine oCm ?_; refine oMv ?_; (first | refine oMv ?_ | refine oK ?_ | ((refine ssp (fun hc => ?_) (fun hc => ?_)) <;> first | refine oMv ?_ | refine oK ?_)) <;> (first | refine sp (xinc rfl) ?_ | refine sp (xadd rfl) ?_ | refine oK ?_) <;> (first | refine oMv ?_ | refine oK ?_) <;> (first | refine sp (po_len_str rfl rfl (tyR rfl)) ?_ | refine oK ?_) <;> (first | refine oCm ?_ | refine oK ?_) <;> (first | refine oMv ?_ | refine oK ?_) <;> (first | refine oMv ?_ | refine oK ?_ | ((refine ssp (fun hc => ?_) (fun hc => ?_)) <;> first | refine oMv ?_ | refine oK ?_)) <;> (first | refine oMv ?_ | refine oK ?_) <;> (first | refine sp (xinc rfl) ?_ | refine sp (xadd rfl) ?_ | refine oK ?_) <;> (first | refine sp (xist rfl) ?_ | refine oK ?_) <;> (first | refine oC (ca) rfl (ac .nil) ?_ | refine oC (cb) rfl (ac .nil) ?_ | refine oK ?_) <;> (first | refine oCm ?_ | refine oK ?_) <;> (first | refine oPt ?_ | refine oPf ?_ | refine oK ?_) <;> (first | refine oMv ?_ | refine oK ?_) <;> (first | refine oMv ?_ | refine oK ?_ | ((refine ssp (fun hc => ?_) (fun hc => ?_)) <;> first | refine oMv ?_ | refine oK ?_)) <;> (first | refine oMv ?_ | refine oK ?_) <;> (first | refine sp (xinc rfl) ?_ | refine sp (xadd rfl) ?_ | refine oK ?_) <;> (first | refine sp (xist rfl) ?_ | refine oK ?_) <;> (first | refine oC (ca) rfl (ac .nil) ?_ | refine oC (cb) rfl (ac .nil) ?_ | refine oK ?_) <;> (first | refine oCm ?_ | refine oK ?_) <;> (first | refine oPt ?_ | refine oPf ?_ | refine oK ?_) <;> (first | refine oPt ?_ | refine oPf ?_) <;> (refine oN ?_)) | (refine rg 14 ?_; refine oAs ?_; refine oN ?_) | refine gc ?_ | refine ct ?_ | refine cf ?_ | refine swp_cond rfl (fun hc => ?_) (fun hc => ?_) | refine rq rfl (rt .nil) ?_)
                rfl
            · rw [decide_eq_false h6] at hI
              rw [show okL s.toList = false from by simpa using hI]
              repeat' (first | (refine rg 9 ?_; refine oMv ?_; refine oCm ?_; refine oN ?_) | (refine rg 13 ?_; refine oMv ?_; refine oMv ?_; refine sp (xist rfl) ?_; refine oCm ?_; refine oMv ?_; (first | refine oMv ?_ | refine oK ?_ | ((refine ssp (fun hc => ?_) (fun hc => ?_)) <;> first | refine oMv ?_ | refine oK ?_)) <;> (first | refine sp (xinc rfl) ?_ | refine sp (xadd rfl) ?_ | refine oK ?_) <;> (first | refine oMv ?_ | refine oK ?_) <;> (first | refine sp (po_len_str rfl rfl (tyR rfl)) ?_ | refine oK ?_) <;> (first | refine oCm ?_ | refine oK ?_) <;> (first | refine oMv ?_ | refine oK ?_) <;> (first | refine oMv ?_ | refine oK ?_ | ((refine ssp (fun hc => ?_) (fun hc => ?_)) <;> first | refine oMv ?_ | refine oK ?_)) <;> (first | refine oMv ?_ | refine oK ?_) <;> (first | refine sp (xinc rfl) ?_ | refine sp (xadd rfl) ?_ | refine oK ?_) <;> (first | refine sp (xist rfl) ?_ | refine oK ?_) <;> (first | refine oC (ca) rfl (ac .nil) ?_ | refine oK ?_) <;> (first | refine oCm ?_ | refine oK ?_) <;> (first | refine oPt ?_ | refine oPf ?_ | refine oK ?_) <;> (first | refine oMv ?_ | refine oK ?_) <;> (first | refine oMv ?_ | refine oK ?_ | ((refine ssp (fun hc => ?_) (fun hc => ?_)) <;> first | refine oMv ?_ | refine oK ?_)) <;> (first | refine oMv ?_ | refine oK ?_) <;> (first | refine sp (xinc rfl) ?_ | refine sp (xadd rfl) ?_ | refine oK ?_) <;> (first | refine sp (xist rfl) ?_ | refine oK ?_) <;> (first | refine oC (ca) rfl (ac .nil) ?_ | refine oK ?_) <;> (first | refine oCm ?_ | refine oK ?_) <;> (first | refine oPt ?_ | refine oPf ?_ | refine oK ?_) <;> (first | refine oPt ?_ | refine oPf ?_) <;> (refine oN ?_)) | (refine rg 14 ?_; refine oAs ?_; refine oN ?_) | refine gc ?_ | refine ct ?_ | refine cf ?_ | refine swp_cond rfl (fun hc => ?_) (fun hc => ?_) | refine rq rfl (rt .nil) ?_)
              rfl
          · rw [dif_neg h5] at hI
            rw [show okL s.toList = false from by simpa using hI]
            repeat' (first | (refine rg 9 ?_; refine oMv ?_; refine oCm ?_; refine oN ?_) | (refine rg 13 ?_; refine oMv ?_; refine oMv ?_; refine sp (xist rfl) ?_; refine oCm ?_; refine oMv ?_; (first | refine oMv ?_ | refine oK ?_ | ((refine ssp (fun hc => ?_) (fun hc => ?_)) <;> first | refine oMv ?_ | refine oK ?_)) <;> (first | refine sp (xinc rfl) ?_ | refine sp (xadd rfl) ?_ | refine oK ?_) <;> (first | refine oMv ?_ | refine oK ?_) <;> (first | refine sp (po_len_str rfl rfl (tyR rfl)) ?_ | refine oK ?_) <;> (first | refine oCm ?_ | refine oK ?_) <;> (first | refine oMv ?_ | refine oK ?_) <;> (first | refine oMv ?_ | refine oK ?_ | ((refine ssp (fun hc => ?_) (fun hc => ?_)) <;> first | refine oMv ?_ | refine oK ?_)) <;> (first | refine oMv ?_ | refine oK ?_) <;> (first | refine sp (xinc rfl) ?_ | refine sp (xadd rfl) ?_ | refine oK ?_) <;> (first | refine sp (xist rfl) ?_ | refine oK ?_) <;> (first | refine oK ?_) <;> (first | refine oCm ?_ | refine oK ?_) <;> (first | refine oPt ?_ | refine oPf ?_ | refine oK ?_) <;> (first | refine oMv ?_ | refine oK ?_) <;> (first | refine oMv ?_ | refine oK ?_ | ((refine ssp (fun hc => ?_) (fun hc => ?_)) <;> first | refine oMv ?_ | refine oK ?_)) <;> (first | refine oMv ?_ | refine oK ?_) <;> (first | refine sp (xinc rfl) ?_ | refine sp (xadd rfl) ?_ | refine oK ?_) <;> (first | refine sp (xist rfl) ?_ | refine oK ?_) <;> (first | refine oK ?_) <;> (first | refine oCm ?_ | refine oK ?_) <;> (first | refine oPt ?_ | refine oPf ?_ | refine oK ?_) <;> (first | refine oPt ?_ | refine oPf ?_) <;> (refine oN ?_)) | (refine rg 14 ?_; refine oAs ?_; refine oN ?_) | refine gc ?_ | refine ct ?_ | refine cf ?_ | refine swp_cond rfl (fun hc => ?_) (fun hc => ?_) | refine rq rfl (rt .nil) ?_)
            rfl
        · have hp' : s[k] ≠ 37 := fun e => hp (by rw [e]; rfl)
          rw [decide_eq_false hp'] at hI
          repeat' (first | refine for_next hlt (weak_sub (.cons rfl rfl rfl (.cons rfl rfl rfl .nil)) .nil .nil) (by simpa using hI) | (refine rg 9 ?_; refine oMv ?_; refine oCm ?_; refine oN ?_) | (refine rg 13 ?_; refine oMv ?_; refine oMv ?_; refine sp (xist rfl) ?_; refine oCm ?_; refine oMv ?_; (first | refine oMv ?_ | refine oK ?_ | ((refine ssp (fun hc => ?_) (fun hc => ?_)) <;> first | refine oMv ?_ | refine oK ?_)) <;> (first | refine sp (xinc rfl) ?_ | refine sp (xadd rfl) ?_ | refine oK ?_) <;> (first | refine oMv ?_ | refine oK ?_) <;> (first | refine sp (po_len_str rfl rfl (tyR rfl)) ?_ | refine oK ?_) <;> (first | refine oCm ?_ | refine oK ?_) <;> (first | refine oMv ?_ | refine oK ?_) <;> (first | refine oMv ?_ | refine oK ?_ | ((refine ssp (fun hc => ?_) (fun hc => ?_)) <;> first | refine oMv ?_ | refine oK ?_)) <;> (first | refine oMv ?_ | refine oK ?_) <;> (first | refine sp (xinc rfl) ?_ | refine sp (xadd rfl) ?_ | refine oK ?_) <;> (first | refine sp (xist rfl) ?_ | refine oK ?_) <;> (first | refine oK ?_) <;> (first | refine oCm ?_ | refine oK ?_) <;> (first | refine oPt ?_ | refine oPf ?_ | refine oK ?_) <;> (first | refine oMv ?_ | refine oK ?_) <;> (first | refine oMv ?_ | refine oK ?_ | ((refine ssp (fun hc => ?_) (fun hc => ?_)) <;> first | refine oMv ?_ | refine oK ?_)) <;> (first | refine oMv ?_ | refine oK ?_) <;> (first | refine sp (xinc rfl) ?_ | refine sp (xadd rfl) ?_ | refine oK ?_) <;> (first | refine sp (xist rfl) ?_ | refine oK ?_) <;> (first | refine oK ?_) <;> (first | refine oCm ?_ | refine oK ?_) <;> (first | refine oPt ?_ | refine oPf ?_ | refine oK ?_) <;> (first | refine oPt ?_ | refine oPf ?_) <;> (refine oN ?_)) | (refine rg 5 ?_; refine oMv ?_; (first | refine sp (xinc rfl) ?_ | refine sp (xadd rfl) ?_); refine oAs ?_; refine oN ?_) | refine gc ?_ | refine ct ?_ | refine cf ?_ | refine swp_cond rfl (fun hc => ?_) (fun hc => ?_) | refine rq rfl (rt .nil) ?_)
    · obtain rfl : k = s.size := by omega
      have e1 : s.toList.drop s.size = [] := List.drop_eq_nil_of_le (by omega)
      rw [e1] at hI
      rw [hI]
      repeat' (first | (refine rg 4 ?_; refine oMv ?_; refine oMv ?_; refine sp (po_len_str rfl rfl (tyR rfl)) ?_; refine oCm ?_; refine oN ?_) | (refine rg 15 ?_; refine oAs ?_; refine oN ?_) | refine gc ?_ | refine ct ?_ | refine cf ?_ | refine swp_cond rfl (fun hc => ?_) (fun hc => ?_) | refine rq rfl (rt .nil) ?_)
      rfl
  · rw [hng (.inr (.inr (by rw [hhd]; intro e; injection e with e; rw [e] at h3; exact h3 rfl)))]
    have h3' : (!decide (((s[0].toNat : Nat) : Int) = 47)) = true := by rw [decide_eq_false (by omega)]; rfl
    repeat' (first | (refine rg 0 ?_; refine oAs ?_; refine oN ?_) | (refine rg 1 ?_; refine oMv ?_; refine sp (po_len_str rfl rfl (tyR rfl)) ?_; refine oCm ?_; refine oMv ?_; (first | refine oMv ?_ | refine oK ?_ | ((refine ssp (fun hc => ?_) (fun hc => ?_)) <;> first | refine oMv ?_ | refine oK ?_)) <;> (first | refine sp (po_len_str rfl rfl (tyR rfl)) ?_ | refine oK ?_) <;> (first | refine oCm ?_ | refine oK ?_) <;> (first | refine oPt ?_ | refine oPf ?_) <;> (refine oMv ?_) <;> (first | refine oMv ?_ | refine oK ?_ | ((refine ssp (fun hc => ?_) (fun hc => ?_)) <;> first | refine oMv ?_ | refine oK ?_)) <;> (first | refine sp (po_index_str (k := 0) rfl rfl rfl (tyR rfl) (by first | rfl | omega) (by first | assumption | omega)) ?_ | refine oK ?_) <;> (first | refine oCm ?_ | refine oK ?_) <;> (first | refine oPt ?_ | refine oPf ?_) <;> (refine oN ?_)) | (refine rg 2 ?_; refine oAs ?_; refine oN ?_) | refine gc ?_ | refine ct ?_ | refine cf ?_ | refine swp_cond rfl (fun hc => ?_) (fun hc => ?_) | refine rq rfl (rt .nil) ?_)
    rfl
end Go.Proofs.YtkmhaijefpgfiaaDoor.Pth

/- A logic of states: ways that meet again. -/
namespace Go.Proofs.YtkmhaijefpgfiaaDoor.Sim
set_option linter.unusedVariables false
set_option linter.unusedSimpArgs false
open Go.RowKit Mem
structure Hold (p : Prop) : Prop where
  go : p
def joinF (N : Nat) (st' : St) (Q : Exit → St → Prop) : Exit → St → Prop
  | .normal, s => Weak N s st'
  | e, s => Q e s
structure JoinQ (N : Nat) (st' : St) (Q : Exit → St → Prop) (e : Exit) (s : St) : Prop where
  go : joinF N st' Q e s
section
variable {P : Program} {N : Nat} {Q : Exit → St → Prop} {st : St} {x y : Code}
theorem swp_joinQ {c : Code} (st' : St) (h : SWp P N c (JoinQ N st' Q) st) (k : Q .normal st') : SWp P N c Q st :=
  swp_join (st' := st') (swp_mono h fun e s hq => by
    cases e <;> exact hq.go) k
theorem join_go {st' s : St} (h : Weak N s st') : JoinQ N st' Q .normal s := ⟨h⟩
end
end Go.Proofs.YtkmhaijefpgfiaaDoor.Sim
