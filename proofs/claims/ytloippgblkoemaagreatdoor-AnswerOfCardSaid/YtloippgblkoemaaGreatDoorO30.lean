/- Merged by bundles.py: SimAn12, Rel10. -/
import Derived.Test.YtloippgblkoemaaGreatDoorO26
import Derived.Test.YtloippgblkoemaaGreatDoorO29
import Derived.Test.YtloippgblkoemaaGreatDoorO13
import Derived.Test.YtloippgblkoemaaGreatDoorO22
import Derived.Test.YtloippgblkoemaaGreatDoorO17
import Derived.OpenShut
/- Answers: the document's answer of a message, of bytes; walks. -/
namespace Go.Proofs.YtloippgblkoemaaGreatDoor.An
set_option linter.unusedVariables false
set_option linter.unusedSimpArgs false
open Go.RowKit Mem Sim Opn Hd Str Rq
theorem ext_list (s : ByteArray) (a b : Nat) : (s.extract a b).toList = (s.toList.take b).drop a := by rw [ba_extract, bs_toList]
def digsR (s : ByteArray) : Bool := ((s.toList.drop 9).take 3).all digB
def codeR (s : ByteArray) : Nat := numL ((s.toList.drop 9).take 3)
def headR (s : ByteArray) : Bool := decide (13 ≤ s.size) && (decide (s.extract 0 9 = befS) && decide ((s.toList.getD 12 0).toNat = 32))
def plainR (s : ByteArray) : Bool := (s.toList.drop 13).all evenB
def ofR (r : PRaw) : Bool := headR r.start && (digsR r.start && (plainR r.start && mayA ⟨(codeR r.start : Int), r.heads, r.body⟩))
theorem bef_size : befS.size = 9 := rfl
theorem restS_list {s : ByteArray} (h : hasP s befS = true) : (restS s).toList = s.toList.drop 9 := by
  unfold restS
  rw [if_pos h, ext_list, bef_size]
  have := toList_len s
  rw [List.take_of_length_le (by omega)]
theorem hasP_iff (s : ByteArray) : hasP s befS = true ↔ 9 ≤ s.size ∧ s.extract 0 9 = befS := by
  unfold hasP
  rw [bef_size]
  simp only [Bool.and_eq_true, decide_eq_true_eq]
theorem mayA_code {c : Int} {h : List Pl.Head} {b : List UInt8} (h1 : mayA ⟨c, h, b⟩ = true) : 200 ≤ c := by
  unfold mayA at h1
  simp only [Bool.and_eq_true, decide_eq_true_eq] at h1
  exact h1.1.1
/-- what a first line with a space behind three digits is -/
theorem cut3 {s : ByteArray} (h : hasP s befS = true) (hl : 13 ≤ s.size) (hd : digsR s = true) (h12 : (s.toList.getD 12 0).toNat = 32) : fidx (restS s) 32 = 3 := by
  have hr := restS_list h
  have hlen := toList_len s
  have e12 : s.toList.getD 12 0 = (s.toList.drop 9)[3]'(by rw [List.length_drop]; omega) := by
    rw [List.getElem_drop, List.getD_eq_getElem?_getD, List.getElem?_eq_getElem (by omega)]; rfl
  unfold digsR at hd
  unfold fidx
  rw [hr]
  rw [List.findIdx_eq (by rw [List.length_drop]; omega)]
  refine ⟨?_, fun j hj => ?_⟩
  · rw [← e12]
    have : s.toList.getD 12 0 = 32 := UInt8.toNat_inj.1 h12
    rw [this]; rfl
  · have hb := (List.all_eq_true.1 hd) ((s.toList.drop 9)[j]'(by rw [List.length_drop]; omega)) (List.mem_of_getElem? (by rw [List.getElem?_take_of_lt hj]; exact List.getElem?_eq_getElem (by rw [List.length_drop]; omega)))
    unfold digB at hb
    simp only [decide_eq_true_eq] at hb
    have : (s.toList.drop 9)[j]'(by rw [List.length_drop]; omega) ≠ 32 := fun e => by rw [e] at hb; revert hb; decide
    simpa using this
theorem size_list (s : ByteArray) (n : Nat) : s.size = n ↔ s.toList.length = n := by rw [toList_len]
theorem ofR_eq (r : PRaw) : ofR r = ofP r ∧ (ofP r = true → ansOf r = ⟨(codeR r.start : Int), r.heads, r.body⟩) := by
  have hlen := toList_len r.start
  -- behind the three digits
  have key : hasP r.start befS = true → 13 ≤ r.start.size → fidx (restS r.start) 32 = 3 → digsR r.start = true → (isS r.start = true ∧ reasS r.start = bs (r.start.toList.drop 13) ∧ num3 (codeS r.start) = (codeR r.start : Int)) := by
    intro hp h13 hf hd
    have hr := restS_list hp
    have hrs : (restS r.start).size = r.start.size - 9 := by rw [← toList_len, hr, List.length_drop, hlen]
    have his : isS r.start = true := by unfold isS; rw [hf]; exact decide_eq_true (by omega)
    refine ⟨his, ?_, ?_⟩
    · unfold reasS
      rw [if_pos (by rw [hf]; omega), hf]
      refine bs_inj ?_
      rw [ext_list, bs_toList, hr, List.take_of_length_le (by rw [List.length_drop]; omega), List.drop_drop]
    · have hc : (codeS r.start).toList = (r.start.toList.drop 9).take 3 := by
        unfold codeS
        rw [if_pos (by rw [hf]; omega), hf, ext_list, hr]; rfl
      have hcs : (codeS r.start).size = 3 := by rw [size_list, hc, List.length_take, List.length_drop]; omega
      unfold num3
      rw [hc, hcs]
      unfold digsR at hd
      rw [hd]; rfl
  have fwd : ofP r = true → ofR r = true ∧ ansOf r = ⟨(codeR r.start : Int), r.heads, r.body⟩ := by
    intro h
    unfold ofP at h
    simp only [Bool.and_eq_true] at h
    obtain ⟨⟨⟨hp, his⟩, hre⟩, hm⟩ := h
    have hr := restS_list hp
    have hrs : (restS r.start).size = r.start.size - 9 := by rw [← toList_len, hr, List.length_drop, hlen]
    have hp2 := (hasP_iff _).1 hp
    have hcode := mayA_code hm
    unfold isS at his
    have his := of_decide_eq_true his
    -- the code is three digits
    have hcl : (codeS r.start).toList = (r.start.toList.drop 9).take (fidx (restS r.start) 32) := by
      unfold codeS
      rw [if_pos his, ext_list, hr]; rfl
    have hcs : (codeS r.start).size = fidx (restS r.start) 32 := by
      rw [size_list, hcl, List.length_take, List.length_drop]; omega
    have h3 : ((codeS r.start).toList.all digB && decide ((codeS r.start).size = 3)) = true := by
      cases hb : ((codeS r.start).toList.all digB && decide ((codeS r.start).size = 3)) with
      | true => rfl
      | false => unfold num3 at hcode; rw [hb, if_neg (by simp)] at hcode; omega
    simp only [Bool.and_eq_true, decide_eq_true_eq] at h3
    have hf : fidx (restS r.start) 32 = 3 := by omega
    have hd : digsR r.start = true := by unfold digsR; rw [hcl, hf] at h3; exact h3.1
    have h13 : 13 ≤ r.start.size := by omega
    obtain ⟨q1, q2, q3⟩ := key hp h13 hf hd
    have ha : ansOf r = ⟨(codeR r.start : Int), r.heads, r.body⟩ := by unfold ansOf; rw [q3]
    refine ⟨?_, ha⟩
    have h12 : (r.start.toList.getD 12 0).toNat = 32 := by
      have hlt : (r.start.toList.drop 9).findIdx (· == 32) < (r.start.toList.drop 9).length := by
        unfold fidx at hf; rw [hr] at hf; rw [hf, List.length_drop]; omega
      have h9 := List.findIdx_getElem (w := hlt)
      have hf9 : (r.start.toList.drop 9).findIdx (· == 32) = 3 := by unfold fidx at hf; rw [hr] at hf; exact hf
      have e12 : r.start.toList.getD 12 0 = (r.start.toList.drop 9)[3]'(by rw [List.length_drop]; omega) := by
        rw [List.getElem_drop, List.getD_eq_getElem?_getD, List.getElem?_eq_getElem (by omega)]; rfl
      rw [e12]
      simp only [hf9] at h9
      have : (r.start.toList.drop 9)[3]'(by rw [List.length_drop]; omega) = 32 := by simpa using h9
      rw [this]; rfl
    unfold ofR headR
    rw [decide_eq_true h13, decide_eq_true hp2.2, decide_eq_true h12, hd, ← ha, hm]
    rw [q2] at hre
    unfold plainP at hre
    rw [bs_toList] at hre
    unfold plainR
    rw [hre]; rfl
  refine ⟨?_, fun h => (fwd h).2⟩
  cases h : ofP r with
  | true => exact (fwd h).1
  | false =>
    cases h2 : ofR r with
    | false => rfl
    | true =>
      exfalso
      unfold ofR headR at h2
      simp only [Bool.and_eq_true, decide_eq_true_eq] at h2
      obtain ⟨⟨h13, hb, h12⟩, hd, hpl, hm⟩ := h2
      have hp : hasP r.start befS = true := (hasP_iff _).2 ⟨by omega, hb⟩
      have hf := cut3 hp h13 hd h12
      obtain ⟨q1, q2, q3⟩ := key hp h13 hf hd
      have ha : ansOf r = ⟨(codeR r.start : Int), r.heads, r.body⟩ := by unfold ansOf; rw [q3]
      have hre : plainP (reasS r.start) = true := by rw [q2]; unfold plainP; rw [bs_toList]; exact hpl
      have : ofP r = true := by unfold ofP; rw [hp, q1, hre, ha, hm]; rfl
      rw [h] at this; cases this
def refOfT (r : PRaw) : T := if ofP r then .tup [.agg (ansT (ansOf r)), .v (.bool true)] else .tup [.agg ansT0, .v (.bool false)]
theorem drop_at {s : ByteArray} {a k : Nat} (h : a + k < s.size) : (s.toList.drop a)[k]'(by rw [List.length_drop, toList_len]; omega) = s[a + k] := by
  rw [List.getElem_drop, toList_at s h]
theorem digs_snoc {s : ByteArray} {a k : Nat} {p : UInt8 → Bool} (hI : ((s.toList.drop a).take k).all p = true) (h : a + k < s.size) (hd : p s[a + k] = true) : ((s.toList.drop a).take (k + 1)).all p = true := by
  have hl : k < (s.toList.drop a).length := by rw [List.length_drop, toList_len]; omega
  rw [List.take_succ_eq_append_getElem hl, List.all_append, hI, drop_at h]
  simp [hd]
theorem digs_bad {s : ByteArray} {a k : Nat} {p : UInt8 → Bool} (h : a + k < s.size) (hd : p s[a + k] = false) {n : Nat} (hn : k < n) : ((s.toList.drop a).take n).all p = false := by
  have hl : k < (s.toList.drop a).length := by rw [List.length_drop, toList_len]; omega
  cases hb : ((s.toList.drop a).take n).all p with
  | false => rfl
  | true =>
    have := (List.all_eq_true.1 hb) ((s.toList.drop a)[k]) (List.mem_of_getElem? (by rw [List.getElem?_take_of_lt hn]; exact List.getElem?_eq_getElem hl))
    rw [drop_at h, hd] at this; cases this
set_option maxRecDepth 100000 in
set_option maxHeartbeats 8000000 in
theorem refOf_ (r : PRaw) (hr : RawOk r) : PCalls Tryz.prog 9 [.agg (rawT r)] (refOfT r) := by
  obtain ⟨hn, hh, hb, hs⟩ := hr
  unfold maxLen at hs
  obtain ⟨ho, ha⟩ := ofR_eq r
  have hT : refOfT r = if ofR r then .tup [.agg (ansT ⟨(codeR r.start : Int), r.heads, r.body⟩), .v (.bool true)] else .tup [.agg ansT0, .v (.bool false)] := by
    unfold refOfT
    rw [ho]
    cases h : ofP r with
    | false => rfl
    | true => rw [if_pos rfl, if_pos rfl, ha h]
  rw [hT]
  clear hT ho ha
  have hlen := toList_len r.start
  have hm1 : (r.heads.map headT).length = r.heads.length := List.length_map _
  have hm2 : (r.body.map byteT).length = r.body.length := List.length_map _
  unfold ofR headR
  unfold rawT
  refine pcalls_of Tryz.func9 rfl rfl Tryz.ntmps9 rfl ?_
  by_cases h13 : 13 ≤ r.start.size
  · rw [decide_eq_true h13]
    by_cases hbf : r.start.extract 0 9 = befS
    · have e1 : (!decide (r.start.extract 0 9 = ⟨#[72, 84, 84, 80, 47, 49, 46, 49, 32]⟩)) = false := by rw [decide_eq_true (show r.start.extract 0 9 = ⟨#[72, 84, 84, 80, 47, 49, 46, 49, 32]⟩ from hbf)]; rfl
      rw [decide_eq_true hbf]
      have e12 : (r.start.toList.getD 12 0) = r.start[12] := by
        rw [List.getD_eq_getElem?_getD, List.getElem?_eq_getElem (by omega), Option.getD_some, toList_at r.start (by omega)]
      rw [e12]
      by_cases h12 : r.start[12].toNat = 32
      · rw [decide_eq_true h12]
        have e2 : (!decide ((r.start[12].toNat : Int) = 32)) = false := by rw [decide_eq_true (by omega)]; rfl
        repeat' (first | (refine rg 0 ?_; refine sbx ?_; refine sal str28 ?_; refine oAs ?_; refine oN ?_) | (refine rg 1 ?_; refine oFb ?_; refine oLb ?_; refine oAs ?_; refine oN ?_) | (refine rg 2 ?_; refine oMv ?_; refine sp (po_len_str rfl rfl (tyR rfl)) ?_; refine oCm ?_; refine oMv ?_; refine oMv ?_ <;> refine sp (po_slice_str (h' := 9) rfl rfl (tyR rfl) (by rfl) (by first | rfl | exact ⟨_, rfl⟩) (by omega) (by omega)) ?_ <;> refine sp (po_str rfl rfl rfl rfl) ?_ <;> (first | refine oPt ?_ | refine oPf ?_) <;> refine oMv ?_ <;> refine oMv ?_ <;> refine sp (po_index_str (k := 12) rfl rfl rfl (tyR rfl) (by rfl) (by assumption)) ?_ <;> refine oCm ?_ <;> (first | refine oPt ?_ | refine oPf ?_) <;> refine oN ?_) | (refine rg 4 ?_; refine oAs ?_; refine oN ?_) | (refine rg 5 ?_; refine oAs ?_; refine oN ?_) | refine gc ?_ | refine ct ?_ | refine cf ?_ | refine swp_cond rfl (fun hc => ?_) (fun hc => ?_) | refine rq rfl (.cell rfl rfl (tyT rfl) (vc (vc (vc .nil))) rfl (rt .nil)) ?_)
        refine swp_for (fun k => ⟨[(1, .bp 1 0), (2, .bp 2 0), (4, .t (.v (.string r.start))), (5, .t (.v (.int .i64 ((numL ((r.start.toList.drop 9).take k) : Nat) : Int)))), (6, .t (.v (.int .i64 ((9 + k : Nat) : Int))))], [(1, [.t (.v (.string r.start)), .t (headsT r.heads), .t (.sl 1 (r.body.map byteT))]), (2, [.t (.v (.int .i64 0)), .t (.v (.slice none 0 0)), .t (.v (.slice none 0 0))])], []⟩) (fun k => ((r.start.toList.drop 9).take k).all digB = true) 3 (weak_sub (.cons rfl rfl rfl (.cons rfl rfl rfl (.cons rfl rfl rfl (.cons rfl rfl rfl (.cons rfl rfl rfl .nil))))) (.cons rfl rfl rfl (.cons rfl rfl rfl .nil)) .nil) rfl ?_
        intro k hk hI
        by_cases hlt : k < 3
        · have hks : 9 + k < r.start.size := by omega
          cases hd : digB r.start[9 + k] with
          | false =>
            have hbad : digsR r.start = false := digs_bad hks hd hlt
            rw [hbad]
            unfold digB at hd
            have hd2 : r.start[9 + k].toNat < 48 ∨ 57 < r.start[9 + k].toNat := by simp at hd; omega
            rcases hd2 with hd2 | hd2
            all_goals
              repeat' (first | (refine rg 6 ?_; refine oMv ?_; refine oCm ?_; refine oN ?_) | (refine rg 8 ?_; refine oMv ?_; refine oMv ?_; refine sp (xist rfl) ?_; refine oCm ?_; refine oMv ?_; (first | refine oMv ?_ | refine oK ?_) <;> (first | refine oMv ?_ | refine oK ?_) <;> (first | refine sp (xist rfl) ?_ | refine oK ?_) <;> (first | refine oCm ?_ | refine oK ?_) <;> (first | refine oPt ?_ | refine oPf ?_) <;> refine oN ?_) | (refine rg 9 ?_; refine sp (po_buildS str28 rfl .nil rfl) ?_; refine oS ?_; refine oAs ?_; refine oN ?_) | refine gc ?_ | refine ct ?_ | refine cf ?_ | refine swp_cond rfl (fun hc => ?_) (fun hc => ?_) | refine rq rfl (.cell rfl rfl (tyT rfl) (vc (vc (vc .nil))) rfl (rt .nil)) ?_)
              rfl
          | true =>
            have hsn := digs_snoc hI hks hd
            have hll : k < (r.start.toList.drop 9).length := by rw [List.length_drop]; omega
            have hnn := numL_snoc (r.start.toList.drop 9) hll
            rw [drop_at hks] at hnn
            have hb17 := numL_17 ((r.start.toList.drop 9).take k) hI (k := k) (by simp; omega) (by omega)
            rw [List.take_take, Nat.min_self] at hb17
            have hd2 : 48 ≤ r.start[9 + k].toNat ∧ r.start[9 + k].toNat ≤ 57 := by unfold digB at hd; simpa using hd
            repeat' (first | refine for_next hlt (weak_sub (.cons rfl (by rfl) rfl (.cons rfl (by rfl) rfl (.cons rfl (by rfl) rfl (.cons rfl (by first | rfl | (exact congrArg (fun n => A.t (T.v (Value.int .i64 n))) (by rw [hnn]; omega))) rfl (.cons rfl (by rfl) rfl .nil))))) (.cons rfl (by rfl) rfl (.cons rfl (by rfl) rfl .nil)) .nil) hsn | (refine rg 6 ?_; refine oMv ?_; refine oCm ?_; refine oN ?_) | (refine rg 8 ?_; refine oMv ?_; refine oMv ?_; refine sp (xist rfl) ?_; refine oCm ?_; refine oMv ?_; refine oMv ?_ <;> refine oMv ?_ <;> refine sp (xist rfl) ?_ <;> refine oCm ?_ <;> (first | refine oPt ?_ | refine oPf ?_) <;> refine oN ?_) | (refine rg 10 ?_; refine oMv ?_; refine sp (po_arith rfl rfl rfl (ar_mul (by first | rfl | (refine wrap_i64 ?_; omega)) rfl)) ?_; refine oMv ?_; refine oMv ?_; refine sp (xist rfl) ?_; refine sp (po_conv_int rfl rfl (tyK rfl) (tyK rfl) (by (refine wrap_i64 ?_; omega))) ?_; (first | refine sp (xinc rfl) ?_ | refine sp (xadd rfl) ?_); (first | refine sp (po_dec rfl rfl rfl (by omega)) ?_ | refine sp (po_arith rfl rfl rfl (ar_sub (by first | rfl | (refine wrap_i64 ?_; omega)) rfl)) ?_); refine oAs ?_; refine oN ?_) | (refine rg 7 ?_; refine oMv ?_; refine sp (xinc rfl) ?_; refine oAs ?_; refine oN ?_) | refine gc ?_ | refine ct ?_ | refine cf ?_)
        · obtain rfl : k = 3 := by omega
          have hdg : digsR r.start = true := hI
          rw [hdg]
          have hcd : numL ((r.start.toList.drop 9).take 3) = codeR r.start := rfl
          rw [hcd]
          repeat' (first | (refine rg 6 ?_; refine oMv ?_; refine oCm ?_; refine oN ?_) | (refine rg 11 ?_; refine oAs ?_; refine oN ?_) | refine gc ?_ | refine ct ?_ | refine cf ?_ | refine swp_cond rfl (fun hc => ?_) (fun hc => ?_) | refine rq rfl (.cell rfl rfl (tyT rfl) (vc (vc (vc .nil))) rfl (rt .nil)) ?_)
          refine swp_for (fun k => ⟨[(1, .bp 1 0), (2, .bp 2 0), (4, .t (.v (.string r.start))), (5, .t (.v (.int .i64 ((codeR r.start : Nat) : Int)))), (7, .t (.v (.int .i64 ((13 + k : Nat) : Int))))], [(1, [.t (.v (.string r.start)), .t (headsT r.heads), .t (.sl 1 (r.body.map byteT))]), (2, [.t (.v (.int .i64 0)), .t (.v (.slice none 0 0)), .t (.v (.slice none 0 0))])], []⟩) (fun k => ((r.start.toList.drop 13).take k).all evenB = true) (r.start.size - 13) (weak_sub (.cons rfl rfl rfl (.cons rfl rfl rfl (.cons rfl rfl rfl (.cons rfl rfl rfl (.cons rfl rfl rfl .nil))))) (.cons rfl rfl rfl (.cons rfl rfl rfl .nil)) .nil) rfl ?_
          clear hk hI hlt
          intro k hk hI
          by_cases hlt : 13 + k < r.start.size
          · cases hev : evenB r.start[13 + k] with
            | false =>
              have hbad : plainR r.start = false := by
                have := digs_bad hlt hev (n := r.start.size) (by omega)
                rw [List.take_of_length_le (by rw [List.length_drop]; omega)] at this
                exact this
              rw [hbad]
              unfold evenB oddB oddR at hev
              have hev2 : r.start[13 + k].toNat < 32 ∨ 126 < r.start[13 + k].toNat := by simp at hev; omega
              rcases hev2 with h3 | h3
              all_goals
                repeat' (first | (refine rg 12 ?_; refine oMv ?_; refine oMv ?_; refine sp (po_len_str rfl rfl (tyR rfl)) ?_; refine oCm ?_; refine oN ?_) | (refine rg 14 ?_; refine oMv ?_; refine oMv ?_; refine sp (xist rfl) ?_; refine oCm ?_; refine oMv ?_; (first | refine oMv ?_ | refine oK ?_) <;> (first | refine oMv ?_ | refine oK ?_) <;> (first | refine sp (xist rfl) ?_ | refine oK ?_) <;> (first | refine oCm ?_ | refine oK ?_) <;> (first | refine oPt ?_ | refine oPf ?_) <;> refine oN ?_) | (refine rg 15 ?_; refine sp (po_buildS str28 rfl .nil rfl) ?_; refine oS ?_; refine oAs ?_; refine oN ?_) | refine gc ?_ | refine ct ?_ | refine cf ?_ | refine swp_cond rfl (fun hc => ?_) (fun hc => ?_) | refine rq rfl (.cell rfl rfl (tyT rfl) (vc (vc (vc .nil))) rfl (rt .nil)) ?_)
                rfl
            | true =>
              have hsn := digs_snoc hI hlt hev
              unfold evenB oddB oddR at hev
              simp at hev
              obtain ⟨hev1, hev2⟩ := hev
              repeat' (first | refine for_next (by omega) (weak_sub (.cons rfl rfl rfl (.cons rfl rfl rfl (.cons rfl rfl rfl (.cons rfl rfl rfl (.cons rfl rfl rfl .nil))))) (.cons rfl rfl rfl (.cons rfl rfl rfl .nil)) .nil) hsn | (refine rg 12 ?_; refine oMv ?_; refine oMv ?_; refine sp (po_len_str rfl rfl (tyR rfl)) ?_; refine oCm ?_; refine oN ?_) | (refine rg 14 ?_; refine oMv ?_; refine oMv ?_; refine sp (xist rfl) ?_; refine oCm ?_; refine oMv ?_; refine oMv ?_ <;> refine oMv ?_ <;> refine sp (xist rfl) ?_ <;> refine oCm ?_ <;> (first | refine oPt ?_ | refine oPf ?_) <;> refine oN ?_) | (refine rg 13 ?_; refine oMv ?_; refine sp (xinc rfl) ?_; refine oAs ?_; refine oN ?_) | refine gc ?_ | refine ct ?_ | refine cf ?_)
          · have hpl : plainR r.start = true := by
              rw [List.take_of_length_le (by rw [List.length_drop]; omega)] at hI; exact hI
            rw [hpl]
            have c1 := refMayA_ ⟨(codeR r.start : Int), r.heads, r.body⟩ hn hh hb
            unfold ansT at c1 ⊢
            have hbh : (0 + (r.heads.map headT).length) * 32 ≤ 140737488355328 := by omega
            have hmh : 0 + (r.heads.map headT).length ≤ maxLen := by unfold maxLen; omega
            have hbb : (0 + (r.body.map byteT).length) * 1 ≤ 140737488355328 := by omega
            have hmb : 0 + (r.body.map byteT).length ≤ maxLen := by unfold maxLen; omega
            cases hm : mayA ⟨(codeR r.start : Int), r.heads, r.body⟩ with
            | false =>
              rw [hm] at c1
              repeat' (first | (refine rg 12 ?_; refine oMv ?_; refine oMv ?_; refine sp (po_len_str rfl rfl (tyR rfl)) ?_; refine oCm ?_; refine oN ?_) | ((refine swp_any (id := 16) [[], [66], [], [], [66], [70], [], [], [70], [], [8], [8]] [[66, 70, 8], [70, 8], [66, 70, 8], [66, 70, 8], [70, 8], [66, 8], [66, 70, 8], [66, 70, 8], [8], [8], [66, 70], []] mixed (by kernel_rfl) ?_) <;> refine yp (fun _ _ => po_move rfl rfl) ?_ <;> refine sany_eff [] [(66, ⟨_, _, []⟩)] (.free rfl rfl) rfl rfl (fun _ _ _ ho => e_build0 rfl (tyE rfl) (ho 66 rfl rfl)) ?_ <;> refine yp (fun _ _ => po_field_bx rfl rfl (tyF rfl)) ?_ <;> refine yp (fun _ _ => po_load_bx rfl rfl (tyT rfl) rfl rfl) ?_ <;> refine sany_eff [] [(66, _)] (.free rfl rfl) rfl rfl (fun _ _ _ _ => e_append rfl rfl rfl (by rfl) rfl (by exact .t _) (tyE rfl) (by assumption) (by assumption)) ?_ <;> refine sany_eff [] [(70, ⟨_, _, []⟩)] (.free rfl rfl) rfl rfl (fun _ _ _ ho => e_build0 rfl (tyE rfl) (ho 70 rfl rfl)) ?_ <;> refine yp (fun _ _ => po_field_bx rfl rfl (tyF rfl)) ?_ <;> refine yp (fun _ _ => po_load_bx rfl rfl (tyT rfl) rfl rfl) ?_ <;> refine sany_eff [] [(70, _)] (.free rfl rfl) rfl rfl (fun _ _ _ _ => e_append rfl rfl rfl (by rfl) rfl (by exact .t _) (tyE rfl) (by assumption) (by assumption)) ?_ <;> (refine yp (fun _ _ => po_buildS str28 rfl (pc (pc (pc .nil))) rfl) ?_) <;> refine sany_eff [(8, _)] [] (.free rfl rfl) rfl rfl (fun _ _ hb _ => e_allocS str28 rfl (hb 8 rfl rfl)) ?_ <;> refine sany_eff [(8, _)] [] (.free rfl rfl) rfl rfl (fun _ _ _ _ => e_store rfl rfl rfl rfl rfl rfl (tyT rfl) rfl rfl) ?_ <;> refine sany_nil ?_) | (refine rg 17 ?_; (refine sp (po_load_bx_agg rfl rfl (tyT rfl) rfl (vc (vc (vc .nil))) rfl) ?_); refine oC (c1) rfl (ac .nil) ?_; refine sp (po_not rfl rfl) ?_; refine oN ?_) | (refine rg 18 ?_; refine sp (po_buildS str28 rfl .nil rfl) ?_; refine oS ?_; refine oAs ?_; refine oN ?_) | refine gc ?_ | refine ct ?_ | refine cf ?_ | refine swp_cond rfl (fun hc => ?_) (fun hc => ?_) | refine rq rfl (.cell rfl rfl (tyT rfl) (vc (vc (vc .nil))) rfl (rt .nil)) ?_)
              rfl
            | true =>
              rw [hm] at c1
              repeat' (first | (refine rg 12 ?_; refine oMv ?_; refine oMv ?_; refine sp (po_len_str rfl rfl (tyR rfl)) ?_; refine oCm ?_; refine oN ?_) | ((refine swp_any (id := 16) [[], [66], [], [], [66], [70], [], [], [70], [], [8], [8]] [[66, 70, 8], [70, 8], [66, 70, 8], [66, 70, 8], [70, 8], [66, 8], [66, 70, 8], [66, 70, 8], [8], [8], [66, 70], []] mixed (by kernel_rfl) ?_) <;> refine yp (fun _ _ => po_move rfl rfl) ?_ <;> refine sany_eff [] [(66, ⟨_, _, []⟩)] (.free rfl rfl) rfl rfl (fun _ _ _ ho => e_build0 rfl (tyE rfl) (ho 66 rfl rfl)) ?_ <;> refine yp (fun _ _ => po_field_bx rfl rfl (tyF rfl)) ?_ <;> refine yp (fun _ _ => po_load_bx rfl rfl (tyT rfl) rfl rfl) ?_ <;> refine sany_eff [] [(66, _)] (.free rfl rfl) rfl rfl (fun _ _ _ _ => e_append rfl rfl rfl (by rfl) rfl (by exact .t _) (tyE rfl) (by assumption) (by assumption)) ?_ <;> refine sany_eff [] [(70, ⟨_, _, []⟩)] (.free rfl rfl) rfl rfl (fun _ _ _ ho => e_build0 rfl (tyE rfl) (ho 70 rfl rfl)) ?_ <;> refine yp (fun _ _ => po_field_bx rfl rfl (tyF rfl)) ?_ <;> refine yp (fun _ _ => po_load_bx rfl rfl (tyT rfl) rfl rfl) ?_ <;> refine sany_eff [] [(70, _)] (.free rfl rfl) rfl rfl (fun _ _ _ _ => e_append rfl rfl rfl (by rfl) rfl (by exact .t _) (tyE rfl) (by assumption) (by assumption)) ?_ <;> (refine yp (fun _ _ => po_buildS str28 rfl (pc (pc (pc .nil))) rfl) ?_) <;> refine sany_eff [(8, _)] [] (.free rfl rfl) rfl rfl (fun _ _ hb _ => e_allocS str28 rfl (hb 8 rfl rfl)) ?_ <;> refine sany_eff [(8, _)] [] (.free rfl rfl) rfl rfl (fun _ _ _ _ => e_store rfl rfl rfl rfl rfl rfl (tyT rfl) rfl rfl) ?_ <;> refine sany_nil ?_) | (refine rg 17 ?_; (refine sp (po_load_bx_agg rfl rfl (tyT rfl) rfl (vc (vc (vc .nil))) rfl) ?_); refine oC (c1) rfl (ac .nil) ?_; refine sp (po_not rfl rfl) ?_; refine oN ?_) | (refine rg 19 ?_; (refine sp (po_load_bx_agg rfl rfl (tyT rfl) rfl (vc (vc (vc .nil))) rfl) ?_); refine oS ?_; refine oAs ?_; refine oN ?_) | refine gc ?_ | refine ct ?_ | refine cf ?_ | refine swp_cond rfl (fun hc => ?_) (fun hc => ?_) | refine rq rfl (.cell rfl rfl (tyT rfl) (vc (vc (vc .nil))) rfl (rt .nil)) ?_)
              rfl
      · have e2 : (!decide ((r.start[12].toNat : Int) = 32)) = true := by rw [decide_eq_false (by omega)]; rfl
        rw [decide_eq_false h12]
        repeat' (first | (refine rg 0 ?_; refine sbx ?_; refine sal str28 ?_; refine oAs ?_; refine oN ?_) | (refine rg 1 ?_; refine oFb ?_; refine oLb ?_; refine oAs ?_; refine oN ?_) | (refine rg 2 ?_; refine oMv ?_; refine sp (po_len_str rfl rfl (tyR rfl)) ?_; refine oCm ?_; refine oMv ?_; refine oMv ?_ <;> refine sp (po_slice_str (h' := 9) rfl rfl (tyR rfl) (by rfl) (by first | rfl | exact ⟨_, rfl⟩) (by omega) (by omega)) ?_ <;> refine sp (po_str rfl rfl rfl rfl) ?_ <;> (first | refine oPt ?_ | refine oPf ?_) <;> refine oMv ?_ <;> refine oMv ?_ <;> refine sp (po_index_str (k := 12) rfl rfl rfl (tyR rfl) (by rfl) (by assumption)) ?_ <;> refine oCm ?_ <;> (first | refine oPt ?_ | refine oPf ?_) <;> refine oN ?_) | (refine rg 3 ?_; refine sp (po_buildS str28 rfl .nil rfl) ?_; refine oS ?_; refine oAs ?_; refine oN ?_) | refine gc ?_ | refine ct ?_ | refine cf ?_ | refine swp_cond rfl (fun hc => ?_) (fun hc => ?_) | refine rq rfl (.cell rfl rfl (tyT rfl) (vc (vc (vc .nil))) rfl (rt .nil)) ?_)
        rfl
    · have e1 : (!decide (r.start.extract 0 9 = ⟨#[72, 84, 84, 80, 47, 49, 46, 49, 32]⟩)) = true := by rw [decide_eq_false (show ¬ r.start.extract 0 9 = ⟨#[72, 84, 84, 80, 47, 49, 46, 49, 32]⟩ from hbf)]; rfl
      rw [decide_eq_false hbf]
      repeat' (first | (refine rg 0 ?_; refine sbx ?_; refine sal str28 ?_; refine oAs ?_; refine oN ?_) | (refine rg 1 ?_; refine oFb ?_; refine oLb ?_; refine oAs ?_; refine oN ?_) | (refine rg 2 ?_; refine oMv ?_; refine sp (po_len_str rfl rfl (tyR rfl)) ?_; refine oCm ?_; refine oMv ?_; refine oMv ?_ <;> refine sp (po_slice_str (h' := 9) rfl rfl (tyR rfl) (by rfl) (by first | rfl | exact ⟨_, rfl⟩) (by omega) (by omega)) ?_ <;> refine sp (po_str rfl rfl rfl rfl) ?_ <;> (first | refine oPt ?_ | refine oPf ?_) <;> refine oMv ?_ <;> (first | refine oMv ?_ | refine oK ?_) <;> (first | refine sp (po_index_str (k := 12) rfl rfl rfl (tyR rfl) (by rfl) (by assumption)) ?_ | refine oK ?_) <;> (first | refine oCm ?_ | refine oK ?_) <;> refine oPt ?_ <;> refine oN ?_) | (refine rg 3 ?_; refine sp (po_buildS str28 rfl .nil rfl) ?_; refine oS ?_; refine oAs ?_; refine oN ?_) | refine gc ?_ | refine ct ?_ | refine cf ?_ | refine swp_cond rfl (fun hc => ?_) (fun hc => ?_) | refine rq rfl (.cell rfl rfl (tyT rfl) (vc (vc (vc .nil))) rfl (rt .nil)) ?_)
      rfl
  · rw [decide_eq_false h13]
    repeat' (first | (refine rg 0 ?_; refine sbx ?_; refine sal str28 ?_; refine oAs ?_; refine oN ?_) | (refine rg 1 ?_; refine oFb ?_; refine oLb ?_; refine oAs ?_; refine oN ?_) | (refine rg 2 ?_; refine oMv ?_; refine sp (po_len_str rfl rfl (tyR rfl)) ?_; refine oCm ?_; refine oMv ?_; (first | refine oMv ?_ | refine oK ?_) <;> (first | refine sp (po_slice_str (h' := 9) rfl rfl (tyR rfl) (by rfl) (by first | rfl | exact ⟨_, rfl⟩) (by omega) (by omega)) ?_ | refine oK ?_) <;> (first | refine sp (po_str rfl rfl rfl rfl) ?_ | refine oK ?_) <;> refine oPt ?_ <;> refine oMv ?_ <;> (first | refine oMv ?_ | refine oK ?_) <;> (first | refine sp (po_index_str (k := 12) rfl rfl rfl (tyR rfl) (by rfl) (by first | assumption | omega)) ?_ | refine oK ?_) <;> (first | refine oCm ?_ | refine oK ?_) <;> refine oPt ?_ <;> refine oN ?_) | (refine rg 3 ?_; refine sp (po_buildS str28 rfl .nil rfl) ?_; refine oS ?_; refine oAs ?_; refine oN ?_) | refine gc ?_ | refine ct ?_ | refine cf ?_ | refine swp_cond rfl (fun hc => ?_) (fun hc => ?_) | refine rq rfl (.cell rfl rfl (tyT rfl) (vc (vc (vc .nil))) rfl (rt .nil)) ?_)
    rfl
theorem good_ok {h : Pl.Head} (hg : good h = true) : okHead h := by
  have := good_size hg
  unfold okHead maxLen; omega
theorem sane_ok {r : PRaw} (h : sane r) : RawOk r := by
  obtain ⟨h1, h2⟩ := h
  unfold fitsP mayL at h2
  simp only [Bool.and_eq_true, decide_eq_true_eq] at h2
  obtain ⟨⟨⟨_, h3, h4⟩, h5⟩, _⟩ := h2
  exact ⟨by omega, fun h hh => good_ok ((List.all_eq_true.1 h4) h hh), by omega, by unfold maxLen; omega⟩
theorem rawsL_sane (l : List UInt8) : ∀ r ∈ (rawsL l).1, sane r := by
  unfold rawsL
  split
  · simp
  · split
    · exact feed_sane l
    · simp
theorem oneT_cases (l : List UInt8) : (∃ r, (rawsL l) = ([r], 0) ∧ ofP r = true ∧ sane r ∧ oneT l = .tup [.agg (ansT (ansOf r)), .v (.int .i64 0)]) ∨ (∃ e, e ≠ 0 ∧ oneT l = .tup [.agg ansT0, .v (.int .i64 e)]) := by
  have hs := rawsL_sane l
  unfold oneT
  by_cases he : (rawsL l).2 ≠ 0
  · rw [if_pos he]; exact .inr ⟨_, he, rfl⟩
  · rw [if_neg he]
    split
    · rename_i r hr
      rw [hr] at hs
      unfold ofT
      cases ho : ofP r with
      | true =>
        have h0 : (rawsL l).2 = 0 := by omega
        exact .inl ⟨r, by rw [← hr, ← h0], ho, hs r (by simp), by rw [if_pos rfl]⟩
      | false => exact .inr ⟨2, by decide, by rw [if_neg (by simp)]⟩
    · exact .inr ⟨2, by decide, rfl⟩
set_option maxRecDepth 100000 in
set_option maxHeartbeats 4000000 in
theorem refOne_ (l : List UInt8) (hl : l.length ≤ 50000) : PCalls Tryz.prog 12 [.sl 1 (l.map byteT)] (oneT l) := by
  have hs := rawsL_sane l
  obtain ⟨a1, a2, a3⟩ := all_feed l.length [] l (Nat.le_refl _)
  have c1 := refAllM_ l (by omega)
  rw [← rd0_idl] at a1 a2 a3
  unfold allT at c1
  generalize allM l.length [] l = M at *
  obtain ⟨x, al, e⟩ := M
  simp only at c1 a1 a2 a3
  by_cases he : e = 0
  · subst he
    cases al with
    | false =>
      have hR : rawsL l = ([], 2) := by unfold rawsL; rw [a1, a3]; simp
      have hT : oneT l = .tup [.agg ansT0, .v (.int .i64 2)] := by unfold oneT; rw [hR]; simp
      rw [hT]
      refine pcalls_of Tryz.func12 rfl rfl Tryz.ntmps12 rfl ?_
      repeat' (first | (refine rg 0 ?_; refine sal str28 ?_; refine oAs ?_; refine oN ?_) | (refine rg 1 ?_; refine oMv ?_; refine oC (c1) rfl (ac .nil) ?_; refine oMv ?_; refine oEx ?_; refine oEx ?_; refine oEx ?_; refine oAs ?_; refine oAs ?_; refine oAs ?_; refine oN ?_) | (refine rg 2 ?_; refine oMv ?_; refine oCm ?_; refine oN ?_) | (refine rg 4 ?_; refine oMv ?_; refine sp (po_not rfl rfl) ?_; refine oMv ?_; (first | refine oMv ?_ | refine oK ?_) <;> (first | refine sp (pln rfl (tyS rfl)) ?_ | refine oK ?_) <;> (first | refine oCm ?_ | refine oK ?_) <;> refine oPt ?_ <;> refine oN ?_) | (refine rg 5 ?_; refine sp (po_buildS str28 rfl .nil rfl) ?_; refine oS ?_; refine oAs ?_; refine oN ?_) | refine gc ?_ | refine ct ?_ | refine cf ?_ | refine swp_cond rfl (fun hc => ?_) (fun hc => ?_) | refine rq rfl (.cell rfl rfl (tyT rfl) (vc (vc (vc .nil))) rfl (rt .nil)) ?_)
      rfl
    | true =>
      have hR : rawsL l = (x, 0) := by unfold rawsL; rw [a1, a2, a3]; simp
      rw [hR] at hs
      match x, hs, c1, hR with
      | [], _, c1, hR =>
        have hT : oneT l = .tup [.agg ansT0, .v (.int .i64 2)] := by unfold oneT; rw [hR]; simp
        rw [hT]
        have e2 : (!decide ((([] : List PRaw).map rawT).length = (1 : Int))) = true := rfl
        refine pcalls_of Tryz.func12 rfl rfl Tryz.ntmps12 rfl ?_
        repeat' (first | (refine rg 0 ?_; refine sal str28 ?_; refine oAs ?_; refine oN ?_) | (refine rg 1 ?_; refine oMv ?_; refine oC (c1) rfl (ac .nil) ?_; refine oMv ?_; refine oEx ?_; refine oEx ?_; refine oEx ?_; refine oAs ?_; refine oAs ?_; refine oAs ?_; refine oN ?_) | (refine rg 2 ?_; refine oMv ?_; refine oCm ?_; refine oN ?_) | (refine rg 4 ?_; refine oMv ?_; refine sp (po_not rfl rfl) ?_; refine oMv ?_; refine oMv ?_ <;> refine sp (pln rfl (tyS rfl)) ?_ <;> refine oCm ?_ <;> (first | refine oPt ?_ | refine oPf ?_) <;> refine oN ?_) | (refine rg 5 ?_; refine sp (po_buildS str28 rfl .nil rfl) ?_; refine oS ?_; refine oAs ?_; refine oN ?_) | refine gc ?_ | refine ct ?_ | refine cf ?_ | refine swp_cond rfl (fun hc => ?_) (fun hc => ?_) | refine rq rfl (.cell rfl rfl (tyT rfl) (vc (vc (vc .nil))) rfl (rt .nil)) ?_)
        rfl
      | [r], hs, c1, hR =>
        have hT : oneT l = ofT r := by unfold oneT; rw [hR]; simp
        rw [hT]
        have c2 := refOf_ r (sane_ok (hs r (by simp)))
        unfold refOfT at c2
        have e2 : (!decide ((([r].map rawT).length : Int) = 1)) = false := rfl
        unfold ofT
        refine pcalls_of Tryz.func12 rfl rfl Tryz.ntmps12 rfl ?_
        cases ho : ofP r with
        | false =>
          rw [ho, if_neg (by simp)] at c2
          unfold rawT ansT0 at c2
          repeat' (first | (refine rg 0 ?_; refine sal str28 ?_; refine oAs ?_; refine oN ?_) | (refine rg 1 ?_; refine oMv ?_; refine oC (c1) rfl (ac .nil) ?_; refine oMv ?_; refine oEx ?_; refine oEx ?_; refine oEx ?_; refine oAs ?_; refine oAs ?_; refine oAs ?_; refine oN ?_) | (refine rg 2 ?_; refine oMv ?_; refine oCm ?_; refine oN ?_) | (refine rg 4 ?_; refine oMv ?_; refine sp (po_not rfl rfl) ?_; refine oMv ?_; refine oMv ?_ <;> refine sp (pln rfl (tyS rfl)) ?_ <;> refine oCm ?_ <;> (first | refine oPt ?_ | refine oPf ?_) <;> refine oN ?_) | (refine rg 6 ?_; refine oMv ?_; refine sp (pix rfl (tyS rfl)) ?_; (first | refine sp (po_load_bx_agg rfl rfl (tyT rfl) rfl (vc (vc (vc .nil))) rfl) ?_ | refine sp (po_load_agg rfl rfl (tyT rfl) rfl rfl) ?_); (first | refine oC (c1) rfl (ac .nil) ?_ | refine oC (c2) rfl (ac .nil) ?_); refine oMv ?_; refine oEx ?_; refine oEx ?_; refine sal str28 ?_; refine oS ?_; refine oAs ?_; refine oN ?_) | (refine rg 7 ?_; refine oMv ?_; refine sp (po_not rfl rfl) ?_; refine oN ?_) | (refine rg 8 ?_; refine sp (po_buildS str28 rfl .nil rfl) ?_; refine oS ?_; refine oAs ?_; refine oN ?_) | refine gc ?_ | refine ct ?_ | refine cf ?_ | refine swp_cond rfl (fun hc => ?_) (fun hc => ?_) | refine rq rfl (.cell rfl rfl (tyT rfl) (vc (vc (vc .nil))) rfl (rt .nil)) ?_)
          rfl
        | true =>
          rw [ho, if_pos rfl] at c2
          unfold rawT ansT at c2
          repeat' (first | (refine rg 0 ?_; refine sal str28 ?_; refine oAs ?_; refine oN ?_) | (refine rg 1 ?_; refine oMv ?_; refine oC (c1) rfl (ac .nil) ?_; refine oMv ?_; refine oEx ?_; refine oEx ?_; refine oEx ?_; refine oAs ?_; refine oAs ?_; refine oAs ?_; refine oN ?_) | (refine rg 2 ?_; refine oMv ?_; refine oCm ?_; refine oN ?_) | (refine rg 4 ?_; refine oMv ?_; refine sp (po_not rfl rfl) ?_; refine oMv ?_; refine oMv ?_ <;> refine sp (pln rfl (tyS rfl)) ?_ <;> refine oCm ?_ <;> (first | refine oPt ?_ | refine oPf ?_) <;> refine oN ?_) | (refine rg 6 ?_; refine oMv ?_; refine sp (pix rfl (tyS rfl)) ?_; (first | refine sp (po_load_bx_agg rfl rfl (tyT rfl) rfl (vc (vc (vc .nil))) rfl) ?_ | refine sp (po_load_agg rfl rfl (tyT rfl) rfl rfl) ?_); (first | refine oC (c1) rfl (ac .nil) ?_ | refine oC (c2) rfl (ac .nil) ?_); refine oMv ?_; refine oEx ?_; refine oEx ?_; refine sal str28 ?_; refine oS ?_; refine oAs ?_; refine oN ?_) | (refine rg 7 ?_; refine oMv ?_; refine sp (po_not rfl rfl) ?_; refine oN ?_) | (refine rg 9 ?_; (refine sp (po_load_bx_agg rfl rfl (tyT rfl) rfl (vc (vc (vc .nil))) rfl) ?_); refine oS ?_; refine oAs ?_; refine oN ?_) | refine gc ?_ | refine ct ?_ | refine cf ?_ | refine swp_cond rfl (fun hc => ?_) (fun hc => ?_) | refine rq rfl (.cell rfl rfl (tyT rfl) (vc (vc (vc .nil))) rfl (rt .nil)) ?_)
          rfl
      | r :: r2 :: q, _, c1, hR =>
        have hT : oneT l = .tup [.agg ansT0, .v (.int .i64 2)] := by unfold oneT; rw [hR]; simp
        rw [hT]
        have e2 : (!decide ((((r :: r2 :: q).map rawT).length : Int) = 1)) = true := by
          rw [decide_eq_false (by simp; omega)]; rfl
        refine pcalls_of Tryz.func12 rfl rfl Tryz.ntmps12 rfl ?_
        repeat' (first | (refine rg 0 ?_; refine sal str28 ?_; refine oAs ?_; refine oN ?_) | (refine rg 1 ?_; refine oMv ?_; refine oC (c1) rfl (ac .nil) ?_; refine oMv ?_; refine oEx ?_; refine oEx ?_; refine oEx ?_; refine oAs ?_; refine oAs ?_; refine oAs ?_; refine oN ?_) | (refine rg 2 ?_; refine oMv ?_; refine oCm ?_; refine oN ?_) | (refine rg 4 ?_; refine oMv ?_; refine sp (po_not rfl rfl) ?_; refine oMv ?_; refine oMv ?_ <;> refine sp (pln rfl (tyS rfl)) ?_ <;> refine oCm ?_ <;> (first | refine oPt ?_ | refine oPf ?_) <;> refine oN ?_) | (refine rg 5 ?_; refine sp (po_buildS str28 rfl .nil rfl) ?_; refine oS ?_; refine oAs ?_; refine oN ?_) | refine gc ?_ | refine ct ?_ | refine cf ?_ | refine swp_cond rfl (fun hc => ?_) (fun hc => ?_) | refine rq rfl (.cell rfl rfl (tyT rfl) (vc (vc (vc .nil))) rfl (rt .nil)) ?_)
        rfl
  · have hR : rawsL l = ([], e) := by unfold rawsL; rw [a1, if_pos he]
    have hT : oneT l = .tup [.agg ansT0, .v (.int .i64 e)] := by unfold oneT; rw [hR, if_pos (show (e : Int) ≠ 0 from he)]
    rw [hT]
    have e1 : (!decide (e = 0)) = true := by rw [decide_eq_false he]; rfl
    refine pcalls_of Tryz.func12 rfl rfl Tryz.ntmps12 rfl ?_
    repeat' (first | (refine rg 0 ?_; refine sal str28 ?_; refine oAs ?_; refine oN ?_) | (refine rg 1 ?_; refine oMv ?_; refine oC (c1) rfl (ac .nil) ?_; refine oMv ?_; refine oEx ?_; refine oEx ?_; refine oEx ?_; refine oAs ?_; refine oAs ?_; refine oAs ?_; refine oN ?_) | (refine rg 2 ?_; refine oMv ?_; refine oCm ?_; refine oN ?_) | (refine rg 3 ?_; refine sp (po_buildS str28 rfl .nil rfl) ?_; refine oMv ?_; refine oS ?_; refine oAs ?_; refine oN ?_) | refine gc ?_ | refine ct ?_ | refine cf ?_ | refine swp_cond rfl (fun hc => ?_) (fun hc => ?_) | refine rq rfl (.cell rfl rfl (tyT rfl) (vc (vc (vc .nil))) rfl (rt .nil)) ?_)
    rfl
end Go.Proofs.YtloippgblkoemaaGreatDoor.An

/- Answers, messages, requests: in memory, opened, as trees of data. -/
namespace Go.Proofs.YtloippgblkoemaaGreatDoor.Rq
set_option linter.unusedVariables false
set_option linter.unusedSimpArgs false
open Go.RowKit Go.WideShapes Go.ChangeShapes Go.Joins Mem Sim Opn Hd An
def ByteC : Rel UInt8 := fun _ _ b cs => cs = [.int .u8 (b.toNat : Int)]
theorem one_byte : Tryz.prog.cellsOf 5 = 1 := by kernel_rfl
theorem one_bytes : Tryz.prog.cellsOf 23 = 1 := by kernel_rfl
theorem one_heads : Tryz.prog.cellsOf 22 = 1 := by kernel_rfl
theorem byte_opens : Opens 5 ByteC := by
  intro H enc w base spare held fuel cs x h
  obtain ⟨n, rfl, _, hw⟩ := DataW.trod_int Tryz.underlying5 h
  have hb := bounds_u8 hw
  refine ⟨UInt8.ofNat n.toNat, ?_⟩
  unfold ByteC
  rw [UInt8.toNat_ofNat']
  congr 2; omega
theorem bytes_opens : Opens 23 (SliceC ByteC 1) := opens_slice (R := ByteC) Tryz.underlying23 one_byte (by omega) byte_opens
theorem sl_bwd {α : Type} {R : Mem.Rel α} {enc : α → List T} {sz B : Nat} {w : World} {xs : List α} {c : Value} (hsz : ∀ x, (enc x).length = sz) (hR : ∀ x cs, R B w x cs → CellsAre (allm w) (enc x) cs) (h : SliceC R sz B w xs [c]) : TR (allm w) (.sl sz (xs.map enc)) c ∧ c.oneCell' = true := by
  obtain ⟨A, cap, e, hA, h1, h2⟩ := h
  injection e with e; subst e
  exact ⟨tr_rows_bwd (allm w) hA h1 h2 hsz (fun x _ cs hr => hR x cs hr) (fun b o v _ h => h), rfl⟩
theorem str_bwd {B : Nat} {w : World} {s : ByteArray} {c : Value} (h : StrC B w s [c]) : TR (allm w) (.v (.string s)) c ∧ c.oneCell' = true := by
  obtain ⟨e, _⟩ := h; injection e with e; subst e; exact ⟨.v _, rfl⟩
theorem head_bwd {B : Nat} {w : World} (x : Pl.Head) (cs : List Value) (h : HeadR B w x cs) : CellsAre (allm w) (headT x) cs := by
  obtain ⟨rfl, _⟩ := h
  exact cellsAre_cons (.v _) rfl (cellsAre_cons (.v _) rfl (cellsAre_nil _))
theorem byte_bwd {B : Nat} {w : World} (x : UInt8) (cs : List Value) (h : ByteC B w x cs) : CellsAre (allm w) (byteT x) cs := by
  obtain rfl := h
  exact cellsAre_cons (.v _) rfl (cellsAre_nil _)
theorem heads_bwdC {B : Nat} {w : World} {xs : List Pl.Head} {c : Value} (h : SliceC HeadR 2 B w xs [c]) : TR (allm w) (headsT xs) c ∧ c.oneCell' = true := sl_bwd (fun _ => rfl) head_bwd h
theorem bytes_bwdC {B : Nat} {w : World} {xs : List UInt8} {c : Value} (h : SliceC ByteC 1 B w xs [c]) : TR (allm w) (.sl 1 (xs.map byteT)) c ∧ c.oneCell' = true := sl_bwd (fun _ => rfl) byte_bwd h
theorem sl_bwdA {α : Type} {R : Mem.Rel α} {enc : α → List T} {sz B : Nat} {w : World} {A : Option Addr} {xs : List α} {cap : Nat} (hsz : ∀ x, (enc x).length = sz) (hR : ∀ x cs, R B w x cs → CellsAre (allm w) (enc x) cs) (hA : SliceAt R sz B w A xs) (h1 : xs.length ≤ cap) (h2 : cap ≤ maxLen) : TR (allm w) (.sl sz (xs.map enc)) (.slice A xs.length cap) :=
  tr_rows_bwd (allm w) hA h1 h2 hsz (fun x _ cs hr => hR x cs hr) (fun b o v _ h => h)
theorem heads_okC {B : Nat} {w : World} {xs : List Pl.Head} {cs : List Value} (h : SliceC HeadR 2 B w xs cs) : ∀ x ∈ xs, okHead x := by
  obtain ⟨A, cap, e, hA, h1, h2⟩ := h
  exact heads_ok hA
theorem body_okC {B : Nat} {w : World} {xs : List UInt8} {cs : List Value} (h : SliceC ByteC 1 B w xs cs) : xs.length ≤ maxLen := by
  obtain ⟨A, cap, e, hA, h1, h2⟩ := h
  omega
def RawR : Rel PRaw := fun B w x cs => ∃ c0 c1 c2, cs = [c0, c1, c2] ∧ StrC B w x.start [c0] ∧ (SliceC HeadR 2) B w x.heads [c1] ∧ (SliceC ByteC 1) B w x.body [c2]
theorem cells_Raw : Tryz.prog.cellsOf 25 = 3 := by kernel_rfl
set_option maxRecDepth 100000 in
theorem raw_opens : Opens 25 RawR := by
  intro H enc w base spare held fuel cs x h
  obtain ⟨xs, n, _, hx, hlen, hxl, hf⟩ := DataW.trod_struct Tryz.underlying25 h
  have hl := hlen.trans cells_Raw
  obtain ⟨c0, c1, c2, rfl⟩ : ∃ c0 c1 c2, cs = [c0, c1, c2] := by
    match cs, hl with
    | [c0, c1, c2], _ => exact ⟨c0, c1, c2, rfl⟩
  obtain ⟨y0, y1, y2, rfl⟩ : ∃ y0 y1 y2, xs = [y0, y1, y2] := by
    match xs, hxl with
    | [y0, y1, y2], _ => exact ⟨y0, y1, y2, rfl⟩
  have f0 : DataW.trod enc Tryz.prog w base spare held n 9 [c0] = some y0 := by
    have := hf 0 _ rfl
    simpa [one_bytes, one_heads, one_string] using this
  obtain ⟨v0, r0⟩ := (opens_str Tryz.underlying9) H enc w base spare held n [c0] y0 f0
  have f1 : DataW.trod enc Tryz.prog w base spare held n 22 [c1] = some y1 := by
    have := hf 1 _ rfl
    simpa [one_bytes, one_heads, one_string] using this
  obtain ⟨v1, r1⟩ := heads_opens H enc w base spare held n [c1] y1 f1
  have f2 : DataW.trod enc Tryz.prog w base spare held n 23 [c2] = some y2 := by
    have := hf 2 _ rfl
    simpa [one_bytes, one_heads, one_string] using this
  obtain ⟨v2, r2⟩ := bytes_opens H enc w base spare held n [c2] y2 f2
  exact ⟨⟨v0, v1, v2⟩, c0, c1, c2, rfl, r0, r1, r2⟩
theorem raw_bwd {B : Nat} {w : World} (x : PRaw) (cs : List Value) (h : RawR B w x cs) : CellsAre (allm w) (rawT x) cs := by
  obtain ⟨c0, c1, c2, rfl, h0, h1, h2⟩ := h
  exact (cellsAre_cons (str_bwd h0).1 (str_bwd h0).2 (cellsAre_cons (heads_bwdC h1).1 (heads_bwdC h1).2 (cellsAre_cons (bytes_bwdC h2).1 (bytes_bwdC h2).2 (cellsAre_nil _))))
theorem raw_bwdT {w : World} {x : PRaw} {cs : Array Value} (h : RawR w.heap.size w x cs.toList) : TR (allm w) (.agg (rawT x)) (.agg cs) := by
  have := agg_bwd (raw_bwd x _ h)
  simpa using this
structure okRaw (a : PRaw) : Prop where
  hs : a.start.size ≤ maxLen
  hh : ∀ h ∈ a.heads, okHead h
  hb : a.body.length ≤ maxLen
theorem raw_ok (B : Nat) (w : World) (x : PRaw) (cs : List Value) (h : RawR B w x cs) : okRaw x := by
  obtain ⟨c0, c1, c2, rfl, h0, h1, h2⟩ := h
  exact ⟨h0.2, heads_okC h1, body_okC h2⟩
end Go.Proofs.YtloippgblkoemaaGreatDoor.Rq
