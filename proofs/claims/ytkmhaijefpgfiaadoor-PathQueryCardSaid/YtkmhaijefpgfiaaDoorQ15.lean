/- Merged by bundles.py: SimPath5, SimJoin8, PlPath2. -/
import Derived.Test.YtkmhaijefpgfiaaDoorQ14
import Derived.Test.YtkmhaijefpgfiaaDoorQ9
import Derived.Shelf.Strings.OnBuilder
import Derived.Test.YtkmhaijefpgfiaaDoorQ10
/- Targets: what is said by %: walk. -/
namespace Go.Proofs.YtkmhaijefpgfiaaDoor.Pth
set_option linter.unusedVariables false
set_option linter.unusedSimpArgs false
open Go.RowKit Mem Sim Opn Str Hd
theorem okL_tail {c : UInt8} {l : L8} (h : okL (c :: l) = true) : okL l = true := by
  have : okL (c :: l) = (!badC c && (!decide (c = 37) || pctB l) && okL l) := rfl
  rw [this, Bool.and_eq_true] at h; exact h.2
theorem okL_pct {l : L8} (h : okL (37 :: l) = true) : pctB l = true := by
  have : okL (37 :: l) = (!badC 37 && (!decide ((37 : UInt8) = 37) || pctB l) && okL l) := rfl
  rw [this, Bool.and_eq_true, Bool.and_eq_true] at h
  simpa using h.1.2
theorem num2_nat {a b : UInt8} (ha : 0 ≤ dig a) (hb : 0 ≤ dig b) : ((num2 a b).toNat : Int) = 16 * dig a + dig b := by
  have h1 := dig_rng a
  have h2 := dig_rng b
  unfold num2
  generalize dig a = x at *
  generalize dig b = y at *
  obtain ⟨n, hn⟩ := Int.eq_ofNat_of_zero_le (by omega : 0 ≤ 16 * x + y)
  rw [hn]
  have : n < 256 := by omega
  simp [Nat.mod_eq_of_lt this]
theorem hex_at : ∀ n : Nat, (h : n < 16) → ((⟨#[48, 49, 50, 51, 52, 53, 54, 55, 56, 57, 65, 66, 67, 68, 69, 70]⟩ : ByteArray)[n]'h).toNat = (hexU (n : Int)).toNat := by
  intro n h
  have key : ∀ m : Fin 16, ((⟨#[48, 49, 50, 51, 52, 53, 54, 55, 56, 57, 65, 66, 67, 68, 69, 70]⟩ : ByteArray)[m.1]'m.2).toNat = (hexU (m.1 : Int)).toNat := by decide
  exact key ⟨n, h⟩
theorem saidL_c {bad : UInt8 → Bool} {c : UInt8} {l : L8} (h : c ≠ 37) : saidL bad (c :: l) = (c :: (saidL bad l).1, (saidL bad l).2) := by
  match l with
  | a :: b :: l' => rw [saidL, if_neg h]
  | [] => simp [saidL, h]
  | [x] => rw [saidL, if_neg h]; intro a b l' e; cases e
theorem saidL_bad {bad : UInt8 → Bool} {a b : UInt8} {l : L8} (h : bad (num2 a b) = true) : saidL bad (37 :: a :: b :: l) = ([], false) := by
  rw [saidL, if_pos rfl]; simp [h]
theorem saidL_plain {bad : UInt8 → Bool} {a b : UInt8} {l : L8} (h : bad (num2 a b) = false) (hp : plainB (num2 a b) = true) : saidL bad (37 :: a :: b :: l) = (num2 a b :: (saidL bad l).1, (saidL bad l).2) := by
  rw [saidL, if_pos rfl]; simp [h, hp]
theorem saidL_hex {bad : UInt8 → Bool} {a b : UInt8} {l : L8} (h : bad (num2 a b) = false) (hp : plainB (num2 a b) = false) : saidL bad (37 :: a :: b :: l) = (37 :: hexU (dig a) :: hexU (dig b) :: (saidL bad l).1, (saidL bad l).2) := by
  rw [saidL, if_pos rfl]; simp [h, hp]
def SSd (s : ByteArray) (fb : FuncId) (x : L8 × Nat) : St := ⟨[(0, .t (.v (.string s))), (1, .t (.clo fb [])), (6, .own 106 (x.1.map byteT).length), (7, .t (.v (.bool true))), (8, .t (.v (.int .i64 (x.2 : Int))))], [], [(106, ⟨5, 1, x.1.map byteT⟩)]⟩
set_option maxRecDepth 100000 in
set_option maxHeartbeats 2000000 in
theorem said_ (bad : UInt8 → Bool) (fb : FuncId) (hb : ∀ c : UInt8, PCalls Tryd.prog fb [.v (.int .u8 (c.toNat : Int))] (.v (.bool (bad c)))) (s : ByteArray) (hs : s.size ≤ 100000) (hok : okL s.toList = true) :
    PCalls Tryd.prog 21 [.v (.string s), .clo fb []] (.tup [.v (.string (bs (saidL bad s.toList).1)), .v (.bool (saidL bad s.toList).2)]) := by
  have hsz : s.toList.length = s.size := toList_len s
  refine pcalls_of Tryd.func21 rfl rfl Tryd.ntmps21 rfl ?_
  repeat' (first | refine then_go ?_ | refine swp_seq ?_ | refine swp_scope ?_ | refine swp_label ?_ | refine nog_r ?_ | (refine rg 0 ?_; refine oAs ?_; refine oAs ?_; refine oN ?_) | (refine rg 1 ?_; refine oAs ?_; refine oN ?_) | (refine rg 2 ?_; refine oAs ?_; refine oN ?_) | (refine rg 3 ?_; refine oAs ?_; refine oN ?_) | refine swp_ret ?_ | refine swp_skip ?_ | refine swp_block ?_ | refine swp_exit ?_ | refine block_go ?_ | refine block_exit ?_ | refine block_far rfl ?_ | refine block_ret ?_ | refine then_ret ?_ | refine then_exit ?_ | refine for_ret ?_ | refine for_exit ?_ | refine ct ?_ | refine cf ?_ | refine swp_cond rfl (fun hc => ?_) (fun hc => ?_) | refine rq rfl (rt (rt .nil)) ?_)
  refine swp_fam (SSd s fb) (fun x => x.2 ≤ s.size ∧ x.1.length ≤ x.2 ∧ okL (s.toList.drop x.2) = true ∧ saidL bad s.toList = (x.1 ++ (saidL bad (s.toList.drop x.2)).1, (saidL bad (s.toList.drop x.2)).2)) (fun x => s.size - x.2) ([], 0) ?_ ⟨by simp, by simp, hok, rfl⟩ ?_
  · refine Weak.trans (weak_own0 (i := 106) 5 1 (s := 6) rfl rfl) ?_
    exact (weak_sub (.cons rfl rfl rfl (.cons rfl rfl rfl (.cons rfl rfl rfl (.cons rfl rfl rfl (.cons rfl rfl rfl .nil))))) .nil (.cons rfl rfl .nil))
  rintro ⟨out, k⟩ ⟨h1, h2, h3, h4⟩
  unfold SSd
  dsimp only at h1 h2 h3 h4 ⊢
  have hm : (out.map byteT).length = out.length := List.length_map _
  have hb1 : ((out.map byteT).length + 1) * 64 ≤ 140737488355328 := by omega
  have hb2 : (out.map byteT).length + 1 ≤ maxLen := by unfold maxLen; omega
  have hb3 : ((out.map byteT).length + 3) * 64 ≤ 140737488355328 := by omega
  have hb4 : (out.map byteT).length + 3 ≤ maxLen := by unfold maxLen; omega
  by_cases hlt : k < s.size
  · have e1 := tl_drop s hlt
    by_cases hp : s[k].toNat = 37
    · have hp' : s[k] = 37 := UInt8.toNat_inj.1 hp
      rw [e1, hp'] at h3 h4
      have hpc := okL_pct h3
      rw [pct_at] at hpc
      by_cases h5 : k + 2 < s.size
      · rw [dif_pos h5] at hpc
        rw [tl_drop s (by omega : k + 1 < s.size), tl_drop s h5] at h3 h4
        have h6 := okL_tail (okL_tail (okL_tail h3))
        have ca := digit_ s[k + 1]
        have cb := digit_ s[k + 2]
        have cc := hb (num2 s[k + 1] s[k + 2])
        have cp := plain_ (num2 s[k + 1] s[k + 2])
        rw [Bool.and_eq_true, decide_eq_true_eq, decide_eq_true_eq] at hpc
        have hn := num2_nat hpc.1 hpc.2
        have r1 := dig_rng s[k + 1]
        have r2 := dig_rng s[k + 2]
        have hu : (num2 s[k + 1] s[k + 2]).toNat < 256 := UInt8.toNat_lt _
        have h8 : IntKind.u8.wrap (16 * dig s[k + 1] + dig s[k + 2]) = ((num2 s[k + 1] s[k + 2]).toNat : Int) := by rw [← hn]; exact wrap_u8 (by omega)
        cases hbad : bad (num2 s[k + 1] s[k + 2]) with
        | true =>
          rw [saidL_bad hbad] at h4
          rw [h4, List.append_nil]
          rw [hbad] at cc
          repeat' (first | refine gc ?_ | refine fam_ret ?_ | refine fam_exit ?_ | refine nog_r ?_ | (refine rg 4 ?_; refine oMv ?_; refine oMv ?_; refine sp (po_len_str rfl rfl (tyR rfl)) ?_; refine oCm ?_; refine oN ?_) | (refine rg 6 ?_; refine oMv ?_; refine oMv ?_; refine sp (xist rfl) ?_; refine oAs ?_; refine oN ?_) | (refine rg 7 ?_; refine oMv ?_; refine oCm ?_; refine oN ?_) | (refine rd 9 ?_; refine dMv ?_; refine dMv ?_; (first | refine dp (xinc rfl) ?_ | refine dp (xadd rfl) ?_); refine dp (xist rfl) ?_; (first | refine dC (ca) rfl (ac .nil) ?_ | refine dC (cb) rfl (ac .nil) ?_); refine dMv ?_; refine dMv ?_; (first | refine dp (xinc rfl) ?_ | refine dp (xadd rfl) ?_); refine dp (xist rfl) ?_; (first | refine dC (ca) rfl (ac .nil) ?_ | refine dC (cb) rfl (ac .nil) ?_); refine dAs ?_; refine dAs ?_; refine dN ?_; refine oN ?_) | (refine rg 10 ?_; refine oMv ?_; refine sp (po_arith rfl rfl rfl (ar_mul (by first | rfl | (refine wrap_i64 ?_; omega)) rfl)) ?_; refine oMv ?_; (first | refine sp (xinc rfl) ?_ | refine sp (xadd rfl) ?_); (first | refine sp (po_conv_int rfl rfl (tyK rfl) (tyK rfl) h8) ?_ | refine sp (po_conv_int rfl rfl (tyK rfl) (tyK rfl) (by first | (refine wrap_i64 ?_; omega) | rfl)) ?_); refine oAs ?_; refine oN ?_) | (refine rg 11 ?_; refine oMv ?_; (first | refine sp (xinc rfl) ?_ | refine sp (xadd rfl) ?_); refine oAs ?_; refine oN ?_) | (refine rg 13 ?_; refine oMv ?_; refine oMv ?_; refine sp (po_call_clo rfl rfl (ac .nil) (cc)) ?_; refine oAs ?_; refine oN ?_) | (refine rg 14 ?_; refine oAs ?_; refine oN ?_) | (refine rg 17 ?_; refine oMv ?_; (first | refine sp (po_conv_int rfl rfl (tyK rfl) (tyK rfl) h8) ?_ | refine sp (po_bytes_str rfl rfl (by first | exact .t _ | exact .own rfl (by first | rfl | assumption | omega | (simp; done) | (simp; omega) | (simp at *; omega)) | exact .nil _ | exact .emp _) byt53 (tyR rfl)) ?_); refine oMv ?_; refine oAs ?_; refine oAs ?_; refine oN ?_) | refine ct ?_ | refine cf ?_ | refine swp_cond rfl (fun hc => ?_) (fun hc => ?_) | refine rq rfl (rt (rt .nil)) ?_)
          rfl
        | false =>
          rw [hbad] at cc
          cases hpl : plainB (num2 s[k + 1] s[k + 2]) with
          | true =>
            rw [saidL_plain hbad hpl] at h4
            rw [hpl] at cp
            have hrow : (out ++ [num2 s[k + 1] s[k + 2]]).map byteT = out.map byteT ++ [[T.v (.int .u8 ((num2 s[k + 1] s[k + 2]).toNat : Int))]] := by rw [List.map_append]; rfl
            repeat' (first | refine fam_next (out ++ [num2 s[k + 1] s[k + 2]], k + 3) (by simp only; omega) (weak_sub (.cons rfl (by first | rfl | ((first | rw [hrow] | (dsimp only; rw [hrow]) | exact congrArg (fun n : Int => A.t (T.v (Value.int .i64 n))) (by omega)); try rfl)) rfl (.cons rfl (by first | rfl | ((first | rw [hrow] | (dsimp only; rw [hrow]) | exact congrArg (fun n : Int => A.t (T.v (Value.int .i64 n))) (by omega)); try rfl)) rfl (.cons rfl (by first | rfl | ((first | rw [hrow] | (dsimp only; rw [hrow]) | exact congrArg (fun n : Int => A.t (T.v (Value.int .i64 n))) (by omega)); try rfl)) rfl (.cons rfl (by first | rfl | ((first | rw [hrow] | (dsimp only; rw [hrow]) | exact congrArg (fun n : Int => A.t (T.v (Value.int .i64 n))) (by omega)); try rfl)) rfl (.cons rfl (by first | rfl | ((first | rw [hrow] | (dsimp only; rw [hrow]) | exact congrArg (fun n : Int => A.t (T.v (Value.int .i64 n))) (by omega)); try rfl)) rfl .nil))))) .nil (.cons rfl (by first | rfl | ((first | rw [hrow] | (dsimp only; rw [hrow]) | exact congrArg (fun n : Int => A.t (T.v (Value.int .i64 n))) (by omega)); try rfl)) .nil)) ⟨by simp only; omega, by simp; omega, h6, by rw [h4]; simp⟩ | (refine rg 4 ?_; refine oMv ?_; refine oMv ?_; refine sp (po_len_str rfl rfl (tyR rfl)) ?_; refine oCm ?_; refine oN ?_) | (refine rg 6 ?_; refine oMv ?_; refine oMv ?_; refine sp (xist rfl) ?_; refine oAs ?_; refine oN ?_) | (refine rg 7 ?_; refine oMv ?_; refine oCm ?_; refine oN ?_) | (refine rd 9 ?_; refine dMv ?_; refine dMv ?_; (first | refine dp (xinc rfl) ?_ | refine dp (xadd rfl) ?_); refine dp (xist rfl) ?_; (first | refine dC (ca) rfl (ac .nil) ?_ | refine dC (cb) rfl (ac .nil) ?_ | refine dC (cp) rfl (ac .nil) ?_); refine dMv ?_; refine dMv ?_; (first | refine dp (xinc rfl) ?_ | refine dp (xadd rfl) ?_); refine dp (xist rfl) ?_; (first | refine dC (ca) rfl (ac .nil) ?_ | refine dC (cb) rfl (ac .nil) ?_ | refine dC (cp) rfl (ac .nil) ?_); refine dAs ?_; refine dAs ?_; refine dN ?_; refine oN ?_) | (refine rg 10 ?_; refine oMv ?_; refine sp (po_arith rfl rfl rfl (ar_mul (by first | rfl | (refine wrap_i64 ?_; omega)) rfl)) ?_; refine oMv ?_; (first | refine sp (xinc rfl) ?_ | refine sp (xadd rfl) ?_); (first | refine sp (po_conv_int rfl rfl (tyK rfl) (tyK rfl) h8) ?_ | refine sp (po_conv_int rfl rfl (tyK rfl) (tyK rfl) (by first | (refine wrap_i64 ?_; omega) | rfl)) ?_); refine oAs ?_; refine oN ?_) | (refine rg 11 ?_; refine oMv ?_; (first | refine sp (xinc rfl) ?_ | refine sp (xadd rfl) ?_); refine oAs ?_; refine oN ?_) | (refine rg 13 ?_; refine oMv ?_; refine oMv ?_; refine sp (po_call_clo rfl rfl (ac .nil) (cc)) ?_; refine oAs ?_; refine oN ?_) | (refine rg 15 ?_; refine oMv ?_; (first | refine oC (ca) rfl (ac .nil) ?_ | refine oC (cb) rfl (ac .nil) ?_ | refine oC (cp) rfl (ac .nil) ?_); refine oAs ?_; refine oN ?_) | (refine rg 16 ?_; refine oMv ?_; refine oMv ?_; refine sp (po_buildSlice rfl (tyE rfl) (dc (.nil _)) rfl rfl rfl) ?_; (first | refine sap rfl (tyE rfl) ?_ | refine san rfl (tyE rfl) ?_); refine oAs ?_; refine oN ?_) | (refine rg 5 ?_; refine oMv ?_; (first | refine sp (xinc rfl) ?_ | refine sp (xadd rfl) ?_); refine oAs ?_; refine oN ?_) | refine gc ?_ | refine ct ?_ | refine cf ?_ | refine swp_cond rfl (fun hc => ?_) (fun hc => ?_) | refine rq rfl (rt (rt .nil)) ?_)
          | false =>
            rw [saidL_hex hbad hpl] at h4
            rw [hpl] at cp
            obtain ⟨na, hna⟩ := Int.eq_ofNat_of_zero_le hpc.1
            obtain ⟨nb, hnb⟩ := Int.eq_ofNat_of_zero_le hpc.2
            rw [hna, hnb] at h4
            rw [hna] at ca r1 h8
            rw [hnb] at cb r2 h8
            have hna2 : na < (⟨#[48, 49, 50, 51, 52, 53, 54, 55, 56, 57, 65, 66, 67, 68, 69, 70]⟩ : ByteArray).size := by show na < 16; omega
            have hnb2 : nb < (⟨#[48, 49, 50, 51, 52, 53, 54, 55, 56, 57, 65, 66, 67, 68, 69, 70]⟩ : ByteArray).size := by show nb < 16; omega
            have hxa := hex_at na hna2
            have hxb := hex_at nb hnb2
            have hrow : (out ++ [37, hexU (na : Int), hexU (nb : Int)]).map byteT = out.map byteT ++ [[T.v (.int .u8 37)], [T.v (.int .u8 (((⟨#[48, 49, 50, 51, 52, 53, 54, 55, 56, 57, 65, 66, 67, 68, 69, 70]⟩ : ByteArray)[na].toNat : Nat) : Int))], [T.v (.int .u8 (((⟨#[48, 49, 50, 51, 52, 53, 54, 55, 56, 57, 65, 66, 67, 68, 69, 70]⟩ : ByteArray)[nb].toNat : Nat) : Int))]] := by rw [List.map_append, hxa, hxb]; rfl
            repeat' (first | refine fam_next (out ++ [37, hexU (na : Int), hexU (nb : Int)], k + 3) (by simp only; omega) (weak_sub (.cons rfl (by first | rfl | ((first | rw [hrow] | (dsimp only; rw [hrow]) | exact congrArg (fun n : Int => A.t (T.v (Value.int .i64 n))) (by omega)); try rfl)) rfl (.cons rfl (by first | rfl | ((first | rw [hrow] | (dsimp only; rw [hrow]) | exact congrArg (fun n : Int => A.t (T.v (Value.int .i64 n))) (by omega)); try rfl)) rfl (.cons rfl (by first | rfl | ((first | rw [hrow] | (dsimp only; rw [hrow]) | exact congrArg (fun n : Int => A.t (T.v (Value.int .i64 n))) (by omega)); try rfl)) rfl (.cons rfl (by first | rfl | ((first | rw [hrow] | (dsimp only; rw [hrow]) | exact congrArg (fun n : Int => A.t (T.v (Value.int .i64 n))) (by omega)); try rfl)) rfl (.cons rfl (by first | rfl | ((first | rw [hrow] | (dsimp only; rw [hrow]) | exact congrArg (fun n : Int => A.t (T.v (Value.int .i64 n))) (by omega)); try rfl)) rfl .nil))))) .nil (.cons rfl (by first | rfl | ((first | rw [hrow] | (dsimp only; rw [hrow]) | exact congrArg (fun n : Int => A.t (T.v (Value.int .i64 n))) (by omega)); try rfl)) .nil)) ⟨by simp only; omega, by simp; omega, h6, by rw [h4]; simp⟩ | (refine rg 4 ?_; refine oMv ?_; refine oMv ?_; refine sp (po_len_str rfl rfl (tyR rfl)) ?_; refine oCm ?_; refine oN ?_) | (refine rg 6 ?_; refine oMv ?_; refine oMv ?_; refine sp (xist rfl) ?_; refine oAs ?_; refine oN ?_) | (refine rg 7 ?_; refine oMv ?_; refine oCm ?_; refine oN ?_) | (refine rd 9 ?_; refine dMv ?_; refine dMv ?_; (first | refine dp (xinc rfl) ?_ | refine dp (xadd rfl) ?_); refine dp (xist rfl) ?_; (first | refine dC (ca) rfl (ac .nil) ?_ | refine dC (cb) rfl (ac .nil) ?_ | refine dC (cp) rfl (ac .nil) ?_); refine dMv ?_; refine dMv ?_; (first | refine dp (xinc rfl) ?_ | refine dp (xadd rfl) ?_); refine dp (xist rfl) ?_; (first | refine dC (ca) rfl (ac .nil) ?_ | refine dC (cb) rfl (ac .nil) ?_ | refine dC (cp) rfl (ac .nil) ?_); refine dAs ?_; refine dAs ?_; refine dN ?_; refine oN ?_) | (refine rg 10 ?_; refine oMv ?_; refine sp (po_arith rfl rfl rfl (ar_mul (by first | rfl | (refine wrap_i64 ?_; omega)) rfl)) ?_; refine oMv ?_; (first | refine sp (xinc rfl) ?_ | refine sp (xadd rfl) ?_); (first | refine sp (po_conv_int rfl rfl (tyK rfl) (tyK rfl) h8) ?_ | refine sp (po_conv_int rfl rfl (tyK rfl) (tyK rfl) (by first | (refine wrap_i64 ?_; omega) | rfl)) ?_); refine oAs ?_; refine oN ?_) | (refine rg 11 ?_; refine oMv ?_; (first | refine sp (xinc rfl) ?_ | refine sp (xadd rfl) ?_); refine oAs ?_; refine oN ?_) | (refine rg 13 ?_; refine oMv ?_; refine oMv ?_; refine sp (po_call_clo rfl rfl (ac .nil) (cc)) ?_; refine oAs ?_; refine oN ?_) | (refine rg 15 ?_; refine oMv ?_; (first | refine oC (ca) rfl (ac .nil) ?_ | refine oC (cb) rfl (ac .nil) ?_ | refine oC (cp) rfl (ac .nil) ?_); refine oAs ?_; refine oN ?_) | (refine swp_draw (id := 12) 6 mixed (by kernel_rfl) (by kernel_rfl) ?_; refine dMv ?_; refine dMv ?_; refine dp (xist rfl) ?_; refine dMv ?_; refine dp (xist rfl) ?_; refine dp (po_buildSlice rfl (tyE rfl) (dc (dc (dc (.nil _)))) rfl rfl rfl) ?_; refine dN ?_; (first | refine sap rfl (tyE rfl) ?_ | refine san rfl (tyE rfl) ?_); refine oAs ?_; refine oN ?_) | (refine rg 5 ?_; refine oMv ?_; (first | refine sp (xinc rfl) ?_ | refine sp (xadd rfl) ?_); refine oAs ?_; refine oN ?_) | refine gc ?_ | refine ct ?_ | refine cf ?_ | refine swp_cond rfl (fun hc => ?_) (fun hc => ?_) | refine rq rfl (rt (rt .nil)) ?_)
      · rw [dif_neg h5] at hpc; cases hpc
    · have hp' : s[k] ≠ 37 := fun e => hp (by rw [e]; rfl)
      rw [e1] at h3 h4
      rw [saidL_c hp'] at h4
      have hrow : (out ++ [s[k]]).map byteT = out.map byteT ++ [[T.v (.int .u8 (s[k].toNat : Int))]] := by rw [List.map_append]; rfl
      have h37 : (!decide (((s[k].toNat : Nat) : Int) = 37)) = true := by rw [decide_eq_false (by omega)]; rfl
      repeat' (first | refine fam_next (out ++ [s[k]], k + 1) (by simp only; omega) (weak_sub (.cons rfl (by first | rfl | ((first | rw [hrow] | (dsimp only; rw [hrow]) | exact congrArg (fun n : Int => A.t (T.v (Value.int .i64 n))) (by omega)); try rfl)) rfl (.cons rfl (by first | rfl | ((first | rw [hrow] | (dsimp only; rw [hrow]) | exact congrArg (fun n : Int => A.t (T.v (Value.int .i64 n))) (by omega)); try rfl)) rfl (.cons rfl (by first | rfl | ((first | rw [hrow] | (dsimp only; rw [hrow]) | exact congrArg (fun n : Int => A.t (T.v (Value.int .i64 n))) (by omega)); try rfl)) rfl (.cons rfl (by first | rfl | ((first | rw [hrow] | (dsimp only; rw [hrow]) | exact congrArg (fun n : Int => A.t (T.v (Value.int .i64 n))) (by omega)); try rfl)) rfl (.cons rfl (by first | rfl | ((first | rw [hrow] | (dsimp only; rw [hrow]) | exact congrArg (fun n : Int => A.t (T.v (Value.int .i64 n))) (by omega)); try rfl)) rfl .nil))))) .nil (.cons rfl (by first | rfl | ((first | rw [hrow] | (dsimp only; rw [hrow]) | exact congrArg (fun n : Int => A.t (T.v (Value.int .i64 n))) (by omega)); try rfl)) .nil)) ⟨by simp only; omega, by simp; omega, okL_tail h3, by rw [h4]; simp⟩ | (refine rg 4 ?_; refine oMv ?_; refine oMv ?_; refine sp (po_len_str rfl rfl (tyR rfl)) ?_; refine oCm ?_; refine oN ?_) | (refine rg 6 ?_; refine oMv ?_; refine oMv ?_; refine sp (xist rfl) ?_; refine oAs ?_; refine oN ?_) | (refine rg 7 ?_; refine oMv ?_; refine oCm ?_; refine oN ?_) | (refine rg 8 ?_; refine oMv ?_; refine oMv ?_; refine sp (po_buildSlice rfl (tyE rfl) (dc (.nil _)) rfl rfl rfl) ?_; (first | refine sap rfl (tyE rfl) ?_ | refine san rfl (tyE rfl) ?_); refine oAs ?_; refine oN ?_) | (refine rg 5 ?_; refine oMv ?_; (first | refine sp (xinc rfl) ?_ | refine sp (xadd rfl) ?_); refine oAs ?_; refine oN ?_) | refine gc ?_ | refine ct ?_ | refine cf ?_ | refine swp_cond rfl (fun hc => ?_) (fun hc => ?_) | refine rq rfl (rt (rt .nil)) ?_)
  · obtain rfl : k = s.size := by omega
    have e1 : s.toList.drop s.size = [] := List.drop_eq_nil_of_le (by omega)
    rw [e1] at h4
    rw [h4]
    repeat' (first | refine gc ?_ | refine fam_ret ?_ | refine fam_exit ?_ | refine nog_r ?_ | (refine rg 4 ?_; refine oMv ?_; refine oMv ?_; refine sp (po_len_str rfl rfl (tyR rfl)) ?_; refine oCm ?_; refine oN ?_) | (refine rg 17 ?_; refine oMv ?_; refine sp (po_bytes_str rfl rfl (by first | exact .t _ | exact .own rfl (by first | rfl | assumption | omega | (simp; done) | (simp; omega) | (simp at *; omega)) | exact .nil _ | exact .emp _) byt53 (tyR rfl)) ?_; refine oMv ?_; refine oAs ?_; refine oAs ?_; refine oN ?_) | refine ct ?_ | refine cf ?_ | refine swp_cond rfl (fun hc => ?_) (fun hc => ?_) | refine rq rfl (rt (rt .nil)) ?_)
    show T.tup [T.v (.string (bs (out ++ []))), T.v (.bool true)] = _
    rw [List.append_nil]; rfl
end Go.Proofs.YtkmhaijefpgfiaaDoor.Pth

/- The library's strings.Join, by the kit's contract. -/
namespace Go.Proofs.YtkmhaijefpgfiaaDoor.Jn
set_option linter.unusedVariables false
set_option linter.unusedSimpArgs false
open Go.RowKit Mem Sim
def rho : Shelf.Ren := ⟨fun n => if n = 156 then 34 else if n = 165 then 39 else if n = 166 then 40 else if n = 169 then 41 else if n = 240 then 47 else if n = 241 then 48 else if n = 276 then 53 else if n = 277 then 54 else n, fun n => if n = 0 then 0 else if n = 3 then 3 else if n = 4 then 4 else if n = 5 then 5 else if n = 9 then 9 else if n = 20 then 20 else if n = 31 then 32 else if n = 37 then 53 else if n = 70 then 60 else if n = 72 then 62 else if n = 75 then 65 else if n = 76 then 66 else if n = 80 then 68 else if n = 127 then 71 else if n = 164 then 77 else n, fun n => n⟩
set_option maxRecDepth 100000 in
theorem lays156 : Lays.n156 Tryd.prog rho where
  mixed := mixed
  f156 := by kernel_rfl
  f165 := by kernel_rfl
  f166 := by kernel_rfl
  f169 := by kernel_rfl
  f240 := by kernel_rfl
  f241 := by kernel_rfl
  f276 := by kernel_rfl
  f277 := by kernel_rfl
  t0 := Tryd.underlying0
  a0 := Tryd.isAgg0
  z0 := Tryd.sizeOf0
  v0 := Tryd.zeroValue0
  t3 := Tryd.underlying3
  a3 := Tryd.isAgg3
  z3 := Tryd.sizeOf3
  v3 := Tryd.zeroValue3
  t4 := Tryd.underlying4
  a4 := Tryd.isAgg4
  z4 := Tryd.sizeOf4
  v4 := Tryd.zeroValue4
  t9 := Tryd.underlying9
  a9 := Tryd.isAgg9
  z9 := Tryd.sizeOf9
  v9 := Tryd.zeroValue9
  t20 := Tryd.underlying20
  a20 := Tryd.isAgg20
  z20 := Tryd.sizeOf20
  v20 := Tryd.zeroValue20
  t31 := Tryd.underlying32
  a31 := Tryd.isAgg32
  z31 := Tryd.sizeOf32
  v31 := Tryd.zeroValue32
  t37 := Tryd.underlying53
  a37 := Tryd.isAgg53
  z37 := Tryd.sizeOf53
  v37 := Tryd.zeroValue53
  t70 := Tryd.underlying60
  a70 := Tryd.isAgg60
  z70 := Tryd.sizeOf60
  v70 := Tryd.zeroValue60
  t72 := Tryd.underlying62
  a72 := Tryd.isAgg62
  z72 := Tryd.sizeOf62
  v72 := Tryd.zeroValue62
  t75 := Tryd.underlying65
  a75 := Tryd.isAgg65
  z75 := Tryd.sizeOf65
  v75 := Tryd.zeroValue65
  t76 := Tryd.underlying66
  a76 := Tryd.isAgg66
  z76 := Tryd.sizeOf66
  v76 := Tryd.zeroValue66
  t127 := Tryd.underlying71
  a127 := Tryd.isAgg71
  z127 := Tryd.sizeOf71
  v127 := Tryd.zeroValue71
  t164 := Tryd.underlying77
  a164 := Tryd.isAgg77
  z164 := Tryd.sizeOf77
  v164 := Tryd.zeroValue77
theorem extra156 : Builder.Extra Tryd.prog rho where
  sizeBuilder := by kernel_rfl
  liesBuilder := by kernel_rfl
  t5 := Tryd.underlying5
  a5 := Tryd.isAgg5
  z5 := Tryd.sizeOf5
  v5 := Tryd.zeroValue5
  infoByte := by kernel_rfl
  cellsByte := by kernel_rfl
  sizeByte := by kernel_rfl
  neB5 := by decide
def strT (s : List UInt8) : List T := [.v (.string (bs s))]
theorem bs_data (l : List UInt8) : (bs l).data.toList = l := by unfold bs; rfl
theorem join_ (l : List (List UInt8)) (sep : ByteArray) (hn : l.length ≤ 1000000) (h : (sep.toList.intercalate l).length ≤ 100000000) :
    PCalls Tryd.prog 34 [.sl 1 (l.map strT), .v (.string sep)] (.v (.string (bs (sep.toList.intercalate l)))) where
  ent := fun vals w => by simp [callFunc, Tryd.func34]; rfl
  run := fun m w vals hs hl hv => by
    obtain ⟨v0, v1, rfl⟩ : ∃ v0 v1, vals = #[v0, v1] := by
      match vals, hl with
      | ⟨[a, b]⟩, _ => exact ⟨a, b, rfl⟩
    have h0 := hv 0 _ v0 rfl rfl
    have h1 := tr_v (hv 1 _ v1 rfl rfl)
    subst h1
    have ed : sep.data.toList = sep.toList := by rw [ByteArray.toList_eq]
    cases h0 with
    | sl _ _ A b off cap u hc hm hA hr hu ht =>
      cases l with
      | nil =>
        refine (Any.strings_Join_none lays156 extra156 A cap sep w).mono ?_
        rintro e w' ⟨rfl, rfl⟩
        exact ⟨_, m, rfl, Lo.refl _, Ext.refl _ _, hs, .v _⟩
      | cons x l =>
        obtain rfl := hA (by simp)
        have hcl : ∀ (j : Nat) y, ((x :: l).map bs)[j]? = some y → w.cell? ⟨b, off + j, none⟩ = some (.string y) := fun j y hj => by
          rw [List.getElem?_map] at hj
          obtain ⟨z, hz, rfl⟩ := Option.map_eq_some_iff.1 hj
          have hk : ((x :: l).map strT)[j]? = some (strT z) := by rw [List.getElem?_map, hz]; rfl
          have h2 := hs _ _ _ (hu j 0 _ _ hk rfl).1
          rw [tr_v (ht j 0 _ _ hk rfl)] at h2
          simpa using h2
        have hb : b < w.heap.size := World.block_lt_of_cell? w _ (hcl 0 _ rfl)
        have em : ((x :: l).map bs).map (·.data.toList) = x :: l := by
          rw [List.map_map]
          conv => rhs; rw [← List.map_id (x :: l)]
          exact List.map_congr_left fun a _ => bs_data a
        have hcap : ((x :: l).map bs).length ≤ cap := by rw [List.length_map]; rw [List.length_map] at hc; exact hc
        have hle : (Lib.join (((x :: l).map bs).map (·.data.toList)) sep.data.toList).length ≤ 140737488355328 := by rw [em, ed]; unfold Lib.join; omega
        have key := Any.strings_Join lays156 extra156 b off cap ((x :: l).map bs) sep w hcl hb (by rw [List.length_map]; omega) hcap hle
        rw [em, ed] at key
        have el : ((x :: l).map strT).length = ((x :: l).map bs).length := by rw [List.length_map, List.length_map]
        rw [el]
        refine Calls.mono key ?_
        rintro e w' ⟨rfl, hb'⟩
        have hlo : Lo w w' := hb'
        exact ⟨_, m, rfl, hlo, Ext.refl _ _, hs.lo hlo, .v _⟩
end Go.Proofs.YtkmhaijefpgfiaaDoor.Jn

/- Targets' paths: plain lemmas. -/
namespace Go.Proofs.YtkmhaijefpgfiaaDoor.Pth
set_option linter.unusedVariables false
set_option linter.unusedSimpArgs false
open Mem
theorem okL_cons (c : UInt8) (l : L8) : okL (c :: l) = (!badC c && (!decide (c = 37) || pctB l) && okL l) := rfl
theorem okL_drop {l : L8} (h : okL l = true) : ∀ n, okL (l.drop n) = true := by
  intro n
  induction n generalizing l with
  | zero => simpa using h
  | succ n ih =>
    cases l with
    | nil => rfl
    | cons c l =>
      rw [okL_cons, Bool.and_eq_true] at h
      exact ih h.2
theorem dig_ne {a : UInt8} (h : 0 ≤ dig a) : a ≠ 63 := by
  rintro rfl
  exact absurd h (by decide)
theorem pct_take {l : L8} (h : pctB l = true) : pctB (l.takeWhile (· != 63)) = true := by
  match l, h with
  | a :: b :: l, h =>
    have h' : (decide (0 ≤ dig a) && decide (0 ≤ dig b)) = true := h
    rw [Bool.and_eq_true, decide_eq_true_eq, decide_eq_true_eq] at h'
    have ha : (a != 63) = true := by simpa using dig_ne h'.1
    have hb : (b != 63) = true := by simpa using dig_ne h'.2
    rw [List.takeWhile_cons, if_pos ha, List.takeWhile_cons, if_pos hb]
    exact h
theorem okL_take {l : L8} (h : okL l = true) : okL (l.takeWhile (· != 63)) = true := by
  induction l with
  | nil => rfl
  | cons c l ih =>
    rw [okL_cons, Bool.and_eq_true, Bool.and_eq_true] at h
    rw [List.takeWhile_cons]
    split
    · rw [okL_cons, Bool.and_eq_true, Bool.and_eq_true]
      refine ⟨⟨h.1.1, ?_⟩, ih h.2⟩
      have := h.1.2
      rw [Bool.or_eq_true] at this ⊢
      exact this.imp id pct_take
    · rfl
theorem okL_dropW {l : L8} (p : UInt8 → Bool) (h : okL l = true) : okL (l.dropWhile p) = true := by
  induction l with
  | nil => rfl
  | cons c l ih =>
    rw [List.dropWhile_cons]
    split
    · rw [okL_cons, Bool.and_eq_true] at h
      exact ih h.2
    · exact h
theorem cut_ok {l : L8} (h : okL l = true) : okL (cutL l).1 = true ∧ okL (cutL l).2 = true := ⟨okL_take h, okL_drop (okL_dropW _ h) 1⟩
theorem saidL_cons {bad : UInt8 → Bool} {c : UInt8} {l : L8} (h : c ≠ 37) : saidL bad (c :: l) = (c :: (saidL bad l).1, (saidL bad l).2) := by
  match l with
  | a :: b :: l' => rw [saidL, if_neg h]
  | [] => simp [saidL, h]
  | [x] => rw [saidL, if_neg h]; intro a b l' e; cases e
theorem saidL_pct {bad : UInt8 → Bool} {a b : UInt8} {l : L8} : saidL bad (37 :: a :: b :: l) = if bad (num2 a b) then ([], false) else if plainB (num2 a b) then (num2 a b :: (saidL bad l).1, (saidL bad l).2) else (37 :: hexU (dig a) :: hexU (dig b) :: (saidL bad l).1, (saidL bad l).2) := by
  rw [saidL, if_pos rfl]
theorem saidL_len (bad : UInt8 → Bool) : ∀ l : L8, (saidL bad l).1.length ≤ l.length
  | [] => by simp [saidL]
  | [c] => by
    by_cases h : c = 37
    · subst h; simp [saidL]
    · rw [saidL_cons h]; simp [saidL]
  | [c, a] => by
    by_cases h : c = 37
    · subst h; simp [saidL]
    · rw [saidL_cons h]
      have := saidL_len bad [a]
      simpa using this
  | c :: a :: b :: l => by
    by_cases h : c = 37
    · subst h
      rw [saidL_pct]
      have := saidL_len bad l
      split
      · simp
      · split <;> simp <;> omega
    · rw [saidL_cons h]
      have := saidL_len bad (a :: b :: l)
      simpa using this
def tot (l : List L8) : Nat := (l.map (·.length)).sum + l.length
theorem tot_cons (s : L8) (l : List L8) : tot (s :: l) = s.length + 1 + tot l := by unfold tot; simp; omega
theorem tot_snoc (l : List L8) (s : L8) : tot (l ++ [s]) = tot l + s.length + 1 := by unfold tot; simp; omega
theorem tot_splL (l : L8) : tot (splL l) = l.length + 1 := by
  induction l with
  | nil => rfl
  | cons c l ih =>
    rw [splL_cons]
    split
    · rw [tot_cons, ih]; simp; omega
    · have hn := splL_ne l
      match hq : splL l, hn with
      | h :: t, _ => rw [hq, tot_cons] at ih; rw [tot_cons]; simp; omega
theorem tot_dropLast (l : List L8) : tot l.dropLast ≤ tot l := by
  rcases List.eq_nil_or_concat l with rfl | ⟨l', s, rfl⟩
  · simp
  · simp [tot_snoc]; omega
theorem tot_keep {l l' : List L8} {s : L8} (h : keep1 l s = some l') : tot l' ≤ tot l + s.length + 1 := by
  unfold keep1 at h
  split at h
  · split at h
    · cases h
    · injection h with h; subst h; have := tot_dropLast l; omega
  · split at h
    · injection h with h; subst h; omega
    · injection h with h; subst h; rw [tot_snoc]; omega
theorem tot_keptF : ∀ (l : List L8) (left : List L8) (dir : Bool) (r : List L8 × Bool), keptF left dir l = some r → tot r.1 ≤ tot left + tot l
  | [], left, dir, r, h => by injection h with h; subst h; exact Nat.le_add_right _ _
  | s :: l, left, dir, r, h => by
    unfold keptF at h
    cases hk : keep1 left s with
    | none => rw [hk] at h; cases h
    | some left' =>
      rw [hk] at h
      have := tot_keptF l left' _ r h
      have h2 := tot_keep hk
      rw [tot_cons]; omega
theorem tot_keptL {s : L8} (hs : 1 ≤ s.length) {r : List L8 × Bool} (h : keptL s = some r) : tot r.1 ≤ s.length := by
  unfold keptL at h
  obtain ⟨x, hx, rfl⟩ := Option.map_eq_some_iff.1 h
  have := tot_keptF _ _ _ _ hx
  rw [tot_splL, List.length_drop] at this
  simp only [tot, List.map_nil, List.sum_nil, List.length_nil] at this ⊢
  omega
theorem inter_len : ∀ l : List L8, (([47] : L8).intercalate l).length + 1 ≤ tot l + 1
  | [] => by simp [List.intercalate]
  | [x] => by simp [List.intercalate, tot]
  | x :: y :: l => by
    have := inter_len (y :: l)
    rw [tot_cons]
    simp only [List.intercalate, List.intersperse, List.flatten_cons, List.length_append, List.length_cons, List.length_nil] at this ⊢
    omega
theorem joinL_len (dir : Bool) (l : List L8) : (joinL dir l).length ≤ tot l + 2 := by
  have := inter_len l
  unfold joinL
  rw [List.length_append, List.length_cons]
  split <;> simp <;> omega
theorem head_cut {l : L8} (h : l.head? = some 47) : (cutL l).1.head? = some 47 ∧ 1 ≤ (cutL l).1.length := by
  match l, h with
  | c :: l, h =>
    have hc : c = 47 := by simpa using h
    subst hc
    unfold cutL
    dsimp only
    rw [List.takeWhile_cons, if_pos (by decide)]
    exact ⟨rfl, by simp⟩
theorem said_head {bad : UInt8 → Bool} {l : L8} (h : l.head? = some 47) : (saidL bad l).1.head? = some 47 ∧ 1 ≤ (saidL bad l).1.length := by
  match l, h with
  | c :: l, h =>
    have hc : c = 47 := by simpa using h
    subst hc
    rw [saidL_cons (by decide)]
    exact ⟨rfl, by simp⟩
theorem cut_len (l : L8) : (cutL l).1.length ≤ l.length ∧ (cutL l).2.length ≤ l.length := by
  unfold cutL
  dsimp only
  refine ⟨(List.takeWhile_sublist _).length_le, ?_⟩
  rw [List.length_drop]
  have := (List.dropWhile_sublist (· != 63) (l := l)).length_le
  omega
theorem may_parts {l : L8} (h : mayL l = true) : l.length ≤ 512 ∧ l.head? = some 47 ∧ okL l = true := by
  unfold mayL at h
  rw [Bool.and_eq_true, Bool.and_eq_true, decide_eq_true_eq, decide_eq_true_eq] at h
  exact ⟨h.1.1, h.1.2, h.2⟩
/-- cutting by index -/
theorem cut_idx (l : L8) : cutL l = (l.take (l.findIdx (· == 63)), l.drop (l.findIdx (· == 63) + 1)) := by
  unfold cutL
  induction l with
  | nil => rfl
  | cons c l ih =>
    rw [List.takeWhile_cons, List.dropWhile_cons, List.findIdx_cons]
    by_cases h : c = 63
    · subst h; simp
    · have h1 : (c != 63) = true := by simpa using h
      have h2 : (c == 63) = false := by simpa using h
      rw [if_pos h1, if_pos h1, h2]
      injection ih with i1 i2
      simp only [cond_false]
      rw [i1, i2]; simp
end Go.Proofs.YtkmhaijefpgfiaaDoor.Pth
