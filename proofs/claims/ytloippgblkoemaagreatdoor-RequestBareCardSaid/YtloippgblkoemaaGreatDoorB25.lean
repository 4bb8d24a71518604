/- Merged by bundles.py: SimPath2, SimPath5, SimJoin8, SimPath6. -/
import Derived.Test.YtloippgblkoemaaGreatDoorB21
import Derived.Test.YtloippgblkoemaaGreatDoorB13
import Derived.Test.YtloippgblkoemaaGreatDoorB12
import Derived.Shelf.Strings.OnBuilder
import Derived.Test.YtloippgblkoemaaGreatDoorB23
import Derived.Test.YtloippgblkoemaaGreatDoorB0
/- Targets: what may be; what is said by %: walks. -/
namespace Go.Proofs.YtloippgblkoemaaGreatDoor.Pth
set_option linter.unusedVariables false
set_option linter.unusedSimpArgs false
open Go.RowKit Mem Sim Opn Str
theorem tl_drop (s : ByteArray) {k : Nat} (h : k < s.size) : s.toList.drop k = s[k] :: s.toList.drop (k + 1) := by
  have hl : k < s.toList.length := by rw [toList_len]; exact h
  rw [List.drop_eq_getElem_cons hl]
  have h1 := toList_get s k h
  rw [List.getElem?_eq_getElem hl] at h1
  injection h1 with h1; rw [h1]
theorem head_at (s : ByteArray) (h : 0 < s.size) : s.toList.head? = some s[0] := by
  have := tl_drop s h
  rw [List.drop_zero] at this
  rw [this]; rfl
theorem pct_at (s : ByteArray) {k : Nat} : pctB (s.toList.drop (k + 1)) = (if h : k + 2 < s.size then decide (0 ≤ dig s[k + 1]) && decide (0 ≤ dig s[k + 2]) else false) := by
  have hl := toList_len s
  by_cases h : k + 2 < s.size
  · rw [dif_pos h, tl_drop s (by omega : k + 1 < s.size), tl_drop s h]; rfl
  · rw [dif_neg h]
    have : (s.toList.drop (k + 1)).length ≤ 1 := by rw [List.length_drop]; omega
    match hq : s.toList.drop (k + 1), this with
    | [], _ => rfl
    | [a], _ => rfl
set_option maxRecDepth 100000 in
set_option maxHeartbeats 1000000 in
theorem may_ (s : ByteArray) (hs : s.size ≤ 100000) : PCalls Tryz.prog 90 [.v (.string s)] (.v (.bool (mayL s.toList))) := by
  have hsz : s.toList.length = s.size := toList_len s
  refine pcalls_of Tryz.func90 rfl rfl Tryz.ntmps90 rfl ?_
  have hng : (s.size < 1 ∨ 512 < s.size ∨ s.toList.head? ≠ some 47) → mayL s.toList = false := by
    intro h
    unfold mayL
    rcases h with h | h | h
    · have : s.toList = [] := List.eq_nil_of_length_eq_zero (by omega)
      rw [this]; rfl
    · rw [decide_eq_false (by omega)]; rfl
    · rw [decide_eq_false h]; simp
  by_cases h1 : s.size < 1
  · rw [hng (.inl h1)]
    repeat' (first | refine rg 0 (aq0 ?_) | (refine rg 1 ?_; refine oMv ?_; refine sp (po_len_str rfl rfl (tyR rfl)) ?_; refine oCm ?_; refine oMv ?_; (first | refine oMv ?_ | refine oK ?_) <;> (first | refine sp (po_len_str rfl rfl (tyR rfl)) ?_ | refine oK ?_) <;> (first | refine oCm ?_ | refine oK ?_) <;> refine oPt ?_ <;> refine oMv ?_ <;> (first | refine oMv ?_ | refine oK ?_) <;> (first | refine sp (po_index_str (k := 0) rfl rfl rfl (tyR rfl) (by rfl) (by first | assumption | omega)) ?_ | refine oK ?_) <;> (first | refine oCm ?_ | refine oK ?_) <;> refine oPt ?_ <;> refine oN ?_) | refine rg 2 (aq0 ?_) | refine gc ?_ | refine ct ?_ | refine cf ?_ | refine sc ?_ ?_ <;> intro hc | refine rq rfl (rt .nil) ?_)
    rfl
  by_cases h2 : 512 < s.size
  · rw [hng (.inr (.inl h2))]
    repeat' (first | refine rg 0 (aq0 ?_) | (refine rg 1 ?_; refine oMv ?_; refine sp (po_len_str rfl rfl (tyR rfl)) ?_; refine oCm ?_; refine oMv ?_; refine oMv ?_ <;> refine sp (po_len_str rfl rfl (tyR rfl)) ?_ <;> refine oCm ?_ <;> (first | refine oPt ?_ | refine oPf ?_) <;> refine oMv ?_ <;> (first | refine oMv ?_ | refine oK ?_) <;> (first | refine sp (po_index_str (k := 0) rfl rfl rfl (tyR rfl) (by rfl) (by first | assumption | omega)) ?_ | refine oK ?_) <;> (first | refine oCm ?_ | refine oK ?_) <;> refine oPt ?_ <;> refine oN ?_) | refine rg 2 (aq0 ?_) | refine gc ?_ | refine ct ?_ | refine cf ?_ | refine sc ?_ ?_ <;> intro hc | refine rq rfl (rt .nil) ?_)
    rfl
  have h0 : 0 < s.size := by omega
  have hhd := head_at s h0
  by_cases h3 : s[0].toNat = 47
  · have hm : mayL s.toList = okL s.toList := by
      unfold mayL
      rw [decide_eq_true (by omega : s.toList.length ≤ 512), hhd, decide_eq_true (by rw [show s[0] = 47 from UInt8.toNat_inj.1 h3])]; rfl
    rw [hm]
    have h3' : (!decide (((s[0].toNat : Nat) : Int) = 47)) = false := by rw [h3]; rfl
    repeat' (first | refine rg 0 (aq0 ?_) | refine rg 1 (aq94 ?_) | refine rg 3 (aq0 ?_) | refine gc ?_ | refine ct ?_ | refine cf ?_ | refine sc ?_ ?_ <;> intro hc | refine rq rfl (rt .nil) ?_)
    refine swp_for (fun k => ⟨[(0, .t (.v (.string s))), (3, .t (.v (.int .i64 (k : Int))))], [], []⟩) (fun k => okL s.toList = okL (s.toList.drop k)) s.size (weak_sub (.cons rfl rfl rfl (.cons rfl rfl rfl .nil)) .nil .nil) rfl ?_
    intro k hk hI
    by_cases hlt : k < s.size
    · have e1 := tl_drop s hlt
      have e2 : okL (s.toList.drop k) = (!badC s[k] && (!decide (s[k] = 37) || pctB (s.toList.drop (k + 1))) && okL (s.toList.drop (k + 1))) := by rw [e1]; rfl
      rw [e2, pct_at] at hI
      have hc := indexByte_ (bs [34, 35, 60, 62, 92, 94, 96, 123, 124, 125]) s[k]
      have hi : decide (0 ≤ Lib.indexByte (bs [34, 35, 60, 62, 92, 94, 96, 123, 124, 125]).data.toList s[k]) = ([34, 35, 60, 62, 92, 94, 96, 123, 124, 125] : List UInt8).any (· == s[k]) := idx_any _ _
      by_cases hb : badC s[k] = true
      · rw [hb] at hI
        rw [show okL s.toList = false from hI]
        unfold badC at hb
        rw [← hi] at hb
        generalize Lib.indexByte (bs [34, 35, 60, 62, 92, 94, 96, 123, 124, 125]).data.toList s[k] = z at *
        have hb' : s[k].toNat < 33 ∨ 126 < s[k].toNat ∨ 0 ≤ z := by simpa [or_assoc] using hb
        by_cases hz1 : s[k].toNat < 33
        · repeat' (first | refine rg 4 (aq22 ?_) | refine rg 6 (aq23 ?_) | (refine rg 7 ?_; refine oMv ?_; refine oCm ?_; refine oMv ?_; (first | refine oMv ?_ | refine oK ?_) <;> (first | refine oCm ?_ | refine oK ?_) <;> refine oPt ?_ <;> refine oMv ?_ <;> (first | refine oMv ?_ | refine oK ?_) <;> refine oK ?_ <;> (first | refine oCm ?_ | refine oK ?_) <;> refine oPt ?_ <;> refine oN ?_) | refine rg 8 (aq0 ?_) | refine gc ?_ | refine ct ?_ | refine cf ?_ | refine sc ?_ ?_ <;> intro hc | refine rq rfl (rt .nil) ?_)
          rfl
        by_cases hz2 : 126 < s[k].toNat
        · repeat' (first | refine rg 4 (aq22 ?_) | refine rg 6 (aq23 ?_) | (refine rg 7 ?_; refine oMv ?_; refine oCm ?_; refine oMv ?_; refine oMv ?_ <;> refine oCm ?_ <;> (first | refine oPt ?_ | refine oPf ?_) <;> refine oMv ?_ <;> (first | refine oMv ?_ | refine oK ?_) <;> refine oK ?_ <;> (first | refine oCm ?_ | refine oK ?_) <;> refine oPt ?_ <;> refine oN ?_) | refine rg 8 (aq0 ?_) | refine gc ?_ | refine ct ?_ | refine cf ?_ | refine sc ?_ ?_ <;> intro hc | refine rq rfl (rt .nil) ?_)
          rfl
        · have hz3 : 0 ≤ z := by omega
          repeat' (first | refine rg 4 (aq22 ?_) | refine rg 6 (aq23 ?_) | (refine rg 7 (aq95 ?_) <;> refine oC (hc) rfl (ac (ac .nil)) ?_ <;> refine aq96 ?_) | refine rg 8 (aq0 ?_) | refine gc ?_ | refine ct ?_ | refine cf ?_ | refine sc ?_ ?_ <;> intro hc | refine rq rfl (rt .nil) ?_)
          rfl
      · have hb' : ¬ (s[k].toNat < 33) ∧ ¬ (126 < s[k].toNat) ∧ ¬ (0 ≤ Lib.indexByte (bs [34, 35, 60, 62, 92, 94, 96, 123, 124, 125]).data.toList s[k]) := by
          unfold badC at hb
          rw [← hi] at hb
          simpa [not_or, and_assoc] using hb
        have hbf : badC s[k] = false := by simpa using hb
        rw [hbf] at hI
        generalize Lib.indexByte (bs [34, 35, 60, 62, 92, 94, 96, 123, 124, 125]).data.toList s[k] = z at *
        obtain ⟨hz1, hz2, hz3⟩ := hb'
        by_cases hp : s[k].toNat = 37
        · have hp' : s[k] = 37 := UInt8.toNat_inj.1 hp
          rw [decide_eq_true hp'] at hI
          by_cases h5 : k + 2 < s.size
          · rw [dif_pos h5] at hI
            have ca := digit_ s[k + 1]
            have cb := digit_ s[k + 2]
            generalize dig s[k + 1] = da at *
            generalize dig s[k + 2] = db at *
            by_cases h6 : 0 ≤ da
            · by_cases h7 : 0 ≤ db
              · rw [decide_eq_true h6, decide_eq_true h7] at hI
                repeat' (first | refine for_next hlt (weak_sub (.cons rfl rfl rfl (.cons rfl rfl rfl .nil)) .nil .nil) (by simpa using hI) | refine rg 4 (aq22 ?_) | refine rg 6 (aq23 ?_) | (refine rg 7 (aq95 ?_) <;> refine oC (hc) rfl (ac (ac .nil)) ?_ <;> refine aq96 ?_) | (refine rg 9 (aq97 ?_) <;> (first | refine oC (hc) rfl (ac .nil) ?_ | refine oC (ca) rfl (ac .nil) ?_) <;> refine aq98 ?_ <;> (first | refine oC (hc) rfl (ac .nil) ?_ | refine oC (ca) rfl (ac .nil) ?_ | refine oC (cb) rfl (ac .nil) ?_) <;> refine oCm ?_ <;> (first | refine oPt ?_ | refine oPf ?_) <;> refine oPt ?_ <;> refine oN ?_) | refine rg 5 (aq3 ?_) | refine gc ?_ | refine ct ?_ | refine cf ?_)
              · rw [decide_eq_true h6, decide_eq_false h7] at hI
                rw [show okL s.toList = false from by simpa using hI]
                repeat' (first | refine rg 4 (aq22 ?_) | refine rg 6 (aq23 ?_) | (refine rg 7 (aq95 ?_) <;> refine oC (hc) rfl (ac (ac .nil)) ?_ <;> refine aq96 ?_) | (refine rg 9 (aq97 ?_) <;> (first | refine oC (hc) rfl (ac .nil) ?_ | refine oC (ca) rfl (ac .nil) ?_) <;> refine aq98 ?_ <;> (first | refine oC (hc) rfl (ac .nil) ?_ | refine oC (ca) rfl (ac .nil) ?_ | refine oC (cb) rfl (ac .nil) ?_) <;> refine oCm ?_ <;> (first | refine oPt ?_ | refine oPf ?_) <;> refine oPt ?_ <;> refine oN ?_) | refine rg 10 (aq0 ?_) | refine gc ?_ | refine ct ?_ | refine cf ?_ | refine sc ?_ ?_ <;> intro hc | refine rq rfl (rt .nil) ?_)
                rfl
            · rw [decide_eq_false h6] at hI
              rw [show okL s.toList = false from by simpa using hI]
              repeat' (first | refine rg 4 (aq22 ?_) | refine rg 6 (aq23 ?_) | (refine rg 7 (aq95 ?_) <;> refine oC (hc) rfl (ac (ac .nil)) ?_ <;> refine aq96 ?_) | (refine rg 9 (aq97 ?_) <;> (first | refine oC (hc) rfl (ac .nil) ?_ | refine oC (ca) rfl (ac .nil) ?_) <;> refine oCm ?_ <;> (first | refine oPt ?_ | refine oPf ?_) <;> refine oMv ?_ <;> (first | refine oMv ?_ | refine oK ?_) <;> (first | refine oMv ?_ | refine oK ?_) <;> (first | refine sp (xinc rfl) ?_ | refine sp (xadd rfl) ?_ | refine oK ?_) <;> (first | refine sp (xist rfl) ?_ | refine oK ?_) <;> (first | refine oC (hc) rfl (ac .nil) ?_ | refine oC (ca) rfl (ac .nil) ?_ | refine oK ?_) <;> (first | refine oCm ?_ | refine oK ?_) <;> refine oPt ?_ <;> refine oPt ?_ <;> refine oN ?_) | refine rg 10 (aq0 ?_) | refine gc ?_ | refine ct ?_ | refine cf ?_ | refine sc ?_ ?_ <;> intro hc | refine rq rfl (rt .nil) ?_)
              rfl
          · rw [dif_neg h5] at hI
            rw [show okL s.toList = false from by simpa using hI]
            repeat' (first | refine rg 4 (aq22 ?_) | refine rg 6 (aq23 ?_) | (refine rg 7 (aq95 ?_) <;> refine oC (hc) rfl (ac (ac .nil)) ?_ <;> refine aq96 ?_) | (refine rg 9 ?_; refine oMv ?_; refine oCm ?_; refine oMv ?_; refine oMv ?_ <;> (first | refine sp (xinc rfl) ?_ | refine sp (xadd rfl) ?_) <;> refine oMv ?_ <;> refine sp (po_len_str rfl rfl (tyR rfl)) ?_ <;> refine oCm ?_ <;> refine oMv ?_ <;> (first | refine oMv ?_ | refine oK ?_) <;> (first | refine oMv ?_ | refine oK ?_) <;> (first | refine sp (xinc rfl) ?_ | refine sp (xadd rfl) ?_ | refine oK ?_) <;> (first | refine sp (xist rfl) ?_ | refine oK ?_) <;> (first | refine oC (hc) rfl (ac .nil) ?_ | refine oK ?_) <;> (first | refine oCm ?_ | refine oK ?_) <;> refine oPt ?_ <;> refine oMv ?_ <;> (first | refine oMv ?_ | refine oK ?_) <;> (first | refine oMv ?_ | refine oK ?_) <;> (first | refine sp (xinc rfl) ?_ | refine sp (xadd rfl) ?_ | refine oK ?_) <;> (first | refine sp (xist rfl) ?_ | refine oK ?_) <;> (first | refine oC (hc) rfl (ac .nil) ?_ | refine oK ?_) <;> (first | refine oCm ?_ | refine oK ?_) <;> refine oPt ?_ <;> refine oPt ?_ <;> refine oN ?_) | refine rg 10 (aq0 ?_) | refine gc ?_ | refine ct ?_ | refine cf ?_ | refine sc ?_ ?_ <;> intro hc | refine rq rfl (rt .nil) ?_)
            rfl
        · have hp' : s[k] ≠ 37 := fun e => hp (by rw [e]; rfl)
          rw [decide_eq_false hp'] at hI
          repeat' (first | refine for_next hlt (weak_sub (.cons rfl rfl rfl (.cons rfl rfl rfl .nil)) .nil .nil) (by simpa using hI) | refine rg 4 (aq22 ?_) | refine rg 6 (aq23 ?_) | (refine rg 7 (aq95 ?_) <;> refine oC (hc) rfl (ac (ac .nil)) ?_ <;> refine aq96 ?_) | (refine rg 9 ?_; refine oMv ?_; refine oCm ?_; refine oMv ?_; (first | refine oMv ?_ | refine oK ?_) <;> (first | refine sp (xinc rfl) ?_ | refine sp (xadd rfl) ?_ | refine oK ?_) <;> (first | refine oMv ?_ | refine oK ?_) <;> (first | refine sp (po_len_str rfl rfl (tyR rfl)) ?_ | refine oK ?_) <;> (first | refine oCm ?_ | refine oK ?_) <;> (first | refine oMv ?_ | refine oK ?_) <;> (first | refine oMv ?_ | refine oK ?_) <;> (first | refine oMv ?_ | refine oK ?_) <;> (first | refine sp (xinc rfl) ?_ | refine sp (xadd rfl) ?_ | refine oK ?_) <;> (first | refine sp (xist rfl) ?_ | refine oK ?_) <;> (first | refine oC (hc) rfl (ac .nil) ?_ | refine oK ?_) <;> (first | refine oCm ?_ | refine oK ?_) <;> (first | refine oPt ?_ | refine oPf ?_ | refine oK ?_) <;> (first | refine oMv ?_ | refine oK ?_) <;> (first | refine oMv ?_ | refine oK ?_) <;> (first | refine oMv ?_ | refine oK ?_) <;> (first | refine sp (xinc rfl) ?_ | refine sp (xadd rfl) ?_ | refine oK ?_) <;> (first | refine sp (xist rfl) ?_ | refine oK ?_) <;> (first | refine oC (hc) rfl (ac .nil) ?_ | refine oK ?_) <;> (first | refine oCm ?_ | refine oK ?_) <;> (first | refine oPt ?_ | refine oPf ?_ | refine oK ?_) <;> (first | refine oPt ?_ | refine oPf ?_) <;> refine oN ?_) | refine rg 5 (aq3 ?_) | refine gc ?_ | refine ct ?_ | refine cf ?_)
    · obtain rfl : k = s.size := by omega
      have e1 : s.toList.drop s.size = [] := List.drop_eq_nil_of_le (by omega)
      rw [e1] at hI
      rw [hI]
      repeat' (first | refine rg 4 (aq22 ?_) | refine rg 11 (aq0 ?_) | refine gc ?_ | refine ct ?_ | refine cf ?_ | refine sc ?_ ?_ <;> intro hc | refine rq rfl (rt .nil) ?_)
      rfl
  · rw [hng (.inr (.inr (by rw [hhd]; intro e; injection e with e; rw [e] at h3; exact h3 rfl)))]
    have h3' : (!decide (((s[0].toNat : Nat) : Int) = 47)) = true := by rw [decide_eq_false (by omega)]; rfl
    repeat' (first | refine rg 0 (aq0 ?_) | refine rg 1 (aq94 ?_) | refine rg 2 (aq0 ?_) | refine gc ?_ | refine ct ?_ | refine cf ?_ | refine sc ?_ ?_ <;> intro hc | refine rq rfl (rt .nil) ?_)
    rfl
end Go.Proofs.YtloippgblkoemaaGreatDoor.Pth

/- Targets: what is said by %: walk. -/
namespace Go.Proofs.YtloippgblkoemaaGreatDoor.Pth
set_option linter.unusedVariables false
set_option linter.unusedSimpArgs false
open Go.RowKit Mem Sim Opn Str Hd
theorem okL_tail {c : UInt8} {l : L8} (h : okL (c :: l) = true) : okL l = true := by
  have : okL (c :: l) = (!badC c && (!decide (c = 37) || pctB l) && okL l) := rfl
  rw [this, Bool.and_eq_true] at h; exact h.2
theorem okL_pct {l : L8} (h : okL (37 :: l) = true) : pctB l = true := by
  have : okL (37 :: l) = (!badC 37 && (!decide ((37 : UInt8) = 37) || pctB l) && okL l) := rfl
  rw [this, Bool.and_eq_true, Bool.and_eq_true] at h
  simpa using h.1.2
theorem num2_nat {a b : UInt8} (ha : 0 ≤ dig a) (hb : 0 ≤ dig b) : ((num2 a b).toNat : Int) = 16 * dig a + dig b := by
  have h1 := dig_rng a
  have h2 := dig_rng b
  unfold num2
  generalize dig a = x at *
  generalize dig b = y at *
  obtain ⟨n, hn⟩ := Int.eq_ofNat_of_zero_le (by omega : 0 ≤ 16 * x + y)
  rw [hn]
  have : n < 256 := by omega
  simp [Nat.mod_eq_of_lt this]
theorem hex_at : ∀ n : Nat, (h : n < 16) → ((⟨#[48, 49, 50, 51, 52, 53, 54, 55, 56, 57, 65, 66, 67, 68, 69, 70]⟩ : ByteArray)[n]'h).toNat = (hexU (n : Int)).toNat := by
  intro n h
  have key : ∀ m : Fin 16, ((⟨#[48, 49, 50, 51, 52, 53, 54, 55, 56, 57, 65, 66, 67, 68, 69, 70]⟩ : ByteArray)[m.1]'m.2).toNat = (hexU (m.1 : Int)).toNat := by decide
  exact key ⟨n, h⟩
theorem saidL_c {bad : UInt8 → Bool} {c : UInt8} {l : L8} (h : c ≠ 37) : saidL bad (c :: l) = (c :: (saidL bad l).1, (saidL bad l).2) := by
  match l with
  | a :: b :: l' => rw [saidL, if_neg h]
  | [] => simp [saidL, h]
  | [x] => rw [saidL, if_neg h]; intro a b l' e; cases e
theorem saidL_bad {bad : UInt8 → Bool} {a b : UInt8} {l : L8} (h : bad (num2 a b) = true) : saidL bad (37 :: a :: b :: l) = ([], false) := by
  rw [saidL, if_pos rfl]; simp [h]
theorem saidL_plain {bad : UInt8 → Bool} {a b : UInt8} {l : L8} (h : bad (num2 a b) = false) (hp : plainB (num2 a b) = true) : saidL bad (37 :: a :: b :: l) = (num2 a b :: (saidL bad l).1, (saidL bad l).2) := by
  rw [saidL, if_pos rfl]; simp [h, hp]
theorem saidL_hex {bad : UInt8 → Bool} {a b : UInt8} {l : L8} (h : bad (num2 a b) = false) (hp : plainB (num2 a b) = false) : saidL bad (37 :: a :: b :: l) = (37 :: hexU (dig a) :: hexU (dig b) :: (saidL bad l).1, (saidL bad l).2) := by
  rw [saidL, if_pos rfl]; simp [h, hp]
def SSd (s : ByteArray) (fb : FuncId) (x : L8 × Nat) : St := ⟨[(0, .t (.v (.string s))), (1, .t (.clo fb [])), (6, .own 106 (x.1.map byteT).length), (7, .t (.v (.bool true))), (8, .t (.v (.int .i64 (x.2 : Int))))], [], [(106, ⟨5, 1, x.1.map byteT⟩)]⟩
set_option maxRecDepth 100000 in
set_option maxHeartbeats 2000000 in
theorem said_ (bad : UInt8 → Bool) (fb : FuncId) (hb : ∀ c : UInt8, PCalls Tryz.prog fb [.v (.int .u8 (c.toNat : Int))] (.v (.bool (bad c)))) (s : ByteArray) (hs : s.size ≤ 100000) (hok : okL s.toList = true) :
    PCalls Tryz.prog 91 [.v (.string s), .clo fb []] (.tup [.v (.string (bs (saidL bad s.toList).1)), .v (.bool (saidL bad s.toList).2)]) := by
  have hsz : s.toList.length = s.size := toList_len s
  refine pcalls_of Tryz.func91 rfl rfl Tryz.ntmps91 rfl ?_
  repeat' (first | refine then_go ?_ | refine swp_seq ?_ | refine swp_scope ?_ | refine swp_label ?_ | refine nog_r ?_ | refine rg 0 (aq47 ?_) | refine rg 1 (aq0 ?_) | refine rg 2 (aq0 ?_) | refine rg 3 (aq0 ?_) | refine swp_ret ?_ | refine swp_skip ?_ | refine swp_block ?_ | refine swp_exit ?_ | refine block_go ?_ | refine block_exit ?_ | refine block_far rfl ?_ | refine block_ret ?_ | refine then_ret ?_ | refine then_exit ?_ | refine for_ret ?_ | refine for_exit ?_ | refine ct ?_ | refine cf ?_ | refine sc ?_ ?_ <;> intro hc | refine rq rfl (rt (rt .nil)) ?_)
  refine swp_fam (SSd s fb) (fun x => x.2 ≤ s.size ∧ x.1.length ≤ x.2 ∧ okL (s.toList.drop x.2) = true ∧ saidL bad s.toList = (x.1 ++ (saidL bad (s.toList.drop x.2)).1, (saidL bad (s.toList.drop x.2)).2)) (fun x => s.size - x.2) ([], 0) ?_ ⟨by simp, by simp, hok, rfl⟩ ?_
  · refine Weak.trans (weak_own0 (i := 106) 5 1 (s := 6) rfl rfl) ?_
    exact (weak_sub (.cons rfl rfl rfl (.cons rfl rfl rfl (.cons rfl rfl rfl (.cons rfl rfl rfl (.cons rfl rfl rfl .nil))))) .nil (.cons rfl rfl .nil))
  rintro ⟨out, k⟩ ⟨h1, h2, h3, h4⟩
  unfold SSd
  dsimp only at h1 h2 h3 h4 ⊢
  have hm : (out.map byteT).length = out.length := List.length_map _
  have hb1 : ((out.map byteT).length + 1) * 64 ≤ 140737488355328 := by omega
  have hb2 : (out.map byteT).length + 1 ≤ maxLen := by unfold maxLen; omega
  have hb3 : ((out.map byteT).length + 3) * 64 ≤ 140737488355328 := by omega
  have hb4 : (out.map byteT).length + 3 ≤ maxLen := by unfold maxLen; omega
  by_cases hlt : k < s.size
  · have e1 := tl_drop s hlt
    by_cases hp : s[k].toNat = 37
    · have hp' : s[k] = 37 := UInt8.toNat_inj.1 hp
      rw [e1, hp'] at h3 h4
      have hpc := okL_pct h3
      rw [pct_at] at hpc
      by_cases h5 : k + 2 < s.size
      · rw [dif_pos h5] at hpc
        rw [tl_drop s (by omega : k + 1 < s.size), tl_drop s h5] at h3 h4
        have h6 := okL_tail (okL_tail (okL_tail h3))
        have ca := digit_ s[k + 1]
        have cb := digit_ s[k + 2]
        have cc := hb (num2 s[k + 1] s[k + 2])
        have cp := plain_ (num2 s[k + 1] s[k + 2])
        rw [Bool.and_eq_true, decide_eq_true_eq, decide_eq_true_eq] at hpc
        have hn := num2_nat hpc.1 hpc.2
        have r1 := dig_rng s[k + 1]
        have r2 := dig_rng s[k + 2]
        have hu : (num2 s[k + 1] s[k + 2]).toNat < 256 := UInt8.toNat_lt _
        have h8 : IntKind.u8.wrap (16 * dig s[k + 1] + dig s[k + 2]) = ((num2 s[k + 1] s[k + 2]).toNat : Int) := by rw [← hn]; exact wrap_u8 (by omega)
        cases hbad : bad (num2 s[k + 1] s[k + 2]) with
        | true =>
          rw [saidL_bad hbad] at h4
          rw [h4, List.append_nil]
          rw [hbad] at cc
          repeat' (first | refine gc ?_ | refine fam_ret ?_ | refine fam_exit ?_ | refine nog_r ?_ | refine rg 4 (aq22 ?_) | refine rg 6 (aq23 ?_) | refine rg 7 (aq21 ?_) | (refine aq99 ?_; refine dC (ca) rfl (ac .nil) ?_; refine aq100 ?_; (first | refine dC (ca) rfl (ac .nil) ?_ | refine dC (cb) rfl (ac .nil) ?_); refine dAs ?_; refine dAs ?_; refine dN ?_; refine oN ?_) | (refine rg 10 ?_; refine oMv ?_; refine sp (po_arith rfl rfl rfl (ar_mul (by first | rfl | (refine wrap_i64 ?_; omega)) rfl)) ?_; refine aq76 ?_; refine sp (po_conv_int rfl rfl (tyK rfl) (tyK rfl) h8) ?_; refine aq0 ?_) | refine rg 11 (aq52 ?_) | (refine rg 13 (aq15 ?_); refine sp (po_call_clo rfl rfl (ac .nil) (cc)) ?_; refine aq0 ?_) | refine rg 14 (aq0 ?_) | (refine rg 17 ?_; refine oMv ?_; (first | refine sp (po_conv_int rfl rfl (tyK rfl) (tyK rfl) h8) ?_ | refine sp (po_bytes_str rfl rfl (by first | exact .t _ | exact .own rfl (by rfl)) byt23 (tyR rfl)) ?_); refine aq49 ?_) | refine ct ?_ | refine cf ?_ | refine sc ?_ ?_ <;> intro hc | refine rq rfl (rt (rt .nil)) ?_)
          rfl
        | false =>
          rw [hbad] at cc
          cases hpl : plainB (num2 s[k + 1] s[k + 2]) with
          | true =>
            rw [saidL_plain hbad hpl] at h4
            rw [hpl] at cp
            have hrow : (out ++ [num2 s[k + 1] s[k + 2]]).map byteT = out.map byteT ++ [[T.v (.int .u8 ((num2 s[k + 1] s[k + 2]).toNat : Int))]] := by rw [List.map_append]; rfl
            repeat' (first | refine fam_next (out ++ [num2 s[k + 1] s[k + 2]], k + 3) (by simp only; omega) (weak_sub (.cons rfl (by rfl) rfl (.cons rfl (by rfl) rfl (.cons rfl (by first | rfl | ((rw [hrow]); try rfl)) rfl (.cons rfl (by rfl) rfl (.cons rfl (by rfl) rfl .nil))))) .nil (.cons rfl (by first | rfl | ((rw [hrow]); try rfl)) .nil)) ⟨by simp only; omega, by simp; omega, h6, by rw [h4]; simp⟩ | refine rg 4 (aq22 ?_) | refine rg 6 (aq23 ?_) | refine rg 7 (aq21 ?_) | (refine aq99 ?_; refine dC (ca) rfl (ac .nil) ?_; refine aq100 ?_; (first | refine dC (ca) rfl (ac .nil) ?_ | refine dC (cb) rfl (ac .nil) ?_); refine dAs ?_; refine dAs ?_; refine dN ?_; refine oN ?_) | (refine rg 10 ?_; refine oMv ?_; refine sp (po_arith rfl rfl rfl (ar_mul (by first | rfl | (refine wrap_i64 ?_; omega)) rfl)) ?_; refine aq76 ?_; refine sp (po_conv_int rfl rfl (tyK rfl) (tyK rfl) h8) ?_; refine aq0 ?_) | refine rg 11 (aq52 ?_) | (refine rg 13 (aq15 ?_); refine sp (po_call_clo rfl rfl (ac .nil) (cc)) ?_; refine aq0 ?_) | (refine rg 15 ?_; refine oMv ?_; (first | refine oC (ca) rfl (ac .nil) ?_ | refine oC (cb) rfl (ac .nil) ?_ | refine oC (cp) rfl (ac .nil) ?_); refine aq0 ?_) | refine rg 16 (aq101 ?_) | refine rg 5 (aq52 ?_) | refine gc ?_ | refine ct ?_ | refine cf ?_)
          | false =>
            rw [saidL_hex hbad hpl] at h4
            rw [hpl] at cp
            obtain ⟨na, hna⟩ := Int.eq_ofNat_of_zero_le hpc.1
            obtain ⟨nb, hnb⟩ := Int.eq_ofNat_of_zero_le hpc.2
            rw [hna, hnb] at h4
            rw [hna] at ca r1 h8
            rw [hnb] at cb r2 h8
            have hna2 : na < (⟨#[48, 49, 50, 51, 52, 53, 54, 55, 56, 57, 65, 66, 67, 68, 69, 70]⟩ : ByteArray).size := by show na < 16; omega
            have hnb2 : nb < (⟨#[48, 49, 50, 51, 52, 53, 54, 55, 56, 57, 65, 66, 67, 68, 69, 70]⟩ : ByteArray).size := by show nb < 16; omega
            have hxa := hex_at na hna2
            have hxb := hex_at nb hnb2
            have hrow : (out ++ [37, hexU (na : Int), hexU (nb : Int)]).map byteT = out.map byteT ++ [[T.v (.int .u8 37)], [T.v (.int .u8 (((⟨#[48, 49, 50, 51, 52, 53, 54, 55, 56, 57, 65, 66, 67, 68, 69, 70]⟩ : ByteArray)[na].toNat : Nat) : Int))], [T.v (.int .u8 (((⟨#[48, 49, 50, 51, 52, 53, 54, 55, 56, 57, 65, 66, 67, 68, 69, 70]⟩ : ByteArray)[nb].toNat : Nat) : Int))]] := by rw [List.map_append, hxa, hxb]; rfl
            repeat' (first | refine fam_next (out ++ [37, hexU (na : Int), hexU (nb : Int)], k + 3) (by simp only; omega) (weak_sub (.cons rfl (by rfl) rfl (.cons rfl (by rfl) rfl (.cons rfl (by first | rfl | ((rw [hrow]); try rfl)) rfl (.cons rfl (by rfl) rfl (.cons rfl (by rfl) rfl .nil))))) .nil (.cons rfl (by first | rfl | ((rw [hrow]); try rfl)) .nil)) ⟨by simp only; omega, by simp; omega, h6, by rw [h4]; simp⟩ | refine rg 4 (aq22 ?_) | refine rg 6 (aq23 ?_) | refine rg 7 (aq21 ?_) | (refine aq99 ?_; refine dC (ca) rfl (ac .nil) ?_; refine aq100 ?_; (first | refine dC (ca) rfl (ac .nil) ?_ | refine dC (cb) rfl (ac .nil) ?_); refine dAs ?_; refine dAs ?_; refine dN ?_; refine oN ?_) | (refine rg 10 ?_; refine oMv ?_; refine sp (po_arith rfl rfl rfl (ar_mul (by first | rfl | (refine wrap_i64 ?_; omega)) rfl)) ?_; refine aq76 ?_; refine sp (po_conv_int rfl rfl (tyK rfl) (tyK rfl) h8) ?_; refine aq0 ?_) | refine rg 11 (aq52 ?_) | (refine rg 13 (aq15 ?_); refine sp (po_call_clo rfl rfl (ac .nil) (cc)) ?_; refine aq0 ?_) | (refine rg 15 ?_; refine oMv ?_; (first | refine oC (ca) rfl (ac .nil) ?_ | refine oC (cb) rfl (ac .nil) ?_ | refine oC (cp) rfl (ac .nil) ?_); refine aq0 ?_) | (refine swp_draw (id := 12) 6 mixed (by kernel_rfl) (by kernel_rfl) ?_; refine dMv ?_; refine dMv ?_; refine dp (xist rfl) ?_; refine dMv ?_; refine dp (xist rfl) ?_; refine dp (po_buildSlice rfl (tyE rfl) (dc (dc (dc (.nil _)))) rfl rfl rfl) ?_; refine dN ?_; refine sap rfl (tyE rfl) ?_; refine oAs ?_; refine oN ?_) | refine rg 5 (aq52 ?_) | refine gc ?_ | refine ct ?_ | refine cf ?_)
      · rw [dif_neg h5] at hpc; cases hpc
    · have hp' : s[k] ≠ 37 := fun e => hp (by rw [e]; rfl)
      rw [e1] at h3 h4
      rw [saidL_c hp'] at h4
      have hrow : (out ++ [s[k]]).map byteT = out.map byteT ++ [[T.v (.int .u8 (s[k].toNat : Int))]] := by rw [List.map_append]; rfl
      have h37 : (!decide (((s[k].toNat : Nat) : Int) = 37)) = true := by rw [decide_eq_false (by omega)]; rfl
      repeat' (first | refine fam_next (out ++ [s[k]], k + 1) (by simp only; omega) (weak_sub (.cons rfl (by rfl) rfl (.cons rfl (by rfl) rfl (.cons rfl (by first | rfl | ((rw [hrow]); try rfl)) rfl (.cons rfl (by rfl) rfl (.cons rfl (by rfl) rfl .nil))))) .nil (.cons rfl (by first | rfl | ((rw [hrow]); try rfl)) .nil)) ⟨by simp only; omega, by simp; omega, okL_tail h3, by rw [h4]; simp⟩ | refine rg 4 (aq22 ?_) | refine rg 6 (aq23 ?_) | refine rg 7 (aq21 ?_) | refine rg 8 (aq101 ?_) | refine rg 5 (aq3 ?_) | refine gc ?_ | refine ct ?_)
  · obtain rfl : k = s.size := by omega
    have e1 : s.toList.drop s.size = [] := List.drop_eq_nil_of_le (by omega)
    rw [e1] at h4
    rw [h4]
    repeat' (first | refine gc ?_ | refine fam_ret ?_ | refine fam_exit ?_ | refine nog_r ?_ | refine rg 4 (aq22 ?_) | (refine rg 17 ?_; refine oMv ?_; refine sp (po_bytes_str rfl rfl (by first | exact .t _ | exact .own rfl (by rfl)) byt23 (tyR rfl)) ?_; refine aq49 ?_) | refine ct ?_ | refine cf ?_ | refine sc ?_ ?_ <;> intro hc | refine rq rfl (rt (rt .nil)) ?_)
    show T.tup [T.v (.string (bs (out ++ []))), T.v (.bool true)] = _
    rw [List.append_nil]; rfl
end Go.Proofs.YtloippgblkoemaaGreatDoor.Pth

/- The library's strings.Join, by the kit's contract. -/
namespace Go.Proofs.YtloippgblkoemaaGreatDoor.Jn
set_option linter.unusedVariables false
set_option linter.unusedSimpArgs false
open Go.RowKit Mem Sim
def rho : Shelf.Ren := ⟨fun n => if n = 156 then 125 else if n = 165 then 115 else if n = 166 then 116 else if n = 169 then 120 else if n = 240 then 139 else if n = 241 then 140 else if n = 276 then 144 else if n = 277 then 145 else n, fun n => if n = 0 then 0 else if n = 3 then 3 else if n = 4 then 4 else if n = 5 then 5 else if n = 9 then 9 else if n = 20 then 20 else if n = 31 then 98 else if n = 37 then 23 else if n = 70 then 137 else if n = 72 then 139 else if n = 75 then 144 else if n = 76 then 145 else if n = 80 then 150 else if n = 127 then 165 else if n = 164 then 172 else n, fun n => n⟩
set_option maxRecDepth 100000 in
theorem lays156 : Lays.n156 Tryz.prog rho where
  mixed := mixed
  f156 := by kernel_rfl
  f165 := by kernel_rfl
  f166 := by kernel_rfl
  f169 := by kernel_rfl
  f240 := by kernel_rfl
  f241 := by kernel_rfl
  f276 := by kernel_rfl
  f277 := by kernel_rfl
  t0 := Tryz.underlying0
  a0 := Tryz.isAgg0
  z0 := Tryz.sizeOf0
  v0 := Tryz.zeroValue0
  t3 := Tryz.underlying3
  a3 := Tryz.isAgg3
  z3 := Tryz.sizeOf3
  v3 := Tryz.zeroValue3
  t4 := Tryz.underlying4
  a4 := Tryz.isAgg4
  z4 := Tryz.sizeOf4
  v4 := Tryz.zeroValue4
  t9 := Tryz.underlying9
  a9 := Tryz.isAgg9
  z9 := Tryz.sizeOf9
  v9 := Tryz.zeroValue9
  t20 := Tryz.underlying20
  a20 := Tryz.isAgg20
  z20 := Tryz.sizeOf20
  v20 := Tryz.zeroValue20
  t31 := Tryz.underlying98
  a31 := Tryz.isAgg98
  z31 := Tryz.sizeOf98
  v31 := Tryz.zeroValue98
  t37 := Tryz.underlying23
  a37 := Tryz.isAgg23
  z37 := Tryz.sizeOf23
  v37 := Tryz.zeroValue23
  t70 := Tryz.underlying137
  a70 := Tryz.isAgg137
  z70 := Tryz.sizeOf137
  v70 := Tryz.zeroValue137
  t72 := Tryz.underlying139
  a72 := Tryz.isAgg139
  z72 := Tryz.sizeOf139
  v72 := Tryz.zeroValue139
  t75 := Tryz.underlying144
  a75 := Tryz.isAgg144
  z75 := Tryz.sizeOf144
  v75 := Tryz.zeroValue144
  t76 := Tryz.underlying145
  a76 := Tryz.isAgg145
  z76 := Tryz.sizeOf145
  v76 := Tryz.zeroValue145
  t127 := Tryz.underlying165
  a127 := Tryz.isAgg165
  z127 := Tryz.sizeOf165
  v127 := Tryz.zeroValue165
  t164 := Tryz.underlying172
  a164 := Tryz.isAgg172
  z164 := Tryz.sizeOf172
  v164 := Tryz.zeroValue172
theorem extra156 : Builder.Extra Tryz.prog rho where
  sizeBuilder := by kernel_rfl
  liesBuilder := by kernel_rfl
  t5 := Tryz.underlying5
  a5 := Tryz.isAgg5
  z5 := Tryz.sizeOf5
  v5 := Tryz.zeroValue5
  infoByte := by kernel_rfl
  cellsByte := by kernel_rfl
  sizeByte := by kernel_rfl
  neB5 := by decide
def strT (s : List UInt8) : List T := [.v (.string (bs s))]
theorem bs_data (l : List UInt8) : (bs l).data.toList = l := by unfold bs; rfl
theorem join_ (l : List (List UInt8)) (sep : ByteArray) (hn : l.length ≤ 1000000) (h : (sep.toList.intercalate l).length ≤ 100000000) :
    PCalls Tryz.prog 125 [.sl 1 (l.map strT), .v (.string sep)] (.v (.string (bs (sep.toList.intercalate l)))) where
  ent := fun vals w => by simp [callFunc, Tryz.func125]; rfl
  run := fun m w vals hs hl hv _ => by
    obtain ⟨v0, v1, rfl⟩ : ∃ v0 v1, vals = #[v0, v1] := by
      match vals, hl with
      | ⟨[a, b]⟩, _ => exact ⟨a, b, rfl⟩
    have h0 := hv 0 _ v0 rfl rfl
    have h1 := tr_v (hv 1 _ v1 rfl rfl)
    subst h1
    have ed : sep.data.toList = sep.toList := by rw [ByteArray.toList_eq]
    cases h0 with
    | sl _ _ A b off cap u hc hm hA hr hu ht =>
      cases l with
      | nil =>
        refine (Any.strings_Join_none lays156 extra156 A cap sep w).mono ?_
        rintro e w' ⟨rfl, rfl⟩
        exact ⟨_, m, rfl, Lo.refl _, Ext.refl _ _, hs, .v _⟩
      | cons x l =>
        obtain rfl := hA (by simp)
        have hcl : ∀ (j : Nat) y, ((x :: l).map bs)[j]? = some y → w.cell? ⟨b, off + j, none⟩ = some (.string y) := fun j y hj => by
          rw [List.getElem?_map] at hj
          obtain ⟨z, hz, rfl⟩ := Option.map_eq_some_iff.1 hj
          have hk : ((x :: l).map strT)[j]? = some (strT z) := by rw [List.getElem?_map, hz]; rfl
          have h2 := hs _ _ _ (hu j 0 _ _ hk rfl).1
          rw [tr_v (ht j 0 _ _ hk rfl)] at h2
          simpa using h2
        have hb : b < w.heap.size := World.block_lt_of_cell? w _ (hcl 0 _ rfl)
        have em : ((x :: l).map bs).map (·.data.toList) = x :: l := by
          rw [List.map_map]
          conv => rhs; rw [← List.map_id (x :: l)]
          exact List.map_congr_left fun a _ => bs_data a
        have hcap : ((x :: l).map bs).length ≤ cap := by rw [List.length_map]; rw [List.length_map] at hc; exact hc
        have hle : (Lib.join (((x :: l).map bs).map (·.data.toList)) sep.data.toList).length ≤ 140737488355328 := by rw [em, ed]; unfold Lib.join; omega
        have key := Any.strings_Join lays156 extra156 b off cap ((x :: l).map bs) sep w hcl hb (by rw [List.length_map]; omega) hcap hle
        rw [em, ed] at key
        have el : ((x :: l).map strT).length = ((x :: l).map bs).length := by rw [List.length_map, List.length_map]
        rw [el]
        refine Calls.mono key ?_
        rintro e w' ⟨rfl, hb'⟩
        have hlo : Lo w w' := hb'
        exact ⟨_, m, rfl, hlo, Ext.refl _ _, hs.lo hlo, .v _⟩
end Go.Proofs.YtloippgblkoemaaGreatDoor.Jn

/- Targets: path.Normal and what stands on it: walks. -/
namespace Go.Proofs.YtloippgblkoemaaGreatDoor.Pth
set_option linter.unusedVariables false
set_option linter.unusedSimpArgs false
open Go.RowKit Mem Sim Opn Str
theorem bs_cat (a b : L8) : bs a ++ bs b = bs (a ++ b) := bs_inj (by rw [toList_append, bs_toList, bs_toList, bs_toList])
set_option maxRecDepth 100000 in
theorem joined_ (dir : Bool) (l : List L8) (hn : tot l ≤ 1000000) : PCalls Tryz.prog 95 [.v (.bool dir), .sl 1 (l.map strT)] (.v (.string (bs (joinL dir l)))) := by
  have hm : (l.map strT).length = l.length := List.length_map _
  have hl : l.length ≤ 1000000 := by unfold tot at hn; omega
  have hi := inter_len l
  have h47 : (⟨#[47]⟩ : ByteArray).toList = [47] := bs_toList [47]
  have hj := Jn.join_ l ⟨#[47]⟩ hl (by rw [h47]; omega)
  rw [h47] at hj
  have hsz := bs_size (([47] : L8).intercalate l)
  have h1 : (⟨#[47]⟩ : ByteArray).size = 1 := rfl
  have hc1 : (⟨#[47]⟩ : ByteArray) ++ bs (([47] : L8).intercalate l) = bs (47 :: ([47] : L8).intercalate l) := bs_cat [47] _
  have hc2 : bs (47 :: ([47] : L8).intercalate l) ++ (⟨#[47]⟩ : ByteArray) = bs (47 :: ([47] : L8).intercalate l ++ [47]) := bs_cat _ [47]
  have hs3 : ((⟨#[47]⟩ : ByteArray) ++ bs (([47] : L8).intercalate l)).size = 1 + (([47] : L8).intercalate l).length := by rw [hc1, bs_size]; simp; omega
  have hmx : (⟨#[47]⟩ : ByteArray).size + (bs (([47] : L8).intercalate l)).size ≤ maxLen := by unfold maxLen; omega
  have hmx2 : ((⟨#[47]⟩ : ByteArray) ++ bs (([47] : L8).intercalate l)).size + (⟨#[47]⟩ : ByteArray).size ≤ maxLen := by unfold maxLen; omega
  refine pcalls_of Tryz.func95 rfl rfl Tryz.ntmps95 rfl ?_
  unfold joinL
  cases dir with
  | false =>
    repeat' (first | refine rg 0 (aq0 ?_) | (refine rg 1 ?_; refine oMv ?_; refine oC (hj) rfl (ac (ac .nil)) ?_; refine aq102 ?_) | (refine rg 2 ?_; refine oMv ?_; refine oMv ?_; (first | refine oMv ?_ | refine oK ?_) <;> (first | refine sp (pln rfl (tyS rfl)) ?_ | refine oK ?_) <;> (first | refine oCm ?_ | refine oK ?_) <;> (first | refine oPt ?_ | refine oPf ?_) <;> refine oN ?_) | refine rg 4 (aq4 ?_) | refine gc ?_ | refine ct ?_ | refine cf ?_ | refine sc ?_ ?_ <;> intro hc | refine rq rfl (rt .nil) ?_)
    show _ = T.v (.string _)
    rw [hc1]; simp
  | true =>
    by_cases h0 : l = []
    · have hz : ¬ (0 : Int) < (((l.map strT).length : Nat) : Int) := by subst h0; simp
      repeat' (first | refine rg 0 (aq0 ?_) | (refine rg 1 ?_; refine oMv ?_; refine oC (hj) rfl (ac (ac .nil)) ?_; refine aq102 ?_) | refine rg 2 (aq103 ?_) | refine rg 4 (aq4 ?_) | refine gc ?_ | refine ct ?_ | refine cf ?_ | refine sc ?_ ?_ <;> intro hc | refine rq rfl (rt .nil) ?_)
      show _ = T.v (.string _)
      rw [hc1]; simp [h0]
    · have hz : (0 : Int) < (((l.map strT).length : Nat) : Int) := by cases l with | nil => exact absurd rfl h0 | cons _ _ => simp
      repeat' (first | refine rg 0 (aq0 ?_) | (refine rg 1 ?_; refine oMv ?_; refine oC (hj) rfl (ac (ac .nil)) ?_; refine aq102 ?_) | refine rg 2 (aq103 ?_) | (refine rg 3 ?_; refine oMv ?_; refine sp (po_cat rfl rfl rfl (by omega)) ?_; refine oAs ?_; refine oN ?_) | refine rg 4 (aq4 ?_) | refine gc ?_ | refine ct ?_ | refine cf ?_ | refine sc ?_ ?_ <;> intro hc | refine rq rfl (rt .nil) ?_)
      show _ = T.v (.string _)
      rw [hc1, hc2]; simp [h0]
def normT (x : Option (L8 × L8)) : T := match x with
  | some (p, q) => .tup [.v (.string (bs p)), .v (.string (bs q)), .v (.int .i64 0)]
  | none => .tup [.v (.string ⟨#[]⟩), .v (.string ⟨#[]⟩), .v (.int .i64 2)]
theorem cutT_L (s : ByteArray) : ∃ b : Bool, cutT s 63 = .tup [.v (.string (bs (cutL s.toList).1)), .v (.string (bs (cutL s.toList).2)), .v (.bool b)] := by
  have hl := toList_len s
  have e : ∀ a b, s.extract a b = bs ((s.toList.take b).drop a) := fun a b => by
    have := ext_bs s.toList a b
    rw [toList_bs] at this; exact this
  unfold cutT
  rw [cut_idx]
  unfold fidx
  by_cases h : s.toList.findIdx (· == 63) < s.size
  · rw [if_pos h]
    refine ⟨true, ?_⟩
    rw [e, e, List.drop_zero, List.take_of_length_le (by omega : s.toList.length ≤ s.size)]
  · rw [if_neg h]
    refine ⟨false, ?_⟩
    have h1 : s.toList.findIdx (· == 63) = s.toList.length := by
      have := List.findIdx_le_length (xs := s.toList) (p := (· == 63)); omega
    rw [h1, List.take_length, List.drop_of_length_le (by omega), toList_bs]; rfl
set_option maxRecDepth 100000 in
set_option maxHeartbeats 1000000 in
theorem Normal_ (s : ByteArray) (hs : s.size ≤ 100000) : PCalls Tryz.prog 65 [.v (.string s)] (normT (normL s.toList)) := by
  have c0 := may_ s hs
  unfold normL
  refine pcalls_of Tryz.func65 rfl rfl Tryz.ntmps65 rfl ?_
  cases hmay : mayL s.toList with
  | false =>
    rw [hmay] at c0
    repeat' (first | refine rg 0 (aq20 ?_) | (refine rg 1 ?_; refine oMv ?_; refine oC (c0) rfl (ac .nil) ?_; refine aq25 ?_) | refine rg 2 (aq20 ?_) | refine gc ?_ | refine ct ?_ | refine cf ?_ | refine sc ?_ ?_ <;> intro hc | refine rq rfl (rt (rt (rt .nil))) ?_)
    rfl
  | true =>
    rw [hmay] at c0
    obtain ⟨m1, m2, m3⟩ := may_parts hmay
    have hl := toList_len s
    obtain ⟨b, hcut⟩ := cutT_L s
    have c1 := cut_ s 63 (by unfold maxLen; omega)
    rw [hcut] at c1
    obtain ⟨k1, k2⟩ := cut_ok m3
    obtain ⟨n1, n2⟩ := cut_len s.toList
    have hh := head_cut m2
    have c2 := said_ hiddenB 92 hidden_ (bs (cutL s.toList).1) (by rw [bs_size]; omega) (by rw [bs_toList]; exact k1)
    have c3 := said_ (fun _ => false) 93 none_ (bs (cutL s.toList).2) (by rw [bs_size]; omega) (by rw [bs_toList]; exact k2)
    rw [bs_toList] at c2 c3
    have hh2 := said_head (bad := hiddenB) hh.1
    have l2 := saidL_len hiddenB (cutL s.toList).1
    generalize (cutL s.toList).1 = road0 at *
    generalize (cutL s.toList).2 = q0 at *
    generalize saidL hiddenB road0 = rd at *
    generalize saidL (fun _ => false) q0 = qd at *
    obtain ⟨road, ok⟩ := rd
    obtain ⟨q, qok⟩ := qd
    dsimp only at *
    have c4 := kept_ road hh2.2 (by omega)
    have ht : ∀ r, keptL road = some r → tot r.1 ≤ road.length := fun r => tot_keptL hh2.2
    rw [if_pos rfl]
    cases hk : keptL road with
    | none =>
      rw [hk] at c4
      unfold keptT at c4
      dsimp only at c4
      cases ok with
      | true =>
        repeat' (first | refine rg 0 (aq20 ?_) | (refine rg 1 ?_; refine oMv ?_; refine oC (c0) rfl (ac .nil) ?_; refine aq25 ?_) | (refine rg 3 ?_; refine oMv ?_; (first | refine oC (c0) rfl (ac (ac .nil)) ?_ | refine oC (c1) rfl (ac (ac .nil)) ?_); refine aq93 ?_) | (refine rg 4 ?_; refine oMv ?_; (first | refine oC (c0) rfl (ac (ac .nil)) ?_ | refine oC (c1) rfl (ac (ac .nil)) ?_ | refine oC (c2) rfl (ac (ac .nil)) ?_); refine aq104 ?_) | (refine rg 5 ?_; refine oMv ?_; (first | refine oC (c0) rfl (ac (ac .nil)) ?_ | refine oC (c1) rfl (ac (ac .nil)) ?_ | refine oC (c2) rfl (ac (ac .nil)) ?_ | refine oC (c3) rfl (ac (ac .nil)) ?_); refine aq105 ?_) | (refine rg 6 ?_; refine oMv ?_; (first | refine oC (c0) rfl (ac .nil) ?_ | refine oC (c1) rfl (ac .nil) ?_ | refine oC (c2) rfl (ac .nil) ?_ | refine oC (c3) rfl (ac .nil) ?_ | refine oC (c4) rfl (ac .nil) ?_); refine aq93 ?_) | refine rg 7 (aq106 ?_) | refine rg 8 (aq20 ?_) | refine gc ?_ | refine ct ?_ | refine cf ?_ | refine sc ?_ ?_ <;> intro hc | refine rq rfl (rt (rt (rt .nil))) ?_)
        rfl
      | false =>
        repeat' (first | refine rg 0 (aq20 ?_) | (refine rg 1 ?_; refine oMv ?_; refine oC (c0) rfl (ac .nil) ?_; refine aq25 ?_) | (refine rg 3 ?_; refine oMv ?_; (first | refine oC (c0) rfl (ac (ac .nil)) ?_ | refine oC (c1) rfl (ac (ac .nil)) ?_); refine aq93 ?_) | (refine rg 4 ?_; refine oMv ?_; (first | refine oC (c0) rfl (ac (ac .nil)) ?_ | refine oC (c1) rfl (ac (ac .nil)) ?_ | refine oC (c2) rfl (ac (ac .nil)) ?_); refine aq104 ?_) | (refine rg 5 ?_; refine oMv ?_; (first | refine oC (c0) rfl (ac (ac .nil)) ?_ | refine oC (c1) rfl (ac (ac .nil)) ?_ | refine oC (c2) rfl (ac (ac .nil)) ?_ | refine oC (c3) rfl (ac (ac .nil)) ?_); refine aq105 ?_) | (refine rg 6 ?_; refine oMv ?_; (first | refine oC (c0) rfl (ac .nil) ?_ | refine oC (c1) rfl (ac .nil) ?_ | refine oC (c2) rfl (ac .nil) ?_ | refine oC (c3) rfl (ac .nil) ?_ | refine oC (c4) rfl (ac .nil) ?_); refine aq93 ?_) | refine rg 7 (aq107 ?_) | refine rg 8 (aq20 ?_) | refine gc ?_ | refine ct ?_ | refine cf ?_ | refine sc ?_ ?_ <;> intro hc | refine rq rfl (rt (rt (rt .nil))) ?_)
        rfl
    | some r =>
      obtain ⟨left, dir⟩ := r
      have ht' := ht _ hk
      dsimp only at ht'
      rw [hk] at c4
      unfold keptT at c4
      dsimp only at c4
      have c5 := joined_ dir left (by omega)
      cases ok with
      | true =>
        repeat' (first | refine rg 0 (aq20 ?_) | (refine rg 1 ?_; refine oMv ?_; refine oC (c0) rfl (ac .nil) ?_; refine aq25 ?_) | (refine rg 3 ?_; refine oMv ?_; (first | refine oC (c0) rfl (ac (ac .nil)) ?_ | refine oC (c1) rfl (ac (ac .nil)) ?_); refine aq93 ?_) | (refine rg 4 ?_; refine oMv ?_; (first | refine oC (c0) rfl (ac (ac .nil)) ?_ | refine oC (c1) rfl (ac (ac .nil)) ?_ | refine oC (c2) rfl (ac (ac .nil)) ?_); refine aq104 ?_) | (refine rg 5 ?_; refine oMv ?_; (first | refine oC (c0) rfl (ac (ac .nil)) ?_ | refine oC (c1) rfl (ac (ac .nil)) ?_ | refine oC (c2) rfl (ac (ac .nil)) ?_ | refine oC (c3) rfl (ac (ac .nil)) ?_); refine aq105 ?_) | (refine rg 6 ?_; refine oMv ?_; (first | refine oC (c0) rfl (ac .nil) ?_ | refine oC (c1) rfl (ac .nil) ?_ | refine oC (c2) rfl (ac .nil) ?_ | refine oC (c3) rfl (ac .nil) ?_ | refine oC (c4) rfl (ac .nil) ?_); refine aq93 ?_) | refine rg 7 (aq106 ?_) | (refine rg 9 (aq15 ?_); (first | refine oC (c0) rfl (ac (ac .nil)) ?_ | refine oC (c1) rfl (ac (ac .nil)) ?_ | refine oC (c2) rfl (ac (ac .nil)) ?_ | refine oC (c3) rfl (ac (ac .nil)) ?_ | refine oC (c4) rfl (ac (ac .nil)) ?_ | refine oC (c5) rfl (ac (ac .nil)) ?_); refine oMv ?_; refine oAs ?_; refine oAs ?_; refine oAs ?_; refine oN ?_) | refine gc ?_ | refine ct ?_ | refine cf ?_ | refine sc ?_ ?_ <;> intro hc | refine rq rfl (rt (rt (rt .nil))) ?_)
        rfl
      | false =>
        repeat' (first | refine rg 0 (aq20 ?_) | (refine rg 1 ?_; refine oMv ?_; refine oC (c0) rfl (ac .nil) ?_; refine aq25 ?_) | (refine rg 3 ?_; refine oMv ?_; (first | refine oC (c0) rfl (ac (ac .nil)) ?_ | refine oC (c1) rfl (ac (ac .nil)) ?_); refine aq93 ?_) | (refine rg 4 ?_; refine oMv ?_; (first | refine oC (c0) rfl (ac (ac .nil)) ?_ | refine oC (c1) rfl (ac (ac .nil)) ?_ | refine oC (c2) rfl (ac (ac .nil)) ?_); refine aq104 ?_) | (refine rg 5 ?_; refine oMv ?_; (first | refine oC (c0) rfl (ac (ac .nil)) ?_ | refine oC (c1) rfl (ac (ac .nil)) ?_ | refine oC (c2) rfl (ac (ac .nil)) ?_ | refine oC (c3) rfl (ac (ac .nil)) ?_); refine aq105 ?_) | (refine rg 6 ?_; refine oMv ?_; (first | refine oC (c0) rfl (ac .nil) ?_ | refine oC (c1) rfl (ac .nil) ?_ | refine oC (c2) rfl (ac .nil) ?_ | refine oC (c3) rfl (ac .nil) ?_ | refine oC (c4) rfl (ac .nil) ?_); refine aq93 ?_) | refine rg 7 (aq107 ?_) | refine rg 8 (aq20 ?_) | refine gc ?_ | refine ct ?_ | refine cf ?_ | refine sc ?_ ?_ <;> intro hc | refine rq rfl (rt (rt (rt .nil))) ?_)
        rfl
end Go.Proofs.YtloippgblkoemaaGreatDoor.Pth
