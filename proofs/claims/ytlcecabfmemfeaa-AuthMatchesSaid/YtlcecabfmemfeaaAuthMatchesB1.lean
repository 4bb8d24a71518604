/- Merged by bundle.py: SimRefB, SimCopy, SimRefC, SimRefD. -/
import Derived.Test.YtlcecabfmemfeaaAuthMatchesB0
import Derived.Test.YtlcecabfmemfeaaWAny
import Derived.Test.YtlcecabfmemfeaaWMatches
import Derived.Test.YtlcecabfmemfeaaPlAuth
/- The document's answer for names: walks. -/
namespace Go.Proofs.Ytlcecabfmemfeaa.Pol
set_option linter.unusedVariables false
set_option linter.unusedSimpArgs false
open Go.RowKit Mem Sim Opn WAddr WName WMatch WAuth
theorem lcs_no {s : ByteArray} {i : Nat} (hi : i < s.size) (h : lcs s i = false) : label s = false := label_bad hi h
theorem label_of {s : ByteArray} (h0 : 1 ≤ s.size) (h1 : s.size ≤ 20) (h : (List.range s.size).all (lcs s) = true) : label s = true := by simp [label, h, h0, h1]
set_option maxRecDepth 100000 in
set_option maxHeartbeats 1000000 in
theorem label_ (s : ByteArray) (hs : s.size ≤ maxLen) : PCalls Try.prog 122 [.v (.string s)] (.v (.bool (label s))) := by
  unfold maxLen at hs
  refine pcalls_of Try.func122 rfl rfl Try.ntmps122 rfl ?_
  by_cases h1 : 1 ≤ s.size
  · by_cases h2 : s.size ≤ 20
    · repeat' (first
      | refine then_go ?_
      | refine swp_seq ?_
      | ((refine swp_region (id := 0) ?_) <;> (refine sops_pure (.free rfl rfl) rfl rfl (po_assign rfl rfl) ?_) <;> (refine sops_nil ?_))
      | ((refine swp_region (id := 1) ?_) <;> (refine sops_pure (.free rfl rfl) rfl rfl (po_move rfl rfl) ?_) <;> (refine sops_pure (.free rfl rfl) rfl rfl (po_len_str rfl rfl (tyR rfl)) ?_) <;> (refine sops_pure (.free rfl rfl) rfl rfl (po_cmp rfl rfl rfl rfl) ?_) <;> (refine sops_pure (.free rfl rfl) rfl rfl (po_move rfl rfl) ?_) <;> (first | refine sops_pure (.yes rfl rfl rfl (by first | assumption | with_reducible rfl | decide | (simp only [decide_eq_true_eq, decide_eq_false_iff_not]; omega))) rfl rfl (po_move rfl rfl) ?_ | refine sops_skip (.no0 rfl rfl rfl (by first | assumption | with_reducible rfl | decide | (simp only [decide_eq_true_eq, decide_eq_false_iff_not]; omega))) rfl rfl ?_ | ((refine sops_split rfl rfl rfl (fun hc => ?_) (fun hc => ?_)) <;> (first | refine sops_pure (.yes rfl rfl rfl (by first | assumption | with_reducible rfl | decide | (simp only [decide_eq_true_eq, decide_eq_false_iff_not]; omega))) rfl rfl (po_move rfl rfl) ?_ | refine sops_skip (.no0 rfl rfl rfl (by first | assumption | with_reducible rfl | decide | (simp only [decide_eq_true_eq, decide_eq_false_iff_not]; omega))) rfl rfl ?_))) <;> (first | refine sops_pure (.yes rfl rfl rfl (by first | assumption | with_reducible rfl | decide | (simp only [decide_eq_true_eq, decide_eq_false_iff_not]; omega))) rfl rfl (po_len_str rfl rfl (tyR rfl)) ?_ | refine sops_skip (.no0 rfl rfl rfl (by first | assumption | with_reducible rfl | decide | (simp only [decide_eq_true_eq, decide_eq_false_iff_not]; omega))) rfl rfl ?_) <;> (first | refine sops_pure (.yes rfl rfl rfl (by first | assumption | with_reducible rfl | decide | (simp only [decide_eq_true_eq, decide_eq_false_iff_not]; omega))) rfl rfl (po_cmp rfl rfl rfl rfl) ?_ | refine sops_skip (.no0 rfl rfl rfl (by first | assumption | with_reducible rfl | decide | (simp only [decide_eq_true_eq, decide_eq_false_iff_not]; omega))) rfl rfl ?_) <;> (first | refine sops_pure (.free rfl rfl) rfl rfl (po_pick_t rfl rfl (by first | assumption | with_reducible rfl | decide | (simp only [decide_eq_true_eq, decide_eq_false_iff_not]; omega)) rfl) ?_ | refine sops_pure (.free rfl rfl) rfl rfl (po_pick_f rfl rfl (by first | assumption | with_reducible rfl | decide | (simp only [decide_eq_true_eq, decide_eq_false_iff_not]; omega)) rfl) ?_) <;> (refine sops_pure (.free rfl rfl) rfl rfl (po_move rfl rfl) ?_) <;> (first | refine sops_pure (.yes rfl rfl rfl (by first | assumption | with_reducible rfl | decide | (simp only [decide_eq_true_eq, decide_eq_false_iff_not]; omega))) rfl rfl (po_move rfl rfl) ?_ | refine sops_skip (.no0 rfl rfl rfl (by first | assumption | with_reducible rfl | decide | (simp only [decide_eq_true_eq, decide_eq_false_iff_not]; omega))) rfl rfl ?_ | ((refine sops_split rfl rfl rfl (fun hc => ?_) (fun hc => ?_)) <;> (first | refine sops_pure (.yes rfl rfl rfl (by first | assumption | with_reducible rfl | decide | (simp only [decide_eq_true_eq, decide_eq_false_iff_not]; omega))) rfl rfl (po_move rfl rfl) ?_ | refine sops_skip (.no0 rfl rfl rfl (by first | assumption | with_reducible rfl | decide | (simp only [decide_eq_true_eq, decide_eq_false_iff_not]; omega))) rfl rfl ?_))) <;> (first | refine sops_pure (.yes rfl rfl rfl (by first | assumption | with_reducible rfl | decide | (simp only [decide_eq_true_eq, decide_eq_false_iff_not]; omega))) rfl rfl (po_index_str rfl rfl rfl (tyR rfl) (by first | rfl | omega) (by first | assumption | omega)) ?_ | refine sops_skip (.no0 rfl rfl rfl (by first | assumption | with_reducible rfl | decide | (simp only [decide_eq_true_eq, decide_eq_false_iff_not]; omega))) rfl rfl ?_) <;> (first | refine sops_pure (.yes rfl rfl rfl (by first | assumption | with_reducible rfl | decide | (simp only [decide_eq_true_eq, decide_eq_false_iff_not]; omega))) rfl rfl (po_cmp rfl rfl rfl rfl) ?_ | refine sops_skip (.no0 rfl rfl rfl (by first | assumption | with_reducible rfl | decide | (simp only [decide_eq_true_eq, decide_eq_false_iff_not]; omega))) rfl rfl ?_) <;> (first | refine sops_pure (.free rfl rfl) rfl rfl (po_pick_t rfl rfl (by first | assumption | with_reducible rfl | decide | (simp only [decide_eq_true_eq, decide_eq_false_iff_not]; omega)) rfl) ?_ | refine sops_pure (.free rfl rfl) rfl rfl (po_pick_f rfl rfl (by first | assumption | with_reducible rfl | decide | (simp only [decide_eq_true_eq, decide_eq_false_iff_not]; omega)) rfl) ?_) <;> (refine sops_pure (.free rfl rfl) rfl rfl (po_move rfl rfl) ?_) <;> (first | refine sops_pure (.yes rfl rfl rfl (by first | assumption | with_reducible rfl | decide | (simp only [decide_eq_true_eq, decide_eq_false_iff_not]; omega))) rfl rfl (po_move rfl rfl) ?_ | refine sops_skip (.no0 rfl rfl rfl (by first | assumption | with_reducible rfl | decide | (simp only [decide_eq_true_eq, decide_eq_false_iff_not]; omega))) rfl rfl ?_ | ((refine sops_split rfl rfl rfl (fun hc => ?_) (fun hc => ?_)) <;> (first | refine sops_pure (.yes rfl rfl rfl (by first | assumption | with_reducible rfl | decide | (simp only [decide_eq_true_eq, decide_eq_false_iff_not]; omega))) rfl rfl (po_move rfl rfl) ?_ | refine sops_skip (.no0 rfl rfl rfl (by first | assumption | with_reducible rfl | decide | (simp only [decide_eq_true_eq, decide_eq_false_iff_not]; omega))) rfl rfl ?_))) <;> (first | refine sops_pure (.yes rfl rfl rfl (by first | assumption | with_reducible rfl | decide | (simp only [decide_eq_true_eq, decide_eq_false_iff_not]; omega))) rfl rfl (po_move rfl rfl) ?_ | refine sops_skip (.no0 rfl rfl rfl (by first | assumption | with_reducible rfl | decide | (simp only [decide_eq_true_eq, decide_eq_false_iff_not]; omega))) rfl rfl ?_) <;> (first | refine sops_pure (.yes rfl rfl rfl (by first | assumption | with_reducible rfl | decide | (simp only [decide_eq_true_eq, decide_eq_false_iff_not]; omega))) rfl rfl (po_len_str rfl rfl (tyR rfl)) ?_ | refine sops_skip (.no0 rfl rfl rfl (by first | assumption | with_reducible rfl | decide | (simp only [decide_eq_true_eq, decide_eq_false_iff_not]; omega))) rfl rfl ?_) <;> (first | refine sops_pure (.yes rfl rfl rfl (by first | assumption | with_reducible rfl | decide | (simp only [decide_eq_true_eq, decide_eq_false_iff_not]; omega))) rfl rfl (po_dec rfl rfl rfl (by omega)) ?_ | refine sops_pure (.yes rfl rfl rfl (by first | assumption | with_reducible rfl | decide | (simp only [decide_eq_true_eq, decide_eq_false_iff_not]; omega))) rfl rfl (po_arith rfl rfl rfl (ar_sub (by first | rfl | (refine wrap_i64 ?_; omega)) rfl)) ?_ | refine sops_skip (.no0 rfl rfl rfl (by first | assumption | with_reducible rfl | decide | (simp only [decide_eq_true_eq, decide_eq_false_iff_not]; omega))) rfl rfl ?_) <;> (first | refine sops_pure (.yes rfl rfl rfl (by first | assumption | with_reducible rfl | decide | (simp only [decide_eq_true_eq, decide_eq_false_iff_not]; omega))) rfl rfl (po_index_str rfl rfl rfl (tyR rfl) (by first | rfl | omega) (by first | assumption | omega)) ?_ | refine sops_skip (.no0 rfl rfl rfl (by first | assumption | with_reducible rfl | decide | (simp only [decide_eq_true_eq, decide_eq_false_iff_not]; omega))) rfl rfl ?_) <;> (first | refine sops_pure (.yes rfl rfl rfl (by first | assumption | with_reducible rfl | decide | (simp only [decide_eq_true_eq, decide_eq_false_iff_not]; omega))) rfl rfl (po_cmp rfl rfl rfl rfl) ?_ | refine sops_skip (.no0 rfl rfl rfl (by first | assumption | with_reducible rfl | decide | (simp only [decide_eq_true_eq, decide_eq_false_iff_not]; omega))) rfl rfl ?_) <;> (first | refine sops_pure (.free rfl rfl) rfl rfl (po_pick_t rfl rfl (by first | assumption | with_reducible rfl | decide | (simp only [decide_eq_true_eq, decide_eq_false_iff_not]; omega)) rfl) ?_ | refine sops_pure (.free rfl rfl) rfl rfl (po_pick_f rfl rfl (by first | assumption | with_reducible rfl | decide | (simp only [decide_eq_true_eq, decide_eq_false_iff_not]; omega)) rfl) ?_) <;> (refine sops_nil ?_))
      | ((refine swp_region (id := 2) ?_) <;> (refine sops_pure (.free rfl rfl) rfl rfl (po_assign rfl rfl) ?_) <;> (refine sops_nil ?_))
      | ((refine swp_region (id := 3) ?_) <;> (refine sops_pure (.free rfl rfl) rfl rfl (po_assign rfl rfl) ?_) <;> (refine sops_nil ?_))
      | refine swp_ret ?_
      | refine swp_skip ?_
      | refine swp_block ?_
      | refine swp_exit ?_
      | refine block_go ?_
      | refine block_exit ?_
      | refine block_far rfl ?_
      | refine block_ret ?_
      | refine then_ret ?_
      | refine then_exit ?_
      | refine for_ret ?_
      | refine for_exit ?_
      | refine swp_cond_t rfl (by first | assumption | with_reducible rfl | decide | (simp only [decide_eq_true_eq, Bool.not_eq_true', decide_eq_false_iff_not]; omega)) ?_
      | refine swp_cond_f rfl (by first | assumption | with_reducible rfl | decide | (simp only [decide_eq_false_iff_not, Bool.not_eq_false', decide_eq_true_eq]; omega)) ?_
      | refine swp_cond rfl (fun hc => ?_) (fun hc => ?_)
      | refine retq (by first | exact .inr rfl | exact .inl rfl) rfl (.tmp rfl (by first | exact .t _ | exact .own rfl rfl | exact .nil _ | exact .emp _) .nil) ?_)
      · refine eq_b ?_
        have : s[0].toNat = 45 := by simp at *; omega
        rw [lcs_no (i := 0) (by omega)]
        rw [lcs_at (by omega)]; simp [lcN, this]
      · refine eq_b ?_
        have : s[s.size - 1].toNat = 45 := by simp at *; omega
        rw [lcs_no (i := s.size - 1) (by omega)]
        rw [lcs_at (by omega)]; simp [lcN, this]; omega
      · have e0 : s[0].toNat ≠ 45 := by simp at *; omega
        have e1 : s[s.size - 1].toNat ≠ 45 := by simp at *; omega
        refine swp_for (fun k => ⟨[(0, .t (.v (.string s))), (3, .t (.v (.int .i64 (k : Int))))], [], []⟩) (fun k => (List.range k).all (lcs s) = true) s.size (weak_sub (.cons rfl rfl rfl (.cons rfl rfl rfl .nil)) .nil .nil) rfl ?_
        intro k hk hI
        by_cases hlt : k < s.size
        · have hl := lcs_at hlt
          have e2 : k = 0 → s[k].toNat ≠ 45 := by rintro rfl; exact e0
          have e3 : k + 1 = s.size → s[k].toNat ≠ 45 := by intro h; obtain rfl : k = s.size - 1 := by omega
                                                           exact e1
          repeat' (first
            | refine then_go ?_
            | refine swp_seq ?_
            | refine for_next hlt (weak_sub (.cons rfl rfl rfl (.cons rfl rfl rfl .nil)) .nil .nil) ?_
            | ((refine swp_region (id := 4) ?_) <;> (refine sops_pure (.free rfl rfl) rfl rfl (po_move rfl rfl) ?_) <;> (refine sops_pure (.free rfl rfl) rfl rfl (po_move rfl rfl) ?_) <;> (refine sops_pure (.free rfl rfl) rfl rfl (po_len_str rfl rfl (tyR rfl)) ?_) <;> (refine sops_pure (.free rfl rfl) rfl rfl (po_cmp rfl rfl rfl rfl) ?_) <;> (refine sops_nil ?_))
            | ((refine swp_region (id := 6) ?_) <;> (refine sops_pure (.free rfl rfl) rfl rfl (po_move rfl rfl) ?_) <;> (refine sops_pure (.free rfl rfl) rfl rfl (po_move rfl rfl) ?_) <;> (refine sops_pure (.free rfl rfl) rfl rfl (po_index_str rfl rfl rfl (tyR rfl) (by first | rfl | omega) (by first | assumption | omega)) ?_) <;> (refine sops_pure (.free rfl rfl) rfl rfl (po_assign rfl rfl) ?_) <;> (refine sops_nil ?_))
            | ((refine swp_region (id := 7) ?_) <;> (refine sops_pure (.free rfl rfl) rfl rfl (po_move rfl rfl) ?_) <;> (refine sops_pure (.free rfl rfl) rfl rfl (po_cmp rfl rfl rfl rfl) ?_) <;> (refine sops_pure (.free rfl rfl) rfl rfl (po_move rfl rfl) ?_) <;> (first | refine sops_pure (.yes rfl rfl rfl (by first | assumption | with_reducible rfl | decide | (simp only [decide_eq_true_eq, decide_eq_false_iff_not]; omega))) rfl rfl (po_move rfl rfl) ?_ | refine sops_skip (.no1 rfl rfl rfl (by first | assumption | with_reducible rfl | decide | (simp only [decide_eq_true_eq, decide_eq_false_iff_not]; omega))) rfl rfl ?_ | ((refine sops_split rfl rfl rfl (fun hc => ?_) (fun hc => ?_)) <;> (first | refine sops_pure (.yes rfl rfl rfl (by first | assumption | with_reducible rfl | decide | (simp only [decide_eq_true_eq, decide_eq_false_iff_not]; omega))) rfl rfl (po_move rfl rfl) ?_ | refine sops_skip (.no1 rfl rfl rfl (by first | assumption | with_reducible rfl | decide | (simp only [decide_eq_true_eq, decide_eq_false_iff_not]; omega))) rfl rfl ?_))) <;> (first | refine sops_pure (.yes rfl rfl rfl (by first | assumption | with_reducible rfl | decide | (simp only [decide_eq_true_eq, decide_eq_false_iff_not]; omega))) rfl rfl (po_cmp rfl rfl rfl rfl) ?_ | refine sops_skip (.no1 rfl rfl rfl (by first | assumption | with_reducible rfl | decide | (simp only [decide_eq_true_eq, decide_eq_false_iff_not]; omega))) rfl rfl ?_) <;> (first | refine sops_pure (.yes rfl rfl rfl (by first | assumption | with_reducible rfl | decide | (simp only [decide_eq_true_eq, decide_eq_false_iff_not]; omega))) rfl rfl (po_move rfl rfl) ?_ | refine sops_skip (.no1 rfl rfl rfl (by first | assumption | with_reducible rfl | decide | (simp only [decide_eq_true_eq, decide_eq_false_iff_not]; omega))) rfl rfl ?_) <;> (first | refine sops_pure (.yes rfl rfl rfl (by first | assumption | with_reducible rfl | decide | (simp only [decide_eq_true_eq, decide_eq_false_iff_not]; omega))) rfl rfl (po_move rfl rfl) ?_ | refine sops_skip (.no0 rfl rfl rfl (by first | assumption | with_reducible rfl | decide | (simp only [decide_eq_true_eq, decide_eq_false_iff_not]; omega))) rfl rfl ?_ | refine sops_skip (.nou rfl rfl rfl) rfl rfl ?_ | ((refine sops_split rfl rfl rfl (fun hc => ?_) (fun hc => ?_)) <;> (first | refine sops_pure (.yes rfl rfl rfl (by first | assumption | with_reducible rfl | decide | (simp only [decide_eq_true_eq, decide_eq_false_iff_not]; omega))) rfl rfl (po_move rfl rfl) ?_ | refine sops_skip (.no0 rfl rfl rfl (by first | assumption | with_reducible rfl | decide | (simp only [decide_eq_true_eq, decide_eq_false_iff_not]; omega))) rfl rfl ?_ | refine sops_skip (.nou rfl rfl rfl) rfl rfl ?_))) <;> (first | refine sops_pure (.yes rfl rfl rfl (by first | assumption | with_reducible rfl | decide | (simp only [decide_eq_true_eq, decide_eq_false_iff_not]; omega))) rfl rfl (po_cmp rfl rfl rfl rfl) ?_ | refine sops_skip (.no0 rfl rfl rfl (by first | assumption | with_reducible rfl | decide | (simp only [decide_eq_true_eq, decide_eq_false_iff_not]; omega))) rfl rfl ?_ | refine sops_skip (.nou rfl rfl rfl) rfl rfl ?_) <;> (first | refine sops_pure (.yes rfl rfl rfl (by first | assumption | with_reducible rfl | decide | (simp only [decide_eq_true_eq, decide_eq_false_iff_not]; omega))) rfl rfl (po_pick_t rfl rfl (by first | assumption | with_reducible rfl | decide | (simp only [decide_eq_true_eq, decide_eq_false_iff_not]; omega)) rfl) ?_ | refine sops_pure (.yes rfl rfl rfl (by first | assumption | with_reducible rfl | decide | (simp only [decide_eq_true_eq, decide_eq_false_iff_not]; omega))) rfl rfl (po_pick_f rfl rfl (by first | assumption | with_reducible rfl | decide | (simp only [decide_eq_true_eq, decide_eq_false_iff_not]; omega)) rfl) ?_ | refine sops_skip (.no1 rfl rfl rfl (by first | assumption | with_reducible rfl | decide | (simp only [decide_eq_true_eq, decide_eq_false_iff_not]; omega))) rfl rfl ?_) <;> (first | refine sops_pure (.free rfl rfl) rfl rfl (po_pick_t rfl rfl (by first | assumption | with_reducible rfl | decide | (simp only [decide_eq_true_eq, decide_eq_false_iff_not]; omega)) rfl) ?_ | refine sops_pure (.free rfl rfl) rfl rfl (po_pick_f rfl rfl (by first | assumption | with_reducible rfl | decide | (simp only [decide_eq_true_eq, decide_eq_false_iff_not]; omega)) rfl) ?_) <;> (refine sops_pure (.free rfl rfl) rfl rfl (po_move rfl rfl) ?_) <;> (first | refine sops_pure (.yes rfl rfl rfl (by first | assumption | with_reducible rfl | decide | (simp only [decide_eq_true_eq, decide_eq_false_iff_not]; omega))) rfl rfl (po_move rfl rfl) ?_ | refine sops_skip (.no1 rfl rfl rfl (by first | assumption | with_reducible rfl | decide | (simp only [decide_eq_true_eq, decide_eq_false_iff_not]; omega))) rfl rfl ?_ | ((refine sops_split rfl rfl rfl (fun hc => ?_) (fun hc => ?_)) <;> (first | refine sops_pure (.yes rfl rfl rfl (by first | assumption | with_reducible rfl | decide | (simp only [decide_eq_true_eq, decide_eq_false_iff_not]; omega))) rfl rfl (po_move rfl rfl) ?_ | refine sops_skip (.no1 rfl rfl rfl (by first | assumption | with_reducible rfl | decide | (simp only [decide_eq_true_eq, decide_eq_false_iff_not]; omega))) rfl rfl ?_))) <;> (first | refine sops_pure (.yes rfl rfl rfl (by first | assumption | with_reducible rfl | decide | (simp only [decide_eq_true_eq, decide_eq_false_iff_not]; omega))) rfl rfl (po_cmp rfl rfl rfl rfl) ?_ | refine sops_skip (.no1 rfl rfl rfl (by first | assumption | with_reducible rfl | decide | (simp only [decide_eq_true_eq, decide_eq_false_iff_not]; omega))) rfl rfl ?_) <;> (first | refine sops_pure (.yes rfl rfl rfl (by first | assumption | with_reducible rfl | decide | (simp only [decide_eq_true_eq, decide_eq_false_iff_not]; omega))) rfl rfl (po_move rfl rfl) ?_ | refine sops_skip (.no1 rfl rfl rfl (by first | assumption | with_reducible rfl | decide | (simp only [decide_eq_true_eq, decide_eq_false_iff_not]; omega))) rfl rfl ?_) <;> (first | refine sops_pure (.yes rfl rfl rfl (by first | assumption | with_reducible rfl | decide | (simp only [decide_eq_true_eq, decide_eq_false_iff_not]; omega))) rfl rfl (po_move rfl rfl) ?_ | refine sops_skip (.no0 rfl rfl rfl (by first | assumption | with_reducible rfl | decide | (simp only [decide_eq_true_eq, decide_eq_false_iff_not]; omega))) rfl rfl ?_ | refine sops_skip (.nou rfl rfl rfl) rfl rfl ?_ | ((refine sops_split rfl rfl rfl (fun hc => ?_) (fun hc => ?_)) <;> (first | refine sops_pure (.yes rfl rfl rfl (by first | assumption | with_reducible rfl | decide | (simp only [decide_eq_true_eq, decide_eq_false_iff_not]; omega))) rfl rfl (po_move rfl rfl) ?_ | refine sops_skip (.no0 rfl rfl rfl (by first | assumption | with_reducible rfl | decide | (simp only [decide_eq_true_eq, decide_eq_false_iff_not]; omega))) rfl rfl ?_ | refine sops_skip (.nou rfl rfl rfl) rfl rfl ?_))) <;> (first | refine sops_pure (.yes rfl rfl rfl (by first | assumption | with_reducible rfl | decide | (simp only [decide_eq_true_eq, decide_eq_false_iff_not]; omega))) rfl rfl (po_cmp rfl rfl rfl rfl) ?_ | refine sops_skip (.no0 rfl rfl rfl (by first | assumption | with_reducible rfl | decide | (simp only [decide_eq_true_eq, decide_eq_false_iff_not]; omega))) rfl rfl ?_ | refine sops_skip (.nou rfl rfl rfl) rfl rfl ?_) <;> (first | refine sops_pure (.yes rfl rfl rfl (by first | assumption | with_reducible rfl | decide | (simp only [decide_eq_true_eq, decide_eq_false_iff_not]; omega))) rfl rfl (po_pick_t rfl rfl (by first | assumption | with_reducible rfl | decide | (simp only [decide_eq_true_eq, decide_eq_false_iff_not]; omega)) rfl) ?_ | refine sops_pure (.yes rfl rfl rfl (by first | assumption | with_reducible rfl | decide | (simp only [decide_eq_true_eq, decide_eq_false_iff_not]; omega))) rfl rfl (po_pick_f rfl rfl (by first | assumption | with_reducible rfl | decide | (simp only [decide_eq_true_eq, decide_eq_false_iff_not]; omega)) rfl) ?_ | refine sops_skip (.no1 rfl rfl rfl (by first | assumption | with_reducible rfl | decide | (simp only [decide_eq_true_eq, decide_eq_false_iff_not]; omega))) rfl rfl ?_) <;> (first | refine sops_pure (.free rfl rfl) rfl rfl (po_pick_t rfl rfl (by first | assumption | with_reducible rfl | decide | (simp only [decide_eq_true_eq, decide_eq_false_iff_not]; omega)) rfl) ?_ | refine sops_pure (.free rfl rfl) rfl rfl (po_pick_f rfl rfl (by first | assumption | with_reducible rfl | decide | (simp only [decide_eq_true_eq, decide_eq_false_iff_not]; omega)) rfl) ?_) <;> (refine sops_nil ?_))
            | ((refine swp_region (id := 8) ?_) <;> (refine sops_pure (.free rfl rfl) rfl rfl (po_assign rfl rfl) ?_) <;> (refine sops_nil ?_))
            | ((refine swp_region (id := 5) ?_) <;> (refine sops_pure (.free rfl rfl) rfl rfl (po_move rfl rfl) ?_) <;> (first | refine sops_pure (.free rfl rfl) rfl rfl (po_inc rfl rfl rfl (by omega)) ?_ | refine sops_pure (.free rfl rfl) rfl rfl (po_arith rfl rfl rfl (ar_add (by first | rfl | (refine wrap_i64 ?_; omega)) rfl)) ?_) <;> (refine sops_pure (.free rfl rfl) rfl rfl (po_assign rfl rfl) ?_) <;> (refine sops_nil ?_))
            | refine swp_ret ?_
            | refine swp_skip ?_
            | refine swp_block ?_
            | refine swp_exit ?_
            | refine block_go ?_
            | refine block_exit ?_
            | refine block_far rfl ?_
            | refine block_ret ?_
            | refine then_ret ?_
            | refine then_exit ?_
            | refine for_ret ?_
            | refine for_exit ?_
            | refine swp_cond_t rfl (by first | assumption | with_reducible rfl | decide | (simp only [decide_eq_true_eq, Bool.not_eq_true', decide_eq_false_iff_not]; omega)) ?_
            | refine swp_cond_f rfl (by first | assumption | with_reducible rfl | decide | (simp only [decide_eq_false_iff_not, Bool.not_eq_false', decide_eq_true_eq]; omega)) ?_
            | refine swp_cond rfl (fun hc => ?_) (fun hc => ?_)
            | refine retq (by first | exact .inr rfl | exact .inl rfl) rfl (.tmp rfl (by first | exact .t _ | exact .own rfl rfl | exact .nil _ | exact .emp _) .nil) ?_)
          all_goals first
            | (refine eq_b ?_
               rw [lcs_no hlt]
               rw [hl, lcN]
               simp at *
               omega)
            | (refine all_more hI ?_
               rw [hl, lcN]
               simp at *
               omega)
        · repeat' (first
          | refine then_go ?_
          | refine swp_seq ?_
          | ((refine swp_region (id := 4) ?_) <;> (refine sops_pure (.free rfl rfl) rfl rfl (po_move rfl rfl) ?_) <;> (refine sops_pure (.free rfl rfl) rfl rfl (po_move rfl rfl) ?_) <;> (refine sops_pure (.free rfl rfl) rfl rfl (po_len_str rfl rfl (tyR rfl)) ?_) <;> (refine sops_pure (.free rfl rfl) rfl rfl (po_cmp rfl rfl rfl rfl) ?_) <;> (refine sops_nil ?_))
          | ((refine swp_region (id := 9) ?_) <;> (refine sops_pure (.free rfl rfl) rfl rfl (po_assign rfl rfl) ?_) <;> (refine sops_nil ?_))
          | refine swp_ret ?_
          | refine swp_skip ?_
          | refine swp_block ?_
          | refine swp_exit ?_
          | refine block_go ?_
          | refine block_exit ?_
          | refine block_far rfl ?_
          | refine block_ret ?_
          | refine then_ret ?_
          | refine then_exit ?_
          | refine for_ret ?_
          | refine for_exit ?_
          | refine swp_cond_t rfl (by first | assumption | with_reducible rfl | decide | (simp only [decide_eq_true_eq, Bool.not_eq_true', decide_eq_false_iff_not]; omega)) ?_
          | refine swp_cond_f rfl (by first | assumption | with_reducible rfl | decide | (simp only [decide_eq_false_iff_not, Bool.not_eq_false', decide_eq_true_eq]; omega)) ?_
          | refine swp_cond rfl (fun hc => ?_) (fun hc => ?_)
          | refine retq (by first | exact .inr rfl | exact .inl rfl) rfl (.tmp rfl (by first | exact .t _ | exact .own rfl rfl | exact .nil _ | exact .emp _) .nil) ?_)
          refine eq_b ?_
          obtain rfl : k = s.size := by omega
          rw [label_of h1 h2 hI]
    · repeat' (first
      | refine then_go ?_
      | refine swp_seq ?_
      | ((refine swp_region (id := 0) ?_) <;> (refine sops_pure (.free rfl rfl) rfl rfl (po_assign rfl rfl) ?_) <;> (refine sops_nil ?_))
      | ((refine swp_region (id := 1) ?_) <;> (refine sops_pure (.free rfl rfl) rfl rfl (po_move rfl rfl) ?_) <;> (refine sops_pure (.free rfl rfl) rfl rfl (po_len_str rfl rfl (tyR rfl)) ?_) <;> (refine sops_pure (.free rfl rfl) rfl rfl (po_cmp rfl rfl rfl rfl) ?_) <;> (refine sops_pure (.free rfl rfl) rfl rfl (po_move rfl rfl) ?_) <;> (first | refine sops_pure (.yes rfl rfl rfl (by first | assumption | with_reducible rfl | decide | (simp only [decide_eq_true_eq, decide_eq_false_iff_not]; omega))) rfl rfl (po_move rfl rfl) ?_ | refine sops_skip (.no0 rfl rfl rfl (by first | assumption | with_reducible rfl | decide | (simp only [decide_eq_true_eq, decide_eq_false_iff_not]; omega))) rfl rfl ?_ | ((refine sops_split rfl rfl rfl (fun hc => ?_) (fun hc => ?_)) <;> (first | refine sops_pure (.yes rfl rfl rfl (by first | assumption | with_reducible rfl | decide | (simp only [decide_eq_true_eq, decide_eq_false_iff_not]; omega))) rfl rfl (po_move rfl rfl) ?_ | refine sops_skip (.no0 rfl rfl rfl (by first | assumption | with_reducible rfl | decide | (simp only [decide_eq_true_eq, decide_eq_false_iff_not]; omega))) rfl rfl ?_))) <;> (first | refine sops_pure (.yes rfl rfl rfl (by first | assumption | with_reducible rfl | decide | (simp only [decide_eq_true_eq, decide_eq_false_iff_not]; omega))) rfl rfl (po_len_str rfl rfl (tyR rfl)) ?_ | refine sops_skip (.no0 rfl rfl rfl (by first | assumption | with_reducible rfl | decide | (simp only [decide_eq_true_eq, decide_eq_false_iff_not]; omega))) rfl rfl ?_) <;> (first | refine sops_pure (.yes rfl rfl rfl (by first | assumption | with_reducible rfl | decide | (simp only [decide_eq_true_eq, decide_eq_false_iff_not]; omega))) rfl rfl (po_cmp rfl rfl rfl rfl) ?_ | refine sops_skip (.no0 rfl rfl rfl (by first | assumption | with_reducible rfl | decide | (simp only [decide_eq_true_eq, decide_eq_false_iff_not]; omega))) rfl rfl ?_) <;> (first | refine sops_pure (.free rfl rfl) rfl rfl (po_pick_t rfl rfl (by first | assumption | with_reducible rfl | decide | (simp only [decide_eq_true_eq, decide_eq_false_iff_not]; omega)) rfl) ?_ | refine sops_pure (.free rfl rfl) rfl rfl (po_pick_f rfl rfl (by first | assumption | with_reducible rfl | decide | (simp only [decide_eq_true_eq, decide_eq_false_iff_not]; omega)) rfl) ?_) <;> (refine sops_pure (.free rfl rfl) rfl rfl (po_move rfl rfl) ?_) <;> (first | refine sops_pure (.yes rfl rfl rfl (by first | assumption | with_reducible rfl | decide | (simp only [decide_eq_true_eq, decide_eq_false_iff_not]; omega))) rfl rfl (po_move rfl rfl) ?_ | refine sops_skip (.no0 rfl rfl rfl (by first | assumption | with_reducible rfl | decide | (simp only [decide_eq_true_eq, decide_eq_false_iff_not]; omega))) rfl rfl ?_ | ((refine sops_split rfl rfl rfl (fun hc => ?_) (fun hc => ?_)) <;> (first | refine sops_pure (.yes rfl rfl rfl (by first | assumption | with_reducible rfl | decide | (simp only [decide_eq_true_eq, decide_eq_false_iff_not]; omega))) rfl rfl (po_move rfl rfl) ?_ | refine sops_skip (.no0 rfl rfl rfl (by first | assumption | with_reducible rfl | decide | (simp only [decide_eq_true_eq, decide_eq_false_iff_not]; omega))) rfl rfl ?_))) <;> (first | refine sops_pure (.yes rfl rfl rfl (by first | assumption | with_reducible rfl | decide | (simp only [decide_eq_true_eq, decide_eq_false_iff_not]; omega))) rfl rfl (po_index_str rfl rfl rfl (tyR rfl) (by first | rfl | omega) (by first | assumption | omega)) ?_ | refine sops_skip (.no0 rfl rfl rfl (by first | assumption | with_reducible rfl | decide | (simp only [decide_eq_true_eq, decide_eq_false_iff_not]; omega))) rfl rfl ?_) <;> (first | refine sops_pure (.yes rfl rfl rfl (by first | assumption | with_reducible rfl | decide | (simp only [decide_eq_true_eq, decide_eq_false_iff_not]; omega))) rfl rfl (po_cmp rfl rfl rfl rfl) ?_ | refine sops_skip (.no0 rfl rfl rfl (by first | assumption | with_reducible rfl | decide | (simp only [decide_eq_true_eq, decide_eq_false_iff_not]; omega))) rfl rfl ?_) <;> (first | refine sops_pure (.free rfl rfl) rfl rfl (po_pick_t rfl rfl (by first | assumption | with_reducible rfl | decide | (simp only [decide_eq_true_eq, decide_eq_false_iff_not]; omega)) rfl) ?_ | refine sops_pure (.free rfl rfl) rfl rfl (po_pick_f rfl rfl (by first | assumption | with_reducible rfl | decide | (simp only [decide_eq_true_eq, decide_eq_false_iff_not]; omega)) rfl) ?_) <;> (refine sops_pure (.free rfl rfl) rfl rfl (po_move rfl rfl) ?_) <;> (first | refine sops_pure (.yes rfl rfl rfl (by first | assumption | with_reducible rfl | decide | (simp only [decide_eq_true_eq, decide_eq_false_iff_not]; omega))) rfl rfl (po_move rfl rfl) ?_ | refine sops_skip (.no0 rfl rfl rfl (by first | assumption | with_reducible rfl | decide | (simp only [decide_eq_true_eq, decide_eq_false_iff_not]; omega))) rfl rfl ?_ | ((refine sops_split rfl rfl rfl (fun hc => ?_) (fun hc => ?_)) <;> (first | refine sops_pure (.yes rfl rfl rfl (by first | assumption | with_reducible rfl | decide | (simp only [decide_eq_true_eq, decide_eq_false_iff_not]; omega))) rfl rfl (po_move rfl rfl) ?_ | refine sops_skip (.no0 rfl rfl rfl (by first | assumption | with_reducible rfl | decide | (simp only [decide_eq_true_eq, decide_eq_false_iff_not]; omega))) rfl rfl ?_))) <;> (first | refine sops_pure (.yes rfl rfl rfl (by first | assumption | with_reducible rfl | decide | (simp only [decide_eq_true_eq, decide_eq_false_iff_not]; omega))) rfl rfl (po_move rfl rfl) ?_ | refine sops_skip (.no0 rfl rfl rfl (by first | assumption | with_reducible rfl | decide | (simp only [decide_eq_true_eq, decide_eq_false_iff_not]; omega))) rfl rfl ?_) <;> (first | refine sops_pure (.yes rfl rfl rfl (by first | assumption | with_reducible rfl | decide | (simp only [decide_eq_true_eq, decide_eq_false_iff_not]; omega))) rfl rfl (po_len_str rfl rfl (tyR rfl)) ?_ | refine sops_skip (.no0 rfl rfl rfl (by first | assumption | with_reducible rfl | decide | (simp only [decide_eq_true_eq, decide_eq_false_iff_not]; omega))) rfl rfl ?_) <;> (first | refine sops_pure (.yes rfl rfl rfl (by first | assumption | with_reducible rfl | decide | (simp only [decide_eq_true_eq, decide_eq_false_iff_not]; omega))) rfl rfl (po_dec rfl rfl rfl (by omega)) ?_ | refine sops_pure (.yes rfl rfl rfl (by first | assumption | with_reducible rfl | decide | (simp only [decide_eq_true_eq, decide_eq_false_iff_not]; omega))) rfl rfl (po_arith rfl rfl rfl (ar_sub (by first | rfl | (refine wrap_i64 ?_; omega)) rfl)) ?_ | refine sops_skip (.no0 rfl rfl rfl (by first | assumption | with_reducible rfl | decide | (simp only [decide_eq_true_eq, decide_eq_false_iff_not]; omega))) rfl rfl ?_) <;> (first | refine sops_pure (.yes rfl rfl rfl (by first | assumption | with_reducible rfl | decide | (simp only [decide_eq_true_eq, decide_eq_false_iff_not]; omega))) rfl rfl (po_index_str rfl rfl rfl (tyR rfl) (by first | rfl | omega) (by first | assumption | omega)) ?_ | refine sops_skip (.no0 rfl rfl rfl (by first | assumption | with_reducible rfl | decide | (simp only [decide_eq_true_eq, decide_eq_false_iff_not]; omega))) rfl rfl ?_) <;> (first | refine sops_pure (.yes rfl rfl rfl (by first | assumption | with_reducible rfl | decide | (simp only [decide_eq_true_eq, decide_eq_false_iff_not]; omega))) rfl rfl (po_cmp rfl rfl rfl rfl) ?_ | refine sops_skip (.no0 rfl rfl rfl (by first | assumption | with_reducible rfl | decide | (simp only [decide_eq_true_eq, decide_eq_false_iff_not]; omega))) rfl rfl ?_) <;> (first | refine sops_pure (.free rfl rfl) rfl rfl (po_pick_t rfl rfl (by first | assumption | with_reducible rfl | decide | (simp only [decide_eq_true_eq, decide_eq_false_iff_not]; omega)) rfl) ?_ | refine sops_pure (.free rfl rfl) rfl rfl (po_pick_f rfl rfl (by first | assumption | with_reducible rfl | decide | (simp only [decide_eq_true_eq, decide_eq_false_iff_not]; omega)) rfl) ?_) <;> (refine sops_nil ?_))
      | ((refine swp_region (id := 2) ?_) <;> (refine sops_pure (.free rfl rfl) rfl rfl (po_assign rfl rfl) ?_) <;> (refine sops_nil ?_))
      | refine swp_ret ?_
      | refine swp_skip ?_
      | refine swp_block ?_
      | refine swp_exit ?_
      | refine block_go ?_
      | refine block_exit ?_
      | refine block_far rfl ?_
      | refine block_ret ?_
      | refine then_ret ?_
      | refine then_exit ?_
      | refine for_ret ?_
      | refine for_exit ?_
      | refine swp_cond_t rfl (by first | assumption | with_reducible rfl | decide | (simp only [decide_eq_true_eq, Bool.not_eq_true', decide_eq_false_iff_not]; omega)) ?_
      | refine swp_cond_f rfl (by first | assumption | with_reducible rfl | decide | (simp only [decide_eq_false_iff_not, Bool.not_eq_false', decide_eq_true_eq]; omega)) ?_
      | refine swp_cond rfl (fun hc => ?_) (fun hc => ?_)
      | refine retq (by first | exact .inr rfl | exact .inl rfl) rfl (.tmp rfl (by first | exact .t _ | exact .own rfl rfl | exact .nil _ | exact .emp _) .nil) ?_)
      refine eq_b ?_
      simp [label, h2]
  · repeat' (first
    | refine then_go ?_
    | refine swp_seq ?_
    | ((refine swp_region (id := 0) ?_) <;> (refine sops_pure (.free rfl rfl) rfl rfl (po_assign rfl rfl) ?_) <;> (refine sops_nil ?_))
    | ((refine swp_region (id := 1) ?_) <;> (refine sops_pure (.free rfl rfl) rfl rfl (po_move rfl rfl) ?_) <;> (refine sops_pure (.free rfl rfl) rfl rfl (po_len_str rfl rfl (tyR rfl)) ?_) <;> (refine sops_pure (.free rfl rfl) rfl rfl (po_cmp rfl rfl rfl rfl) ?_) <;> (refine sops_pure (.free rfl rfl) rfl rfl (po_move rfl rfl) ?_) <;> (first | refine sops_pure (.yes rfl rfl rfl (by first | assumption | with_reducible rfl | decide | (simp only [decide_eq_true_eq, decide_eq_false_iff_not]; omega))) rfl rfl (po_move rfl rfl) ?_ | refine sops_skip (.no0 rfl rfl rfl (by first | assumption | with_reducible rfl | decide | (simp only [decide_eq_true_eq, decide_eq_false_iff_not]; omega))) rfl rfl ?_ | ((refine sops_split rfl rfl rfl (fun hc => ?_) (fun hc => ?_)) <;> (first | refine sops_pure (.yes rfl rfl rfl (by first | assumption | with_reducible rfl | decide | (simp only [decide_eq_true_eq, decide_eq_false_iff_not]; omega))) rfl rfl (po_move rfl rfl) ?_ | refine sops_skip (.no0 rfl rfl rfl (by first | assumption | with_reducible rfl | decide | (simp only [decide_eq_true_eq, decide_eq_false_iff_not]; omega))) rfl rfl ?_))) <;> (first | refine sops_pure (.yes rfl rfl rfl (by first | assumption | with_reducible rfl | decide | (simp only [decide_eq_true_eq, decide_eq_false_iff_not]; omega))) rfl rfl (po_len_str rfl rfl (tyR rfl)) ?_ | refine sops_skip (.no0 rfl rfl rfl (by first | assumption | with_reducible rfl | decide | (simp only [decide_eq_true_eq, decide_eq_false_iff_not]; omega))) rfl rfl ?_) <;> (first | refine sops_pure (.yes rfl rfl rfl (by first | assumption | with_reducible rfl | decide | (simp only [decide_eq_true_eq, decide_eq_false_iff_not]; omega))) rfl rfl (po_cmp rfl rfl rfl rfl) ?_ | refine sops_skip (.no0 rfl rfl rfl (by first | assumption | with_reducible rfl | decide | (simp only [decide_eq_true_eq, decide_eq_false_iff_not]; omega))) rfl rfl ?_) <;> (first | refine sops_pure (.free rfl rfl) rfl rfl (po_pick_t rfl rfl (by first | assumption | with_reducible rfl | decide | (simp only [decide_eq_true_eq, decide_eq_false_iff_not]; omega)) rfl) ?_ | refine sops_pure (.free rfl rfl) rfl rfl (po_pick_f rfl rfl (by first | assumption | with_reducible rfl | decide | (simp only [decide_eq_true_eq, decide_eq_false_iff_not]; omega)) rfl) ?_) <;> (refine sops_pure (.free rfl rfl) rfl rfl (po_move rfl rfl) ?_) <;> (first | refine sops_pure (.yes rfl rfl rfl (by first | assumption | with_reducible rfl | decide | (simp only [decide_eq_true_eq, decide_eq_false_iff_not]; omega))) rfl rfl (po_move rfl rfl) ?_ | refine sops_skip (.no0 rfl rfl rfl (by first | assumption | with_reducible rfl | decide | (simp only [decide_eq_true_eq, decide_eq_false_iff_not]; omega))) rfl rfl ?_ | ((refine sops_split rfl rfl rfl (fun hc => ?_) (fun hc => ?_)) <;> (first | refine sops_pure (.yes rfl rfl rfl (by first | assumption | with_reducible rfl | decide | (simp only [decide_eq_true_eq, decide_eq_false_iff_not]; omega))) rfl rfl (po_move rfl rfl) ?_ | refine sops_skip (.no0 rfl rfl rfl (by first | assumption | with_reducible rfl | decide | (simp only [decide_eq_true_eq, decide_eq_false_iff_not]; omega))) rfl rfl ?_))) <;> (first | refine sops_pure (.yes rfl rfl rfl (by first | assumption | with_reducible rfl | decide | (simp only [decide_eq_true_eq, decide_eq_false_iff_not]; omega))) rfl rfl (po_index_str rfl rfl rfl (tyR rfl) (by first | rfl | omega) (by first | assumption | omega)) ?_ | refine sops_skip (.no0 rfl rfl rfl (by first | assumption | with_reducible rfl | decide | (simp only [decide_eq_true_eq, decide_eq_false_iff_not]; omega))) rfl rfl ?_) <;> (first | refine sops_pure (.yes rfl rfl rfl (by first | assumption | with_reducible rfl | decide | (simp only [decide_eq_true_eq, decide_eq_false_iff_not]; omega))) rfl rfl (po_cmp rfl rfl rfl rfl) ?_ | refine sops_skip (.no0 rfl rfl rfl (by first | assumption | with_reducible rfl | decide | (simp only [decide_eq_true_eq, decide_eq_false_iff_not]; omega))) rfl rfl ?_) <;> (first | refine sops_pure (.free rfl rfl) rfl rfl (po_pick_t rfl rfl (by first | assumption | with_reducible rfl | decide | (simp only [decide_eq_true_eq, decide_eq_false_iff_not]; omega)) rfl) ?_ | refine sops_pure (.free rfl rfl) rfl rfl (po_pick_f rfl rfl (by first | assumption | with_reducible rfl | decide | (simp only [decide_eq_true_eq, decide_eq_false_iff_not]; omega)) rfl) ?_) <;> (refine sops_pure (.free rfl rfl) rfl rfl (po_move rfl rfl) ?_) <;> (first | refine sops_pure (.yes rfl rfl rfl (by first | assumption | with_reducible rfl | decide | (simp only [decide_eq_true_eq, decide_eq_false_iff_not]; omega))) rfl rfl (po_move rfl rfl) ?_ | refine sops_skip (.no0 rfl rfl rfl (by first | assumption | with_reducible rfl | decide | (simp only [decide_eq_true_eq, decide_eq_false_iff_not]; omega))) rfl rfl ?_ | ((refine sops_split rfl rfl rfl (fun hc => ?_) (fun hc => ?_)) <;> (first | refine sops_pure (.yes rfl rfl rfl (by first | assumption | with_reducible rfl | decide | (simp only [decide_eq_true_eq, decide_eq_false_iff_not]; omega))) rfl rfl (po_move rfl rfl) ?_ | refine sops_skip (.no0 rfl rfl rfl (by first | assumption | with_reducible rfl | decide | (simp only [decide_eq_true_eq, decide_eq_false_iff_not]; omega))) rfl rfl ?_))) <;> (first | refine sops_pure (.yes rfl rfl rfl (by first | assumption | with_reducible rfl | decide | (simp only [decide_eq_true_eq, decide_eq_false_iff_not]; omega))) rfl rfl (po_move rfl rfl) ?_ | refine sops_skip (.no0 rfl rfl rfl (by first | assumption | with_reducible rfl | decide | (simp only [decide_eq_true_eq, decide_eq_false_iff_not]; omega))) rfl rfl ?_) <;> (first | refine sops_pure (.yes rfl rfl rfl (by first | assumption | with_reducible rfl | decide | (simp only [decide_eq_true_eq, decide_eq_false_iff_not]; omega))) rfl rfl (po_len_str rfl rfl (tyR rfl)) ?_ | refine sops_skip (.no0 rfl rfl rfl (by first | assumption | with_reducible rfl | decide | (simp only [decide_eq_true_eq, decide_eq_false_iff_not]; omega))) rfl rfl ?_) <;> (first | refine sops_pure (.yes rfl rfl rfl (by first | assumption | with_reducible rfl | decide | (simp only [decide_eq_true_eq, decide_eq_false_iff_not]; omega))) rfl rfl (po_dec rfl rfl rfl (by omega)) ?_ | refine sops_pure (.yes rfl rfl rfl (by first | assumption | with_reducible rfl | decide | (simp only [decide_eq_true_eq, decide_eq_false_iff_not]; omega))) rfl rfl (po_arith rfl rfl rfl (ar_sub (by first | rfl | (refine wrap_i64 ?_; omega)) rfl)) ?_ | refine sops_skip (.no0 rfl rfl rfl (by first | assumption | with_reducible rfl | decide | (simp only [decide_eq_true_eq, decide_eq_false_iff_not]; omega))) rfl rfl ?_) <;> (first | refine sops_pure (.yes rfl rfl rfl (by first | assumption | with_reducible rfl | decide | (simp only [decide_eq_true_eq, decide_eq_false_iff_not]; omega))) rfl rfl (po_index_str rfl rfl rfl (tyR rfl) (by first | rfl | omega) (by first | assumption | omega)) ?_ | refine sops_skip (.no0 rfl rfl rfl (by first | assumption | with_reducible rfl | decide | (simp only [decide_eq_true_eq, decide_eq_false_iff_not]; omega))) rfl rfl ?_) <;> (first | refine sops_pure (.yes rfl rfl rfl (by first | assumption | with_reducible rfl | decide | (simp only [decide_eq_true_eq, decide_eq_false_iff_not]; omega))) rfl rfl (po_cmp rfl rfl rfl rfl) ?_ | refine sops_skip (.no0 rfl rfl rfl (by first | assumption | with_reducible rfl | decide | (simp only [decide_eq_true_eq, decide_eq_false_iff_not]; omega))) rfl rfl ?_) <;> (first | refine sops_pure (.free rfl rfl) rfl rfl (po_pick_t rfl rfl (by first | assumption | with_reducible rfl | decide | (simp only [decide_eq_true_eq, decide_eq_false_iff_not]; omega)) rfl) ?_ | refine sops_pure (.free rfl rfl) rfl rfl (po_pick_f rfl rfl (by first | assumption | with_reducible rfl | decide | (simp only [decide_eq_true_eq, decide_eq_false_iff_not]; omega)) rfl) ?_) <;> (refine sops_nil ?_))
    | ((refine swp_region (id := 2) ?_) <;> (refine sops_pure (.free rfl rfl) rfl rfl (po_assign rfl rfl) ?_) <;> (refine sops_nil ?_))
    | refine swp_ret ?_
    | refine swp_skip ?_
    | refine swp_block ?_
    | refine swp_exit ?_
    | refine block_go ?_
    | refine block_exit ?_
    | refine block_far rfl ?_
    | refine block_ret ?_
    | refine then_ret ?_
    | refine then_exit ?_
    | refine for_ret ?_
    | refine for_exit ?_
    | refine swp_cond_t rfl (by first | assumption | with_reducible rfl | decide | (simp only [decide_eq_true_eq, Bool.not_eq_true', decide_eq_false_iff_not]; omega)) ?_
    | refine swp_cond_f rfl (by first | assumption | with_reducible rfl | decide | (simp only [decide_eq_false_iff_not, Bool.not_eq_false', decide_eq_true_eq]; omega)) ?_
    | refine swp_cond rfl (fun hc => ?_) (fun hc => ?_)
    | refine retq (by first | exact .inr rfl | exact .inl rfl) rfl (.tmp rfl (by first | exact .t _ | exact .own rfl rfl | exact .nil _ | exact .emp _) .nil) ?_)
    refine eq_b ?_
    simp [label, h1]
def nameT (a : Pl.Asker) : List T := [.v (.string a.ns), .v (.string a.sa)]
def askT (a : Pl.Asker) : List T := [.v (.string a.ns), .v (.string a.sa), .v (.int .u32 a.addr)]
def reqT (q : Pl.Req) (tg qu : ByteArray) (bd : Value) : List T := [.v (.string q.method), .v (.string tg), .v (.string q.path), .v (.string qu), .v (.string q.host), .sl 2 (q.heads.map headT), .v bd]
structure OkAsk (a : Pl.Asker) : Prop where
  ns : a.ns.size ≤ maxLen
  sa : a.sa.size ≤ maxLen
  addr : (Lit.int .u32 a.addr).wf = true
structure OkReq (q : Pl.Req) : Prop where
  method : q.method.size ≤ maxLen
  path : q.path.size ≤ maxLen
  host : q.host.size ≤ maxLen
  heads : ∀ h ∈ q.heads, okHead h
  few : q.heads.length ≤ 1000
set_option maxRecDepth 100000 in
theorem mayN_ (a : Pl.Asker) (h : OkAsk a) : PCalls Try.prog 85 [.agg (nameT a)] (.v (.bool (mayN a.ns a.sa))) := by
  have h1 := label_ a.ns h.ns
  have h2 := label_ a.sa h.sa
  unfold mayN nameT
  refine pcalls_of Try.func85 rfl rfl Try.ntmps85 rfl ?_
  repeat' (first
    | refine then_go ?_
    | refine swp_seq ?_
    | ((refine swp_region (id := 0) ?_) <;> (refine sops_box (.free rfl rfl) rfl rfl rfl rfl rfl rfl ?_) <;> (refine sops_pure (.free rfl rfl) rfl rfl (po_assign rfl rfl) ?_) <;> (refine sops_nil ?_))
    | ((refine swp_region (id := 1) ?_) <;> (first | refine sops_pure (.free rfl rfl) rfl rfl (po_field_bx rfl rfl (tyF rfl)) ?_ | refine sops_pure (.free rfl rfl) rfl rfl (po_field rfl rfl (tyF rfl)) ?_) <;> (first | refine sops_pure (.free rfl rfl) rfl rfl (po_load_bx rfl rfl (tyT rfl) rfl rfl) ?_ | refine sops_pure (.free rfl rfl) rfl rfl (po_load rfl rfl (tyT rfl) rfl) ?_) <;> (first | refine sops_pure (.free rfl rfl) rfl rfl (po_call (h1) rfl (.cons rfl (by first | exact .t _ | exact .own rfl rfl | exact .nil _ | exact .emp _) .nil)) ?_ | refine sops_pure (.free rfl rfl) rfl rfl (po_call (h2) rfl (.cons rfl (by first | exact .t _ | exact .own rfl rfl | exact .nil _ | exact .emp _) .nil)) ?_) <;> (refine sops_pure (.free rfl rfl) rfl rfl (po_move rfl rfl) ?_) <;> (first | refine sops_pure (.yes rfl rfl rfl (by first | assumption | with_reducible rfl | decide | (simp only [decide_eq_true_eq, decide_eq_false_iff_not]; omega))) rfl rfl (po_field_bx rfl rfl (tyF rfl)) ?_ | refine sops_pure (.yes rfl rfl rfl (by first | assumption | with_reducible rfl | decide | (simp only [decide_eq_true_eq, decide_eq_false_iff_not]; omega))) rfl rfl (po_field rfl rfl (tyF rfl)) ?_ | refine sops_skip (.no1 rfl rfl rfl (by first | assumption | with_reducible rfl | decide | (simp only [decide_eq_true_eq, decide_eq_false_iff_not]; omega))) rfl rfl ?_ | ((refine sops_split rfl rfl rfl (fun hc => ?_) (fun hc => ?_)) <;> (first | refine sops_pure (.yes rfl rfl rfl (by first | assumption | with_reducible rfl | decide | (simp only [decide_eq_true_eq, decide_eq_false_iff_not]; omega))) rfl rfl (po_field_bx rfl rfl (tyF rfl)) ?_ | refine sops_pure (.yes rfl rfl rfl (by first | assumption | with_reducible rfl | decide | (simp only [decide_eq_true_eq, decide_eq_false_iff_not]; omega))) rfl rfl (po_field rfl rfl (tyF rfl)) ?_ | refine sops_skip (.no1 rfl rfl rfl (by first | assumption | with_reducible rfl | decide | (simp only [decide_eq_true_eq, decide_eq_false_iff_not]; omega))) rfl rfl ?_))) <;> (first | refine sops_pure (.yes rfl rfl rfl (by first | assumption | with_reducible rfl | decide | (simp only [decide_eq_true_eq, decide_eq_false_iff_not]; omega))) rfl rfl (po_load_bx rfl rfl (tyT rfl) rfl rfl) ?_ | refine sops_pure (.yes rfl rfl rfl (by first | assumption | with_reducible rfl | decide | (simp only [decide_eq_true_eq, decide_eq_false_iff_not]; omega))) rfl rfl (po_load rfl rfl (tyT rfl) rfl) ?_ | refine sops_skip (.no1 rfl rfl rfl (by first | assumption | with_reducible rfl | decide | (simp only [decide_eq_true_eq, decide_eq_false_iff_not]; omega))) rfl rfl ?_) <;> (first | refine sops_pure (.yes rfl rfl rfl (by first | assumption | with_reducible rfl | decide | (simp only [decide_eq_true_eq, decide_eq_false_iff_not]; omega))) rfl rfl (po_call (h1) rfl (.cons rfl (by first | exact .t _ | exact .own rfl rfl | exact .nil _ | exact .emp _) .nil)) ?_ | refine sops_pure (.yes rfl rfl rfl (by first | assumption | with_reducible rfl | decide | (simp only [decide_eq_true_eq, decide_eq_false_iff_not]; omega))) rfl rfl (po_call (h2) rfl (.cons rfl (by first | exact .t _ | exact .own rfl rfl | exact .nil _ | exact .emp _) .nil)) ?_ | refine sops_skip (.no1 rfl rfl rfl (by first | assumption | with_reducible rfl | decide | (simp only [decide_eq_true_eq, decide_eq_false_iff_not]; omega))) rfl rfl ?_) <;> (first | refine sops_pure (.free rfl rfl) rfl rfl (po_pick_t rfl rfl (by first | assumption | with_reducible rfl | decide | (simp only [decide_eq_true_eq, decide_eq_false_iff_not]; omega)) rfl) ?_ | refine sops_pure (.free rfl rfl) rfl rfl (po_pick_f rfl rfl (by first | assumption | with_reducible rfl | decide | (simp only [decide_eq_true_eq, decide_eq_false_iff_not]; omega)) rfl) ?_) <;> (refine sops_pure (.free rfl rfl) rfl rfl (po_assign rfl rfl) ?_) <;> (refine sops_nil ?_))
    | refine swp_ret ?_
    | refine swp_skip ?_
    | refine swp_block ?_
    | refine swp_exit ?_
    | refine block_go ?_
    | refine block_exit ?_
    | refine block_far rfl ?_
    | refine block_ret ?_
    | refine then_ret ?_
    | refine then_exit ?_
    | refine for_ret ?_
    | refine for_exit ?_
    | refine swp_cond_t rfl (by first | assumption | with_reducible rfl | decide | (simp only [decide_eq_true_eq, Bool.not_eq_true', decide_eq_false_iff_not]; omega)) ?_
    | refine swp_cond_f rfl (by first | assumption | with_reducible rfl | decide | (simp only [decide_eq_false_iff_not, Bool.not_eq_false', decide_eq_true_eq]; omega)) ?_
    | refine swp_cond rfl (fun hc => ?_) (fun hc => ?_)
    | refine retq (by first | exact .inr rfl | exact .inl rfl) rfl (.tmp rfl (by first | exact .t _ | exact .own rfl rfl | exact .nil _ | exact .emp _) .nil) ?_)
  all_goals
    refine eq_b ?_
    simp at *; simp [*]
set_option maxRecDepth 100000 in
theorem printN_ (a : Pl.Asker) (h : mayN a.ns a.sa = true) : PCalls Try.prog 86 [.agg (nameT a)] (.v (.string (nameText a.ns a.sa))) := by
  obtain ⟨h1, h2⟩ := mayN_len h
  have e : nameText a.ns a.sa = pre1 ++ a.ns ++ pre2 ++ a.sa := by unfold nameText; rw [if_pos h]
  have p1 : pre1.size = 17 := rfl
  have p2 : pre2.size = 4 := rfl
  have q1 : (pre1 ++ a.ns).size = 17 + a.ns.size := by simp [p1]
  have q2 : (pre1 ++ a.ns ++ pre2).size = 21 + a.ns.size := by simp [p1, p2]; omega
  rw [e]
  unfold nameT
  refine pcalls_of Try.func86 rfl rfl Try.ntmps86 rfl ?_
  repeat' (first
    | refine then_go ?_
    | refine swp_seq ?_
    | ((refine swp_region (id := 0) ?_) <;> (refine sops_box (.free rfl rfl) rfl rfl rfl rfl rfl rfl ?_) <;> (refine sops_pure (.free rfl rfl) rfl rfl (po_assign rfl rfl) ?_) <;> (refine sops_nil ?_))
    | ((refine swp_region (id := 1) ?_) <;> (first | refine sops_pure (.free rfl rfl) rfl rfl (po_field_bx rfl rfl (tyF rfl)) ?_ | refine sops_pure (.free rfl rfl) rfl rfl (po_field rfl rfl (tyF rfl)) ?_) <;> (first | refine sops_pure (.free rfl rfl) rfl rfl (po_load_bx rfl rfl (tyT rfl) rfl rfl) ?_ | refine sops_pure (.free rfl rfl) rfl rfl (po_load rfl rfl (tyT rfl) rfl) ?_) <;> (first | refine sops_pure (.free rfl rfl) rfl rfl (po_cat (i := pre1) rfl rfl rfl (by omega)) ?_ | refine sops_pure (.free rfl rfl) rfl rfl (po_cat (i := pre1 ++ a.ns) (j := pre2) rfl rfl rfl (by omega)) ?_ | refine sops_pure (.free rfl rfl) rfl rfl (po_cat (i := pre1 ++ a.ns ++ pre2) rfl rfl rfl (by omega)) ?_ | refine sops_pure (.free rfl rfl) rfl rfl (po_cat rfl rfl rfl (by omega)) ?_) <;> (first | refine sops_pure (.free rfl rfl) rfl rfl (po_cat (i := pre1) rfl rfl rfl (by omega)) ?_ | refine sops_pure (.free rfl rfl) rfl rfl (po_cat (i := pre1 ++ a.ns) (j := pre2) rfl rfl rfl (by omega)) ?_ | refine sops_pure (.free rfl rfl) rfl rfl (po_cat (i := pre1 ++ a.ns ++ pre2) rfl rfl rfl (by omega)) ?_ | refine sops_pure (.free rfl rfl) rfl rfl (po_cat rfl rfl rfl (by omega)) ?_) <;> (first | refine sops_pure (.free rfl rfl) rfl rfl (po_field_bx rfl rfl (tyF rfl)) ?_ | refine sops_pure (.free rfl rfl) rfl rfl (po_field rfl rfl (tyF rfl)) ?_) <;> (first | refine sops_pure (.free rfl rfl) rfl rfl (po_load_bx rfl rfl (tyT rfl) rfl rfl) ?_ | refine sops_pure (.free rfl rfl) rfl rfl (po_load rfl rfl (tyT rfl) rfl) ?_) <;> (first | refine sops_pure (.free rfl rfl) rfl rfl (po_cat (i := pre1) rfl rfl rfl (by omega)) ?_ | refine sops_pure (.free rfl rfl) rfl rfl (po_cat (i := pre1 ++ a.ns) (j := pre2) rfl rfl rfl (by omega)) ?_ | refine sops_pure (.free rfl rfl) rfl rfl (po_cat (i := pre1 ++ a.ns ++ pre2) rfl rfl rfl (by omega)) ?_ | refine sops_pure (.free rfl rfl) rfl rfl (po_cat rfl rfl rfl (by omega)) ?_) <;> (refine sops_pure (.free rfl rfl) rfl rfl (po_assign rfl rfl) ?_) <;> (refine sops_nil ?_))
    | refine swp_ret ?_
    | refine swp_skip ?_
    | refine swp_block ?_
    | refine swp_exit ?_
    | refine block_go ?_
    | refine block_exit ?_
    | refine block_far rfl ?_
    | refine block_ret ?_
    | refine then_ret ?_
    | refine then_exit ?_
    | refine for_ret ?_
    | refine for_exit ?_
    | refine swp_cond_t rfl (by first | assumption | with_reducible rfl | decide | (simp only [decide_eq_true_eq, Bool.not_eq_true', decide_eq_false_iff_not]; omega)) ?_
    | refine swp_cond_f rfl (by first | assumption | with_reducible rfl | decide | (simp only [decide_eq_false_iff_not, Bool.not_eq_false', decide_eq_true_eq]; omega)) ?_
    | refine swp_cond rfl (fun hc => ?_) (fun hc => ?_)
    | refine retq (by first | exact .inr rfl | exact .inl rfl) rfl (.tmp rfl (by first | exact .t _ | exact .own rfl rfl | exact .nil _ | exact .emp _) .nil) ?_)
  rfl
theorem any_ (s : ByteArray) (ts : List Pl.Term) (hs : s.size ≤ maxLen) (ht : ∀ t ∈ ts, okTerm t) (hn : ts.length ≤ 1000) : PCalls Try.prog 31 [.v (.string s), .sl 2 (ts.map termT)] (.v (.bool (anyT s ts))) where
  ent := ent_of Try.func31 rfl rfl
  run := fun m w vals hm hvl hv => by
    obtain ⟨x0, x1, rfl, h0, h1⟩ := args2 hvl hv
    obtain ⟨A, cap, e, hA, hc1, hc2⟩ := sl_fwd hm (by omega) (term_fwd hm) ht h1
    injection e with e; subst e
    rw [tr_v h0]
    refine (WMatch.refAny s A cap ts w (Nat.le_refl _) hA hs (Nat.le_trans hc1 hc2)).mono fun e w' ⟨he, hlo⟩ => ?_
    rw [he]
    exact post_ex hm hlo (.v _)
set_option maxRecDepth 100000 in
theorem lets_ (s : ByteArray) (ts : List Pl.Term) (hs : s.size ≤ maxLen) (ht : ∀ t ∈ ts, okTerm t) (hn : ts.length ≤ 1000) : PCalls Try.prog 88 [.v (.string s), .sl 2 (ts.map termT)] (.v (.bool (letsT s ts))) := by
  have ha := any_ s ts hs ht hn
  have hm : (ts.map termT).length = ts.length := List.length_map _
  refine pcalls_of Try.func88 rfl rfl Try.ntmps88 rfl ?_
  unfold letsT
  repeat' (first
    | refine then_go ?_
    | refine swp_seq ?_
    | ((refine swp_region (id := 0) ?_) <;> (refine sops_pure (.free rfl rfl) rfl rfl (po_assign rfl rfl) ?_) <;> (refine sops_nil ?_))
    | ((refine swp_region (id := 1) ?_) <;> (refine sops_pure (.free rfl rfl) rfl rfl (po_move rfl rfl) ?_) <;> (refine sops_pure (.free rfl rfl) rfl rfl (po_len rfl rfl (by first | exact .t _ | exact .own rfl rfl | exact .nil _ | exact .emp _) (tyS rfl)) ?_) <;> (refine sops_pure (.free rfl rfl) rfl rfl (po_cmp rfl rfl rfl rfl) ?_) <;> (refine sops_pure (.free rfl rfl) rfl rfl (po_move rfl rfl) ?_) <;> (first | refine sops_pure (.yes rfl rfl rfl (by first | assumption | with_reducible rfl | decide | (simp only [decide_eq_true_eq, decide_eq_false_iff_not]; omega))) rfl rfl (po_move rfl rfl) ?_ | refine sops_skip (.no0 rfl rfl rfl (by first | assumption | with_reducible rfl | decide | (simp only [decide_eq_true_eq, decide_eq_false_iff_not]; omega))) rfl rfl ?_ | ((refine sops_split rfl rfl rfl (fun hc => ?_) (fun hc => ?_)) <;> (first | refine sops_pure (.yes rfl rfl rfl (by first | assumption | with_reducible rfl | decide | (simp only [decide_eq_true_eq, decide_eq_false_iff_not]; omega))) rfl rfl (po_move rfl rfl) ?_ | refine sops_skip (.no0 rfl rfl rfl (by first | assumption | with_reducible rfl | decide | (simp only [decide_eq_true_eq, decide_eq_false_iff_not]; omega))) rfl rfl ?_))) <;> (first | refine sops_pure (.yes rfl rfl rfl (by first | assumption | with_reducible rfl | decide | (simp only [decide_eq_true_eq, decide_eq_false_iff_not]; omega))) rfl rfl (po_move rfl rfl) ?_ | refine sops_skip (.no0 rfl rfl rfl (by first | assumption | with_reducible rfl | decide | (simp only [decide_eq_true_eq, decide_eq_false_iff_not]; omega))) rfl rfl ?_) <;> (first | refine sops_pure (.yes rfl rfl rfl (by first | assumption | with_reducible rfl | decide | (simp only [decide_eq_true_eq, decide_eq_false_iff_not]; omega))) rfl rfl (po_call (ha) rfl (.cons rfl (by first | exact .t _ | exact .own rfl rfl | exact .nil _ | exact .emp _) (.cons rfl (by first | exact .t _ | exact .own rfl rfl | exact .nil _ | exact .emp _) .nil))) ?_ | refine sops_skip (.no0 rfl rfl rfl (by first | assumption | with_reducible rfl | decide | (simp only [decide_eq_true_eq, decide_eq_false_iff_not]; omega))) rfl rfl ?_) <;> (first | refine sops_pure (.free rfl rfl) rfl rfl (po_pick_t rfl rfl (by first | assumption | with_reducible rfl | decide | (simp only [decide_eq_true_eq, decide_eq_false_iff_not]; omega)) rfl) ?_ | refine sops_pure (.free rfl rfl) rfl rfl (po_pick_f rfl rfl (by first | assumption | with_reducible rfl | decide | (simp only [decide_eq_true_eq, decide_eq_false_iff_not]; omega)) rfl) ?_) <;> (refine sops_pure (.free rfl rfl) rfl rfl (po_assign rfl rfl) ?_) <;> (refine sops_nil ?_))
    | refine swp_ret ?_
    | refine swp_skip ?_
    | refine swp_block ?_
    | refine swp_exit ?_
    | refine block_go ?_
    | refine block_exit ?_
    | refine block_far rfl ?_
    | refine block_ret ?_
    | refine then_ret ?_
    | refine then_exit ?_
    | refine for_ret ?_
    | refine for_exit ?_
    | refine swp_cond_t rfl (by first | assumption | with_reducible rfl | decide | (simp only [decide_eq_true_eq, Bool.not_eq_true', decide_eq_false_iff_not]; omega)) ?_
    | refine swp_cond_f rfl (by first | assumption | with_reducible rfl | decide | (simp only [decide_eq_false_iff_not, Bool.not_eq_false', decide_eq_true_eq]; omega)) ?_
    | refine swp_cond rfl (fun hc => ?_) (fun hc => ?_)
    | refine retq (by first | exact .inr rfl | exact .inl rfl) rfl (.tmp rfl (by first | exact .t _ | exact .own rfl rfl | exact .nil _ | exact .emp _) .nil) ?_)
  all_goals
    refine eq_b ?_
    clear ha hs ht
    cases ts <;> simp_all
    try omega
end Go.Proofs.Ytlcecabfmemfeaa.Pol

/- The document's answer for policies: copies. -/
namespace Go.Proofs.Ytlcecabfmemfeaa.Pol
set_option linter.unusedVariables false
set_option linter.unusedSimpArgs false
open Go.RowKit Mem Sim Opn
abbrev nil0 : A := .t (.v (.slice none 0 0))
abbrev rcells (r : Pl.Rule) : List A := [.t (.sl 3 (r.from_.map sourceT)), .t (.sl 4 (r.to_.map targetT)), .t (.sl 2 (r.when_.map whenT))]
def C1 (r : Pl.Rule) (k : Nat) : St := ⟨[(1, .bp 1 0), (2, .bp 2 0), (3, .bp 3 0), (4, .t (.v (.int .i64 (k : Int))))], [(1, rcells r), (2, [nil0, nil0, nil0]), (3, [.own 103 ((r.from_.take k).map sourceT).length, nil0, nil0])], [(103, ⟨80, 3, (r.from_.take k).map sourceT⟩)]⟩
theorem map_take_succ {α β : Type} (f : α → β) {l : List α} {k : Nat} (h : k < l.length) : (l.take (k + 1)).map f = (l.take k).map f ++ [f l[k]] := by
  rw [List.take_succ_eq_append_getElem h, List.map_append]; rfl
/-- rows that are no longer than so -/
structure FewR (r : Pl.Rule) : Prop where
  f : r.from_.length ≤ 1000
  t : r.to_.length ≤ 1000
  w : r.when_.length ≤ 1000
  fs : ∀ s ∈ r.from_, s.names.length ≤ 1000 ∧ s.spaces.length ≤ 1000 ∧ s.nets.length ≤ 1000
  ts : ∀ s ∈ r.to_, s.ports.length ≤ 1000 ∧ s.methods.length ≤ 1000 ∧ s.paths.length ≤ 1000 ∧ s.hosts.length ≤ 1000
  ws : ∀ s ∈ r.when_, s.terms.length ≤ 1000
theorem few_b {α : Type} {f : α → List T} {l : List α} (n : Nat) (h : l.length ≤ 1000) (hn : n ≤ 1000) : (l.map f).length * n ≤ 140737488355328 := by
  rw [List.length_map]
  have := Nat.mul_le_mul h hn
  omega
theorem few_m {α : Type} {f : α → List T} {l : List α} (h : l.length ≤ 1000) : (l.map f).length ≤ maxLen := by rw [List.length_map]; unfold maxLen; omega
def C2 (r : Pl.Rule) (k : Nat) : St := ⟨[(1, .bp 1 0), (2, .bp 2 0), (3, .bp 3 0), (6, .t (.v (.int .i64 (k : Int))))], [(1, rcells r), (2, [nil0, nil0, nil0]), (3, [.own 103 (r.from_.map sourceT).length, .own 104 ((r.to_.take k).map targetT).length, nil0])], [(103, ⟨80, 3, r.from_.map sourceT⟩), (104, ⟨84, 4, (r.to_.take k).map targetT⟩)]⟩
def C3 (r : Pl.Rule) (k : Nat) : St := ⟨[(1, .bp 1 0), (2, .bp 2 0), (3, .bp 3 0), (8, .t (.v (.int .i64 (k : Int))))], [(1, rcells r), (2, [nil0, nil0, nil0]), (3, [.own 103 (r.from_.map sourceT).length, .own 104 (r.to_.map targetT).length, .own 105 ((r.when_.take k).map whenT).length])], [(103, ⟨80, 3, r.from_.map sourceT⟩), (104, ⟨84, 4, r.to_.map targetT⟩), (105, ⟨87, 2, (r.when_.take k).map whenT⟩)]⟩
set_option maxRecDepth 100000 in
set_option maxHeartbeats 4000000 in
theorem copyRule_ (r : Pl.Rule) (hf : FewR r) : PCalls Try.prog 69 [.agg (ruleT r)] (.agg (ruleT r)) := by
  have h1 := hf.f
  have h2 := hf.t
  have h3 := hf.w
  have hm1 : (r.from_.map sourceT).length = r.from_.length := List.length_map _
  have hm2 : (r.to_.map targetT).length = r.to_.length := List.length_map _
  have hm3 : (r.when_.map whenT).length = r.when_.length := List.length_map _
  refine pcalls_of Try.func69 rfl rfl Try.ntmps69 rfl ?_
  repeat' (first
    | refine then_go ?_
    | refine swp_seq ?_
    | ((refine swp_region (id := 0) ?_) <;> (refine sops_box (.free rfl rfl) rfl rfl rfl rfl rfl rfl ?_) <;> (refine sops_allocS str71 (.free rfl rfl) rfl rfl rfl rfl ?_) <;> (refine sops_nil ?_))
    | ((refine swp_region (id := 1) ?_) <;> (refine sops_allocS str71 (.free rfl rfl) rfl rfl rfl rfl ?_) <;> (refine sops_nil ?_))
    | ((refine swp_region (id := 2) ?_) <;> (refine sops_pure (.free rfl rfl) rfl rfl (po_assign rfl rfl) ?_) <;> (refine sops_nil ?_))
    | refine swp_ret ?_
    | refine swp_skip ?_
    | refine swp_block ?_
    | refine swp_exit ?_
    | refine block_go ?_
    | refine block_exit ?_
    | refine block_far rfl ?_
    | refine block_ret ?_
    | refine then_ret ?_
    | refine then_exit ?_
    | refine for_ret ?_
    | refine for_exit ?_
    | refine swp_cond_t rfl (by first | assumption | with_reducible rfl | decide | (simp only [decide_eq_true_eq, Bool.not_eq_true', decide_eq_false_iff_not]; omega)) ?_
    | refine swp_cond_f rfl (by first | assumption | with_reducible rfl | decide | (simp only [decide_eq_false_iff_not, Bool.not_eq_false', decide_eq_true_eq]; omega)) ?_
    | refine swp_cond rfl (fun hc => ?_) (fun hc => ?_)
    | refine retq (by first | exact .inr rfl | exact .inl rfl) rfl (.cell rfl rfl (tyT rfl) (.cons (by first | exact .t _ | exact .own rfl rfl | exact .nil _ | exact .emp _) (.cons (by first | exact .t _ | exact .own rfl rfl | exact .nil _ | exact .emp _) (.cons (by first | exact .t _ | exact .own rfl rfl | exact .nil _ | exact .emp _) .nil))) rfl .nil) ?_)
  refine swp_for (C1 r) (fun _ => True) r.from_.length ?_ trivial ?_
  · refine Weak.trans (weak_own0_bx (q := 103) 80 3 (i := 3) (j := 0) rfl rfl rfl) ?_
    exact (weak_sub (.cons rfl rfl rfl (.cons rfl rfl rfl (.cons rfl rfl rfl (.cons rfl rfl rfl .nil)))) (.cons rfl rfl rfl (.cons rfl rfl rfl (.cons rfl rfl rfl .nil))) (.cons rfl rfl .nil))
  intro k hk _
  unfold C1
  by_cases hlt : k < r.from_.length
  · have hsn := map_take_succ sourceT hlt
    obtain ⟨b0, b1, b2⟩ := hf.fs _ (List.getElem_mem hlt)
    have e0 := few_b (f := termT) 24 b0 (by omega)
    have e1 := few_b (f := termT) 24 b1 (by omega)
    have e2 := few_b (f := cidrT) 16 b2 (by omega)
    have m0 := few_m (f := termT) b0
    have m1 := few_m (f := termT) b1
    have m2 := few_m (f := cidrT) b2
    repeat' (first
      | refine then_go ?_
      | refine swp_seq ?_
      | refine for_next hlt (weak_sub (.cons rfl (by first | rfl | (rw [hsn]; rfl)) rfl (.cons rfl (by first | rfl | (rw [hsn]; rfl)) rfl (.cons rfl (by first | rfl | (rw [hsn]; rfl)) rfl (.cons rfl (by first | rfl | (rw [hsn]; rfl)) rfl .nil)))) (.cons rfl (by first | rfl | (rw [hsn]; rfl)) rfl (.cons rfl (by first | rfl | (rw [hsn]; rfl)) rfl (.cons rfl (by first | rfl | (rw [hsn]; rfl)) rfl .nil))) (.cons rfl (by first | rfl | (rw [hsn]; rfl)) .nil)) trivial
      | ((refine swp_region (id := 3) ?_) <;> (refine sops_pure (.free rfl rfl) rfl rfl (po_move rfl rfl) ?_) <;> (first | refine sops_pure (.free rfl rfl) rfl rfl (po_field_bx rfl rfl (tyF rfl)) ?_ | refine sops_pure (.free rfl rfl) rfl rfl (po_field rfl rfl (tyF rfl)) ?_) <;> (first | refine sops_pure (.free rfl rfl) rfl rfl (po_load_bx rfl rfl (tyT rfl) rfl rfl) ?_ | refine sops_pure (.free rfl rfl) rfl rfl (po_load rfl rfl (tyT rfl) rfl) ?_) <;> (refine sops_pure (.free rfl rfl) rfl rfl (po_len rfl rfl (by first | exact .t _ | exact .own rfl rfl | exact .nil _ | exact .emp _) (tyS rfl)) ?_) <;> (refine sops_pure (.free rfl rfl) rfl rfl (po_cmp rfl rfl rfl rfl) ?_) <;> (refine sops_nil ?_))
      | ((refine swp_region (id := 5) ?_) <;> (first | refine sops_pure (.free rfl rfl) rfl rfl (po_field_bx rfl rfl (tyF rfl)) ?_ | refine sops_pure (.free rfl rfl) rfl rfl (po_field rfl rfl (tyF rfl)) ?_) <;> (first | refine sops_pure (.free rfl rfl) rfl rfl (po_load_bx rfl rfl (tyT rfl) rfl rfl) ?_ | refine sops_pure (.free rfl rfl) rfl rfl (po_load rfl rfl (tyT rfl) rfl) ?_) <;> (refine sops_pure (.free rfl rfl) rfl rfl (po_move rfl rfl) ?_) <;> (refine sops_pure (.free rfl rfl) rfl rfl (po_index rfl rfl (by first | exact .t _ | exact .own rfl rfl | exact .nil _ | exact .emp _) rfl (tyS rfl) (by first | rfl | omega) (by first | rfl | assumption | exact map_at (by first | assumption | omega))) ?_) <;> (first | refine sops_pure (.free rfl rfl) rfl rfl (po_load_bx_agg rfl rfl (tyT rfl) rfl (.cons (by first | exact .t _ | exact .own rfl rfl | exact .nil _ | exact .emp _) (.cons (by first | exact .t _ | exact .own rfl rfl | exact .nil _ | exact .emp _) (.cons (by first | exact .t _ | exact .own rfl rfl | exact .nil _ | exact .emp _) .nil))) rfl) ?_ | refine sops_pure (.free rfl rfl) rfl rfl (po_load_agg rfl rfl (tyT rfl) rfl rfl) ?_) <;> (refine sops_allocS str80 (.free rfl rfl) rfl rfl rfl rfl ?_) <;> (refine sops_store (.free rfl rfl) rfl rfl rfl rfl rfl rfl (tyT rfl) rfl rfl ?_) <;> (refine sops_nil ?_))
      | ((refine swp_draw (id := 6) 16 mixed (by kernel_rfl) (by kernel_rfl) ?_) <;> (first | refine sdraw_pure (.free rfl rfl) rfl (po_field_bx rfl rfl (tyF rfl)) ?_ | refine sdraw_pure (.free rfl rfl) rfl (po_field rfl rfl (tyF rfl)) ?_) <;> (first | refine sdraw_pure (.free rfl rfl) rfl (po_load_bx rfl rfl (tyT rfl) rfl rfl) ?_ | refine sdraw_pure (.free rfl rfl) rfl (po_load rfl rfl (tyT rfl) rfl) ?_) <;> (refine sdraw_pure (.free rfl rfl) rfl (po_buildSlice0 rfl (tyE rfl)) ?_) <;> (first | refine sdraw_pure (.free rfl rfl) rfl (po_field_bx rfl rfl (tyF rfl)) ?_ | refine sdraw_pure (.free rfl rfl) rfl (po_field rfl rfl (tyF rfl)) ?_) <;> (first | refine sdraw_pure (.free rfl rfl) rfl (po_load_bx rfl rfl (tyT rfl) rfl rfl) ?_ | refine sdraw_pure (.free rfl rfl) rfl (po_load rfl rfl (tyT rfl) rfl) ?_) <;> (refine sdraw_pure (.free rfl rfl) rfl (po_append_new rfl rfl rfl (by first | exact .emp | exact .nil) rfl (by first | exact .t _ | exact .own rfl rfl | exact .nil _ | exact .emp _) (tyE rfl) (by first | assumption | (simp at *; omega)) (by first | assumption | (simp [maxLen] at *; omega))) ?_) <;> (refine sdraw_pure (.free rfl rfl) rfl (po_buildSlice0 rfl (tyE rfl)) ?_) <;> (first | refine sdraw_pure (.free rfl rfl) rfl (po_field_bx rfl rfl (tyF rfl)) ?_ | refine sdraw_pure (.free rfl rfl) rfl (po_field rfl rfl (tyF rfl)) ?_) <;> (first | refine sdraw_pure (.free rfl rfl) rfl (po_load_bx rfl rfl (tyT rfl) rfl rfl) ?_ | refine sdraw_pure (.free rfl rfl) rfl (po_load rfl rfl (tyT rfl) rfl) ?_) <;> (refine sdraw_pure (.free rfl rfl) rfl (po_append_new rfl rfl rfl (by first | exact .emp | exact .nil) rfl (by first | exact .t _ | exact .own rfl rfl | exact .nil _ | exact .emp _) (tyE rfl) (by first | assumption | (simp at *; omega)) (by first | assumption | (simp [maxLen] at *; omega))) ?_) <;> (refine sdraw_pure (.free rfl rfl) rfl (po_buildSlice0 rfl (tyE rfl)) ?_) <;> (first | refine sdraw_pure (.free rfl rfl) rfl (po_field_bx rfl rfl (tyF rfl)) ?_ | refine sdraw_pure (.free rfl rfl) rfl (po_field rfl rfl (tyF rfl)) ?_) <;> (first | refine sdraw_pure (.free rfl rfl) rfl (po_load_bx rfl rfl (tyT rfl) rfl rfl) ?_ | refine sdraw_pure (.free rfl rfl) rfl (po_load rfl rfl (tyT rfl) rfl) ?_) <;> (refine sdraw_pure (.free rfl rfl) rfl (po_append_new rfl rfl rfl (by first | exact .emp | exact .nil) rfl (by first | exact .t _ | exact .own rfl rfl | exact .nil _ | exact .emp _) (tyE rfl) (by first | assumption | (simp at *; omega)) (by first | assumption | (simp [maxLen] at *; omega))) ?_) <;> (refine sdraw_pure (.free rfl rfl) rfl (po_buildS str80 rfl (.cons rfl (by first | exact .t _ | exact .own rfl rfl | exact .nil _ | exact .emp _) (.cons rfl (by first | exact .t _ | exact .own rfl rfl | exact .nil _ | exact .emp _) (.cons rfl (by first | exact .t _ | exact .own rfl rfl | exact .nil _ | exact .emp _) .nil))) rfl) ?_) <;> (refine sdraw_pure (.free rfl rfl) rfl (po_buildSlice rfl (tyE rfl) (.cons rfl (by first | exact .t _ | exact .own rfl rfl | exact .nil _ | exact .emp _) rfl rfl (.nil _)) rfl rfl rfl) ?_) <;> (refine sdraw_nil ?_) <;> (first | refine sops_append rfl rfl rfl rfl rfl rfl (by first | rfl | simp) rfl (by first | exact .t _ | exact .own rfl rfl | exact .nil _ | exact .emp _) (tyE rfl) (by first | assumption | (simp at *; omega)) (by first | assumption | (simp [maxLen] at *; omega)) ?_ | refine sops_append_nil rfl rfl rfl rfl rfl rfl rfl (by first | exact .t _ | exact .own rfl rfl | exact .nil _ | exact .emp _) (tyE rfl) (by first | assumption | (simp at *; omega)) (by first | assumption | (simp [maxLen] at *; omega)) ?_) <;> (first | refine sops_pure (.free rfl rfl) rfl rfl (po_field_bx rfl rfl (tyF rfl)) ?_ | refine sops_pure (.free rfl rfl) rfl rfl (po_field rfl rfl (tyF rfl)) ?_) <;> (refine sops_store (.free rfl rfl) rfl rfl rfl rfl rfl rfl (tyT rfl) rfl rfl ?_) <;> (refine sops_nil ?_))
      | ((refine swp_region (id := 4) ?_) <;> (refine sops_pure (.free rfl rfl) rfl rfl (po_move rfl rfl) ?_) <;> (first | refine sops_pure (.free rfl rfl) rfl rfl (po_inc rfl rfl rfl (by omega)) ?_ | refine sops_pure (.free rfl rfl) rfl rfl (po_arith rfl rfl rfl (ar_add (by first | rfl | (refine wrap_i64 ?_; omega)) rfl)) ?_) <;> (refine sops_pure (.free rfl rfl) rfl rfl (po_assign rfl rfl) ?_) <;> (refine sops_nil ?_))
      | refine swp_ret ?_
      | refine swp_skip ?_
      | refine swp_block ?_
      | refine swp_exit ?_
      | refine block_go ?_
      | refine block_exit ?_
      | refine block_far rfl ?_
      | refine block_ret ?_
      | refine then_ret ?_
      | refine then_exit ?_
      | refine for_ret ?_
      | refine for_exit ?_
      | refine swp_cond_t rfl (by first | assumption | with_reducible rfl | decide | (simp only [decide_eq_true_eq, Bool.not_eq_true', decide_eq_false_iff_not]; omega)) ?_
      | refine swp_cond_f rfl (by first | assumption | with_reducible rfl | decide | (simp only [decide_eq_false_iff_not, Bool.not_eq_false', decide_eq_true_eq]; omega)) ?_
      | refine swp_cond rfl (fun hc => ?_) (fun hc => ?_)
      | refine retq (by first | exact .inr rfl | exact .inl rfl) rfl (.cell rfl rfl (tyT rfl) (.cons (by first | exact .t _ | exact .own rfl rfl | exact .nil _ | exact .emp _) (.cons (by first | exact .t _ | exact .own rfl rfl | exact .nil _ | exact .emp _) (.cons (by first | exact .t _ | exact .own rfl rfl | exact .nil _ | exact .emp _) .nil))) rfl .nil) ?_)
  · obtain rfl : k = r.from_.length := by omega
    repeat' (first
      | refine then_go ?_
      | refine swp_seq ?_
      | ((refine swp_region (id := 3) ?_) <;> (refine sops_pure (.free rfl rfl) rfl rfl (po_move rfl rfl) ?_) <;> (first | refine sops_pure (.free rfl rfl) rfl rfl (po_field_bx rfl rfl (tyF rfl)) ?_ | refine sops_pure (.free rfl rfl) rfl rfl (po_field rfl rfl (tyF rfl)) ?_) <;> (first | refine sops_pure (.free rfl rfl) rfl rfl (po_load_bx rfl rfl (tyT rfl) rfl rfl) ?_ | refine sops_pure (.free rfl rfl) rfl rfl (po_load rfl rfl (tyT rfl) rfl) ?_) <;> (refine sops_pure (.free rfl rfl) rfl rfl (po_len rfl rfl (by first | exact .t _ | exact .own rfl rfl | exact .nil _ | exact .emp _) (tyS rfl)) ?_) <;> (refine sops_pure (.free rfl rfl) rfl rfl (po_cmp rfl rfl rfl rfl) ?_) <;> (refine sops_nil ?_))
      | ((refine swp_region (id := 7) ?_) <;> (refine sops_pure (.free rfl rfl) rfl rfl (po_assign rfl rfl) ?_) <;> (refine sops_nil ?_))
      | refine swp_ret ?_
      | refine swp_skip ?_
      | refine swp_block ?_
      | refine swp_exit ?_
      | refine block_go ?_
      | refine block_exit ?_
      | refine block_far rfl ?_
      | refine block_ret ?_
      | refine then_ret ?_
      | refine then_exit ?_
      | refine for_ret ?_
      | refine for_exit ?_
      | refine swp_cond_t rfl (by first | assumption | with_reducible rfl | decide | (simp only [decide_eq_true_eq, Bool.not_eq_true', decide_eq_false_iff_not]; omega)) ?_
      | refine swp_cond_f rfl (by first | assumption | with_reducible rfl | decide | (simp only [decide_eq_false_iff_not, Bool.not_eq_false', decide_eq_true_eq]; omega)) ?_
      | refine swp_cond rfl (fun hc => ?_) (fun hc => ?_)
      | refine retq (by first | exact .inr rfl | exact .inl rfl) rfl (.cell rfl rfl (tyT rfl) (.cons (by first | exact .t _ | exact .own rfl rfl | exact .nil _ | exact .emp _) (.cons (by first | exact .t _ | exact .own rfl rfl | exact .nil _ | exact .emp _) (.cons (by first | exact .t _ | exact .own rfl rfl | exact .nil _ | exact .emp _) .nil))) rfl .nil) ?_)
    refine swp_for (C2 r) (fun _ => True) r.to_.length ?_ trivial ?_
    · refine Weak.trans (weak_own0_bx (q := 104) 84 4 (i := 3) (j := 1) rfl rfl rfl) ?_
      rw [List.take_length]
      exact (weak_sub (.cons rfl rfl rfl (.cons rfl rfl rfl (.cons rfl rfl rfl (.cons rfl rfl rfl .nil)))) (.cons rfl rfl rfl (.cons rfl rfl rfl (.cons rfl rfl rfl .nil))) (.cons rfl rfl (.cons rfl rfl .nil)))
    intro k hk _
    unfold C2
    by_cases hlt : k < r.to_.length
    · have hsn := map_take_succ targetT hlt
      obtain ⟨b0, b1, b2, b3⟩ := hf.ts _ (List.getElem_mem hlt)
      have e0 := few_b (f := intT) 8 b0 (by omega)
      have e1 := few_b (f := termT) 24 b1 (by omega)
      have e2 := few_b (f := termT) 24 b2 (by omega)
      have e3 := few_b (f := termT) 24 b3 (by omega)
      have m0 := few_m (f := intT) b0
      have m1 := few_m (f := termT) b1
      have m2 := few_m (f := termT) b2
      have m3 := few_m (f := termT) b3
      repeat' (first
        | refine then_go ?_
        | refine swp_seq ?_
        | refine for_next hlt (weak_sub (.cons rfl (by first | rfl | (rw [hsn]; rfl)) rfl (.cons rfl (by first | rfl | (rw [hsn]; rfl)) rfl (.cons rfl (by first | rfl | (rw [hsn]; rfl)) rfl (.cons rfl (by first | rfl | (rw [hsn]; rfl)) rfl .nil)))) (.cons rfl (by first | rfl | (rw [hsn]; rfl)) rfl (.cons rfl (by first | rfl | (rw [hsn]; rfl)) rfl (.cons rfl (by first | rfl | (rw [hsn]; rfl)) rfl .nil))) (.cons rfl (by first | rfl | (rw [hsn]; rfl)) (.cons rfl (by first | rfl | (rw [hsn]; rfl)) .nil))) trivial
        | ((refine swp_region (id := 8) ?_) <;> (refine sops_pure (.free rfl rfl) rfl rfl (po_move rfl rfl) ?_) <;> (first | refine sops_pure (.free rfl rfl) rfl rfl (po_field_bx rfl rfl (tyF rfl)) ?_ | refine sops_pure (.free rfl rfl) rfl rfl (po_field rfl rfl (tyF rfl)) ?_) <;> (first | refine sops_pure (.free rfl rfl) rfl rfl (po_load_bx rfl rfl (tyT rfl) rfl rfl) ?_ | refine sops_pure (.free rfl rfl) rfl rfl (po_load rfl rfl (tyT rfl) rfl) ?_) <;> (refine sops_pure (.free rfl rfl) rfl rfl (po_len rfl rfl (by first | exact .t _ | exact .own rfl rfl | exact .nil _ | exact .emp _) (tyS rfl)) ?_) <;> (refine sops_pure (.free rfl rfl) rfl rfl (po_cmp rfl rfl rfl rfl) ?_) <;> (refine sops_nil ?_))
        | ((refine swp_region (id := 10) ?_) <;> (first | refine sops_pure (.free rfl rfl) rfl rfl (po_field_bx rfl rfl (tyF rfl)) ?_ | refine sops_pure (.free rfl rfl) rfl rfl (po_field rfl rfl (tyF rfl)) ?_) <;> (first | refine sops_pure (.free rfl rfl) rfl rfl (po_load_bx rfl rfl (tyT rfl) rfl rfl) ?_ | refine sops_pure (.free rfl rfl) rfl rfl (po_load rfl rfl (tyT rfl) rfl) ?_) <;> (refine sops_pure (.free rfl rfl) rfl rfl (po_move rfl rfl) ?_) <;> (refine sops_pure (.free rfl rfl) rfl rfl (po_index rfl rfl (by first | exact .t _ | exact .own rfl rfl | exact .nil _ | exact .emp _) rfl (tyS rfl) (by first | rfl | omega) (by first | rfl | assumption | exact map_at (by first | assumption | omega))) ?_) <;> (first | refine sops_pure (.free rfl rfl) rfl rfl (po_load_bx_agg rfl rfl (tyT rfl) rfl (.cons (by first | exact .t _ | exact .own rfl rfl | exact .nil _ | exact .emp _) (.cons (by first | exact .t _ | exact .own rfl rfl | exact .nil _ | exact .emp _) (.cons (by first | exact .t _ | exact .own rfl rfl | exact .nil _ | exact .emp _) (.cons (by first | exact .t _ | exact .own rfl rfl | exact .nil _ | exact .emp _) .nil)))) rfl) ?_ | refine sops_pure (.free rfl rfl) rfl rfl (po_load_agg rfl rfl (tyT rfl) rfl rfl) ?_) <;> (refine sops_allocS str84 (.free rfl rfl) rfl rfl rfl rfl ?_) <;> (refine sops_store (.free rfl rfl) rfl rfl rfl rfl rfl rfl (tyT rfl) rfl rfl ?_) <;> (refine sops_nil ?_))
        | ((refine swp_draw (id := 11) 20 mixed (by kernel_rfl) (by kernel_rfl) ?_) <;> (first | refine sdraw_pure (.free rfl rfl) rfl (po_field_bx rfl rfl (tyF rfl)) ?_ | refine sdraw_pure (.free rfl rfl) rfl (po_field rfl rfl (tyF rfl)) ?_) <;> (first | refine sdraw_pure (.free rfl rfl) rfl (po_load_bx rfl rfl (tyT rfl) rfl rfl) ?_ | refine sdraw_pure (.free rfl rfl) rfl (po_load rfl rfl (tyT rfl) rfl) ?_) <;> (refine sdraw_pure (.free rfl rfl) rfl (po_buildSlice0 rfl (tyE rfl)) ?_) <;> (first | refine sdraw_pure (.free rfl rfl) rfl (po_field_bx rfl rfl (tyF rfl)) ?_ | refine sdraw_pure (.free rfl rfl) rfl (po_field rfl rfl (tyF rfl)) ?_) <;> (first | refine sdraw_pure (.free rfl rfl) rfl (po_load_bx rfl rfl (tyT rfl) rfl rfl) ?_ | refine sdraw_pure (.free rfl rfl) rfl (po_load rfl rfl (tyT rfl) rfl) ?_) <;> (refine sdraw_pure (.free rfl rfl) rfl (po_append_new rfl rfl rfl (by first | exact .emp | exact .nil) rfl (by first | exact .t _ | exact .own rfl rfl | exact .nil _ | exact .emp _) (tyE rfl) (by first | assumption | (simp at *; omega)) (by first | assumption | (simp [maxLen] at *; omega))) ?_) <;> (refine sdraw_pure (.free rfl rfl) rfl (po_buildSlice0 rfl (tyE rfl)) ?_) <;> (first | refine sdraw_pure (.free rfl rfl) rfl (po_field_bx rfl rfl (tyF rfl)) ?_ | refine sdraw_pure (.free rfl rfl) rfl (po_field rfl rfl (tyF rfl)) ?_) <;> (first | refine sdraw_pure (.free rfl rfl) rfl (po_load_bx rfl rfl (tyT rfl) rfl rfl) ?_ | refine sdraw_pure (.free rfl rfl) rfl (po_load rfl rfl (tyT rfl) rfl) ?_) <;> (refine sdraw_pure (.free rfl rfl) rfl (po_append_new rfl rfl rfl (by first | exact .emp | exact .nil) rfl (by first | exact .t _ | exact .own rfl rfl | exact .nil _ | exact .emp _) (tyE rfl) (by first | assumption | (simp at *; omega)) (by first | assumption | (simp [maxLen] at *; omega))) ?_) <;> (refine sdraw_pure (.free rfl rfl) rfl (po_buildSlice0 rfl (tyE rfl)) ?_) <;> (first | refine sdraw_pure (.free rfl rfl) rfl (po_field_bx rfl rfl (tyF rfl)) ?_ | refine sdraw_pure (.free rfl rfl) rfl (po_field rfl rfl (tyF rfl)) ?_) <;> (first | refine sdraw_pure (.free rfl rfl) rfl (po_load_bx rfl rfl (tyT rfl) rfl rfl) ?_ | refine sdraw_pure (.free rfl rfl) rfl (po_load rfl rfl (tyT rfl) rfl) ?_) <;> (refine sdraw_pure (.free rfl rfl) rfl (po_append_new rfl rfl rfl (by first | exact .emp | exact .nil) rfl (by first | exact .t _ | exact .own rfl rfl | exact .nil _ | exact .emp _) (tyE rfl) (by first | assumption | (simp at *; omega)) (by first | assumption | (simp [maxLen] at *; omega))) ?_) <;> (refine sdraw_pure (.free rfl rfl) rfl (po_buildSlice0 rfl (tyE rfl)) ?_) <;> (first | refine sdraw_pure (.free rfl rfl) rfl (po_field_bx rfl rfl (tyF rfl)) ?_ | refine sdraw_pure (.free rfl rfl) rfl (po_field rfl rfl (tyF rfl)) ?_) <;> (first | refine sdraw_pure (.free rfl rfl) rfl (po_load_bx rfl rfl (tyT rfl) rfl rfl) ?_ | refine sdraw_pure (.free rfl rfl) rfl (po_load rfl rfl (tyT rfl) rfl) ?_) <;> (refine sdraw_pure (.free rfl rfl) rfl (po_append_new rfl rfl rfl (by first | exact .emp | exact .nil) rfl (by first | exact .t _ | exact .own rfl rfl | exact .nil _ | exact .emp _) (tyE rfl) (by first | assumption | (simp at *; omega)) (by first | assumption | (simp [maxLen] at *; omega))) ?_) <;> (refine sdraw_pure (.free rfl rfl) rfl (po_buildS str84 rfl (.cons rfl (by first | exact .t _ | exact .own rfl rfl | exact .nil _ | exact .emp _) (.cons rfl (by first | exact .t _ | exact .own rfl rfl | exact .nil _ | exact .emp _) (.cons rfl (by first | exact .t _ | exact .own rfl rfl | exact .nil _ | exact .emp _) (.cons rfl (by first | exact .t _ | exact .own rfl rfl | exact .nil _ | exact .emp _) .nil)))) rfl) ?_) <;> (refine sdraw_pure (.free rfl rfl) rfl (po_buildSlice rfl (tyE rfl) (.cons rfl (by first | exact .t _ | exact .own rfl rfl | exact .nil _ | exact .emp _) rfl rfl (.nil _)) rfl rfl rfl) ?_) <;> (refine sdraw_nil ?_) <;> (first | refine sops_append rfl rfl rfl rfl rfl rfl (by first | rfl | simp) rfl (by first | exact .t _ | exact .own rfl rfl | exact .nil _ | exact .emp _) (tyE rfl) (by first | assumption | (simp at *; omega)) (by first | assumption | (simp [maxLen] at *; omega)) ?_ | refine sops_append_nil rfl rfl rfl rfl rfl rfl rfl (by first | exact .t _ | exact .own rfl rfl | exact .nil _ | exact .emp _) (tyE rfl) (by first | assumption | (simp at *; omega)) (by first | assumption | (simp [maxLen] at *; omega)) ?_) <;> (first | refine sops_pure (.free rfl rfl) rfl rfl (po_field_bx rfl rfl (tyF rfl)) ?_ | refine sops_pure (.free rfl rfl) rfl rfl (po_field rfl rfl (tyF rfl)) ?_) <;> (refine sops_store (.free rfl rfl) rfl rfl rfl rfl rfl rfl (tyT rfl) rfl rfl ?_) <;> (refine sops_nil ?_))
        | ((refine swp_region (id := 9) ?_) <;> (refine sops_pure (.free rfl rfl) rfl rfl (po_move rfl rfl) ?_) <;> (first | refine sops_pure (.free rfl rfl) rfl rfl (po_inc rfl rfl rfl (by omega)) ?_ | refine sops_pure (.free rfl rfl) rfl rfl (po_arith rfl rfl rfl (ar_add (by first | rfl | (refine wrap_i64 ?_; omega)) rfl)) ?_) <;> (refine sops_pure (.free rfl rfl) rfl rfl (po_assign rfl rfl) ?_) <;> (refine sops_nil ?_))
        | refine swp_ret ?_
        | refine swp_skip ?_
        | refine swp_block ?_
        | refine swp_exit ?_
        | refine block_go ?_
        | refine block_exit ?_
        | refine block_far rfl ?_
        | refine block_ret ?_
        | refine then_ret ?_
        | refine then_exit ?_
        | refine for_ret ?_
        | refine for_exit ?_
        | refine swp_cond_t rfl (by first | assumption | with_reducible rfl | decide | (simp only [decide_eq_true_eq, Bool.not_eq_true', decide_eq_false_iff_not]; omega)) ?_
        | refine swp_cond_f rfl (by first | assumption | with_reducible rfl | decide | (simp only [decide_eq_false_iff_not, Bool.not_eq_false', decide_eq_true_eq]; omega)) ?_
        | refine swp_cond rfl (fun hc => ?_) (fun hc => ?_)
        | refine retq (by first | exact .inr rfl | exact .inl rfl) rfl (.cell rfl rfl (tyT rfl) (.cons (by first | exact .t _ | exact .own rfl rfl | exact .nil _ | exact .emp _) (.cons (by first | exact .t _ | exact .own rfl rfl | exact .nil _ | exact .emp _) (.cons (by first | exact .t _ | exact .own rfl rfl | exact .nil _ | exact .emp _) .nil))) rfl .nil) ?_)
    · obtain rfl : k = r.to_.length := by omega
      repeat' (first
        | refine then_go ?_
        | refine swp_seq ?_
        | ((refine swp_region (id := 8) ?_) <;> (refine sops_pure (.free rfl rfl) rfl rfl (po_move rfl rfl) ?_) <;> (first | refine sops_pure (.free rfl rfl) rfl rfl (po_field_bx rfl rfl (tyF rfl)) ?_ | refine sops_pure (.free rfl rfl) rfl rfl (po_field rfl rfl (tyF rfl)) ?_) <;> (first | refine sops_pure (.free rfl rfl) rfl rfl (po_load_bx rfl rfl (tyT rfl) rfl rfl) ?_ | refine sops_pure (.free rfl rfl) rfl rfl (po_load rfl rfl (tyT rfl) rfl) ?_) <;> (refine sops_pure (.free rfl rfl) rfl rfl (po_len rfl rfl (by first | exact .t _ | exact .own rfl rfl | exact .nil _ | exact .emp _) (tyS rfl)) ?_) <;> (refine sops_pure (.free rfl rfl) rfl rfl (po_cmp rfl rfl rfl rfl) ?_) <;> (refine sops_nil ?_))
        | ((refine swp_region (id := 12) ?_) <;> (refine sops_pure (.free rfl rfl) rfl rfl (po_assign rfl rfl) ?_) <;> (refine sops_nil ?_))
        | refine swp_ret ?_
        | refine swp_skip ?_
        | refine swp_block ?_
        | refine swp_exit ?_
        | refine block_go ?_
        | refine block_exit ?_
        | refine block_far rfl ?_
        | refine block_ret ?_
        | refine then_ret ?_
        | refine then_exit ?_
        | refine for_ret ?_
        | refine for_exit ?_
        | refine swp_cond_t rfl (by first | assumption | with_reducible rfl | decide | (simp only [decide_eq_true_eq, Bool.not_eq_true', decide_eq_false_iff_not]; omega)) ?_
        | refine swp_cond_f rfl (by first | assumption | with_reducible rfl | decide | (simp only [decide_eq_false_iff_not, Bool.not_eq_false', decide_eq_true_eq]; omega)) ?_
        | refine swp_cond rfl (fun hc => ?_) (fun hc => ?_)
        | refine retq (by first | exact .inr rfl | exact .inl rfl) rfl (.cell rfl rfl (tyT rfl) (.cons (by first | exact .t _ | exact .own rfl rfl | exact .nil _ | exact .emp _) (.cons (by first | exact .t _ | exact .own rfl rfl | exact .nil _ | exact .emp _) (.cons (by first | exact .t _ | exact .own rfl rfl | exact .nil _ | exact .emp _) .nil))) rfl .nil) ?_)
      refine swp_for (C3 r) (fun _ => True) r.when_.length ?_ trivial ?_
      · refine Weak.trans (weak_own0_bx (q := 105) 87 2 (i := 3) (j := 2) rfl rfl rfl) ?_
        rw [List.take_length]
        exact (weak_sub (.cons rfl rfl rfl (.cons rfl rfl rfl (.cons rfl rfl rfl (.cons rfl rfl rfl .nil)))) (.cons rfl rfl rfl (.cons rfl rfl rfl (.cons rfl rfl rfl .nil))) (.cons rfl rfl (.cons rfl rfl (.cons rfl rfl .nil))))
      intro k hk _
      unfold C3
      by_cases hlt : k < r.when_.length
      · have hsn := map_take_succ whenT hlt
        have b0 := hf.ws _ (List.getElem_mem hlt)
        have e0 := few_b (f := termT) 24 b0 (by omega)
        have m0 := few_m (f := termT) b0
        repeat' (first
          | refine then_go ?_
          | refine swp_seq ?_
          | refine for_next hlt (weak_sub (.cons rfl (by first | rfl | (rw [hsn]; rfl)) rfl (.cons rfl (by first | rfl | (rw [hsn]; rfl)) rfl (.cons rfl (by first | rfl | (rw [hsn]; rfl)) rfl (.cons rfl (by first | rfl | (rw [hsn]; rfl)) rfl .nil)))) (.cons rfl (by first | rfl | (rw [hsn]; rfl)) rfl (.cons rfl (by first | rfl | (rw [hsn]; rfl)) rfl (.cons rfl (by first | rfl | (rw [hsn]; rfl)) rfl .nil))) (.cons rfl (by first | rfl | (rw [hsn]; rfl)) (.cons rfl (by first | rfl | (rw [hsn]; rfl)) (.cons rfl (by first | rfl | (rw [hsn]; rfl)) .nil)))) trivial
          | ((refine swp_region (id := 13) ?_) <;> (refine sops_pure (.free rfl rfl) rfl rfl (po_move rfl rfl) ?_) <;> (first | refine sops_pure (.free rfl rfl) rfl rfl (po_field_bx rfl rfl (tyF rfl)) ?_ | refine sops_pure (.free rfl rfl) rfl rfl (po_field rfl rfl (tyF rfl)) ?_) <;> (first | refine sops_pure (.free rfl rfl) rfl rfl (po_load_bx rfl rfl (tyT rfl) rfl rfl) ?_ | refine sops_pure (.free rfl rfl) rfl rfl (po_load rfl rfl (tyT rfl) rfl) ?_) <;> (refine sops_pure (.free rfl rfl) rfl rfl (po_len rfl rfl (by first | exact .t _ | exact .own rfl rfl | exact .nil _ | exact .emp _) (tyS rfl)) ?_) <;> (refine sops_pure (.free rfl rfl) rfl rfl (po_cmp rfl rfl rfl rfl) ?_) <;> (refine sops_nil ?_))
          | ((refine swp_draw (id := 15) 18 mixed (by kernel_rfl) (by kernel_rfl) ?_) <;> (first | refine sdraw_pure (.free rfl rfl) rfl (po_field_bx rfl rfl (tyF rfl)) ?_ | refine sdraw_pure (.free rfl rfl) rfl (po_field rfl rfl (tyF rfl)) ?_) <;> (first | refine sdraw_pure (.free rfl rfl) rfl (po_load_bx rfl rfl (tyT rfl) rfl rfl) ?_ | refine sdraw_pure (.free rfl rfl) rfl (po_load rfl rfl (tyT rfl) rfl) ?_) <;> (first | refine sdraw_pure (.free rfl rfl) rfl (po_field_bx rfl rfl (tyF rfl)) ?_ | refine sdraw_pure (.free rfl rfl) rfl (po_field rfl rfl (tyF rfl)) ?_) <;> (first | refine sdraw_pure (.free rfl rfl) rfl (po_load_bx rfl rfl (tyT rfl) rfl rfl) ?_ | refine sdraw_pure (.free rfl rfl) rfl (po_load rfl rfl (tyT rfl) rfl) ?_) <;> (refine sdraw_pure (.free rfl rfl) rfl (po_move rfl rfl) ?_) <;> (refine sdraw_pure (.free rfl rfl) rfl (po_index rfl rfl (by first | exact .t _ | exact .own rfl rfl | exact .nil _ | exact .emp _) rfl (tyS rfl) (by first | rfl | omega) (by first | rfl | assumption | exact map_at (by first | assumption | omega))) ?_) <;> (first | refine sdraw_pure (.free rfl rfl) rfl (po_field_bx rfl rfl (tyF rfl)) ?_ | refine sdraw_pure (.free rfl rfl) rfl (po_field rfl rfl (tyF rfl)) ?_) <;> (first | refine sdraw_pure (.free rfl rfl) rfl (po_load_bx rfl rfl (tyT rfl) rfl rfl) ?_ | refine sdraw_pure (.free rfl rfl) rfl (po_load rfl rfl (tyT rfl) rfl) ?_) <;> (refine sdraw_pure (.free rfl rfl) rfl (po_buildSlice0 rfl (tyE rfl)) ?_) <;> (first | refine sdraw_pure (.free rfl rfl) rfl (po_field_bx rfl rfl (tyF rfl)) ?_ | refine sdraw_pure (.free rfl rfl) rfl (po_field rfl rfl (tyF rfl)) ?_) <;> (first | refine sdraw_pure (.free rfl rfl) rfl (po_load_bx rfl rfl (tyT rfl) rfl rfl) ?_ | refine sdraw_pure (.free rfl rfl) rfl (po_load rfl rfl (tyT rfl) rfl) ?_) <;> (refine sdraw_pure (.free rfl rfl) rfl (po_move rfl rfl) ?_) <;> (refine sdraw_pure (.free rfl rfl) rfl (po_index rfl rfl (by first | exact .t _ | exact .own rfl rfl | exact .nil _ | exact .emp _) rfl (tyS rfl) (by first | rfl | omega) (by first | rfl | assumption | exact map_at (by first | assumption | omega))) ?_) <;> (first | refine sdraw_pure (.free rfl rfl) rfl (po_field_bx rfl rfl (tyF rfl)) ?_ | refine sdraw_pure (.free rfl rfl) rfl (po_field rfl rfl (tyF rfl)) ?_) <;> (first | refine sdraw_pure (.free rfl rfl) rfl (po_load_bx rfl rfl (tyT rfl) rfl rfl) ?_ | refine sdraw_pure (.free rfl rfl) rfl (po_load rfl rfl (tyT rfl) rfl) ?_) <;> (refine sdraw_pure (.free rfl rfl) rfl (po_append_new rfl rfl rfl (by first | exact .emp | exact .nil) rfl (by first | exact .t _ | exact .own rfl rfl | exact .nil _ | exact .emp _) (tyE rfl) (by first | assumption | (simp at *; omega)) (by first | assumption | (simp [maxLen] at *; omega))) ?_) <;> (refine sdraw_pure (.free rfl rfl) rfl (po_buildS str87 rfl (.cons rfl (by first | exact .t _ | exact .own rfl rfl | exact .nil _ | exact .emp _) (.cons rfl (by first | exact .t _ | exact .own rfl rfl | exact .nil _ | exact .emp _) .nil)) rfl) ?_) <;> (refine sdraw_pure (.free rfl rfl) rfl (po_buildSlice rfl (tyE rfl) (.cons rfl (by first | exact .t _ | exact .own rfl rfl | exact .nil _ | exact .emp _) rfl rfl (.nil _)) rfl rfl rfl) ?_) <;> (refine sdraw_nil ?_) <;> (first | refine sops_append rfl rfl rfl rfl rfl rfl (by first | rfl | simp) rfl (by first | exact .t _ | exact .own rfl rfl | exact .nil _ | exact .emp _) (tyE rfl) (by first | assumption | (simp at *; omega)) (by first | assumption | (simp [maxLen] at *; omega)) ?_ | refine sops_append_nil rfl rfl rfl rfl rfl rfl rfl (by first | exact .t _ | exact .own rfl rfl | exact .nil _ | exact .emp _) (tyE rfl) (by first | assumption | (simp at *; omega)) (by first | assumption | (simp [maxLen] at *; omega)) ?_) <;> (first | refine sops_pure (.free rfl rfl) rfl rfl (po_field_bx rfl rfl (tyF rfl)) ?_ | refine sops_pure (.free rfl rfl) rfl rfl (po_field rfl rfl (tyF rfl)) ?_) <;> (refine sops_store (.free rfl rfl) rfl rfl rfl rfl rfl rfl (tyT rfl) rfl rfl ?_) <;> (refine sops_nil ?_))
          | ((refine swp_region (id := 14) ?_) <;> (refine sops_pure (.free rfl rfl) rfl rfl (po_move rfl rfl) ?_) <;> (first | refine sops_pure (.free rfl rfl) rfl rfl (po_inc rfl rfl rfl (by omega)) ?_ | refine sops_pure (.free rfl rfl) rfl rfl (po_arith rfl rfl rfl (ar_add (by first | rfl | (refine wrap_i64 ?_; omega)) rfl)) ?_) <;> (refine sops_pure (.free rfl rfl) rfl rfl (po_assign rfl rfl) ?_) <;> (refine sops_nil ?_))
          | refine swp_ret ?_
          | refine swp_skip ?_
          | refine swp_block ?_
          | refine swp_exit ?_
          | refine block_go ?_
          | refine block_exit ?_
          | refine block_far rfl ?_
          | refine block_ret ?_
          | refine then_ret ?_
          | refine then_exit ?_
          | refine for_ret ?_
          | refine for_exit ?_
          | refine swp_cond_t rfl (by first | assumption | with_reducible rfl | decide | (simp only [decide_eq_true_eq, Bool.not_eq_true', decide_eq_false_iff_not]; omega)) ?_
          | refine swp_cond_f rfl (by first | assumption | with_reducible rfl | decide | (simp only [decide_eq_false_iff_not, Bool.not_eq_false', decide_eq_true_eq]; omega)) ?_
          | refine swp_cond rfl (fun hc => ?_) (fun hc => ?_)
          | refine retq (by first | exact .inr rfl | exact .inl rfl) rfl (.cell rfl rfl (tyT rfl) (.cons (by first | exact .t _ | exact .own rfl rfl | exact .nil _ | exact .emp _) (.cons (by first | exact .t _ | exact .own rfl rfl | exact .nil _ | exact .emp _) (.cons (by first | exact .t _ | exact .own rfl rfl | exact .nil _ | exact .emp _) .nil))) rfl .nil) ?_)
      · obtain rfl : k = r.when_.length := by omega
        rw [List.take_length]
        repeat' (first
          | refine then_go ?_
          | refine swp_seq ?_
          | ((refine swp_region (id := 13) ?_) <;> (refine sops_pure (.free rfl rfl) rfl rfl (po_move rfl rfl) ?_) <;> (first | refine sops_pure (.free rfl rfl) rfl rfl (po_field_bx rfl rfl (tyF rfl)) ?_ | refine sops_pure (.free rfl rfl) rfl rfl (po_field rfl rfl (tyF rfl)) ?_) <;> (first | refine sops_pure (.free rfl rfl) rfl rfl (po_load_bx rfl rfl (tyT rfl) rfl rfl) ?_ | refine sops_pure (.free rfl rfl) rfl rfl (po_load rfl rfl (tyT rfl) rfl) ?_) <;> (refine sops_pure (.free rfl rfl) rfl rfl (po_len rfl rfl (by first | exact .t _ | exact .own rfl rfl | exact .nil _ | exact .emp _) (tyS rfl)) ?_) <;> (refine sops_pure (.free rfl rfl) rfl rfl (po_cmp rfl rfl rfl rfl) ?_) <;> (refine sops_nil ?_))
          | ((refine swp_region (id := 16) ?_) <;> (first | refine sops_pure (.free rfl rfl) rfl rfl (po_load_bx_agg rfl rfl (tyT rfl) rfl (.cons (by first | exact .t _ | exact .own rfl rfl | exact .nil _ | exact .emp _) (.cons (by first | exact .t _ | exact .own rfl rfl | exact .nil _ | exact .emp _) (.cons (by first | exact .t _ | exact .own rfl rfl | exact .nil _ | exact .emp _) .nil))) rfl) ?_ | refine sops_pure (.free rfl rfl) rfl rfl (po_load_agg rfl rfl (tyT rfl) rfl rfl) ?_) <;> (refine sops_store (.free rfl rfl) rfl rfl rfl rfl rfl rfl (tyT rfl) rfl rfl ?_) <;> (refine sops_nil ?_))
          | refine swp_ret ?_
          | refine swp_skip ?_
          | refine swp_block ?_
          | refine swp_exit ?_
          | refine block_go ?_
          | refine block_exit ?_
          | refine block_far rfl ?_
          | refine block_ret ?_
          | refine then_ret ?_
          | refine then_exit ?_
          | refine for_ret ?_
          | refine for_exit ?_
          | refine swp_cond_t rfl (by first | assumption | with_reducible rfl | decide | (simp only [decide_eq_true_eq, Bool.not_eq_true', decide_eq_false_iff_not]; omega)) ?_
          | refine swp_cond_f rfl (by first | assumption | with_reducible rfl | decide | (simp only [decide_eq_false_iff_not, Bool.not_eq_false', decide_eq_true_eq]; omega)) ?_
          | refine swp_cond rfl (fun hc => ?_) (fun hc => ?_)
          | refine retq (by first | exact .inr rfl | exact .inl rfl) rfl (.cell rfl rfl (tyT rfl) (.cons (by first | exact .t _ | exact .own rfl rfl | exact .nil _ | exact .emp _) (.cons (by first | exact .t _ | exact .own rfl rfl | exact .nil _ | exact .emp _) (.cons (by first | exact .t _ | exact .own rfl rfl | exact .nil _ | exact .emp _) .nil))) rfl .nil) ?_)
        rfl
end Go.Proofs.Ytlcecabfmemfeaa.Pol

/- The document's answer for auth: walks. -/
namespace Go.Proofs.Ytlcecabfmemfeaa.Pol
set_option linter.unusedVariables false
set_option linter.unusedSimpArgs false
open Go.RowKit Mem Sim Opn WAddr WName WMatch WAuth
/-- a row is empty, or one of its first ones is so -/
def inSo {α : Type} (p : α → Bool) (l : List α) (k : Nat) : Bool := l.isEmpty || (l.take k).any p
theorem inSo_zero {α : Type} (p : α → Bool) (l : List α) : inSo p l 0 = decide ((l.length : Int) = 0) := by
  unfold inSo; cases l <;> simp <;> omega
theorem inSo_yes {α : Type} {p : α → Bool} {l : List α} {k : Nat} (hk : k < l.length) (h : inSo p l k = true) : inSo p l (k + 1) = true := by
  unfold inSo at *; rw [List.take_succ_eq_append_getElem hk, List.any_append]
  rw [Bool.or_eq_true] at *
  rcases h with h | h
  · exact .inl h
  · exact .inr (by rw [h]; rfl)
theorem inSo_no {α : Type} {p : α → Bool} {l : List α} {k : Nat} (hk : k < l.length) (h : inSo p l k = false) : inSo p l (k + 1) = p l[k] := by
  unfold inSo at *; rw [List.take_succ_eq_append_getElem hk, List.any_append]
  rw [Bool.or_eq_false_iff] at h
  rw [h.1, h.2]; simp
theorem inSo_all {α : Type} (p : α → Bool) (l : List α) : inSo p l l.length = (l.isEmpty || l.any p) := by unfold inSo; rw [List.take_length]
def fewS (s : Pl.Source) : Prop := s.names.length ≤ 1000 ∧ s.spaces.length ≤ 1000 ∧ s.nets.length ≤ 1000
def fewT (s : Pl.Target) : Prop := s.ports.length ≤ 1000 ∧ s.methods.length ≤ 1000 ∧ s.paths.length ≤ 1000 ∧ s.hosts.length ≤ 1000
set_option maxRecDepth 100000 in
set_option maxHeartbeats 1000000 in
theorem source_ (s : Pl.Source) (hs : okSource s) (hf : fewS s) (a : Pl.Asker) (ha : OkAsk a) : PCalls Try.prog 45 [.agg (sourceT s), .agg (askT a)] (.v (.bool (srcP a s))) := by
  obtain ⟨f1, f2, f3⟩ := hf
  obtain ⟨k1, k2, k3⟩ := hs
  have hml : (s.nets.map cidrT).length = s.nets.length := List.length_map _
  have hmay := mayN_ a ha
  have zt : (nameText a.ns a.sa).size ≤ maxLen := Nat.le_trans (nameText_len _ _) (by decide)
  have hl1 := lets_ (nameText a.ns a.sa) s.names zt k1 f1
  have hl2 := lets_ a.ns s.spaces ha.ns k2 f2
  have hp := fun h => printN_ a (h : mayN a.ns a.sa = true)
  unfold srcP
  refine pcalls_of Try.func45 rfl rfl Try.ntmps45 rfl ?_
  cases hm : mayN a.ns a.sa
  all_goals rw [hm] at hmay
  all_goals
    repeat' (first
      | refine then_go ?_
      | refine swp_seq ?_
      | ((refine swp_region (id := 0) ?_) <;> (refine sops_box (.free rfl rfl) rfl rfl rfl rfl rfl rfl ?_) <;> (refine sops_box (.free rfl rfl) rfl rfl rfl rfl rfl rfl ?_) <;> (refine sops_pure (.free rfl rfl) rfl rfl (po_assign rfl rfl) ?_) <;> (refine sops_nil ?_))
      | ((refine swp_region (id := 1) ?_) <;> (refine sops_pure (.free rfl rfl) rfl rfl (po_assign rfl rfl) ?_) <;> (refine sops_nil ?_))
      | ((refine swp_region (id := 2) ?_) <;> (first | refine sops_pure (.free rfl rfl) rfl rfl (po_field_bx rfl rfl (tyF rfl)) ?_ | refine sops_pure (.free rfl rfl) rfl rfl (po_field rfl rfl (tyF rfl)) ?_) <;> (first | refine sops_pure (.free rfl rfl) rfl rfl (po_load_bx_agg rfl rfl (tyT rfl) rfl (.cons (by first | exact .t _ | exact .own rfl rfl | exact .nil _ | exact .emp _) (.cons (by first | exact .t _ | exact .own rfl rfl | exact .nil _ | exact .emp _) .nil)) rfl) ?_ | refine sops_pure (.free rfl rfl) rfl rfl (po_load_agg rfl rfl (tyT rfl) rfl rfl) ?_) <;> (first | refine sops_pure (.free rfl rfl) rfl rfl (po_call (hmay) rfl (.cons rfl (by first | exact .t _ | exact .own rfl rfl | exact .nil _ | exact .emp _) .nil)) ?_ | refine sops_pure (.free rfl rfl) rfl rfl (po_call (hp hm) rfl (.cons rfl (by first | exact .t _ | exact .own rfl rfl | exact .nil _ | exact .emp _) .nil)) ?_) <;> (refine sops_nil ?_))
      | ((refine swp_region (id := 3) ?_) <;> (first | refine sops_pure (.free rfl rfl) rfl rfl (po_field_bx rfl rfl (tyF rfl)) ?_ | refine sops_pure (.free rfl rfl) rfl rfl (po_field rfl rfl (tyF rfl)) ?_) <;> (first | refine sops_pure (.free rfl rfl) rfl rfl (po_load_bx_agg rfl rfl (tyT rfl) rfl (.cons (by first | exact .t _ | exact .own rfl rfl | exact .nil _ | exact .emp _) (.cons (by first | exact .t _ | exact .own rfl rfl | exact .nil _ | exact .emp _) .nil)) rfl) ?_ | refine sops_pure (.free rfl rfl) rfl rfl (po_load_agg rfl rfl (tyT rfl) rfl rfl) ?_) <;> (first | refine sops_pure (.free rfl rfl) rfl rfl (po_call (hmay) rfl (.cons rfl (by first | exact .t _ | exact .own rfl rfl | exact .nil _ | exact .emp _) .nil)) ?_ | refine sops_pure (.free rfl rfl) rfl rfl (po_call (hp hm) rfl (.cons rfl (by first | exact .t _ | exact .own rfl rfl | exact .nil _ | exact .emp _) .nil)) ?_) <;> (refine sops_pure (.free rfl rfl) rfl rfl (po_assign rfl rfl) ?_) <;> (refine sops_nil ?_))
      | ((refine swp_region (id := 4) ?_) <;> (first | refine sops_pure (.free rfl rfl) rfl rfl (po_field_bx rfl rfl (tyF rfl)) ?_ | refine sops_pure (.free rfl rfl) rfl rfl (po_field rfl rfl (tyF rfl)) ?_) <;> (first | refine sops_pure (.free rfl rfl) rfl rfl (po_load_bx rfl rfl (tyT rfl) rfl rfl) ?_ | refine sops_pure (.free rfl rfl) rfl rfl (po_load rfl rfl (tyT rfl) rfl) ?_) <;> (refine sops_pure (.free rfl rfl) rfl rfl (po_len rfl rfl (by first | exact .t _ | exact .own rfl rfl | exact .nil _ | exact .emp _) (tyS rfl)) ?_) <;> (refine sops_pure (.free rfl rfl) rfl rfl (po_cmp rfl rfl rfl rfl) ?_) <;> (refine sops_pure (.free rfl rfl) rfl rfl (po_assign rfl rfl) ?_) <;> (refine sops_nil ?_))
      | ((refine swp_region (id := 5) ?_) <;> (refine sops_pure (.free rfl rfl) rfl rfl (po_assign rfl rfl) ?_) <;> (refine sops_nil ?_))
      | refine swp_ret ?_
      | refine swp_skip ?_
      | refine swp_block ?_
      | refine swp_exit ?_
      | refine block_go ?_
      | refine block_exit ?_
      | refine block_far rfl ?_
      | refine block_ret ?_
      | refine then_ret ?_
      | refine then_exit ?_
      | refine for_ret ?_
      | refine for_exit ?_
      | refine swp_cond_t rfl (by first | assumption | with_reducible rfl | decide | (simp only [decide_eq_true_eq, Bool.not_eq_true', decide_eq_false_iff_not]; omega)) ?_
      | refine swp_cond_f rfl (by first | assumption | with_reducible rfl | decide | (simp only [decide_eq_false_iff_not, Bool.not_eq_false', decide_eq_true_eq]; omega)) ?_
      | refine swp_cond rfl (fun hc => ?_) (fun hc => ?_)
      | refine retq (by first | exact .inr rfl | exact .inl rfl) rfl (.tmp rfl (by first | exact .t _ | exact .own rfl rfl | exact .nil _ | exact .emp _) .nil) ?_)
  all_goals
    refine swp_for (fun k => ⟨[(2, .bp 2 0), (3, .bp 3 0), (5, .t (.v (.string (nameText a.ns a.sa)))), (6, .t (.v (.bool (inSo (fun c => inC c a.addr) s.nets k)))), (7, .t (.v (.int .i64 (k : Int))))], [(2, [.t (.sl 2 (s.names.map termT)), .t (.sl 2 (s.spaces.map termT)), .t (.sl 2 (s.nets.map cidrT))]), (3, [.t (.v (.string a.ns)), .t (.v (.string a.sa)), .t (.v (.int .u32 a.addr))])], []⟩) (fun _ => True) s.nets.length (weak_sub (.cons rfl (by first | rfl | (first | (unfold nameText; rw [hm]; rfl) | (rw [inSo_zero, hml]))) rfl (.cons rfl (by first | rfl | (first | (unfold nameText; rw [hm]; rfl) | (rw [inSo_zero, hml]))) rfl (.cons rfl (by first | rfl | (first | (unfold nameText; rw [hm]; rfl) | (rw [inSo_zero, hml]))) rfl (.cons rfl (by first | rfl | (first | (unfold nameText; rw [hm]; rfl) | (rw [inSo_zero, hml]))) rfl (.cons rfl (by first | rfl | (first | (unfold nameText; rw [hm]; rfl) | (rw [inSo_zero, hml]))) rfl .nil))))) (.cons rfl (by first | rfl | (first | (unfold nameText; rw [hm]; rfl) | (rw [inSo_zero, hml]))) rfl (.cons rfl (by first | rfl | (first | (unfold nameText; rw [hm]; rfl) | (rw [inSo_zero, hml]))) rfl .nil)) .nil) trivial ?_
    intro k hk _
    by_cases hlt : k < s.nets.length
    · have hin := inC_ s.nets[k] (k3 _ (List.getElem_mem hlt)) a.addr ha.addr
      cases hb : inSo (fun c => inC c a.addr) s.nets k with
      | true =>
        have hs1 := inSo_yes hlt hb
        repeat' (first
          | refine then_go ?_
          | refine swp_seq ?_
          | refine for_next hlt (weak_sub (.cons rfl (by first | rfl | (rw [hs1])) rfl (.cons rfl (by first | rfl | (rw [hs1])) rfl (.cons rfl (by first | rfl | (rw [hs1])) rfl (.cons rfl (by first | rfl | (rw [hs1])) rfl (.cons rfl (by first | rfl | (rw [hs1])) rfl .nil))))) (.cons rfl (by first | rfl | (rw [hs1])) rfl (.cons rfl (by first | rfl | (rw [hs1])) rfl .nil)) .nil) trivial
          | ((refine swp_region (id := 6) ?_) <;> (refine sops_pure (.free rfl rfl) rfl rfl (po_move rfl rfl) ?_) <;> (first | refine sops_pure (.free rfl rfl) rfl rfl (po_field_bx rfl rfl (tyF rfl)) ?_ | refine sops_pure (.free rfl rfl) rfl rfl (po_field rfl rfl (tyF rfl)) ?_) <;> (first | refine sops_pure (.free rfl rfl) rfl rfl (po_load_bx rfl rfl (tyT rfl) rfl rfl) ?_ | refine sops_pure (.free rfl rfl) rfl rfl (po_load rfl rfl (tyT rfl) rfl) ?_) <;> (refine sops_pure (.free rfl rfl) rfl rfl (po_len rfl rfl (by first | exact .t _ | exact .own rfl rfl | exact .nil _ | exact .emp _) (tyS rfl)) ?_) <;> (refine sops_pure (.free rfl rfl) rfl rfl (po_cmp rfl rfl rfl rfl) ?_) <;> (refine sops_nil ?_))
          | ((refine swp_draw (id := 8) 11 mixed (by kernel_rfl) (by kernel_rfl) ?_) <;> (refine sdraw_pure (.free rfl rfl) rfl (po_move rfl rfl) ?_) <;> (refine sdraw_pure (.free rfl rfl) rfl (po_move rfl rfl) ?_) <;> (first | refine sdraw_pure (.yes rfl rfl rfl (by first | assumption | with_reducible rfl | decide | (simp only [decide_eq_true_eq, decide_eq_false_iff_not]; omega))) rfl (po_field_bx rfl rfl (tyF rfl)) ?_ | refine sdraw_pure (.yes rfl rfl rfl (by first | assumption | with_reducible rfl | decide | (simp only [decide_eq_true_eq, decide_eq_false_iff_not]; omega))) rfl (po_field rfl rfl (tyF rfl)) ?_ | refine sdraw_skip (.no0 rfl rfl rfl (by first | assumption | with_reducible rfl | decide | (simp only [decide_eq_true_eq, decide_eq_false_iff_not]; omega))) rfl ?_ | ((refine sdraw_split rfl rfl rfl (fun hc => ?_) (fun hc => ?_)) <;> (first | refine sdraw_pure (.yes rfl rfl rfl (by first | assumption | with_reducible rfl | decide | (simp only [decide_eq_true_eq, decide_eq_false_iff_not]; omega))) rfl (po_field_bx rfl rfl (tyF rfl)) ?_ | refine sdraw_pure (.yes rfl rfl rfl (by first | assumption | with_reducible rfl | decide | (simp only [decide_eq_true_eq, decide_eq_false_iff_not]; omega))) rfl (po_field rfl rfl (tyF rfl)) ?_ | refine sdraw_skip (.no0 rfl rfl rfl (by first | assumption | with_reducible rfl | decide | (simp only [decide_eq_true_eq, decide_eq_false_iff_not]; omega))) rfl ?_))) <;> (first | refine sdraw_pure (.yes rfl rfl rfl (by first | assumption | with_reducible rfl | decide | (simp only [decide_eq_true_eq, decide_eq_false_iff_not]; omega))) rfl (po_load_bx rfl rfl (tyT rfl) rfl rfl) ?_ | refine sdraw_pure (.yes rfl rfl rfl (by first | assumption | with_reducible rfl | decide | (simp only [decide_eq_true_eq, decide_eq_false_iff_not]; omega))) rfl (po_load rfl rfl (tyT rfl) rfl) ?_ | refine sdraw_skip (.no0 rfl rfl rfl (by first | assumption | with_reducible rfl | decide | (simp only [decide_eq_true_eq, decide_eq_false_iff_not]; omega))) rfl ?_) <;> (first | refine sdraw_pure (.yes rfl rfl rfl (by first | assumption | with_reducible rfl | decide | (simp only [decide_eq_true_eq, decide_eq_false_iff_not]; omega))) rfl (po_move rfl rfl) ?_ | refine sdraw_skip (.no0 rfl rfl rfl (by first | assumption | with_reducible rfl | decide | (simp only [decide_eq_true_eq, decide_eq_false_iff_not]; omega))) rfl ?_) <;> (first | refine sdraw_pure (.yes rfl rfl rfl (by first | assumption | with_reducible rfl | decide | (simp only [decide_eq_true_eq, decide_eq_false_iff_not]; omega))) rfl (po_index rfl rfl (by first | exact .t _ | exact .own rfl rfl | exact .nil _ | exact .emp _) rfl (tyS rfl) (by first | rfl | omega) (by first | rfl | assumption | exact map_at (by first | assumption | omega))) ?_ | refine sdraw_skip (.no0 rfl rfl rfl (by first | assumption | with_reducible rfl | decide | (simp only [decide_eq_true_eq, decide_eq_false_iff_not]; omega))) rfl ?_) <;> (first | refine sdraw_pure (.yes rfl rfl rfl (by first | assumption | with_reducible rfl | decide | (simp only [decide_eq_true_eq, decide_eq_false_iff_not]; omega))) rfl (po_load_bx_agg rfl rfl (tyT rfl) rfl (.cons (by first | exact .t _ | exact .own rfl rfl | exact .nil _ | exact .emp _) (.cons (by first | exact .t _ | exact .own rfl rfl | exact .nil _ | exact .emp _) .nil)) rfl) ?_ | refine sdraw_pure (.yes rfl rfl rfl (by first | assumption | with_reducible rfl | decide | (simp only [decide_eq_true_eq, decide_eq_false_iff_not]; omega))) rfl (po_load_agg rfl rfl (tyT rfl) rfl rfl) ?_ | refine sdraw_skip (.no0 rfl rfl rfl (by first | assumption | with_reducible rfl | decide | (simp only [decide_eq_true_eq, decide_eq_false_iff_not]; omega))) rfl ?_) <;> (first | refine sdraw_pure (.yes rfl rfl rfl (by first | assumption | with_reducible rfl | decide | (simp only [decide_eq_true_eq, decide_eq_false_iff_not]; omega))) rfl (po_field_bx rfl rfl (tyF rfl)) ?_ | refine sdraw_pure (.yes rfl rfl rfl (by first | assumption | with_reducible rfl | decide | (simp only [decide_eq_true_eq, decide_eq_false_iff_not]; omega))) rfl (po_field rfl rfl (tyF rfl)) ?_ | refine sdraw_skip (.no0 rfl rfl rfl (by first | assumption | with_reducible rfl | decide | (simp only [decide_eq_true_eq, decide_eq_false_iff_not]; omega))) rfl ?_) <;> (first | refine sdraw_pure (.yes rfl rfl rfl (by first | assumption | with_reducible rfl | decide | (simp only [decide_eq_true_eq, decide_eq_false_iff_not]; omega))) rfl (po_load_bx rfl rfl (tyT rfl) rfl rfl) ?_ | refine sdraw_pure (.yes rfl rfl rfl (by first | assumption | with_reducible rfl | decide | (simp only [decide_eq_true_eq, decide_eq_false_iff_not]; omega))) rfl (po_load rfl rfl (tyT rfl) rfl) ?_ | refine sdraw_skip (.no0 rfl rfl rfl (by first | assumption | with_reducible rfl | decide | (simp only [decide_eq_true_eq, decide_eq_false_iff_not]; omega))) rfl ?_) <;> (first | refine sdraw_pure (.yes rfl rfl rfl (by first | assumption | with_reducible rfl | decide | (simp only [decide_eq_true_eq, decide_eq_false_iff_not]; omega))) rfl (po_call (hin) rfl (.cons rfl (by first | exact .t _ | exact .own rfl rfl | exact .nil _ | exact .emp _) (.cons rfl (by first | exact .t _ | exact .own rfl rfl | exact .nil _ | exact .emp _) .nil))) ?_ | refine sdraw_skip (.no0 rfl rfl rfl (by first | assumption | with_reducible rfl | decide | (simp only [decide_eq_true_eq, decide_eq_false_iff_not]; omega))) rfl ?_) <;> (first | refine sdraw_pure (.free rfl rfl) rfl (po_pick_t rfl rfl (by first | assumption | with_reducible rfl | decide | (simp only [decide_eq_true_eq, decide_eq_false_iff_not]; omega)) rfl) ?_ | refine sdraw_pure (.free rfl rfl) rfl (po_pick_f rfl rfl (by first | assumption | with_reducible rfl | decide | (simp only [decide_eq_true_eq, decide_eq_false_iff_not]; omega)) rfl) ?_) <;> (refine sdraw_nil ?_) <;> (refine sops_pure (.free rfl rfl) rfl rfl (po_assign rfl rfl) ?_) <;> (refine sops_nil ?_))
          | ((refine swp_region (id := 7) ?_) <;> (refine sops_pure (.free rfl rfl) rfl rfl (po_move rfl rfl) ?_) <;> (first | refine sops_pure (.free rfl rfl) rfl rfl (po_inc rfl rfl rfl (by omega)) ?_ | refine sops_pure (.free rfl rfl) rfl rfl (po_arith rfl rfl rfl (ar_add (by first | rfl | (refine wrap_i64 ?_; omega)) rfl)) ?_) <;> (refine sops_pure (.free rfl rfl) rfl rfl (po_assign rfl rfl) ?_) <;> (refine sops_nil ?_))
          | refine swp_ret ?_
          | refine swp_skip ?_
          | refine swp_block ?_
          | refine swp_exit ?_
          | refine block_go ?_
          | refine block_exit ?_
          | refine block_far rfl ?_
          | refine block_ret ?_
          | refine then_ret ?_
          | refine then_exit ?_
          | refine for_ret ?_
          | refine for_exit ?_
          | refine swp_cond_t rfl (by first | assumption | with_reducible rfl | decide | (simp only [decide_eq_true_eq, Bool.not_eq_true', decide_eq_false_iff_not]; omega)) ?_
          | refine swp_cond_f rfl (by first | assumption | with_reducible rfl | decide | (simp only [decide_eq_false_iff_not, Bool.not_eq_false', decide_eq_true_eq]; omega)) ?_
          | refine swp_cond rfl (fun hc => ?_) (fun hc => ?_)
          | refine retq (by first | exact .inr rfl | exact .inl rfl) rfl (.tmp rfl (by first | exact .t _ | exact .own rfl rfl | exact .nil _ | exact .emp _) .nil) ?_)
      | false =>
        have hs1 := inSo_no hlt hb
        repeat' (first
          | refine then_go ?_
          | refine swp_seq ?_
          | refine for_next hlt (weak_sub (.cons rfl (by first | rfl | (rw [hs1])) rfl (.cons rfl (by first | rfl | (rw [hs1])) rfl (.cons rfl (by first | rfl | (rw [hs1])) rfl (.cons rfl (by first | rfl | (rw [hs1])) rfl (.cons rfl (by first | rfl | (rw [hs1])) rfl .nil))))) (.cons rfl (by first | rfl | (rw [hs1])) rfl (.cons rfl (by first | rfl | (rw [hs1])) rfl .nil)) .nil) trivial
          | ((refine swp_region (id := 6) ?_) <;> (refine sops_pure (.free rfl rfl) rfl rfl (po_move rfl rfl) ?_) <;> (first | refine sops_pure (.free rfl rfl) rfl rfl (po_field_bx rfl rfl (tyF rfl)) ?_ | refine sops_pure (.free rfl rfl) rfl rfl (po_field rfl rfl (tyF rfl)) ?_) <;> (first | refine sops_pure (.free rfl rfl) rfl rfl (po_load_bx rfl rfl (tyT rfl) rfl rfl) ?_ | refine sops_pure (.free rfl rfl) rfl rfl (po_load rfl rfl (tyT rfl) rfl) ?_) <;> (refine sops_pure (.free rfl rfl) rfl rfl (po_len rfl rfl (by first | exact .t _ | exact .own rfl rfl | exact .nil _ | exact .emp _) (tyS rfl)) ?_) <;> (refine sops_pure (.free rfl rfl) rfl rfl (po_cmp rfl rfl rfl rfl) ?_) <;> (refine sops_nil ?_))
          | ((refine swp_draw (id := 8) 11 mixed (by kernel_rfl) (by kernel_rfl) ?_) <;> (refine sdraw_pure (.free rfl rfl) rfl (po_move rfl rfl) ?_) <;> (refine sdraw_pure (.free rfl rfl) rfl (po_move rfl rfl) ?_) <;> (first | refine sdraw_pure (.yes rfl rfl rfl (by first | assumption | with_reducible rfl | decide | (simp only [decide_eq_true_eq, decide_eq_false_iff_not]; omega))) rfl (po_field_bx rfl rfl (tyF rfl)) ?_ | refine sdraw_pure (.yes rfl rfl rfl (by first | assumption | with_reducible rfl | decide | (simp only [decide_eq_true_eq, decide_eq_false_iff_not]; omega))) rfl (po_field rfl rfl (tyF rfl)) ?_ | refine sdraw_skip (.no0 rfl rfl rfl (by first | assumption | with_reducible rfl | decide | (simp only [decide_eq_true_eq, decide_eq_false_iff_not]; omega))) rfl ?_ | ((refine sdraw_split rfl rfl rfl (fun hc => ?_) (fun hc => ?_)) <;> (first | refine sdraw_pure (.yes rfl rfl rfl (by first | assumption | with_reducible rfl | decide | (simp only [decide_eq_true_eq, decide_eq_false_iff_not]; omega))) rfl (po_field_bx rfl rfl (tyF rfl)) ?_ | refine sdraw_pure (.yes rfl rfl rfl (by first | assumption | with_reducible rfl | decide | (simp only [decide_eq_true_eq, decide_eq_false_iff_not]; omega))) rfl (po_field rfl rfl (tyF rfl)) ?_ | refine sdraw_skip (.no0 rfl rfl rfl (by first | assumption | with_reducible rfl | decide | (simp only [decide_eq_true_eq, decide_eq_false_iff_not]; omega))) rfl ?_))) <;> (first | refine sdraw_pure (.yes rfl rfl rfl (by first | assumption | with_reducible rfl | decide | (simp only [decide_eq_true_eq, decide_eq_false_iff_not]; omega))) rfl (po_load_bx rfl rfl (tyT rfl) rfl rfl) ?_ | refine sdraw_pure (.yes rfl rfl rfl (by first | assumption | with_reducible rfl | decide | (simp only [decide_eq_true_eq, decide_eq_false_iff_not]; omega))) rfl (po_load rfl rfl (tyT rfl) rfl) ?_ | refine sdraw_skip (.no0 rfl rfl rfl (by first | assumption | with_reducible rfl | decide | (simp only [decide_eq_true_eq, decide_eq_false_iff_not]; omega))) rfl ?_) <;> (first | refine sdraw_pure (.yes rfl rfl rfl (by first | assumption | with_reducible rfl | decide | (simp only [decide_eq_true_eq, decide_eq_false_iff_not]; omega))) rfl (po_move rfl rfl) ?_ | refine sdraw_skip (.no0 rfl rfl rfl (by first | assumption | with_reducible rfl | decide | (simp only [decide_eq_true_eq, decide_eq_false_iff_not]; omega))) rfl ?_) <;> (first | refine sdraw_pure (.yes rfl rfl rfl (by first | assumption | with_reducible rfl | decide | (simp only [decide_eq_true_eq, decide_eq_false_iff_not]; omega))) rfl (po_index rfl rfl (by first | exact .t _ | exact .own rfl rfl | exact .nil _ | exact .emp _) rfl (tyS rfl) (by first | rfl | omega) (by first | rfl | assumption | exact map_at (by first | assumption | omega))) ?_ | refine sdraw_skip (.no0 rfl rfl rfl (by first | assumption | with_reducible rfl | decide | (simp only [decide_eq_true_eq, decide_eq_false_iff_not]; omega))) rfl ?_) <;> (first | refine sdraw_pure (.yes rfl rfl rfl (by first | assumption | with_reducible rfl | decide | (simp only [decide_eq_true_eq, decide_eq_false_iff_not]; omega))) rfl (po_load_bx_agg rfl rfl (tyT rfl) rfl (.cons (by first | exact .t _ | exact .own rfl rfl | exact .nil _ | exact .emp _) (.cons (by first | exact .t _ | exact .own rfl rfl | exact .nil _ | exact .emp _) .nil)) rfl) ?_ | refine sdraw_pure (.yes rfl rfl rfl (by first | assumption | with_reducible rfl | decide | (simp only [decide_eq_true_eq, decide_eq_false_iff_not]; omega))) rfl (po_load_agg rfl rfl (tyT rfl) rfl rfl) ?_ | refine sdraw_skip (.no0 rfl rfl rfl (by first | assumption | with_reducible rfl | decide | (simp only [decide_eq_true_eq, decide_eq_false_iff_not]; omega))) rfl ?_) <;> (first | refine sdraw_pure (.yes rfl rfl rfl (by first | assumption | with_reducible rfl | decide | (simp only [decide_eq_true_eq, decide_eq_false_iff_not]; omega))) rfl (po_field_bx rfl rfl (tyF rfl)) ?_ | refine sdraw_pure (.yes rfl rfl rfl (by first | assumption | with_reducible rfl | decide | (simp only [decide_eq_true_eq, decide_eq_false_iff_not]; omega))) rfl (po_field rfl rfl (tyF rfl)) ?_ | refine sdraw_skip (.no0 rfl rfl rfl (by first | assumption | with_reducible rfl | decide | (simp only [decide_eq_true_eq, decide_eq_false_iff_not]; omega))) rfl ?_) <;> (first | refine sdraw_pure (.yes rfl rfl rfl (by first | assumption | with_reducible rfl | decide | (simp only [decide_eq_true_eq, decide_eq_false_iff_not]; omega))) rfl (po_load_bx rfl rfl (tyT rfl) rfl rfl) ?_ | refine sdraw_pure (.yes rfl rfl rfl (by first | assumption | with_reducible rfl | decide | (simp only [decide_eq_true_eq, decide_eq_false_iff_not]; omega))) rfl (po_load rfl rfl (tyT rfl) rfl) ?_ | refine sdraw_skip (.no0 rfl rfl rfl (by first | assumption | with_reducible rfl | decide | (simp only [decide_eq_true_eq, decide_eq_false_iff_not]; omega))) rfl ?_) <;> (first | refine sdraw_pure (.yes rfl rfl rfl (by first | assumption | with_reducible rfl | decide | (simp only [decide_eq_true_eq, decide_eq_false_iff_not]; omega))) rfl (po_call (hin) rfl (.cons rfl (by first | exact .t _ | exact .own rfl rfl | exact .nil _ | exact .emp _) (.cons rfl (by first | exact .t _ | exact .own rfl rfl | exact .nil _ | exact .emp _) .nil))) ?_ | refine sdraw_skip (.no0 rfl rfl rfl (by first | assumption | with_reducible rfl | decide | (simp only [decide_eq_true_eq, decide_eq_false_iff_not]; omega))) rfl ?_) <;> (first | refine sdraw_pure (.free rfl rfl) rfl (po_pick_t rfl rfl (by first | assumption | with_reducible rfl | decide | (simp only [decide_eq_true_eq, decide_eq_false_iff_not]; omega)) rfl) ?_ | refine sdraw_pure (.free rfl rfl) rfl (po_pick_f rfl rfl (by first | assumption | with_reducible rfl | decide | (simp only [decide_eq_true_eq, decide_eq_false_iff_not]; omega)) rfl) ?_) <;> (refine sdraw_nil ?_) <;> (refine sops_pure (.free rfl rfl) rfl rfl (po_assign rfl rfl) ?_) <;> (refine sops_nil ?_))
          | ((refine swp_region (id := 7) ?_) <;> (refine sops_pure (.free rfl rfl) rfl rfl (po_move rfl rfl) ?_) <;> (first | refine sops_pure (.free rfl rfl) rfl rfl (po_inc rfl rfl rfl (by omega)) ?_ | refine sops_pure (.free rfl rfl) rfl rfl (po_arith rfl rfl rfl (ar_add (by first | rfl | (refine wrap_i64 ?_; omega)) rfl)) ?_) <;> (refine sops_pure (.free rfl rfl) rfl rfl (po_assign rfl rfl) ?_) <;> (refine sops_nil ?_))
          | refine swp_ret ?_
          | refine swp_skip ?_
          | refine swp_block ?_
          | refine swp_exit ?_
          | refine block_go ?_
          | refine block_exit ?_
          | refine block_far rfl ?_
          | refine block_ret ?_
          | refine then_ret ?_
          | refine then_exit ?_
          | refine for_ret ?_
          | refine for_exit ?_
          | refine swp_cond_t rfl (by first | assumption | with_reducible rfl | decide | (simp only [decide_eq_true_eq, Bool.not_eq_true', decide_eq_false_iff_not]; omega)) ?_
          | refine swp_cond_f rfl (by first | assumption | with_reducible rfl | decide | (simp only [decide_eq_false_iff_not, Bool.not_eq_false', decide_eq_true_eq]; omega)) ?_
          | refine swp_cond rfl (fun hc => ?_) (fun hc => ?_)
          | refine retq (by first | exact .inr rfl | exact .inl rfl) rfl (.tmp rfl (by first | exact .t _ | exact .own rfl rfl | exact .nil _ | exact .emp _) .nil) ?_)
    · obtain rfl : k = s.nets.length := by omega
      rw [inSo_all]
      cases hb : (s.nets.isEmpty || s.nets.any fun c => inC c a.addr)
      all_goals
        repeat' (first
          | refine then_go ?_
          | refine swp_seq ?_
          | ((refine swp_region (id := 6) ?_) <;> (refine sops_pure (.free rfl rfl) rfl rfl (po_move rfl rfl) ?_) <;> (first | refine sops_pure (.free rfl rfl) rfl rfl (po_field_bx rfl rfl (tyF rfl)) ?_ | refine sops_pure (.free rfl rfl) rfl rfl (po_field rfl rfl (tyF rfl)) ?_) <;> (first | refine sops_pure (.free rfl rfl) rfl rfl (po_load_bx rfl rfl (tyT rfl) rfl rfl) ?_ | refine sops_pure (.free rfl rfl) rfl rfl (po_load rfl rfl (tyT rfl) rfl) ?_) <;> (refine sops_pure (.free rfl rfl) rfl rfl (po_len rfl rfl (by first | exact .t _ | exact .own rfl rfl | exact .nil _ | exact .emp _) (tyS rfl)) ?_) <;> (refine sops_pure (.free rfl rfl) rfl rfl (po_cmp rfl rfl rfl rfl) ?_) <;> (refine sops_nil ?_))
          | ((refine swp_region (id := 9) ?_) <;> (refine sops_pure (.free rfl rfl) rfl rfl (po_move rfl rfl) ?_) <;> (refine sops_pure (.free rfl rfl) rfl rfl (po_move rfl rfl) ?_) <;> (first | refine sops_pure (.yes rfl rfl rfl (by first | assumption | with_reducible rfl | decide | (simp only [decide_eq_true_eq, decide_eq_false_iff_not]; omega))) rfl rfl (po_move rfl rfl) ?_ | refine sops_skip (.no1 rfl rfl rfl (by first | assumption | with_reducible rfl | decide | (simp only [decide_eq_true_eq, decide_eq_false_iff_not]; omega))) rfl rfl ?_ | ((refine sops_split rfl rfl rfl (fun hc => ?_) (fun hc => ?_)) <;> (first | refine sops_pure (.yes rfl rfl rfl (by first | assumption | with_reducible rfl | decide | (simp only [decide_eq_true_eq, decide_eq_false_iff_not]; omega))) rfl rfl (po_move rfl rfl) ?_ | refine sops_skip (.no1 rfl rfl rfl (by first | assumption | with_reducible rfl | decide | (simp only [decide_eq_true_eq, decide_eq_false_iff_not]; omega))) rfl rfl ?_))) <;> (first | refine sops_pure (.yes rfl rfl rfl (by first | assumption | with_reducible rfl | decide | (simp only [decide_eq_true_eq, decide_eq_false_iff_not]; omega))) rfl rfl (po_field_bx rfl rfl (tyF rfl)) ?_ | refine sops_pure (.yes rfl rfl rfl (by first | assumption | with_reducible rfl | decide | (simp only [decide_eq_true_eq, decide_eq_false_iff_not]; omega))) rfl rfl (po_field rfl rfl (tyF rfl)) ?_ | refine sops_skip (.no1 rfl rfl rfl (by first | assumption | with_reducible rfl | decide | (simp only [decide_eq_true_eq, decide_eq_false_iff_not]; omega))) rfl rfl ?_) <;> (first | refine sops_pure (.yes rfl rfl rfl (by first | assumption | with_reducible rfl | decide | (simp only [decide_eq_true_eq, decide_eq_false_iff_not]; omega))) rfl rfl (po_load_bx rfl rfl (tyT rfl) rfl rfl) ?_ | refine sops_pure (.yes rfl rfl rfl (by first | assumption | with_reducible rfl | decide | (simp only [decide_eq_true_eq, decide_eq_false_iff_not]; omega))) rfl rfl (po_load rfl rfl (tyT rfl) rfl) ?_ | refine sops_skip (.no1 rfl rfl rfl (by first | assumption | with_reducible rfl | decide | (simp only [decide_eq_true_eq, decide_eq_false_iff_not]; omega))) rfl rfl ?_) <;> (first | refine sops_pure (.yes rfl rfl rfl (by first | assumption | with_reducible rfl | decide | (simp only [decide_eq_true_eq, decide_eq_false_iff_not]; omega))) rfl rfl (po_call (hl1) rfl (.cons rfl (by first | exact .t _ | exact .own rfl rfl | exact .nil _ | exact .emp _) (.cons rfl (by first | exact .t _ | exact .own rfl rfl | exact .nil _ | exact .emp _) .nil))) ?_ | refine sops_pure (.yes rfl rfl rfl (by first | assumption | with_reducible rfl | decide | (simp only [decide_eq_true_eq, decide_eq_false_iff_not]; omega))) rfl rfl (po_call (hl2) rfl (.cons rfl (by first | exact .t _ | exact .own rfl rfl | exact .nil _ | exact .emp _) (.cons rfl (by first | exact .t _ | exact .own rfl rfl | exact .nil _ | exact .emp _) .nil))) ?_ | refine sops_skip (.no1 rfl rfl rfl (by first | assumption | with_reducible rfl | decide | (simp only [decide_eq_true_eq, decide_eq_false_iff_not]; omega))) rfl rfl ?_) <;> (first | refine sops_pure (.free rfl rfl) rfl rfl (po_pick_t rfl rfl (by first | assumption | with_reducible rfl | decide | (simp only [decide_eq_true_eq, decide_eq_false_iff_not]; omega)) rfl) ?_ | refine sops_pure (.free rfl rfl) rfl rfl (po_pick_f rfl rfl (by first | assumption | with_reducible rfl | decide | (simp only [decide_eq_true_eq, decide_eq_false_iff_not]; omega)) rfl) ?_) <;> (refine sops_pure (.free rfl rfl) rfl rfl (po_move rfl rfl) ?_) <;> (first | refine sops_pure (.yes rfl rfl rfl (by first | assumption | with_reducible rfl | decide | (simp only [decide_eq_true_eq, decide_eq_false_iff_not]; omega))) rfl rfl (po_field_bx rfl rfl (tyF rfl)) ?_ | refine sops_pure (.yes rfl rfl rfl (by first | assumption | with_reducible rfl | decide | (simp only [decide_eq_true_eq, decide_eq_false_iff_not]; omega))) rfl rfl (po_field rfl rfl (tyF rfl)) ?_ | refine sops_skip (.no1 rfl rfl rfl (by first | assumption | with_reducible rfl | decide | (simp only [decide_eq_true_eq, decide_eq_false_iff_not]; omega))) rfl rfl ?_ | ((refine sops_split rfl rfl rfl (fun hc => ?_) (fun hc => ?_)) <;> (first | refine sops_pure (.yes rfl rfl rfl (by first | assumption | with_reducible rfl | decide | (simp only [decide_eq_true_eq, decide_eq_false_iff_not]; omega))) rfl rfl (po_field_bx rfl rfl (tyF rfl)) ?_ | refine sops_pure (.yes rfl rfl rfl (by first | assumption | with_reducible rfl | decide | (simp only [decide_eq_true_eq, decide_eq_false_iff_not]; omega))) rfl rfl (po_field rfl rfl (tyF rfl)) ?_ | refine sops_skip (.no1 rfl rfl rfl (by first | assumption | with_reducible rfl | decide | (simp only [decide_eq_true_eq, decide_eq_false_iff_not]; omega))) rfl rfl ?_))) <;> (first | refine sops_pure (.yes rfl rfl rfl (by first | assumption | with_reducible rfl | decide | (simp only [decide_eq_true_eq, decide_eq_false_iff_not]; omega))) rfl rfl (po_field_bx rfl rfl (tyF rfl)) ?_ | refine sops_pure (.yes rfl rfl rfl (by first | assumption | with_reducible rfl | decide | (simp only [decide_eq_true_eq, decide_eq_false_iff_not]; omega))) rfl rfl (po_field rfl rfl (tyF rfl)) ?_ | refine sops_skip (.no1 rfl rfl rfl (by first | assumption | with_reducible rfl | decide | (simp only [decide_eq_true_eq, decide_eq_false_iff_not]; omega))) rfl rfl ?_) <;> (first | refine sops_pure (.yes rfl rfl rfl (by first | assumption | with_reducible rfl | decide | (simp only [decide_eq_true_eq, decide_eq_false_iff_not]; omega))) rfl rfl (po_load_bx rfl rfl (tyT rfl) rfl rfl) ?_ | refine sops_pure (.yes rfl rfl rfl (by first | assumption | with_reducible rfl | decide | (simp only [decide_eq_true_eq, decide_eq_false_iff_not]; omega))) rfl rfl (po_load rfl rfl (tyT rfl) rfl) ?_ | refine sops_skip (.no1 rfl rfl rfl (by first | assumption | with_reducible rfl | decide | (simp only [decide_eq_true_eq, decide_eq_false_iff_not]; omega))) rfl rfl ?_) <;> (first | refine sops_pure (.yes rfl rfl rfl (by first | assumption | with_reducible rfl | decide | (simp only [decide_eq_true_eq, decide_eq_false_iff_not]; omega))) rfl rfl (po_field_bx rfl rfl (tyF rfl)) ?_ | refine sops_pure (.yes rfl rfl rfl (by first | assumption | with_reducible rfl | decide | (simp only [decide_eq_true_eq, decide_eq_false_iff_not]; omega))) rfl rfl (po_field rfl rfl (tyF rfl)) ?_ | refine sops_skip (.no1 rfl rfl rfl (by first | assumption | with_reducible rfl | decide | (simp only [decide_eq_true_eq, decide_eq_false_iff_not]; omega))) rfl rfl ?_) <;> (first | refine sops_pure (.yes rfl rfl rfl (by first | assumption | with_reducible rfl | decide | (simp only [decide_eq_true_eq, decide_eq_false_iff_not]; omega))) rfl rfl (po_load_bx rfl rfl (tyT rfl) rfl rfl) ?_ | refine sops_pure (.yes rfl rfl rfl (by first | assumption | with_reducible rfl | decide | (simp only [decide_eq_true_eq, decide_eq_false_iff_not]; omega))) rfl rfl (po_load rfl rfl (tyT rfl) rfl) ?_ | refine sops_skip (.no1 rfl rfl rfl (by first | assumption | with_reducible rfl | decide | (simp only [decide_eq_true_eq, decide_eq_false_iff_not]; omega))) rfl rfl ?_) <;> (first | refine sops_pure (.yes rfl rfl rfl (by first | assumption | with_reducible rfl | decide | (simp only [decide_eq_true_eq, decide_eq_false_iff_not]; omega))) rfl rfl (po_call (hl1) rfl (.cons rfl (by first | exact .t _ | exact .own rfl rfl | exact .nil _ | exact .emp _) (.cons rfl (by first | exact .t _ | exact .own rfl rfl | exact .nil _ | exact .emp _) .nil))) ?_ | refine sops_pure (.yes rfl rfl rfl (by first | assumption | with_reducible rfl | decide | (simp only [decide_eq_true_eq, decide_eq_false_iff_not]; omega))) rfl rfl (po_call (hl2) rfl (.cons rfl (by first | exact .t _ | exact .own rfl rfl | exact .nil _ | exact .emp _) (.cons rfl (by first | exact .t _ | exact .own rfl rfl | exact .nil _ | exact .emp _) .nil))) ?_ | refine sops_skip (.no1 rfl rfl rfl (by first | assumption | with_reducible rfl | decide | (simp only [decide_eq_true_eq, decide_eq_false_iff_not]; omega))) rfl rfl ?_) <;> (first | refine sops_pure (.free rfl rfl) rfl rfl (po_pick_t rfl rfl (by first | assumption | with_reducible rfl | decide | (simp only [decide_eq_true_eq, decide_eq_false_iff_not]; omega)) rfl) ?_ | refine sops_pure (.free rfl rfl) rfl rfl (po_pick_f rfl rfl (by first | assumption | with_reducible rfl | decide | (simp only [decide_eq_true_eq, decide_eq_false_iff_not]; omega)) rfl) ?_) <;> (refine sops_pure (.free rfl rfl) rfl rfl (po_assign rfl rfl) ?_) <;> (refine sops_nil ?_))
          | refine swp_ret ?_
          | refine swp_skip ?_
          | refine swp_block ?_
          | refine swp_exit ?_
          | refine block_go ?_
          | refine block_exit ?_
          | refine block_far rfl ?_
          | refine block_ret ?_
          | refine then_ret ?_
          | refine then_exit ?_
          | refine for_ret ?_
          | refine for_exit ?_
          | refine swp_cond_t rfl (by first | assumption | with_reducible rfl | decide | (simp only [decide_eq_true_eq, Bool.not_eq_true', decide_eq_false_iff_not]; omega)) ?_
          | refine swp_cond_f rfl (by first | assumption | with_reducible rfl | decide | (simp only [decide_eq_false_iff_not, Bool.not_eq_false', decide_eq_true_eq]; omega)) ?_
          | refine swp_cond rfl (fun hc => ?_) (fun hc => ?_)
          | refine retq (by first | exact .inr rfl | exact .inl rfl) rfl (.tmp rfl (by first | exact .t _ | exact .own rfl rfl | exact .nil _ | exact .emp _) .nil) ?_)
      all_goals
        refine eq_b ?_
        simp_all
abbrev reqA (q : Pl.Req) (tg qu : ByteArray) (bd : Value) : List A := [.t (.v (.string q.method)), .t (.v (.string tg)), .t (.v (.string q.path)), .t (.v (.string qu)), .t (.v (.string q.host)), .t (.sl 2 (q.heads.map headT)), .t (.v bd)]
abbrev askA (a : Pl.Asker) : List A := [.t (.v (.string a.ns)), .t (.v (.string a.sa)), .t (.v (.int .u32 a.addr))]
set_option maxRecDepth 100000 in
set_option maxHeartbeats 1000000 in
theorem target_ (t : Pl.Target) (ht : okTarget t) (hf : fewT t) (port : Int) (q : Pl.Req) (hq : OkReq q) (tg qu : ByteArray) (bd : Value) : PCalls Try.prog 47 [.agg (targetT t), .v (.int .i64 port), .agg (reqT q tg qu bd)] (.v (.bool (tgtP port q t))) := by
  obtain ⟨f0, f1, f2, f3⟩ := hf
  obtain ⟨k0, k1, k2, k3⟩ := ht
  have hml : (t.ports.map intT).length = t.ports.length := List.length_map _
  have hl1 := lets_ q.method t.methods hq.method k1 f1
  have hl2 := lets_ q.path t.paths hq.path k2 f2
  have hl3 := lets_ q.host t.hosts hq.host k3 f3
  unfold tgtP
  refine pcalls_of Try.func47 rfl rfl Try.ntmps47 rfl ?_
  repeat' (first
    | refine then_go ?_
    | refine swp_seq ?_
    | ((refine swp_region (id := 0) ?_) <;> (refine sops_box (.free rfl rfl) rfl rfl rfl rfl rfl rfl ?_) <;> (refine sops_box (.free rfl rfl) rfl rfl rfl rfl rfl rfl ?_) <;> (refine sops_pure (.free rfl rfl) rfl rfl (po_assign rfl rfl) ?_) <;> (refine sops_nil ?_))
    | ((refine swp_region (id := 1) ?_) <;> (first | refine sops_pure (.free rfl rfl) rfl rfl (po_field_bx rfl rfl (tyF rfl)) ?_ | refine sops_pure (.free rfl rfl) rfl rfl (po_field rfl rfl (tyF rfl)) ?_) <;> (first | refine sops_pure (.free rfl rfl) rfl rfl (po_load_bx rfl rfl (tyT rfl) rfl rfl) ?_ | refine sops_pure (.free rfl rfl) rfl rfl (po_load rfl rfl (tyT rfl) rfl) ?_) <;> (refine sops_pure (.free rfl rfl) rfl rfl (po_len rfl rfl (by first | exact .t _ | exact .own rfl rfl | exact .nil _ | exact .emp _) (tyS rfl)) ?_) <;> (refine sops_pure (.free rfl rfl) rfl rfl (po_cmp rfl rfl rfl rfl) ?_) <;> (refine sops_pure (.free rfl rfl) rfl rfl (po_assign rfl rfl) ?_) <;> (refine sops_nil ?_))
    | ((refine swp_region (id := 2) ?_) <;> (refine sops_pure (.free rfl rfl) rfl rfl (po_assign rfl rfl) ?_) <;> (refine sops_nil ?_))
    | refine swp_ret ?_
    | refine swp_skip ?_
    | refine swp_block ?_
    | refine swp_exit ?_
    | refine block_go ?_
    | refine block_exit ?_
    | refine block_far rfl ?_
    | refine block_ret ?_
    | refine then_ret ?_
    | refine then_exit ?_
    | refine for_ret ?_
    | refine for_exit ?_
    | refine swp_cond_t rfl (by first | assumption | with_reducible rfl | decide | (simp only [decide_eq_true_eq, Bool.not_eq_true', decide_eq_false_iff_not]; omega)) ?_
    | refine swp_cond_f rfl (by first | assumption | with_reducible rfl | decide | (simp only [decide_eq_false_iff_not, Bool.not_eq_false', decide_eq_true_eq]; omega)) ?_
    | refine swp_cond rfl (fun hc => ?_) (fun hc => ?_)
    | refine retq (by first | exact .inr rfl | exact .inl rfl) rfl (.tmp rfl (by first | exact .t _ | exact .own rfl rfl | exact .nil _ | exact .emp _) .nil) ?_)
  refine swp_for (fun k => ⟨[(1, .t (.v (.int .i64 port))), (3, .bp 3 0), (5, .bp 5 0), (7, .t (.v (.bool (inSo (fun n => n == port) t.ports k)))), (8, .t (.v (.int .i64 (k : Int))))], [(3, [.t (.sl 1 (t.ports.map intT)), .t (.sl 2 (t.methods.map termT)), .t (.sl 2 (t.paths.map termT)), .t (.sl 2 (t.hosts.map termT))]), (5, reqA q tg qu bd)], []⟩) (fun _ => True) t.ports.length (weak_sub (.cons rfl (by first | rfl | (rw [inSo_zero, hml])) rfl (.cons rfl (by first | rfl | (rw [inSo_zero, hml])) rfl (.cons rfl (by first | rfl | (rw [inSo_zero, hml])) rfl (.cons rfl (by first | rfl | (rw [inSo_zero, hml])) rfl (.cons rfl (by first | rfl | (rw [inSo_zero, hml])) rfl .nil))))) (.cons rfl (by first | rfl | (rw [inSo_zero, hml])) rfl (.cons rfl (by first | rfl | (rw [inSo_zero, hml])) rfl .nil)) .nil) trivial ?_
  intro k hk _
  by_cases hlt : k < t.ports.length
  · cases hb : inSo (fun n => n == port) t.ports k with
    | true =>
      have hs1 := inSo_yes hlt hb
      repeat' (first
        | refine then_go ?_
        | refine swp_seq ?_
        | refine for_next hlt (weak_sub (.cons rfl (by first | rfl | (rw [hs1])) rfl (.cons rfl (by first | rfl | (rw [hs1])) rfl (.cons rfl (by first | rfl | (rw [hs1])) rfl (.cons rfl (by first | rfl | (rw [hs1])) rfl (.cons rfl (by first | rfl | (rw [hs1])) rfl .nil))))) (.cons rfl (by first | rfl | (rw [hs1])) rfl (.cons rfl (by first | rfl | (rw [hs1])) rfl .nil)) .nil) trivial
        | ((refine swp_region (id := 3) ?_) <;> (refine sops_pure (.free rfl rfl) rfl rfl (po_move rfl rfl) ?_) <;> (first | refine sops_pure (.free rfl rfl) rfl rfl (po_field_bx rfl rfl (tyF rfl)) ?_ | refine sops_pure (.free rfl rfl) rfl rfl (po_field rfl rfl (tyF rfl)) ?_) <;> (first | refine sops_pure (.free rfl rfl) rfl rfl (po_load_bx rfl rfl (tyT rfl) rfl rfl) ?_ | refine sops_pure (.free rfl rfl) rfl rfl (po_load rfl rfl (tyT rfl) rfl) ?_) <;> (refine sops_pure (.free rfl rfl) rfl rfl (po_len rfl rfl (by first | exact .t _ | exact .own rfl rfl | exact .nil _ | exact .emp _) (tyS rfl)) ?_) <;> (refine sops_pure (.free rfl rfl) rfl rfl (po_cmp rfl rfl rfl rfl) ?_) <;> (refine sops_nil ?_))
        | ((refine swp_region (id := 5) ?_) <;> (refine sops_pure (.free rfl rfl) rfl rfl (po_move rfl rfl) ?_) <;> (refine sops_pure (.free rfl rfl) rfl rfl (po_move rfl rfl) ?_) <;> (first | refine sops_pure (.yes rfl rfl rfl (by first | assumption | with_reducible rfl | decide | (simp only [decide_eq_true_eq, decide_eq_false_iff_not]; omega))) rfl rfl (po_field_bx rfl rfl (tyF rfl)) ?_ | refine sops_pure (.yes rfl rfl rfl (by first | assumption | with_reducible rfl | decide | (simp only [decide_eq_true_eq, decide_eq_false_iff_not]; omega))) rfl rfl (po_field rfl rfl (tyF rfl)) ?_ | refine sops_skip (.no0 rfl rfl rfl (by first | assumption | with_reducible rfl | decide | (simp only [decide_eq_true_eq, decide_eq_false_iff_not]; omega))) rfl rfl ?_ | ((refine sops_split rfl rfl rfl (fun hc => ?_) (fun hc => ?_)) <;> (first | refine sops_pure (.yes rfl rfl rfl (by first | assumption | with_reducible rfl | decide | (simp only [decide_eq_true_eq, decide_eq_false_iff_not]; omega))) rfl rfl (po_field_bx rfl rfl (tyF rfl)) ?_ | refine sops_pure (.yes rfl rfl rfl (by first | assumption | with_reducible rfl | decide | (simp only [decide_eq_true_eq, decide_eq_false_iff_not]; omega))) rfl rfl (po_field rfl rfl (tyF rfl)) ?_ | refine sops_skip (.no0 rfl rfl rfl (by first | assumption | with_reducible rfl | decide | (simp only [decide_eq_true_eq, decide_eq_false_iff_not]; omega))) rfl rfl ?_))) <;> (first | refine sops_pure (.yes rfl rfl rfl (by first | assumption | with_reducible rfl | decide | (simp only [decide_eq_true_eq, decide_eq_false_iff_not]; omega))) rfl rfl (po_load_bx rfl rfl (tyT rfl) rfl rfl) ?_ | refine sops_pure (.yes rfl rfl rfl (by first | assumption | with_reducible rfl | decide | (simp only [decide_eq_true_eq, decide_eq_false_iff_not]; omega))) rfl rfl (po_load rfl rfl (tyT rfl) rfl) ?_ | refine sops_skip (.no0 rfl rfl rfl (by first | assumption | with_reducible rfl | decide | (simp only [decide_eq_true_eq, decide_eq_false_iff_not]; omega))) rfl rfl ?_) <;> (first | refine sops_pure (.yes rfl rfl rfl (by first | assumption | with_reducible rfl | decide | (simp only [decide_eq_true_eq, decide_eq_false_iff_not]; omega))) rfl rfl (po_move rfl rfl) ?_ | refine sops_skip (.no0 rfl rfl rfl (by first | assumption | with_reducible rfl | decide | (simp only [decide_eq_true_eq, decide_eq_false_iff_not]; omega))) rfl rfl ?_) <;> (first | refine sops_pure (.yes rfl rfl rfl (by first | assumption | with_reducible rfl | decide | (simp only [decide_eq_true_eq, decide_eq_false_iff_not]; omega))) rfl rfl (po_index rfl rfl (by first | exact .t _ | exact .own rfl rfl | exact .nil _ | exact .emp _) rfl (tyS rfl) (by first | rfl | omega) (by first | rfl | assumption | exact map_at (by first | assumption | omega))) ?_ | refine sops_skip (.no0 rfl rfl rfl (by first | assumption | with_reducible rfl | decide | (simp only [decide_eq_true_eq, decide_eq_false_iff_not]; omega))) rfl rfl ?_) <;> (first | refine sops_pure (.yes rfl rfl rfl (by first | assumption | with_reducible rfl | decide | (simp only [decide_eq_true_eq, decide_eq_false_iff_not]; omega))) rfl rfl (po_load_bx rfl rfl (tyT rfl) rfl rfl) ?_ | refine sops_pure (.yes rfl rfl rfl (by first | assumption | with_reducible rfl | decide | (simp only [decide_eq_true_eq, decide_eq_false_iff_not]; omega))) rfl rfl (po_load rfl rfl (tyT rfl) rfl) ?_ | refine sops_skip (.no0 rfl rfl rfl (by first | assumption | with_reducible rfl | decide | (simp only [decide_eq_true_eq, decide_eq_false_iff_not]; omega))) rfl rfl ?_) <;> (first | refine sops_pure (.yes rfl rfl rfl (by first | assumption | with_reducible rfl | decide | (simp only [decide_eq_true_eq, decide_eq_false_iff_not]; omega))) rfl rfl (po_move rfl rfl) ?_ | refine sops_skip (.no0 rfl rfl rfl (by first | assumption | with_reducible rfl | decide | (simp only [decide_eq_true_eq, decide_eq_false_iff_not]; omega))) rfl rfl ?_) <;> (first | refine sops_pure (.yes rfl rfl rfl (by first | assumption | with_reducible rfl | decide | (simp only [decide_eq_true_eq, decide_eq_false_iff_not]; omega))) rfl rfl (po_cmp rfl rfl rfl rfl) ?_ | refine sops_skip (.no0 rfl rfl rfl (by first | assumption | with_reducible rfl | decide | (simp only [decide_eq_true_eq, decide_eq_false_iff_not]; omega))) rfl rfl ?_) <;> (first | refine sops_pure (.free rfl rfl) rfl rfl (po_pick_t rfl rfl (by first | assumption | with_reducible rfl | decide | (simp only [decide_eq_true_eq, decide_eq_false_iff_not]; omega)) rfl) ?_ | refine sops_pure (.free rfl rfl) rfl rfl (po_pick_f rfl rfl (by first | assumption | with_reducible rfl | decide | (simp only [decide_eq_true_eq, decide_eq_false_iff_not]; omega)) rfl) ?_) <;> (refine sops_pure (.free rfl rfl) rfl rfl (po_assign rfl rfl) ?_) <;> (refine sops_nil ?_))
        | ((refine swp_region (id := 4) ?_) <;> (refine sops_pure (.free rfl rfl) rfl rfl (po_move rfl rfl) ?_) <;> (first | refine sops_pure (.free rfl rfl) rfl rfl (po_inc rfl rfl rfl (by omega)) ?_ | refine sops_pure (.free rfl rfl) rfl rfl (po_arith rfl rfl rfl (ar_add (by first | rfl | (refine wrap_i64 ?_; omega)) rfl)) ?_) <;> (refine sops_pure (.free rfl rfl) rfl rfl (po_assign rfl rfl) ?_) <;> (refine sops_nil ?_))
        | refine swp_ret ?_
        | refine swp_skip ?_
        | refine swp_block ?_
        | refine swp_exit ?_
        | refine block_go ?_
        | refine block_exit ?_
        | refine block_far rfl ?_
        | refine block_ret ?_
        | refine then_ret ?_
        | refine then_exit ?_
        | refine for_ret ?_
        | refine for_exit ?_
        | refine swp_cond_t rfl (by first | assumption | with_reducible rfl | decide | (simp only [decide_eq_true_eq, Bool.not_eq_true', decide_eq_false_iff_not]; omega)) ?_
        | refine swp_cond_f rfl (by first | assumption | with_reducible rfl | decide | (simp only [decide_eq_false_iff_not, Bool.not_eq_false', decide_eq_true_eq]; omega)) ?_
        | refine swp_cond rfl (fun hc => ?_) (fun hc => ?_)
        | refine retq (by first | exact .inr rfl | exact .inl rfl) rfl (.tmp rfl (by first | exact .t _ | exact .own rfl rfl | exact .nil _ | exact .emp _) .nil) ?_)
    | false =>
      have hs1 : inSo (fun n => n == port) t.ports (k + 1) = decide (t.ports[k] = port) := inSo_no hlt hb
      repeat' (first
        | refine then_go ?_
        | refine swp_seq ?_
        | refine for_next hlt (weak_sub (.cons rfl (by first | rfl | (rw [hs1])) rfl (.cons rfl (by first | rfl | (rw [hs1])) rfl (.cons rfl (by first | rfl | (rw [hs1])) rfl (.cons rfl (by first | rfl | (rw [hs1])) rfl (.cons rfl (by first | rfl | (rw [hs1])) rfl .nil))))) (.cons rfl (by first | rfl | (rw [hs1])) rfl (.cons rfl (by first | rfl | (rw [hs1])) rfl .nil)) .nil) trivial
        | ((refine swp_region (id := 3) ?_) <;> (refine sops_pure (.free rfl rfl) rfl rfl (po_move rfl rfl) ?_) <;> (first | refine sops_pure (.free rfl rfl) rfl rfl (po_field_bx rfl rfl (tyF rfl)) ?_ | refine sops_pure (.free rfl rfl) rfl rfl (po_field rfl rfl (tyF rfl)) ?_) <;> (first | refine sops_pure (.free rfl rfl) rfl rfl (po_load_bx rfl rfl (tyT rfl) rfl rfl) ?_ | refine sops_pure (.free rfl rfl) rfl rfl (po_load rfl rfl (tyT rfl) rfl) ?_) <;> (refine sops_pure (.free rfl rfl) rfl rfl (po_len rfl rfl (by first | exact .t _ | exact .own rfl rfl | exact .nil _ | exact .emp _) (tyS rfl)) ?_) <;> (refine sops_pure (.free rfl rfl) rfl rfl (po_cmp rfl rfl rfl rfl) ?_) <;> (refine sops_nil ?_))
        | ((refine swp_region (id := 5) ?_) <;> (refine sops_pure (.free rfl rfl) rfl rfl (po_move rfl rfl) ?_) <;> (refine sops_pure (.free rfl rfl) rfl rfl (po_move rfl rfl) ?_) <;> (first | refine sops_pure (.yes rfl rfl rfl (by first | assumption | with_reducible rfl | decide | (simp only [decide_eq_true_eq, decide_eq_false_iff_not]; omega))) rfl rfl (po_field_bx rfl rfl (tyF rfl)) ?_ | refine sops_pure (.yes rfl rfl rfl (by first | assumption | with_reducible rfl | decide | (simp only [decide_eq_true_eq, decide_eq_false_iff_not]; omega))) rfl rfl (po_field rfl rfl (tyF rfl)) ?_ | refine sops_skip (.no0 rfl rfl rfl (by first | assumption | with_reducible rfl | decide | (simp only [decide_eq_true_eq, decide_eq_false_iff_not]; omega))) rfl rfl ?_ | ((refine sops_split rfl rfl rfl (fun hc => ?_) (fun hc => ?_)) <;> (first | refine sops_pure (.yes rfl rfl rfl (by first | assumption | with_reducible rfl | decide | (simp only [decide_eq_true_eq, decide_eq_false_iff_not]; omega))) rfl rfl (po_field_bx rfl rfl (tyF rfl)) ?_ | refine sops_pure (.yes rfl rfl rfl (by first | assumption | with_reducible rfl | decide | (simp only [decide_eq_true_eq, decide_eq_false_iff_not]; omega))) rfl rfl (po_field rfl rfl (tyF rfl)) ?_ | refine sops_skip (.no0 rfl rfl rfl (by first | assumption | with_reducible rfl | decide | (simp only [decide_eq_true_eq, decide_eq_false_iff_not]; omega))) rfl rfl ?_))) <;> (first | refine sops_pure (.yes rfl rfl rfl (by first | assumption | with_reducible rfl | decide | (simp only [decide_eq_true_eq, decide_eq_false_iff_not]; omega))) rfl rfl (po_load_bx rfl rfl (tyT rfl) rfl rfl) ?_ | refine sops_pure (.yes rfl rfl rfl (by first | assumption | with_reducible rfl | decide | (simp only [decide_eq_true_eq, decide_eq_false_iff_not]; omega))) rfl rfl (po_load rfl rfl (tyT rfl) rfl) ?_ | refine sops_skip (.no0 rfl rfl rfl (by first | assumption | with_reducible rfl | decide | (simp only [decide_eq_true_eq, decide_eq_false_iff_not]; omega))) rfl rfl ?_) <;> (first | refine sops_pure (.yes rfl rfl rfl (by first | assumption | with_reducible rfl | decide | (simp only [decide_eq_true_eq, decide_eq_false_iff_not]; omega))) rfl rfl (po_move rfl rfl) ?_ | refine sops_skip (.no0 rfl rfl rfl (by first | assumption | with_reducible rfl | decide | (simp only [decide_eq_true_eq, decide_eq_false_iff_not]; omega))) rfl rfl ?_) <;> (first | refine sops_pure (.yes rfl rfl rfl (by first | assumption | with_reducible rfl | decide | (simp only [decide_eq_true_eq, decide_eq_false_iff_not]; omega))) rfl rfl (po_index rfl rfl (by first | exact .t _ | exact .own rfl rfl | exact .nil _ | exact .emp _) rfl (tyS rfl) (by first | rfl | omega) (by first | rfl | assumption | exact map_at (by first | assumption | omega))) ?_ | refine sops_skip (.no0 rfl rfl rfl (by first | assumption | with_reducible rfl | decide | (simp only [decide_eq_true_eq, decide_eq_false_iff_not]; omega))) rfl rfl ?_) <;> (first | refine sops_pure (.yes rfl rfl rfl (by first | assumption | with_reducible rfl | decide | (simp only [decide_eq_true_eq, decide_eq_false_iff_not]; omega))) rfl rfl (po_load_bx rfl rfl (tyT rfl) rfl rfl) ?_ | refine sops_pure (.yes rfl rfl rfl (by first | assumption | with_reducible rfl | decide | (simp only [decide_eq_true_eq, decide_eq_false_iff_not]; omega))) rfl rfl (po_load rfl rfl (tyT rfl) rfl) ?_ | refine sops_skip (.no0 rfl rfl rfl (by first | assumption | with_reducible rfl | decide | (simp only [decide_eq_true_eq, decide_eq_false_iff_not]; omega))) rfl rfl ?_) <;> (first | refine sops_pure (.yes rfl rfl rfl (by first | assumption | with_reducible rfl | decide | (simp only [decide_eq_true_eq, decide_eq_false_iff_not]; omega))) rfl rfl (po_move rfl rfl) ?_ | refine sops_skip (.no0 rfl rfl rfl (by first | assumption | with_reducible rfl | decide | (simp only [decide_eq_true_eq, decide_eq_false_iff_not]; omega))) rfl rfl ?_) <;> (first | refine sops_pure (.yes rfl rfl rfl (by first | assumption | with_reducible rfl | decide | (simp only [decide_eq_true_eq, decide_eq_false_iff_not]; omega))) rfl rfl (po_cmp rfl rfl rfl rfl) ?_ | refine sops_skip (.no0 rfl rfl rfl (by first | assumption | with_reducible rfl | decide | (simp only [decide_eq_true_eq, decide_eq_false_iff_not]; omega))) rfl rfl ?_) <;> (first | refine sops_pure (.free rfl rfl) rfl rfl (po_pick_t rfl rfl (by first | assumption | with_reducible rfl | decide | (simp only [decide_eq_true_eq, decide_eq_false_iff_not]; omega)) rfl) ?_ | refine sops_pure (.free rfl rfl) rfl rfl (po_pick_f rfl rfl (by first | assumption | with_reducible rfl | decide | (simp only [decide_eq_true_eq, decide_eq_false_iff_not]; omega)) rfl) ?_) <;> (refine sops_pure (.free rfl rfl) rfl rfl (po_assign rfl rfl) ?_) <;> (refine sops_nil ?_))
        | ((refine swp_region (id := 4) ?_) <;> (refine sops_pure (.free rfl rfl) rfl rfl (po_move rfl rfl) ?_) <;> (first | refine sops_pure (.free rfl rfl) rfl rfl (po_inc rfl rfl rfl (by omega)) ?_ | refine sops_pure (.free rfl rfl) rfl rfl (po_arith rfl rfl rfl (ar_add (by first | rfl | (refine wrap_i64 ?_; omega)) rfl)) ?_) <;> (refine sops_pure (.free rfl rfl) rfl rfl (po_assign rfl rfl) ?_) <;> (refine sops_nil ?_))
        | refine swp_ret ?_
        | refine swp_skip ?_
        | refine swp_block ?_
        | refine swp_exit ?_
        | refine block_go ?_
        | refine block_exit ?_
        | refine block_far rfl ?_
        | refine block_ret ?_
        | refine then_ret ?_
        | refine then_exit ?_
        | refine for_ret ?_
        | refine for_exit ?_
        | refine swp_cond_t rfl (by first | assumption | with_reducible rfl | decide | (simp only [decide_eq_true_eq, Bool.not_eq_true', decide_eq_false_iff_not]; omega)) ?_
        | refine swp_cond_f rfl (by first | assumption | with_reducible rfl | decide | (simp only [decide_eq_false_iff_not, Bool.not_eq_false', decide_eq_true_eq]; omega)) ?_
        | refine swp_cond rfl (fun hc => ?_) (fun hc => ?_)
        | refine retq (by first | exact .inr rfl | exact .inl rfl) rfl (.tmp rfl (by first | exact .t _ | exact .own rfl rfl | exact .nil _ | exact .emp _) .nil) ?_)
  · obtain rfl : k = t.ports.length := by omega
    rw [inSo_all]
    cases hb : (t.ports.isEmpty || t.ports.any fun n => n == port)
    all_goals
      repeat' (first
        | refine then_go ?_
        | refine swp_seq ?_
        | ((refine swp_region (id := 3) ?_) <;> (refine sops_pure (.free rfl rfl) rfl rfl (po_move rfl rfl) ?_) <;> (first | refine sops_pure (.free rfl rfl) rfl rfl (po_field_bx rfl rfl (tyF rfl)) ?_ | refine sops_pure (.free rfl rfl) rfl rfl (po_field rfl rfl (tyF rfl)) ?_) <;> (first | refine sops_pure (.free rfl rfl) rfl rfl (po_load_bx rfl rfl (tyT rfl) rfl rfl) ?_ | refine sops_pure (.free rfl rfl) rfl rfl (po_load rfl rfl (tyT rfl) rfl) ?_) <;> (refine sops_pure (.free rfl rfl) rfl rfl (po_len rfl rfl (by first | exact .t _ | exact .own rfl rfl | exact .nil _ | exact .emp _) (tyS rfl)) ?_) <;> (refine sops_pure (.free rfl rfl) rfl rfl (po_cmp rfl rfl rfl rfl) ?_) <;> (refine sops_nil ?_))
        | ((refine swp_region (id := 6) ?_) <;> (refine sops_pure (.free rfl rfl) rfl rfl (po_move rfl rfl) ?_) <;> (refine sops_pure (.free rfl rfl) rfl rfl (po_move rfl rfl) ?_) <;> (first | refine sops_pure (.yes rfl rfl rfl (by first | assumption | with_reducible rfl | decide | (simp only [decide_eq_true_eq, decide_eq_false_iff_not]; omega))) rfl rfl (po_field_bx rfl rfl (tyF rfl)) ?_ | refine sops_pure (.yes rfl rfl rfl (by first | assumption | with_reducible rfl | decide | (simp only [decide_eq_true_eq, decide_eq_false_iff_not]; omega))) rfl rfl (po_field rfl rfl (tyF rfl)) ?_ | refine sops_skip (.no1 rfl rfl rfl (by first | assumption | with_reducible rfl | decide | (simp only [decide_eq_true_eq, decide_eq_false_iff_not]; omega))) rfl rfl ?_ | ((refine sops_split rfl rfl rfl (fun hc => ?_) (fun hc => ?_)) <;> (first | refine sops_pure (.yes rfl rfl rfl (by first | assumption | with_reducible rfl | decide | (simp only [decide_eq_true_eq, decide_eq_false_iff_not]; omega))) rfl rfl (po_field_bx rfl rfl (tyF rfl)) ?_ | refine sops_pure (.yes rfl rfl rfl (by first | assumption | with_reducible rfl | decide | (simp only [decide_eq_true_eq, decide_eq_false_iff_not]; omega))) rfl rfl (po_field rfl rfl (tyF rfl)) ?_ | refine sops_skip (.no1 rfl rfl rfl (by first | assumption | with_reducible rfl | decide | (simp only [decide_eq_true_eq, decide_eq_false_iff_not]; omega))) rfl rfl ?_))) <;> (first | refine sops_pure (.yes rfl rfl rfl (by first | assumption | with_reducible rfl | decide | (simp only [decide_eq_true_eq, decide_eq_false_iff_not]; omega))) rfl rfl (po_load_bx rfl rfl (tyT rfl) rfl rfl) ?_ | refine sops_pure (.yes rfl rfl rfl (by first | assumption | with_reducible rfl | decide | (simp only [decide_eq_true_eq, decide_eq_false_iff_not]; omega))) rfl rfl (po_load rfl rfl (tyT rfl) rfl) ?_ | refine sops_skip (.no1 rfl rfl rfl (by first | assumption | with_reducible rfl | decide | (simp only [decide_eq_true_eq, decide_eq_false_iff_not]; omega))) rfl rfl ?_) <;> (first | refine sops_pure (.yes rfl rfl rfl (by first | assumption | with_reducible rfl | decide | (simp only [decide_eq_true_eq, decide_eq_false_iff_not]; omega))) rfl rfl (po_field_bx rfl rfl (tyF rfl)) ?_ | refine sops_pure (.yes rfl rfl rfl (by first | assumption | with_reducible rfl | decide | (simp only [decide_eq_true_eq, decide_eq_false_iff_not]; omega))) rfl rfl (po_field rfl rfl (tyF rfl)) ?_ | refine sops_skip (.no1 rfl rfl rfl (by first | assumption | with_reducible rfl | decide | (simp only [decide_eq_true_eq, decide_eq_false_iff_not]; omega))) rfl rfl ?_) <;> (first | refine sops_pure (.yes rfl rfl rfl (by first | assumption | with_reducible rfl | decide | (simp only [decide_eq_true_eq, decide_eq_false_iff_not]; omega))) rfl rfl (po_load_bx rfl rfl (tyT rfl) rfl rfl) ?_ | refine sops_pure (.yes rfl rfl rfl (by first | assumption | with_reducible rfl | decide | (simp only [decide_eq_true_eq, decide_eq_false_iff_not]; omega))) rfl rfl (po_load rfl rfl (tyT rfl) rfl) ?_ | refine sops_skip (.no1 rfl rfl rfl (by first | assumption | with_reducible rfl | decide | (simp only [decide_eq_true_eq, decide_eq_false_iff_not]; omega))) rfl rfl ?_) <;> (first | refine sops_pure (.yes rfl rfl rfl (by first | assumption | with_reducible rfl | decide | (simp only [decide_eq_true_eq, decide_eq_false_iff_not]; omega))) rfl rfl (po_call (hl1) rfl (.cons rfl (by first | exact .t _ | exact .own rfl rfl | exact .nil _ | exact .emp _) (.cons rfl (by first | exact .t _ | exact .own rfl rfl | exact .nil _ | exact .emp _) .nil))) ?_ | refine sops_pure (.yes rfl rfl rfl (by first | assumption | with_reducible rfl | decide | (simp only [decide_eq_true_eq, decide_eq_false_iff_not]; omega))) rfl rfl (po_call (hl2) rfl (.cons rfl (by first | exact .t _ | exact .own rfl rfl | exact .nil _ | exact .emp _) (.cons rfl (by first | exact .t _ | exact .own rfl rfl | exact .nil _ | exact .emp _) .nil))) ?_ | refine sops_pure (.yes rfl rfl rfl (by first | assumption | with_reducible rfl | decide | (simp only [decide_eq_true_eq, decide_eq_false_iff_not]; omega))) rfl rfl (po_call (hl3) rfl (.cons rfl (by first | exact .t _ | exact .own rfl rfl | exact .nil _ | exact .emp _) (.cons rfl (by first | exact .t _ | exact .own rfl rfl | exact .nil _ | exact .emp _) .nil))) ?_ | refine sops_skip (.no1 rfl rfl rfl (by first | assumption | with_reducible rfl | decide | (simp only [decide_eq_true_eq, decide_eq_false_iff_not]; omega))) rfl rfl ?_) <;> (first | refine sops_pure (.free rfl rfl) rfl rfl (po_pick_t rfl rfl (by first | assumption | with_reducible rfl | decide | (simp only [decide_eq_true_eq, decide_eq_false_iff_not]; omega)) rfl) ?_ | refine sops_pure (.free rfl rfl) rfl rfl (po_pick_f rfl rfl (by first | assumption | with_reducible rfl | decide | (simp only [decide_eq_true_eq, decide_eq_false_iff_not]; omega)) rfl) ?_) <;> (refine sops_pure (.free rfl rfl) rfl rfl (po_move rfl rfl) ?_) <;> (first | refine sops_pure (.yes rfl rfl rfl (by first | assumption | with_reducible rfl | decide | (simp only [decide_eq_true_eq, decide_eq_false_iff_not]; omega))) rfl rfl (po_field_bx rfl rfl (tyF rfl)) ?_ | refine sops_pure (.yes rfl rfl rfl (by first | assumption | with_reducible rfl | decide | (simp only [decide_eq_true_eq, decide_eq_false_iff_not]; omega))) rfl rfl (po_field rfl rfl (tyF rfl)) ?_ | refine sops_skip (.no1 rfl rfl rfl (by first | assumption | with_reducible rfl | decide | (simp only [decide_eq_true_eq, decide_eq_false_iff_not]; omega))) rfl rfl ?_ | ((refine sops_split rfl rfl rfl (fun hc => ?_) (fun hc => ?_)) <;> (first | refine sops_pure (.yes rfl rfl rfl (by first | assumption | with_reducible rfl | decide | (simp only [decide_eq_true_eq, decide_eq_false_iff_not]; omega))) rfl rfl (po_field_bx rfl rfl (tyF rfl)) ?_ | refine sops_pure (.yes rfl rfl rfl (by first | assumption | with_reducible rfl | decide | (simp only [decide_eq_true_eq, decide_eq_false_iff_not]; omega))) rfl rfl (po_field rfl rfl (tyF rfl)) ?_ | refine sops_skip (.no1 rfl rfl rfl (by first | assumption | with_reducible rfl | decide | (simp only [decide_eq_true_eq, decide_eq_false_iff_not]; omega))) rfl rfl ?_))) <;> (first | refine sops_pure (.yes rfl rfl rfl (by first | assumption | with_reducible rfl | decide | (simp only [decide_eq_true_eq, decide_eq_false_iff_not]; omega))) rfl rfl (po_load_bx rfl rfl (tyT rfl) rfl rfl) ?_ | refine sops_pure (.yes rfl rfl rfl (by first | assumption | with_reducible rfl | decide | (simp only [decide_eq_true_eq, decide_eq_false_iff_not]; omega))) rfl rfl (po_load rfl rfl (tyT rfl) rfl) ?_ | refine sops_skip (.no1 rfl rfl rfl (by first | assumption | with_reducible rfl | decide | (simp only [decide_eq_true_eq, decide_eq_false_iff_not]; omega))) rfl rfl ?_) <;> (first | refine sops_pure (.yes rfl rfl rfl (by first | assumption | with_reducible rfl | decide | (simp only [decide_eq_true_eq, decide_eq_false_iff_not]; omega))) rfl rfl (po_field_bx rfl rfl (tyF rfl)) ?_ | refine sops_pure (.yes rfl rfl rfl (by first | assumption | with_reducible rfl | decide | (simp only [decide_eq_true_eq, decide_eq_false_iff_not]; omega))) rfl rfl (po_field rfl rfl (tyF rfl)) ?_ | refine sops_skip (.no1 rfl rfl rfl (by first | assumption | with_reducible rfl | decide | (simp only [decide_eq_true_eq, decide_eq_false_iff_not]; omega))) rfl rfl ?_) <;> (first | refine sops_pure (.yes rfl rfl rfl (by first | assumption | with_reducible rfl | decide | (simp only [decide_eq_true_eq, decide_eq_false_iff_not]; omega))) rfl rfl (po_load_bx rfl rfl (tyT rfl) rfl rfl) ?_ | refine sops_pure (.yes rfl rfl rfl (by first | assumption | with_reducible rfl | decide | (simp only [decide_eq_true_eq, decide_eq_false_iff_not]; omega))) rfl rfl (po_load rfl rfl (tyT rfl) rfl) ?_ | refine sops_skip (.no1 rfl rfl rfl (by first | assumption | with_reducible rfl | decide | (simp only [decide_eq_true_eq, decide_eq_false_iff_not]; omega))) rfl rfl ?_) <;> (first | refine sops_pure (.yes rfl rfl rfl (by first | assumption | with_reducible rfl | decide | (simp only [decide_eq_true_eq, decide_eq_false_iff_not]; omega))) rfl rfl (po_call (hl1) rfl (.cons rfl (by first | exact .t _ | exact .own rfl rfl | exact .nil _ | exact .emp _) (.cons rfl (by first | exact .t _ | exact .own rfl rfl | exact .nil _ | exact .emp _) .nil))) ?_ | refine sops_pure (.yes rfl rfl rfl (by first | assumption | with_reducible rfl | decide | (simp only [decide_eq_true_eq, decide_eq_false_iff_not]; omega))) rfl rfl (po_call (hl2) rfl (.cons rfl (by first | exact .t _ | exact .own rfl rfl | exact .nil _ | exact .emp _) (.cons rfl (by first | exact .t _ | exact .own rfl rfl | exact .nil _ | exact .emp _) .nil))) ?_ | refine sops_pure (.yes rfl rfl rfl (by first | assumption | with_reducible rfl | decide | (simp only [decide_eq_true_eq, decide_eq_false_iff_not]; omega))) rfl rfl (po_call (hl3) rfl (.cons rfl (by first | exact .t _ | exact .own rfl rfl | exact .nil _ | exact .emp _) (.cons rfl (by first | exact .t _ | exact .own rfl rfl | exact .nil _ | exact .emp _) .nil))) ?_ | refine sops_skip (.no1 rfl rfl rfl (by first | assumption | with_reducible rfl | decide | (simp only [decide_eq_true_eq, decide_eq_false_iff_not]; omega))) rfl rfl ?_) <;> (first | refine sops_pure (.free rfl rfl) rfl rfl (po_pick_t rfl rfl (by first | assumption | with_reducible rfl | decide | (simp only [decide_eq_true_eq, decide_eq_false_iff_not]; omega)) rfl) ?_ | refine sops_pure (.free rfl rfl) rfl rfl (po_pick_f rfl rfl (by first | assumption | with_reducible rfl | decide | (simp only [decide_eq_true_eq, decide_eq_false_iff_not]; omega)) rfl) ?_) <;> (refine sops_pure (.free rfl rfl) rfl rfl (po_move rfl rfl) ?_) <;> (first | refine sops_pure (.yes rfl rfl rfl (by first | assumption | with_reducible rfl | decide | (simp only [decide_eq_true_eq, decide_eq_false_iff_not]; omega))) rfl rfl (po_field_bx rfl rfl (tyF rfl)) ?_ | refine sops_pure (.yes rfl rfl rfl (by first | assumption | with_reducible rfl | decide | (simp only [decide_eq_true_eq, decide_eq_false_iff_not]; omega))) rfl rfl (po_field rfl rfl (tyF rfl)) ?_ | refine sops_skip (.no1 rfl rfl rfl (by first | assumption | with_reducible rfl | decide | (simp only [decide_eq_true_eq, decide_eq_false_iff_not]; omega))) rfl rfl ?_ | ((refine sops_split rfl rfl rfl (fun hc => ?_) (fun hc => ?_)) <;> (first | refine sops_pure (.yes rfl rfl rfl (by first | assumption | with_reducible rfl | decide | (simp only [decide_eq_true_eq, decide_eq_false_iff_not]; omega))) rfl rfl (po_field_bx rfl rfl (tyF rfl)) ?_ | refine sops_pure (.yes rfl rfl rfl (by first | assumption | with_reducible rfl | decide | (simp only [decide_eq_true_eq, decide_eq_false_iff_not]; omega))) rfl rfl (po_field rfl rfl (tyF rfl)) ?_ | refine sops_skip (.no1 rfl rfl rfl (by first | assumption | with_reducible rfl | decide | (simp only [decide_eq_true_eq, decide_eq_false_iff_not]; omega))) rfl rfl ?_))) <;> (first | refine sops_pure (.yes rfl rfl rfl (by first | assumption | with_reducible rfl | decide | (simp only [decide_eq_true_eq, decide_eq_false_iff_not]; omega))) rfl rfl (po_load_bx rfl rfl (tyT rfl) rfl rfl) ?_ | refine sops_pure (.yes rfl rfl rfl (by first | assumption | with_reducible rfl | decide | (simp only [decide_eq_true_eq, decide_eq_false_iff_not]; omega))) rfl rfl (po_load rfl rfl (tyT rfl) rfl) ?_ | refine sops_skip (.no1 rfl rfl rfl (by first | assumption | with_reducible rfl | decide | (simp only [decide_eq_true_eq, decide_eq_false_iff_not]; omega))) rfl rfl ?_) <;> (first | refine sops_pure (.yes rfl rfl rfl (by first | assumption | with_reducible rfl | decide | (simp only [decide_eq_true_eq, decide_eq_false_iff_not]; omega))) rfl rfl (po_field_bx rfl rfl (tyF rfl)) ?_ | refine sops_pure (.yes rfl rfl rfl (by first | assumption | with_reducible rfl | decide | (simp only [decide_eq_true_eq, decide_eq_false_iff_not]; omega))) rfl rfl (po_field rfl rfl (tyF rfl)) ?_ | refine sops_skip (.no1 rfl rfl rfl (by first | assumption | with_reducible rfl | decide | (simp only [decide_eq_true_eq, decide_eq_false_iff_not]; omega))) rfl rfl ?_) <;> (first | refine sops_pure (.yes rfl rfl rfl (by first | assumption | with_reducible rfl | decide | (simp only [decide_eq_true_eq, decide_eq_false_iff_not]; omega))) rfl rfl (po_load_bx rfl rfl (tyT rfl) rfl rfl) ?_ | refine sops_pure (.yes rfl rfl rfl (by first | assumption | with_reducible rfl | decide | (simp only [decide_eq_true_eq, decide_eq_false_iff_not]; omega))) rfl rfl (po_load rfl rfl (tyT rfl) rfl) ?_ | refine sops_skip (.no1 rfl rfl rfl (by first | assumption | with_reducible rfl | decide | (simp only [decide_eq_true_eq, decide_eq_false_iff_not]; omega))) rfl rfl ?_) <;> (first | refine sops_pure (.yes rfl rfl rfl (by first | assumption | with_reducible rfl | decide | (simp only [decide_eq_true_eq, decide_eq_false_iff_not]; omega))) rfl rfl (po_call (hl1) rfl (.cons rfl (by first | exact .t _ | exact .own rfl rfl | exact .nil _ | exact .emp _) (.cons rfl (by first | exact .t _ | exact .own rfl rfl | exact .nil _ | exact .emp _) .nil))) ?_ | refine sops_pure (.yes rfl rfl rfl (by first | assumption | with_reducible rfl | decide | (simp only [decide_eq_true_eq, decide_eq_false_iff_not]; omega))) rfl rfl (po_call (hl2) rfl (.cons rfl (by first | exact .t _ | exact .own rfl rfl | exact .nil _ | exact .emp _) (.cons rfl (by first | exact .t _ | exact .own rfl rfl | exact .nil _ | exact .emp _) .nil))) ?_ | refine sops_pure (.yes rfl rfl rfl (by first | assumption | with_reducible rfl | decide | (simp only [decide_eq_true_eq, decide_eq_false_iff_not]; omega))) rfl rfl (po_call (hl3) rfl (.cons rfl (by first | exact .t _ | exact .own rfl rfl | exact .nil _ | exact .emp _) (.cons rfl (by first | exact .t _ | exact .own rfl rfl | exact .nil _ | exact .emp _) .nil))) ?_ | refine sops_skip (.no1 rfl rfl rfl (by first | assumption | with_reducible rfl | decide | (simp only [decide_eq_true_eq, decide_eq_false_iff_not]; omega))) rfl rfl ?_) <;> (first | refine sops_pure (.free rfl rfl) rfl rfl (po_pick_t rfl rfl (by first | assumption | with_reducible rfl | decide | (simp only [decide_eq_true_eq, decide_eq_false_iff_not]; omega)) rfl) ?_ | refine sops_pure (.free rfl rfl) rfl rfl (po_pick_f rfl rfl (by first | assumption | with_reducible rfl | decide | (simp only [decide_eq_true_eq, decide_eq_false_iff_not]; omega)) rfl) ?_) <;> (refine sops_pure (.free rfl rfl) rfl rfl (po_assign rfl rfl) ?_) <;> (refine sops_nil ?_))
        | refine swp_ret ?_
        | refine swp_skip ?_
        | refine swp_block ?_
        | refine swp_exit ?_
        | refine block_go ?_
        | refine block_exit ?_
        | refine block_far rfl ?_
        | refine block_ret ?_
        | refine then_ret ?_
        | refine then_exit ?_
        | refine for_ret ?_
        | refine for_exit ?_
        | refine swp_cond_t rfl (by first | assumption | with_reducible rfl | decide | (simp only [decide_eq_true_eq, Bool.not_eq_true', decide_eq_false_iff_not]; omega)) ?_
        | refine swp_cond_f rfl (by first | assumption | with_reducible rfl | decide | (simp only [decide_eq_false_iff_not, Bool.not_eq_false', decide_eq_true_eq]; omega)) ?_
        | refine swp_cond rfl (fun hc => ?_) (fun hc => ?_)
        | refine retq (by first | exact .inr rfl | exact .inl rfl) rfl (.tmp rfl (by first | exact .t _ | exact .own rfl rfl | exact .nil _ | exact .emp _) .nil) ?_)
    all_goals
      refine eq_b ?_
      clear hl1 hl2 hl3
      simp_all
theorem str_eq (a b : ByteArray) : (a.toList == b.toList) = decide (a = b) := by
  rw [Bool.eq_iff_iff, beq_iff_eq, decide_eq_true_eq]
  constructor
  · intro h; exact bs_inj h
  · rintro rfl; rfl
theorem when_app (a b : List Pl.Head) (x : Pl.When) : whenP (a ++ b) x = (whenP a x || whenP b x) := by
  unfold whenP valsOf; rw [List.filter_append, List.map_append, List.any_append]
theorem when_one (h : Pl.Head) (x : Pl.When) : whenP [h] x = (decide (h.name = x.head) && anyT h.value x.terms) := by
  unfold whenP valsOf; rw [← str_eq]
  cases e : (h.name.toList == x.head.toList) <;> simp [List.filter_cons, e]
theorem when_more {l : List Pl.Head} {k : Nat} (hk : k < l.length) {x : Pl.When} (h : whenP (l.take k) x = false) : whenP (l.take (k + 1)) x = (decide (l[k].name = x.head) && anyT l[k].value x.terms) := by
  rw [List.take_succ_eq_append_getElem hk, when_app, h, when_one]; rfl
theorem when_yes {l : List Pl.Head} {k : Nat} (hk : k < l.length) {x : Pl.When} (h : (decide (l[k].name = x.head) && anyT l[k].value x.terms) = true) : whenP l x = true := by
  have e : l = l.take k ++ (l[k] :: l.drop (k + 1)) := by rw [← List.drop_eq_getElem_cons hk, List.take_append_drop]
  rw [e, when_app, show l[k] :: l.drop (k + 1) = [l[k]] ++ l.drop (k + 1) from rfl, when_app, when_one, h]; simp
set_option maxRecDepth 100000 in
set_option maxHeartbeats 1000000 in
theorem when__ (x : Pl.When) (hx : okWhen x) (hf : x.terms.length ≤ 1000) (q : Pl.Req) (hq : OkReq q) (tg qu : ByteArray) (bd : Value) : PCalls Try.prog 49 [.agg (whenT x), .agg (reqT q tg qu bd)] (.v (.bool (whenP q.heads x))) := by
  have hml : (q.heads.map headT).length = q.heads.length := List.length_map _
  have hfew := hq.few
  refine pcalls_of Try.func49 rfl rfl Try.ntmps49 rfl ?_
  repeat' (first
    | refine then_go ?_
    | refine swp_seq ?_
    | ((refine swp_region (id := 0) ?_) <;> (refine sops_box (.free rfl rfl) rfl rfl rfl rfl rfl rfl ?_) <;> (refine sops_box (.free rfl rfl) rfl rfl rfl rfl rfl rfl ?_) <;> (refine sops_pure (.free rfl rfl) rfl rfl (po_assign rfl rfl) ?_) <;> (refine sops_nil ?_))
    | ((refine swp_region (id := 1) ?_) <;> (refine sops_pure (.free rfl rfl) rfl rfl (po_assign rfl rfl) ?_) <;> (refine sops_nil ?_))
    | refine swp_ret ?_
    | refine swp_skip ?_
    | refine swp_block ?_
    | refine swp_exit ?_
    | refine block_go ?_
    | refine block_exit ?_
    | refine block_far rfl ?_
    | refine block_ret ?_
    | refine then_ret ?_
    | refine then_exit ?_
    | refine for_ret ?_
    | refine for_exit ?_
    | refine swp_cond_t rfl (by first | assumption | with_reducible rfl | decide | (simp only [decide_eq_true_eq, Bool.not_eq_true', decide_eq_false_iff_not]; omega)) ?_
    | refine swp_cond_f rfl (by first | assumption | with_reducible rfl | decide | (simp only [decide_eq_false_iff_not, Bool.not_eq_false', decide_eq_true_eq]; omega)) ?_
    | refine swp_cond rfl (fun hc => ?_) (fun hc => ?_)
    | refine retq (by first | exact .inr rfl | exact .inl rfl) rfl (.tmp rfl (by first | exact .t _ | exact .own rfl rfl | exact .nil _ | exact .emp _) .nil) ?_)
  refine swp_for (fun k => ⟨[(2, .bp 2 0), (3, .bp 3 0), (5, .t (.v (.int .i64 (k : Int))))], [(2, [.t (.v (.string x.head)), .t (.sl 2 (x.terms.map termT))]), (3, reqA q tg qu bd)], []⟩) (fun k => whenP (q.heads.take k) x = false) q.heads.length (weak_sub (.cons rfl rfl rfl (.cons rfl rfl rfl (.cons rfl rfl rfl .nil))) (.cons rfl rfl rfl (.cons rfl rfl rfl .nil)) .nil) rfl ?_
  intro k hk hI
  by_cases hlt : k < q.heads.length
  · have hany := any_ q.heads[k].value x.terms (hq.heads _ (List.getElem_mem hlt)).2 hx.2 hf
    repeat' (first
      | refine then_go ?_
      | refine swp_seq ?_
      | refine for_next hlt (weak_sub (.cons rfl rfl rfl (.cons rfl rfl rfl (.cons rfl rfl rfl .nil))) (.cons rfl rfl rfl (.cons rfl rfl rfl .nil)) .nil) ?_
      | ((refine swp_region (id := 2) ?_) <;> (refine sops_pure (.free rfl rfl) rfl rfl (po_move rfl rfl) ?_) <;> (first | refine sops_pure (.free rfl rfl) rfl rfl (po_field_bx rfl rfl (tyF rfl)) ?_ | refine sops_pure (.free rfl rfl) rfl rfl (po_field rfl rfl (tyF rfl)) ?_) <;> (first | refine sops_pure (.free rfl rfl) rfl rfl (po_load_bx rfl rfl (tyT rfl) rfl rfl) ?_ | refine sops_pure (.free rfl rfl) rfl rfl (po_load rfl rfl (tyT rfl) rfl) ?_) <;> (refine sops_pure (.free rfl rfl) rfl rfl (po_len rfl rfl (by first | exact .t _ | exact .own rfl rfl | exact .nil _ | exact .emp _) (tyS rfl)) ?_) <;> (refine sops_pure (.free rfl rfl) rfl rfl (po_cmp rfl rfl rfl rfl) ?_) <;> (refine sops_nil ?_))
      | ((refine swp_draw_all (id := 4) mixed (by kernel_rfl) (by kernel_rfl) ?_) <;> (first | refine sdraw_pure (.free rfl rfl) rfl (po_field_bx rfl rfl (tyF rfl)) ?_ | refine sdraw_pure (.free rfl rfl) rfl (po_field rfl rfl (tyF rfl)) ?_) <;> (first | refine sdraw_pure (.free rfl rfl) rfl (po_load_bx rfl rfl (tyT rfl) rfl rfl) ?_ | refine sdraw_pure (.free rfl rfl) rfl (po_load rfl rfl (tyT rfl) rfl) ?_) <;> (refine sdraw_pure (.free rfl rfl) rfl (po_move rfl rfl) ?_) <;> (refine sdraw_pure (.free rfl rfl) rfl (po_index rfl rfl (by first | exact .t _ | exact .own rfl rfl | exact .nil _ | exact .emp _) rfl (tyS rfl) (by first | rfl | omega) (by first | rfl | assumption | exact map_at (by first | assumption | omega))) ?_) <;> (first | refine sdraw_pure (.free rfl rfl) rfl (po_field_bx rfl rfl (tyF rfl)) ?_ | refine sdraw_pure (.free rfl rfl) rfl (po_field rfl rfl (tyF rfl)) ?_) <;> (first | refine sdraw_pure (.free rfl rfl) rfl (po_load_bx rfl rfl (tyT rfl) rfl rfl) ?_ | refine sdraw_pure (.free rfl rfl) rfl (po_load rfl rfl (tyT rfl) rfl) ?_) <;> (first | refine sdraw_pure (.free rfl rfl) rfl (po_field_bx rfl rfl (tyF rfl)) ?_ | refine sdraw_pure (.free rfl rfl) rfl (po_field rfl rfl (tyF rfl)) ?_) <;> (first | refine sdraw_pure (.free rfl rfl) rfl (po_load_bx rfl rfl (tyT rfl) rfl rfl) ?_ | refine sdraw_pure (.free rfl rfl) rfl (po_load rfl rfl (tyT rfl) rfl) ?_) <;> (refine sdraw_pure (.free rfl rfl) rfl (po_str rfl rfl rfl rfl) ?_) <;> (refine sdraw_pure (.free rfl rfl) rfl (po_move rfl rfl) ?_) <;> (first | refine sdraw_pure (.yes rfl rfl rfl (by first | assumption | with_reducible rfl | decide | (simp only [decide_eq_true_eq, decide_eq_false_iff_not]; omega))) rfl (po_field_bx rfl rfl (tyF rfl)) ?_ | refine sdraw_pure (.yes rfl rfl rfl (by first | assumption | with_reducible rfl | decide | (simp only [decide_eq_true_eq, decide_eq_false_iff_not]; omega))) rfl (po_field rfl rfl (tyF rfl)) ?_ | refine sdraw_skip (.no1 rfl rfl rfl (by first | assumption | with_reducible rfl | decide | (simp only [decide_eq_true_eq, decide_eq_false_iff_not]; omega))) rfl ?_ | ((refine sdraw_split rfl rfl rfl (fun hc => ?_) (fun hc => ?_)) <;> (first | refine sdraw_pure (.yes rfl rfl rfl (by first | assumption | with_reducible rfl | decide | (simp only [decide_eq_true_eq, decide_eq_false_iff_not]; omega))) rfl (po_field_bx rfl rfl (tyF rfl)) ?_ | refine sdraw_pure (.yes rfl rfl rfl (by first | assumption | with_reducible rfl | decide | (simp only [decide_eq_true_eq, decide_eq_false_iff_not]; omega))) rfl (po_field rfl rfl (tyF rfl)) ?_ | refine sdraw_skip (.no1 rfl rfl rfl (by first | assumption | with_reducible rfl | decide | (simp only [decide_eq_true_eq, decide_eq_false_iff_not]; omega))) rfl ?_))) <;> (first | refine sdraw_pure (.yes rfl rfl rfl (by first | assumption | with_reducible rfl | decide | (simp only [decide_eq_true_eq, decide_eq_false_iff_not]; omega))) rfl (po_load_bx rfl rfl (tyT rfl) rfl rfl) ?_ | refine sdraw_pure (.yes rfl rfl rfl (by first | assumption | with_reducible rfl | decide | (simp only [decide_eq_true_eq, decide_eq_false_iff_not]; omega))) rfl (po_load rfl rfl (tyT rfl) rfl) ?_ | refine sdraw_skip (.no1 rfl rfl rfl (by first | assumption | with_reducible rfl | decide | (simp only [decide_eq_true_eq, decide_eq_false_iff_not]; omega))) rfl ?_) <;> (first | refine sdraw_pure (.yes rfl rfl rfl (by first | assumption | with_reducible rfl | decide | (simp only [decide_eq_true_eq, decide_eq_false_iff_not]; omega))) rfl (po_move rfl rfl) ?_ | refine sdraw_skip (.no1 rfl rfl rfl (by first | assumption | with_reducible rfl | decide | (simp only [decide_eq_true_eq, decide_eq_false_iff_not]; omega))) rfl ?_) <;> (first | refine sdraw_pure (.yes rfl rfl rfl (by first | assumption | with_reducible rfl | decide | (simp only [decide_eq_true_eq, decide_eq_false_iff_not]; omega))) rfl (po_index rfl rfl (by first | exact .t _ | exact .own rfl rfl | exact .nil _ | exact .emp _) rfl (tyS rfl) (by first | rfl | omega) (by first | rfl | assumption | exact map_at (by first | assumption | omega))) ?_ | refine sdraw_skip (.no1 rfl rfl rfl (by first | assumption | with_reducible rfl | decide | (simp only [decide_eq_true_eq, decide_eq_false_iff_not]; omega))) rfl ?_) <;> (first | refine sdraw_pure (.yes rfl rfl rfl (by first | assumption | with_reducible rfl | decide | (simp only [decide_eq_true_eq, decide_eq_false_iff_not]; omega))) rfl (po_field_bx rfl rfl (tyF rfl)) ?_ | refine sdraw_pure (.yes rfl rfl rfl (by first | assumption | with_reducible rfl | decide | (simp only [decide_eq_true_eq, decide_eq_false_iff_not]; omega))) rfl (po_field rfl rfl (tyF rfl)) ?_ | refine sdraw_skip (.no1 rfl rfl rfl (by first | assumption | with_reducible rfl | decide | (simp only [decide_eq_true_eq, decide_eq_false_iff_not]; omega))) rfl ?_) <;> (first | refine sdraw_pure (.yes rfl rfl rfl (by first | assumption | with_reducible rfl | decide | (simp only [decide_eq_true_eq, decide_eq_false_iff_not]; omega))) rfl (po_load_bx rfl rfl (tyT rfl) rfl rfl) ?_ | refine sdraw_pure (.yes rfl rfl rfl (by first | assumption | with_reducible rfl | decide | (simp only [decide_eq_true_eq, decide_eq_false_iff_not]; omega))) rfl (po_load rfl rfl (tyT rfl) rfl) ?_ | refine sdraw_skip (.no1 rfl rfl rfl (by first | assumption | with_reducible rfl | decide | (simp only [decide_eq_true_eq, decide_eq_false_iff_not]; omega))) rfl ?_) <;> (first | refine sdraw_pure (.yes rfl rfl rfl (by first | assumption | with_reducible rfl | decide | (simp only [decide_eq_true_eq, decide_eq_false_iff_not]; omega))) rfl (po_field_bx rfl rfl (tyF rfl)) ?_ | refine sdraw_pure (.yes rfl rfl rfl (by first | assumption | with_reducible rfl | decide | (simp only [decide_eq_true_eq, decide_eq_false_iff_not]; omega))) rfl (po_field rfl rfl (tyF rfl)) ?_ | refine sdraw_skip (.no1 rfl rfl rfl (by first | assumption | with_reducible rfl | decide | (simp only [decide_eq_true_eq, decide_eq_false_iff_not]; omega))) rfl ?_) <;> (first | refine sdraw_pure (.yes rfl rfl rfl (by first | assumption | with_reducible rfl | decide | (simp only [decide_eq_true_eq, decide_eq_false_iff_not]; omega))) rfl (po_load_bx rfl rfl (tyT rfl) rfl rfl) ?_ | refine sdraw_pure (.yes rfl rfl rfl (by first | assumption | with_reducible rfl | decide | (simp only [decide_eq_true_eq, decide_eq_false_iff_not]; omega))) rfl (po_load rfl rfl (tyT rfl) rfl) ?_ | refine sdraw_skip (.no1 rfl rfl rfl (by first | assumption | with_reducible rfl | decide | (simp only [decide_eq_true_eq, decide_eq_false_iff_not]; omega))) rfl ?_) <;> (first | refine sdraw_pure (.yes rfl rfl rfl (by first | assumption | with_reducible rfl | decide | (simp only [decide_eq_true_eq, decide_eq_false_iff_not]; omega))) rfl (po_call (hany) rfl (.cons rfl (by first | exact .t _ | exact .own rfl rfl | exact .nil _ | exact .emp _) (.cons rfl (by first | exact .t _ | exact .own rfl rfl | exact .nil _ | exact .emp _) .nil))) ?_ | refine sdraw_skip (.no1 rfl rfl rfl (by first | assumption | with_reducible rfl | decide | (simp only [decide_eq_true_eq, decide_eq_false_iff_not]; omega))) rfl ?_) <;> (first | refine sdraw_pure (.free rfl rfl) rfl (po_pick_t rfl rfl (by first | assumption | with_reducible rfl | decide | (simp only [decide_eq_true_eq, decide_eq_false_iff_not]; omega)) rfl) ?_ | refine sdraw_pure (.free rfl rfl) rfl (po_pick_f rfl rfl (by first | assumption | with_reducible rfl | decide | (simp only [decide_eq_true_eq, decide_eq_false_iff_not]; omega)) rfl) ?_) <;> (refine sdraw_nil ?_) <;> (refine sops_nil ?_))
      | ((refine swp_region (id := 5) ?_) <;> (refine sops_pure (.free rfl rfl) rfl rfl (po_assign rfl rfl) ?_) <;> (refine sops_nil ?_))
      | ((refine swp_region (id := 3) ?_) <;> (refine sops_pure (.free rfl rfl) rfl rfl (po_move rfl rfl) ?_) <;> (first | refine sops_pure (.free rfl rfl) rfl rfl (po_inc rfl rfl rfl (by omega)) ?_ | refine sops_pure (.free rfl rfl) rfl rfl (po_arith rfl rfl rfl (ar_add (by first | rfl | (refine wrap_i64 ?_; omega)) rfl)) ?_) <;> (refine sops_pure (.free rfl rfl) rfl rfl (po_assign rfl rfl) ?_) <;> (refine sops_nil ?_))
      | refine swp_ret ?_
      | refine swp_skip ?_
      | refine swp_block ?_
      | refine swp_exit ?_
      | refine block_go ?_
      | refine block_exit ?_
      | refine block_far rfl ?_
      | refine block_ret ?_
      | refine then_ret ?_
      | refine then_exit ?_
      | refine for_ret ?_
      | refine for_exit ?_
      | refine swp_cond_t rfl (by first | assumption | with_reducible rfl | decide | (simp only [decide_eq_true_eq, Bool.not_eq_true', decide_eq_false_iff_not]; omega)) ?_
      | refine swp_cond_f rfl (by first | assumption | with_reducible rfl | decide | (simp only [decide_eq_false_iff_not, Bool.not_eq_false', decide_eq_true_eq]; omega)) ?_
      | refine swp_cond rfl (fun hc => ?_) (fun hc => ?_)
      | refine retq (by first | exact .inr rfl | exact .inl rfl) rfl (.tmp rfl (by first | exact .t _ | exact .own rfl rfl | exact .nil _ | exact .emp _) .nil) ?_)
    · refine eq_b ?_
      rw [when_yes hlt (by simp_all)]
    all_goals
      rw [when_more hlt hI]; simp_all
  · obtain rfl : k = q.heads.length := by omega
    rw [List.take_length] at hI
    repeat' (first
      | refine then_go ?_
      | refine swp_seq ?_
      | ((refine swp_region (id := 2) ?_) <;> (refine sops_pure (.free rfl rfl) rfl rfl (po_move rfl rfl) ?_) <;> (first | refine sops_pure (.free rfl rfl) rfl rfl (po_field_bx rfl rfl (tyF rfl)) ?_ | refine sops_pure (.free rfl rfl) rfl rfl (po_field rfl rfl (tyF rfl)) ?_) <;> (first | refine sops_pure (.free rfl rfl) rfl rfl (po_load_bx rfl rfl (tyT rfl) rfl rfl) ?_ | refine sops_pure (.free rfl rfl) rfl rfl (po_load rfl rfl (tyT rfl) rfl) ?_) <;> (refine sops_pure (.free rfl rfl) rfl rfl (po_len rfl rfl (by first | exact .t _ | exact .own rfl rfl | exact .nil _ | exact .emp _) (tyS rfl)) ?_) <;> (refine sops_pure (.free rfl rfl) rfl rfl (po_cmp rfl rfl rfl rfl) ?_) <;> (refine sops_nil ?_))
      | ((refine swp_region (id := 6) ?_) <;> (refine sops_pure (.free rfl rfl) rfl rfl (po_assign rfl rfl) ?_) <;> (refine sops_nil ?_))
      | refine swp_ret ?_
      | refine swp_skip ?_
      | refine swp_block ?_
      | refine swp_exit ?_
      | refine block_go ?_
      | refine block_exit ?_
      | refine block_far rfl ?_
      | refine block_ret ?_
      | refine then_ret ?_
      | refine then_exit ?_
      | refine for_ret ?_
      | refine for_exit ?_
      | refine swp_cond_t rfl (by first | assumption | with_reducible rfl | decide | (simp only [decide_eq_true_eq, Bool.not_eq_true', decide_eq_false_iff_not]; omega)) ?_
      | refine swp_cond_f rfl (by first | assumption | with_reducible rfl | decide | (simp only [decide_eq_false_iff_not, Bool.not_eq_false', decide_eq_true_eq]; omega)) ?_
      | refine swp_cond rfl (fun hc => ?_) (fun hc => ?_)
      | refine retq (by first | exact .inr rfl | exact .inl rfl) rfl (.tmp rfl (by first | exact .t _ | exact .own rfl rfl | exact .nil _ | exact .emp _) .nil) ?_)
    refine eq_b ?_
    rw [hI]
end Go.Proofs.Ytlcecabfmemfeaa.Pol

/- The document's answer for auth: Matches, Says, Judge. -/
namespace Go.Proofs.Ytlcecabfmemfeaa.Pol
set_option linter.unusedVariables false
set_option linter.unusedSimpArgs false
open Go.RowKit Mem Sim Opn WAddr WName WMatch WAuth
theorem all_snoc {α : Type} {p : α → Bool} {l : List α} {k : Nat} (hk : k < l.length) : (l.take (k + 1)).all p = ((l.take k).all p && p l[k]) := by
  rw [List.take_succ_eq_append_getElem hk, List.all_append]; simp
abbrev ruleA (r : Pl.Rule) : List A := [.t (.sl 3 (r.from_.map sourceT)), .t (.sl 4 (r.to_.map targetT)), .t (.sl 2 (r.when_.map whenT))]
def M1 (r : Pl.Rule) (a : Pl.Asker) (port : Int) (q : Pl.Req) (tg qu : ByteArray) (bd : Value) (k : Nat) : St := ⟨[(2, .t (.v (.int .i64 port))), (4, .bp 4 0), (5, .bp 5 0), (7, .bp 7 0), (9, .t (.v (.bool (inSo (srcP a) r.from_ k)))), (10, .t (.v (.int .i64 (k : Int))))], [(4, ruleA r), (5, askA a), (7, reqA q tg qu bd)], []⟩
def M2 (r : Pl.Rule) (a : Pl.Asker) (port : Int) (q : Pl.Req) (tg qu : ByteArray) (bd : Value) (k : Nat) : St := ⟨[(2, .t (.v (.int .i64 port))), (4, .bp 4 0), (7, .bp 7 0), (9, .t (.v (.bool (inSo (srcP a) r.from_ r.from_.length)))), (11, .t (.v (.bool (inSo (tgtP port q) r.to_ k)))), (12, .t (.v (.int .i64 (k : Int))))], [(4, ruleA r), (7, reqA q tg qu bd)], []⟩
def M3 (r : Pl.Rule) (a : Pl.Asker) (port : Int) (q : Pl.Req) (tg qu : ByteArray) (bd : Value) (k : Nat) : St := ⟨[(4, .bp 4 0), (7, .bp 7 0), (9, .t (.v (.bool (inSo (srcP a) r.from_ r.from_.length)))), (11, .t (.v (.bool (inSo (tgtP port q) r.to_ r.to_.length)))), (13, .t (.v (.int .i64 (k : Int))))], [(4, ruleA r), (7, reqA q tg qu bd)], []⟩
set_option maxRecDepth 100000 in
set_option maxHeartbeats 1000000 in
theorem matches__ (r : Pl.Rule) (hr : okRule r) (hf : FewR r) (a : Pl.Asker) (ha : OkAsk a) (port : Int) (q : Pl.Req) (hq : OkReq q) (tg qu : ByteArray) (bd : Value) : PCalls Try.prog 43 [.agg (ruleT r), .agg (askT a), .v (.int .i64 port), .agg (reqT q tg qu bd)] (.v (.bool (matchP a port q r))) := by
  obtain ⟨k0, k1, k2⟩ := hr
  have hm1 : (r.from_.map sourceT).length = r.from_.length := List.length_map _
  have hm2 : (r.to_.map targetT).length = r.to_.length := List.length_map _
  have hm3 : (r.when_.map whenT).length = r.when_.length := List.length_map _
  have n1 := hf.f
  have n2 := hf.t
  have n3 := hf.w
  refine pcalls_of Try.func43 rfl rfl Try.ntmps43 rfl ?_
  repeat' (first
    | refine then_go ?_
    | refine swp_seq ?_
    | ((refine swp_region (id := 0) ?_) <;> (refine sops_box (.free rfl rfl) rfl rfl rfl rfl rfl rfl ?_) <;> (refine sops_box (.free rfl rfl) rfl rfl rfl rfl rfl rfl ?_) <;> (refine sops_box (.free rfl rfl) rfl rfl rfl rfl rfl rfl ?_) <;> (refine sops_pure (.free rfl rfl) rfl rfl (po_assign rfl rfl) ?_) <;> (refine sops_nil ?_))
    | ((refine swp_region (id := 1) ?_) <;> (first | refine sops_pure (.free rfl rfl) rfl rfl (po_field_bx rfl rfl (tyF rfl)) ?_ | refine sops_pure (.free rfl rfl) rfl rfl (po_field rfl rfl (tyF rfl)) ?_) <;> (first | refine sops_pure (.free rfl rfl) rfl rfl (po_load_bx rfl rfl (tyT rfl) rfl rfl) ?_ | refine sops_pure (.free rfl rfl) rfl rfl (po_load rfl rfl (tyT rfl) rfl) ?_) <;> (refine sops_pure (.free rfl rfl) rfl rfl (po_len rfl rfl (by first | exact .t _ | exact .own rfl rfl | exact .nil _ | exact .emp _) (tyS rfl)) ?_) <;> (refine sops_pure (.free rfl rfl) rfl rfl (po_cmp rfl rfl rfl rfl) ?_) <;> (refine sops_pure (.free rfl rfl) rfl rfl (po_assign rfl rfl) ?_) <;> (refine sops_nil ?_))
    | ((refine swp_region (id := 2) ?_) <;> (refine sops_pure (.free rfl rfl) rfl rfl (po_assign rfl rfl) ?_) <;> (refine sops_nil ?_))
    | refine swp_ret ?_
    | refine swp_skip ?_
    | refine swp_block ?_
    | refine swp_exit ?_
    | refine block_go ?_
    | refine block_exit ?_
    | refine block_far rfl ?_
    | refine block_ret ?_
    | refine then_ret ?_
    | refine then_exit ?_
    | refine for_ret ?_
    | refine for_exit ?_
    | refine swp_cond_t rfl (by first | assumption | with_reducible rfl | decide | (simp only [decide_eq_true_eq, Bool.not_eq_true', decide_eq_false_iff_not]; omega)) ?_
    | refine swp_cond_f rfl (by first | assumption | with_reducible rfl | decide | (simp only [decide_eq_false_iff_not, Bool.not_eq_false', decide_eq_true_eq]; omega)) ?_
    | refine swp_cond rfl (fun hc => ?_) (fun hc => ?_)
    | refine retq (by first | exact .inr rfl | exact .inl rfl) rfl (.tmp rfl (by first | exact .t _ | exact .own rfl rfl | exact .nil _ | exact .emp _) .nil) ?_)
  refine swp_for (M1 r a port q tg qu bd) (fun _ => True) r.from_.length (weak_sub (.cons rfl (by first | rfl | (rw [inSo_zero, hm1])) rfl (.cons rfl (by first | rfl | (rw [inSo_zero, hm1])) rfl (.cons rfl (by first | rfl | (rw [inSo_zero, hm1])) rfl (.cons rfl (by first | rfl | (rw [inSo_zero, hm1])) rfl (.cons rfl (by first | rfl | (rw [inSo_zero, hm1])) rfl (.cons rfl (by first | rfl | (rw [inSo_zero, hm1])) rfl .nil)))))) (.cons rfl (by first | rfl | (rw [inSo_zero, hm1])) rfl (.cons rfl (by first | rfl | (rw [inSo_zero, hm1])) rfl (.cons rfl (by first | rfl | (rw [inSo_zero, hm1])) rfl .nil))) .nil) trivial ?_
  intro k hk _
  unfold M1
  by_cases hlt : k < r.from_.length
  · have hc := source_ r.from_[k] (k0 _ (List.getElem_mem hlt)) (hf.fs _ (List.getElem_mem hlt)) a ha
    cases hb : inSo (srcP a) r.from_ k with
    | true =>
      have hs1 := inSo_yes hlt hb
      repeat' (first
        | refine then_go ?_
        | refine swp_seq ?_
        | refine for_next hlt (weak_sub (.cons rfl (by first | rfl | (rw [hs1])) rfl (.cons rfl (by first | rfl | (rw [hs1])) rfl (.cons rfl (by first | rfl | (rw [hs1])) rfl (.cons rfl (by first | rfl | (rw [hs1])) rfl (.cons rfl (by first | rfl | (rw [hs1])) rfl (.cons rfl (by first | rfl | (rw [hs1])) rfl .nil)))))) (.cons rfl (by first | rfl | (rw [hs1])) rfl (.cons rfl (by first | rfl | (rw [hs1])) rfl (.cons rfl (by first | rfl | (rw [hs1])) rfl .nil))) .nil) trivial
        | ((refine swp_region (id := 3) ?_) <;> (refine sops_pure (.free rfl rfl) rfl rfl (po_move rfl rfl) ?_) <;> (first | refine sops_pure (.free rfl rfl) rfl rfl (po_field_bx rfl rfl (tyF rfl)) ?_ | refine sops_pure (.free rfl rfl) rfl rfl (po_field rfl rfl (tyF rfl)) ?_) <;> (first | refine sops_pure (.free rfl rfl) rfl rfl (po_load_bx rfl rfl (tyT rfl) rfl rfl) ?_ | refine sops_pure (.free rfl rfl) rfl rfl (po_load rfl rfl (tyT rfl) rfl) ?_) <;> (refine sops_pure (.free rfl rfl) rfl rfl (po_len rfl rfl (by first | exact .t _ | exact .own rfl rfl | exact .nil _ | exact .emp _) (tyS rfl)) ?_) <;> (refine sops_pure (.free rfl rfl) rfl rfl (po_cmp rfl rfl rfl rfl) ?_) <;> (refine sops_nil ?_))
        | ((refine swp_draw (id := 5) 10 mixed (by kernel_rfl) (by kernel_rfl) ?_) <;> (refine sdraw_pure (.free rfl rfl) rfl (po_move rfl rfl) ?_) <;> (refine sdraw_pure (.free rfl rfl) rfl (po_move rfl rfl) ?_) <;> (first | refine sdraw_pure (.yes rfl rfl rfl (by first | assumption | with_reducible rfl | decide | (simp only [decide_eq_true_eq, decide_eq_false_iff_not]; omega))) rfl (po_field_bx rfl rfl (tyF rfl)) ?_ | refine sdraw_pure (.yes rfl rfl rfl (by first | assumption | with_reducible rfl | decide | (simp only [decide_eq_true_eq, decide_eq_false_iff_not]; omega))) rfl (po_field rfl rfl (tyF rfl)) ?_ | refine sdraw_skip (.no0 rfl rfl rfl (by first | assumption | with_reducible rfl | decide | (simp only [decide_eq_true_eq, decide_eq_false_iff_not]; omega))) rfl ?_ | ((refine sdraw_split rfl rfl rfl (fun hc => ?_) (fun hc => ?_)) <;> (first | refine sdraw_pure (.yes rfl rfl rfl (by first | assumption | with_reducible rfl | decide | (simp only [decide_eq_true_eq, decide_eq_false_iff_not]; omega))) rfl (po_field_bx rfl rfl (tyF rfl)) ?_ | refine sdraw_pure (.yes rfl rfl rfl (by first | assumption | with_reducible rfl | decide | (simp only [decide_eq_true_eq, decide_eq_false_iff_not]; omega))) rfl (po_field rfl rfl (tyF rfl)) ?_ | refine sdraw_skip (.no0 rfl rfl rfl (by first | assumption | with_reducible rfl | decide | (simp only [decide_eq_true_eq, decide_eq_false_iff_not]; omega))) rfl ?_))) <;> (first | refine sdraw_pure (.yes rfl rfl rfl (by first | assumption | with_reducible rfl | decide | (simp only [decide_eq_true_eq, decide_eq_false_iff_not]; omega))) rfl (po_load_bx rfl rfl (tyT rfl) rfl rfl) ?_ | refine sdraw_pure (.yes rfl rfl rfl (by first | assumption | with_reducible rfl | decide | (simp only [decide_eq_true_eq, decide_eq_false_iff_not]; omega))) rfl (po_load rfl rfl (tyT rfl) rfl) ?_ | refine sdraw_skip (.no0 rfl rfl rfl (by first | assumption | with_reducible rfl | decide | (simp only [decide_eq_true_eq, decide_eq_false_iff_not]; omega))) rfl ?_) <;> (first | refine sdraw_pure (.yes rfl rfl rfl (by first | assumption | with_reducible rfl | decide | (simp only [decide_eq_true_eq, decide_eq_false_iff_not]; omega))) rfl (po_move rfl rfl) ?_ | refine sdraw_skip (.no0 rfl rfl rfl (by first | assumption | with_reducible rfl | decide | (simp only [decide_eq_true_eq, decide_eq_false_iff_not]; omega))) rfl ?_) <;> (first | refine sdraw_pure (.yes rfl rfl rfl (by first | assumption | with_reducible rfl | decide | (simp only [decide_eq_true_eq, decide_eq_false_iff_not]; omega))) rfl (po_index rfl rfl (by first | exact .t _ | exact .own rfl rfl | exact .nil _ | exact .emp _) rfl (tyS rfl) (by first | rfl | omega) (by first | rfl | assumption | exact map_at (by first | assumption | omega))) ?_ | refine sdraw_skip (.no0 rfl rfl rfl (by first | assumption | with_reducible rfl | decide | (simp only [decide_eq_true_eq, decide_eq_false_iff_not]; omega))) rfl ?_) <;> (first | refine sdraw_pure (.yes rfl rfl rfl (by first | assumption | with_reducible rfl | decide | (simp only [decide_eq_true_eq, decide_eq_false_iff_not]; omega))) rfl (po_load_bx_agg rfl rfl (tyT rfl) rfl (.cons (by first | exact .t _ | exact .own rfl rfl | exact .nil _ | exact .emp _) (.cons (by first | exact .t _ | exact .own rfl rfl | exact .nil _ | exact .emp _) (.cons (by first | exact .t _ | exact .own rfl rfl | exact .nil _ | exact .emp _) .nil))) rfl) ?_ | refine sdraw_pure (.yes rfl rfl rfl (by first | assumption | with_reducible rfl | decide | (simp only [decide_eq_true_eq, decide_eq_false_iff_not]; omega))) rfl (po_load_agg rfl rfl (tyT rfl) rfl rfl) ?_ | refine sdraw_skip (.no0 rfl rfl rfl (by first | assumption | with_reducible rfl | decide | (simp only [decide_eq_true_eq, decide_eq_false_iff_not]; omega))) rfl ?_) <;> (first | refine sdraw_pure (.yes rfl rfl rfl (by first | assumption | with_reducible rfl | decide | (simp only [decide_eq_true_eq, decide_eq_false_iff_not]; omega))) rfl (po_load_bx_agg rfl rfl (tyT rfl) rfl (.cons (by first | exact .t _ | exact .own rfl rfl | exact .nil _ | exact .emp _) (.cons (by first | exact .t _ | exact .own rfl rfl | exact .nil _ | exact .emp _) (.cons (by first | exact .t _ | exact .own rfl rfl | exact .nil _ | exact .emp _) .nil))) rfl) ?_ | refine sdraw_pure (.yes rfl rfl rfl (by first | assumption | with_reducible rfl | decide | (simp only [decide_eq_true_eq, decide_eq_false_iff_not]; omega))) rfl (po_load_agg rfl rfl (tyT rfl) rfl rfl) ?_ | refine sdraw_skip (.no0 rfl rfl rfl (by first | assumption | with_reducible rfl | decide | (simp only [decide_eq_true_eq, decide_eq_false_iff_not]; omega))) rfl ?_) <;> (first | refine sdraw_pure (.yes rfl rfl rfl (by first | assumption | with_reducible rfl | decide | (simp only [decide_eq_true_eq, decide_eq_false_iff_not]; omega))) rfl (po_call (hc) rfl (.cons rfl (by first | exact .t _ | exact .own rfl rfl | exact .nil _ | exact .emp _) (.cons rfl (by first | exact .t _ | exact .own rfl rfl | exact .nil _ | exact .emp _) .nil))) ?_ | refine sdraw_skip (.no0 rfl rfl rfl (by first | assumption | with_reducible rfl | decide | (simp only [decide_eq_true_eq, decide_eq_false_iff_not]; omega))) rfl ?_) <;> (first | refine sdraw_pure (.free rfl rfl) rfl (po_pick_t rfl rfl (by first | assumption | with_reducible rfl | decide | (simp only [decide_eq_true_eq, decide_eq_false_iff_not]; omega)) rfl) ?_ | refine sdraw_pure (.free rfl rfl) rfl (po_pick_f rfl rfl (by first | assumption | with_reducible rfl | decide | (simp only [decide_eq_true_eq, decide_eq_false_iff_not]; omega)) rfl) ?_) <;> (refine sdraw_nil ?_) <;> (refine sops_pure (.free rfl rfl) rfl rfl (po_assign rfl rfl) ?_) <;> (refine sops_nil ?_))
        | ((refine swp_region (id := 4) ?_) <;> (refine sops_pure (.free rfl rfl) rfl rfl (po_move rfl rfl) ?_) <;> (first | refine sops_pure (.free rfl rfl) rfl rfl (po_inc rfl rfl rfl (by omega)) ?_ | refine sops_pure (.free rfl rfl) rfl rfl (po_arith rfl rfl rfl (ar_add (by first | rfl | (refine wrap_i64 ?_; omega)) rfl)) ?_) <;> (refine sops_pure (.free rfl rfl) rfl rfl (po_assign rfl rfl) ?_) <;> (refine sops_nil ?_))
        | refine swp_ret ?_
        | refine swp_skip ?_
        | refine swp_block ?_
        | refine swp_exit ?_
        | refine block_go ?_
        | refine block_exit ?_
        | refine block_far rfl ?_
        | refine block_ret ?_
        | refine then_ret ?_
        | refine then_exit ?_
        | refine for_ret ?_
        | refine for_exit ?_
        | refine swp_cond_t rfl (by first | assumption | with_reducible rfl | decide | (simp only [decide_eq_true_eq, Bool.not_eq_true', decide_eq_false_iff_not]; omega)) ?_
        | refine swp_cond_f rfl (by first | assumption | with_reducible rfl | decide | (simp only [decide_eq_false_iff_not, Bool.not_eq_false', decide_eq_true_eq]; omega)) ?_
        | refine swp_cond rfl (fun hc => ?_) (fun hc => ?_)
        | refine retq (by first | exact .inr rfl | exact .inl rfl) rfl (.tmp rfl (by first | exact .t _ | exact .own rfl rfl | exact .nil _ | exact .emp _) .nil) ?_)
    | false =>
      have hs1 := inSo_no hlt hb
      repeat' (first
        | refine then_go ?_
        | refine swp_seq ?_
        | refine for_next hlt (weak_sub (.cons rfl (by first | rfl | (rw [hs1])) rfl (.cons rfl (by first | rfl | (rw [hs1])) rfl (.cons rfl (by first | rfl | (rw [hs1])) rfl (.cons rfl (by first | rfl | (rw [hs1])) rfl (.cons rfl (by first | rfl | (rw [hs1])) rfl (.cons rfl (by first | rfl | (rw [hs1])) rfl .nil)))))) (.cons rfl (by first | rfl | (rw [hs1])) rfl (.cons rfl (by first | rfl | (rw [hs1])) rfl (.cons rfl (by first | rfl | (rw [hs1])) rfl .nil))) .nil) trivial
        | ((refine swp_region (id := 3) ?_) <;> (refine sops_pure (.free rfl rfl) rfl rfl (po_move rfl rfl) ?_) <;> (first | refine sops_pure (.free rfl rfl) rfl rfl (po_field_bx rfl rfl (tyF rfl)) ?_ | refine sops_pure (.free rfl rfl) rfl rfl (po_field rfl rfl (tyF rfl)) ?_) <;> (first | refine sops_pure (.free rfl rfl) rfl rfl (po_load_bx rfl rfl (tyT rfl) rfl rfl) ?_ | refine sops_pure (.free rfl rfl) rfl rfl (po_load rfl rfl (tyT rfl) rfl) ?_) <;> (refine sops_pure (.free rfl rfl) rfl rfl (po_len rfl rfl (by first | exact .t _ | exact .own rfl rfl | exact .nil _ | exact .emp _) (tyS rfl)) ?_) <;> (refine sops_pure (.free rfl rfl) rfl rfl (po_cmp rfl rfl rfl rfl) ?_) <;> (refine sops_nil ?_))
        | ((refine swp_draw (id := 5) 10 mixed (by kernel_rfl) (by kernel_rfl) ?_) <;> (refine sdraw_pure (.free rfl rfl) rfl (po_move rfl rfl) ?_) <;> (refine sdraw_pure (.free rfl rfl) rfl (po_move rfl rfl) ?_) <;> (first | refine sdraw_pure (.yes rfl rfl rfl (by first | assumption | with_reducible rfl | decide | (simp only [decide_eq_true_eq, decide_eq_false_iff_not]; omega))) rfl (po_field_bx rfl rfl (tyF rfl)) ?_ | refine sdraw_pure (.yes rfl rfl rfl (by first | assumption | with_reducible rfl | decide | (simp only [decide_eq_true_eq, decide_eq_false_iff_not]; omega))) rfl (po_field rfl rfl (tyF rfl)) ?_ | refine sdraw_skip (.no0 rfl rfl rfl (by first | assumption | with_reducible rfl | decide | (simp only [decide_eq_true_eq, decide_eq_false_iff_not]; omega))) rfl ?_ | ((refine sdraw_split rfl rfl rfl (fun hc => ?_) (fun hc => ?_)) <;> (first | refine sdraw_pure (.yes rfl rfl rfl (by first | assumption | with_reducible rfl | decide | (simp only [decide_eq_true_eq, decide_eq_false_iff_not]; omega))) rfl (po_field_bx rfl rfl (tyF rfl)) ?_ | refine sdraw_pure (.yes rfl rfl rfl (by first | assumption | with_reducible rfl | decide | (simp only [decide_eq_true_eq, decide_eq_false_iff_not]; omega))) rfl (po_field rfl rfl (tyF rfl)) ?_ | refine sdraw_skip (.no0 rfl rfl rfl (by first | assumption | with_reducible rfl | decide | (simp only [decide_eq_true_eq, decide_eq_false_iff_not]; omega))) rfl ?_))) <;> (first | refine sdraw_pure (.yes rfl rfl rfl (by first | assumption | with_reducible rfl | decide | (simp only [decide_eq_true_eq, decide_eq_false_iff_not]; omega))) rfl (po_load_bx rfl rfl (tyT rfl) rfl rfl) ?_ | refine sdraw_pure (.yes rfl rfl rfl (by first | assumption | with_reducible rfl | decide | (simp only [decide_eq_true_eq, decide_eq_false_iff_not]; omega))) rfl (po_load rfl rfl (tyT rfl) rfl) ?_ | refine sdraw_skip (.no0 rfl rfl rfl (by first | assumption | with_reducible rfl | decide | (simp only [decide_eq_true_eq, decide_eq_false_iff_not]; omega))) rfl ?_) <;> (first | refine sdraw_pure (.yes rfl rfl rfl (by first | assumption | with_reducible rfl | decide | (simp only [decide_eq_true_eq, decide_eq_false_iff_not]; omega))) rfl (po_move rfl rfl) ?_ | refine sdraw_skip (.no0 rfl rfl rfl (by first | assumption | with_reducible rfl | decide | (simp only [decide_eq_true_eq, decide_eq_false_iff_not]; omega))) rfl ?_) <;> (first | refine sdraw_pure (.yes rfl rfl rfl (by first | assumption | with_reducible rfl | decide | (simp only [decide_eq_true_eq, decide_eq_false_iff_not]; omega))) rfl (po_index rfl rfl (by first | exact .t _ | exact .own rfl rfl | exact .nil _ | exact .emp _) rfl (tyS rfl) (by first | rfl | omega) (by first | rfl | assumption | exact map_at (by first | assumption | omega))) ?_ | refine sdraw_skip (.no0 rfl rfl rfl (by first | assumption | with_reducible rfl | decide | (simp only [decide_eq_true_eq, decide_eq_false_iff_not]; omega))) rfl ?_) <;> (first | refine sdraw_pure (.yes rfl rfl rfl (by first | assumption | with_reducible rfl | decide | (simp only [decide_eq_true_eq, decide_eq_false_iff_not]; omega))) rfl (po_load_bx_agg rfl rfl (tyT rfl) rfl (.cons (by first | exact .t _ | exact .own rfl rfl | exact .nil _ | exact .emp _) (.cons (by first | exact .t _ | exact .own rfl rfl | exact .nil _ | exact .emp _) (.cons (by first | exact .t _ | exact .own rfl rfl | exact .nil _ | exact .emp _) .nil))) rfl) ?_ | refine sdraw_pure (.yes rfl rfl rfl (by first | assumption | with_reducible rfl | decide | (simp only [decide_eq_true_eq, decide_eq_false_iff_not]; omega))) rfl (po_load_agg rfl rfl (tyT rfl) rfl rfl) ?_ | refine sdraw_skip (.no0 rfl rfl rfl (by first | assumption | with_reducible rfl | decide | (simp only [decide_eq_true_eq, decide_eq_false_iff_not]; omega))) rfl ?_) <;> (first | refine sdraw_pure (.yes rfl rfl rfl (by first | assumption | with_reducible rfl | decide | (simp only [decide_eq_true_eq, decide_eq_false_iff_not]; omega))) rfl (po_load_bx_agg rfl rfl (tyT rfl) rfl (.cons (by first | exact .t _ | exact .own rfl rfl | exact .nil _ | exact .emp _) (.cons (by first | exact .t _ | exact .own rfl rfl | exact .nil _ | exact .emp _) (.cons (by first | exact .t _ | exact .own rfl rfl | exact .nil _ | exact .emp _) .nil))) rfl) ?_ | refine sdraw_pure (.yes rfl rfl rfl (by first | assumption | with_reducible rfl | decide | (simp only [decide_eq_true_eq, decide_eq_false_iff_not]; omega))) rfl (po_load_agg rfl rfl (tyT rfl) rfl rfl) ?_ | refine sdraw_skip (.no0 rfl rfl rfl (by first | assumption | with_reducible rfl | decide | (simp only [decide_eq_true_eq, decide_eq_false_iff_not]; omega))) rfl ?_) <;> (first | refine sdraw_pure (.yes rfl rfl rfl (by first | assumption | with_reducible rfl | decide | (simp only [decide_eq_true_eq, decide_eq_false_iff_not]; omega))) rfl (po_call (hc) rfl (.cons rfl (by first | exact .t _ | exact .own rfl rfl | exact .nil _ | exact .emp _) (.cons rfl (by first | exact .t _ | exact .own rfl rfl | exact .nil _ | exact .emp _) .nil))) ?_ | refine sdraw_skip (.no0 rfl rfl rfl (by first | assumption | with_reducible rfl | decide | (simp only [decide_eq_true_eq, decide_eq_false_iff_not]; omega))) rfl ?_) <;> (first | refine sdraw_pure (.free rfl rfl) rfl (po_pick_t rfl rfl (by first | assumption | with_reducible rfl | decide | (simp only [decide_eq_true_eq, decide_eq_false_iff_not]; omega)) rfl) ?_ | refine sdraw_pure (.free rfl rfl) rfl (po_pick_f rfl rfl (by first | assumption | with_reducible rfl | decide | (simp only [decide_eq_true_eq, decide_eq_false_iff_not]; omega)) rfl) ?_) <;> (refine sdraw_nil ?_) <;> (refine sops_pure (.free rfl rfl) rfl rfl (po_assign rfl rfl) ?_) <;> (refine sops_nil ?_))
        | ((refine swp_region (id := 4) ?_) <;> (refine sops_pure (.free rfl rfl) rfl rfl (po_move rfl rfl) ?_) <;> (first | refine sops_pure (.free rfl rfl) rfl rfl (po_inc rfl rfl rfl (by omega)) ?_ | refine sops_pure (.free rfl rfl) rfl rfl (po_arith rfl rfl rfl (ar_add (by first | rfl | (refine wrap_i64 ?_; omega)) rfl)) ?_) <;> (refine sops_pure (.free rfl rfl) rfl rfl (po_assign rfl rfl) ?_) <;> (refine sops_nil ?_))
        | refine swp_ret ?_
        | refine swp_skip ?_
        | refine swp_block ?_
        | refine swp_exit ?_
        | refine block_go ?_
        | refine block_exit ?_
        | refine block_far rfl ?_
        | refine block_ret ?_
        | refine then_ret ?_
        | refine then_exit ?_
        | refine for_ret ?_
        | refine for_exit ?_
        | refine swp_cond_t rfl (by first | assumption | with_reducible rfl | decide | (simp only [decide_eq_true_eq, Bool.not_eq_true', decide_eq_false_iff_not]; omega)) ?_
        | refine swp_cond_f rfl (by first | assumption | with_reducible rfl | decide | (simp only [decide_eq_false_iff_not, Bool.not_eq_false', decide_eq_true_eq]; omega)) ?_
        | refine swp_cond rfl (fun hc => ?_) (fun hc => ?_)
        | refine retq (by first | exact .inr rfl | exact .inl rfl) rfl (.tmp rfl (by first | exact .t _ | exact .own rfl rfl | exact .nil _ | exact .emp _) .nil) ?_)
  obtain rfl : k = r.from_.length := by omega
  repeat' (first
    | refine then_go ?_
    | refine swp_seq ?_
    | ((refine swp_region (id := 3) ?_) <;> (refine sops_pure (.free rfl rfl) rfl rfl (po_move rfl rfl) ?_) <;> (first | refine sops_pure (.free rfl rfl) rfl rfl (po_field_bx rfl rfl (tyF rfl)) ?_ | refine sops_pure (.free rfl rfl) rfl rfl (po_field rfl rfl (tyF rfl)) ?_) <;> (first | refine sops_pure (.free rfl rfl) rfl rfl (po_load_bx rfl rfl (tyT rfl) rfl rfl) ?_ | refine sops_pure (.free rfl rfl) rfl rfl (po_load rfl rfl (tyT rfl) rfl) ?_) <;> (refine sops_pure (.free rfl rfl) rfl rfl (po_len rfl rfl (by first | exact .t _ | exact .own rfl rfl | exact .nil _ | exact .emp _) (tyS rfl)) ?_) <;> (refine sops_pure (.free rfl rfl) rfl rfl (po_cmp rfl rfl rfl rfl) ?_) <;> (refine sops_nil ?_))
    | ((refine swp_region (id := 6) ?_) <;> (first | refine sops_pure (.free rfl rfl) rfl rfl (po_field_bx rfl rfl (tyF rfl)) ?_ | refine sops_pure (.free rfl rfl) rfl rfl (po_field rfl rfl (tyF rfl)) ?_) <;> (first | refine sops_pure (.free rfl rfl) rfl rfl (po_load_bx rfl rfl (tyT rfl) rfl rfl) ?_ | refine sops_pure (.free rfl rfl) rfl rfl (po_load rfl rfl (tyT rfl) rfl) ?_) <;> (refine sops_pure (.free rfl rfl) rfl rfl (po_len rfl rfl (by first | exact .t _ | exact .own rfl rfl | exact .nil _ | exact .emp _) (tyS rfl)) ?_) <;> (refine sops_pure (.free rfl rfl) rfl rfl (po_cmp rfl rfl rfl rfl) ?_) <;> (refine sops_pure (.free rfl rfl) rfl rfl (po_assign rfl rfl) ?_) <;> (refine sops_nil ?_))
    | ((refine swp_region (id := 7) ?_) <;> (refine sops_pure (.free rfl rfl) rfl rfl (po_assign rfl rfl) ?_) <;> (refine sops_nil ?_))
    | refine swp_ret ?_
    | refine swp_skip ?_
    | refine swp_block ?_
    | refine swp_exit ?_
    | refine block_go ?_
    | refine block_exit ?_
    | refine block_far rfl ?_
    | refine block_ret ?_
    | refine then_ret ?_
    | refine then_exit ?_
    | refine for_ret ?_
    | refine for_exit ?_
    | refine swp_cond_t rfl (by first | assumption | with_reducible rfl | decide | (simp only [decide_eq_true_eq, Bool.not_eq_true', decide_eq_false_iff_not]; omega)) ?_
    | refine swp_cond_f rfl (by first | assumption | with_reducible rfl | decide | (simp only [decide_eq_false_iff_not, Bool.not_eq_false', decide_eq_true_eq]; omega)) ?_
    | refine swp_cond rfl (fun hc => ?_) (fun hc => ?_)
    | refine retq (by first | exact .inr rfl | exact .inl rfl) rfl (.tmp rfl (by first | exact .t _ | exact .own rfl rfl | exact .nil _ | exact .emp _) .nil) ?_)
  refine swp_for (M2 r a port q tg qu bd) (fun _ => True) r.to_.length (weak_sub (.cons rfl (by first | rfl | (rw [inSo_zero, hm2])) rfl (.cons rfl (by first | rfl | (rw [inSo_zero, hm2])) rfl (.cons rfl (by first | rfl | (rw [inSo_zero, hm2])) rfl (.cons rfl (by first | rfl | (rw [inSo_zero, hm2])) rfl (.cons rfl (by first | rfl | (rw [inSo_zero, hm2])) rfl (.cons rfl (by first | rfl | (rw [inSo_zero, hm2])) rfl .nil)))))) (.cons rfl (by first | rfl | (rw [inSo_zero, hm2])) rfl (.cons rfl (by first | rfl | (rw [inSo_zero, hm2])) rfl .nil)) .nil) trivial ?_
  intro k hk _
  unfold M2
  by_cases hlt : k < r.to_.length
  · have hc := target_ r.to_[k] (k1 _ (List.getElem_mem hlt)) (hf.ts _ (List.getElem_mem hlt)) port q hq tg qu bd
    cases hb : inSo (tgtP port q) r.to_ k with
    | true =>
      have hs1 := inSo_yes hlt hb
      repeat' (first
        | refine then_go ?_
        | refine swp_seq ?_
        | refine for_next hlt (weak_sub (.cons rfl (by first | rfl | (rw [hs1])) rfl (.cons rfl (by first | rfl | (rw [hs1])) rfl (.cons rfl (by first | rfl | (rw [hs1])) rfl (.cons rfl (by first | rfl | (rw [hs1])) rfl (.cons rfl (by first | rfl | (rw [hs1])) rfl (.cons rfl (by first | rfl | (rw [hs1])) rfl .nil)))))) (.cons rfl (by first | rfl | (rw [hs1])) rfl (.cons rfl (by first | rfl | (rw [hs1])) rfl .nil)) .nil) trivial
        | ((refine swp_region (id := 8) ?_) <;> (refine sops_pure (.free rfl rfl) rfl rfl (po_move rfl rfl) ?_) <;> (first | refine sops_pure (.free rfl rfl) rfl rfl (po_field_bx rfl rfl (tyF rfl)) ?_ | refine sops_pure (.free rfl rfl) rfl rfl (po_field rfl rfl (tyF rfl)) ?_) <;> (first | refine sops_pure (.free rfl rfl) rfl rfl (po_load_bx rfl rfl (tyT rfl) rfl rfl) ?_ | refine sops_pure (.free rfl rfl) rfl rfl (po_load rfl rfl (tyT rfl) rfl) ?_) <;> (refine sops_pure (.free rfl rfl) rfl rfl (po_len rfl rfl (by first | exact .t _ | exact .own rfl rfl | exact .nil _ | exact .emp _) (tyS rfl)) ?_) <;> (refine sops_pure (.free rfl rfl) rfl rfl (po_cmp rfl rfl rfl rfl) ?_) <;> (refine sops_nil ?_))
        | ((refine swp_draw (id := 10) 11 mixed (by kernel_rfl) (by kernel_rfl) ?_) <;> (refine sdraw_pure (.free rfl rfl) rfl (po_move rfl rfl) ?_) <;> (refine sdraw_pure (.free rfl rfl) rfl (po_move rfl rfl) ?_) <;> (first | refine sdraw_pure (.yes rfl rfl rfl (by first | assumption | with_reducible rfl | decide | (simp only [decide_eq_true_eq, decide_eq_false_iff_not]; omega))) rfl (po_field_bx rfl rfl (tyF rfl)) ?_ | refine sdraw_pure (.yes rfl rfl rfl (by first | assumption | with_reducible rfl | decide | (simp only [decide_eq_true_eq, decide_eq_false_iff_not]; omega))) rfl (po_field rfl rfl (tyF rfl)) ?_ | refine sdraw_skip (.no0 rfl rfl rfl (by first | assumption | with_reducible rfl | decide | (simp only [decide_eq_true_eq, decide_eq_false_iff_not]; omega))) rfl ?_ | ((refine sdraw_split rfl rfl rfl (fun hc => ?_) (fun hc => ?_)) <;> (first | refine sdraw_pure (.yes rfl rfl rfl (by first | assumption | with_reducible rfl | decide | (simp only [decide_eq_true_eq, decide_eq_false_iff_not]; omega))) rfl (po_field_bx rfl rfl (tyF rfl)) ?_ | refine sdraw_pure (.yes rfl rfl rfl (by first | assumption | with_reducible rfl | decide | (simp only [decide_eq_true_eq, decide_eq_false_iff_not]; omega))) rfl (po_field rfl rfl (tyF rfl)) ?_ | refine sdraw_skip (.no0 rfl rfl rfl (by first | assumption | with_reducible rfl | decide | (simp only [decide_eq_true_eq, decide_eq_false_iff_not]; omega))) rfl ?_))) <;> (first | refine sdraw_pure (.yes rfl rfl rfl (by first | assumption | with_reducible rfl | decide | (simp only [decide_eq_true_eq, decide_eq_false_iff_not]; omega))) rfl (po_load_bx rfl rfl (tyT rfl) rfl rfl) ?_ | refine sdraw_pure (.yes rfl rfl rfl (by first | assumption | with_reducible rfl | decide | (simp only [decide_eq_true_eq, decide_eq_false_iff_not]; omega))) rfl (po_load rfl rfl (tyT rfl) rfl) ?_ | refine sdraw_skip (.no0 rfl rfl rfl (by first | assumption | with_reducible rfl | decide | (simp only [decide_eq_true_eq, decide_eq_false_iff_not]; omega))) rfl ?_) <;> (first | refine sdraw_pure (.yes rfl rfl rfl (by first | assumption | with_reducible rfl | decide | (simp only [decide_eq_true_eq, decide_eq_false_iff_not]; omega))) rfl (po_move rfl rfl) ?_ | refine sdraw_skip (.no0 rfl rfl rfl (by first | assumption | with_reducible rfl | decide | (simp only [decide_eq_true_eq, decide_eq_false_iff_not]; omega))) rfl ?_) <;> (first | refine sdraw_pure (.yes rfl rfl rfl (by first | assumption | with_reducible rfl | decide | (simp only [decide_eq_true_eq, decide_eq_false_iff_not]; omega))) rfl (po_index rfl rfl (by first | exact .t _ | exact .own rfl rfl | exact .nil _ | exact .emp _) rfl (tyS rfl) (by first | rfl | omega) (by first | rfl | assumption | exact map_at (by first | assumption | omega))) ?_ | refine sdraw_skip (.no0 rfl rfl rfl (by first | assumption | with_reducible rfl | decide | (simp only [decide_eq_true_eq, decide_eq_false_iff_not]; omega))) rfl ?_) <;> (first | refine sdraw_pure (.yes rfl rfl rfl (by first | assumption | with_reducible rfl | decide | (simp only [decide_eq_true_eq, decide_eq_false_iff_not]; omega))) rfl (po_load_bx_agg rfl rfl (tyT rfl) rfl (.cons (by first | exact .t _ | exact .own rfl rfl | exact .nil _ | exact .emp _) (.cons (by first | exact .t _ | exact .own rfl rfl | exact .nil _ | exact .emp _) (.cons (by first | exact .t _ | exact .own rfl rfl | exact .nil _ | exact .emp _) (.cons (by first | exact .t _ | exact .own rfl rfl | exact .nil _ | exact .emp _) .nil)))) rfl) ?_ | refine sdraw_pure (.yes rfl rfl rfl (by first | assumption | with_reducible rfl | decide | (simp only [decide_eq_true_eq, decide_eq_false_iff_not]; omega))) rfl (po_load_agg rfl rfl (tyT rfl) rfl rfl) ?_ | refine sdraw_skip (.no0 rfl rfl rfl (by first | assumption | with_reducible rfl | decide | (simp only [decide_eq_true_eq, decide_eq_false_iff_not]; omega))) rfl ?_) <;> (first | refine sdraw_pure (.yes rfl rfl rfl (by first | assumption | with_reducible rfl | decide | (simp only [decide_eq_true_eq, decide_eq_false_iff_not]; omega))) rfl (po_move rfl rfl) ?_ | refine sdraw_skip (.no0 rfl rfl rfl (by first | assumption | with_reducible rfl | decide | (simp only [decide_eq_true_eq, decide_eq_false_iff_not]; omega))) rfl ?_) <;> (first | refine sdraw_pure (.yes rfl rfl rfl (by first | assumption | with_reducible rfl | decide | (simp only [decide_eq_true_eq, decide_eq_false_iff_not]; omega))) rfl (po_load_bx_agg rfl rfl (tyT rfl) rfl (.cons (by first | exact .t _ | exact .own rfl rfl | exact .nil _ | exact .emp _) (.cons (by first | exact .t _ | exact .own rfl rfl | exact .nil _ | exact .emp _) (.cons (by first | exact .t _ | exact .own rfl rfl | exact .nil _ | exact .emp _) (.cons (by first | exact .t _ | exact .own rfl rfl | exact .nil _ | exact .emp _) (.cons (by first | exact .t _ | exact .own rfl rfl | exact .nil _ | exact .emp _) (.cons (by first | exact .t _ | exact .own rfl rfl | exact .nil _ | exact .emp _) (.cons (by first | exact .t _ | exact .own rfl rfl | exact .nil _ | exact .emp _) .nil))))))) rfl) ?_ | refine sdraw_pure (.yes rfl rfl rfl (by first | assumption | with_reducible rfl | decide | (simp only [decide_eq_true_eq, decide_eq_false_iff_not]; omega))) rfl (po_load_agg rfl rfl (tyT rfl) rfl rfl) ?_ | refine sdraw_skip (.no0 rfl rfl rfl (by first | assumption | with_reducible rfl | decide | (simp only [decide_eq_true_eq, decide_eq_false_iff_not]; omega))) rfl ?_) <;> (first | refine sdraw_pure (.yes rfl rfl rfl (by first | assumption | with_reducible rfl | decide | (simp only [decide_eq_true_eq, decide_eq_false_iff_not]; omega))) rfl (po_call (hc) rfl (.cons rfl (by first | exact .t _ | exact .own rfl rfl | exact .nil _ | exact .emp _) (.cons rfl (by first | exact .t _ | exact .own rfl rfl | exact .nil _ | exact .emp _) (.cons rfl (by first | exact .t _ | exact .own rfl rfl | exact .nil _ | exact .emp _) .nil)))) ?_ | refine sdraw_skip (.no0 rfl rfl rfl (by first | assumption | with_reducible rfl | decide | (simp only [decide_eq_true_eq, decide_eq_false_iff_not]; omega))) rfl ?_) <;> (first | refine sdraw_pure (.free rfl rfl) rfl (po_pick_t rfl rfl (by first | assumption | with_reducible rfl | decide | (simp only [decide_eq_true_eq, decide_eq_false_iff_not]; omega)) rfl) ?_ | refine sdraw_pure (.free rfl rfl) rfl (po_pick_f rfl rfl (by first | assumption | with_reducible rfl | decide | (simp only [decide_eq_true_eq, decide_eq_false_iff_not]; omega)) rfl) ?_) <;> (refine sdraw_nil ?_) <;> (refine sops_pure (.free rfl rfl) rfl rfl (po_assign rfl rfl) ?_) <;> (refine sops_nil ?_))
        | ((refine swp_region (id := 9) ?_) <;> (refine sops_pure (.free rfl rfl) rfl rfl (po_move rfl rfl) ?_) <;> (first | refine sops_pure (.free rfl rfl) rfl rfl (po_inc rfl rfl rfl (by omega)) ?_ | refine sops_pure (.free rfl rfl) rfl rfl (po_arith rfl rfl rfl (ar_add (by first | rfl | (refine wrap_i64 ?_; omega)) rfl)) ?_) <;> (refine sops_pure (.free rfl rfl) rfl rfl (po_assign rfl rfl) ?_) <;> (refine sops_nil ?_))
        | refine swp_ret ?_
        | refine swp_skip ?_
        | refine swp_block ?_
        | refine swp_exit ?_
        | refine block_go ?_
        | refine block_exit ?_
        | refine block_far rfl ?_
        | refine block_ret ?_
        | refine then_ret ?_
        | refine then_exit ?_
        | refine for_ret ?_
        | refine for_exit ?_
        | refine swp_cond_t rfl (by first | assumption | with_reducible rfl | decide | (simp only [decide_eq_true_eq, Bool.not_eq_true', decide_eq_false_iff_not]; omega)) ?_
        | refine swp_cond_f rfl (by first | assumption | with_reducible rfl | decide | (simp only [decide_eq_false_iff_not, Bool.not_eq_false', decide_eq_true_eq]; omega)) ?_
        | refine swp_cond rfl (fun hc => ?_) (fun hc => ?_)
        | refine retq (by first | exact .inr rfl | exact .inl rfl) rfl (.tmp rfl (by first | exact .t _ | exact .own rfl rfl | exact .nil _ | exact .emp _) .nil) ?_)
    | false =>
      have hs1 := inSo_no hlt hb
      repeat' (first
        | refine then_go ?_
        | refine swp_seq ?_
        | refine for_next hlt (weak_sub (.cons rfl (by first | rfl | (rw [hs1])) rfl (.cons rfl (by first | rfl | (rw [hs1])) rfl (.cons rfl (by first | rfl | (rw [hs1])) rfl (.cons rfl (by first | rfl | (rw [hs1])) rfl (.cons rfl (by first | rfl | (rw [hs1])) rfl (.cons rfl (by first | rfl | (rw [hs1])) rfl .nil)))))) (.cons rfl (by first | rfl | (rw [hs1])) rfl (.cons rfl (by first | rfl | (rw [hs1])) rfl .nil)) .nil) trivial
        | ((refine swp_region (id := 8) ?_) <;> (refine sops_pure (.free rfl rfl) rfl rfl (po_move rfl rfl) ?_) <;> (first | refine sops_pure (.free rfl rfl) rfl rfl (po_field_bx rfl rfl (tyF rfl)) ?_ | refine sops_pure (.free rfl rfl) rfl rfl (po_field rfl rfl (tyF rfl)) ?_) <;> (first | refine sops_pure (.free rfl rfl) rfl rfl (po_load_bx rfl rfl (tyT rfl) rfl rfl) ?_ | refine sops_pure (.free rfl rfl) rfl rfl (po_load rfl rfl (tyT rfl) rfl) ?_) <;> (refine sops_pure (.free rfl rfl) rfl rfl (po_len rfl rfl (by first | exact .t _ | exact .own rfl rfl | exact .nil _ | exact .emp _) (tyS rfl)) ?_) <;> (refine sops_pure (.free rfl rfl) rfl rfl (po_cmp rfl rfl rfl rfl) ?_) <;> (refine sops_nil ?_))
        | ((refine swp_draw (id := 10) 11 mixed (by kernel_rfl) (by kernel_rfl) ?_) <;> (refine sdraw_pure (.free rfl rfl) rfl (po_move rfl rfl) ?_) <;> (refine sdraw_pure (.free rfl rfl) rfl (po_move rfl rfl) ?_) <;> (first | refine sdraw_pure (.yes rfl rfl rfl (by first | assumption | with_reducible rfl | decide | (simp only [decide_eq_true_eq, decide_eq_false_iff_not]; omega))) rfl (po_field_bx rfl rfl (tyF rfl)) ?_ | refine sdraw_pure (.yes rfl rfl rfl (by first | assumption | with_reducible rfl | decide | (simp only [decide_eq_true_eq, decide_eq_false_iff_not]; omega))) rfl (po_field rfl rfl (tyF rfl)) ?_ | refine sdraw_skip (.no0 rfl rfl rfl (by first | assumption | with_reducible rfl | decide | (simp only [decide_eq_true_eq, decide_eq_false_iff_not]; omega))) rfl ?_ | ((refine sdraw_split rfl rfl rfl (fun hc => ?_) (fun hc => ?_)) <;> (first | refine sdraw_pure (.yes rfl rfl rfl (by first | assumption | with_reducible rfl | decide | (simp only [decide_eq_true_eq, decide_eq_false_iff_not]; omega))) rfl (po_field_bx rfl rfl (tyF rfl)) ?_ | refine sdraw_pure (.yes rfl rfl rfl (by first | assumption | with_reducible rfl | decide | (simp only [decide_eq_true_eq, decide_eq_false_iff_not]; omega))) rfl (po_field rfl rfl (tyF rfl)) ?_ | refine sdraw_skip (.no0 rfl rfl rfl (by first | assumption | with_reducible rfl | decide | (simp only [decide_eq_true_eq, decide_eq_false_iff_not]; omega))) rfl ?_))) <;> (first | refine sdraw_pure (.yes rfl rfl rfl (by first | assumption | with_reducible rfl | decide | (simp only [decide_eq_true_eq, decide_eq_false_iff_not]; omega))) rfl (po_load_bx rfl rfl (tyT rfl) rfl rfl) ?_ | refine sdraw_pure (.yes rfl rfl rfl (by first | assumption | with_reducible rfl | decide | (simp only [decide_eq_true_eq, decide_eq_false_iff_not]; omega))) rfl (po_load rfl rfl (tyT rfl) rfl) ?_ | refine sdraw_skip (.no0 rfl rfl rfl (by first | assumption | with_reducible rfl | decide | (simp only [decide_eq_true_eq, decide_eq_false_iff_not]; omega))) rfl ?_) <;> (first | refine sdraw_pure (.yes rfl rfl rfl (by first | assumption | with_reducible rfl | decide | (simp only [decide_eq_true_eq, decide_eq_false_iff_not]; omega))) rfl (po_move rfl rfl) ?_ | refine sdraw_skip (.no0 rfl rfl rfl (by first | assumption | with_reducible rfl | decide | (simp only [decide_eq_true_eq, decide_eq_false_iff_not]; omega))) rfl ?_) <;> (first | refine sdraw_pure (.yes rfl rfl rfl (by first | assumption | with_reducible rfl | decide | (simp only [decide_eq_true_eq, decide_eq_false_iff_not]; omega))) rfl (po_index rfl rfl (by first | exact .t _ | exact .own rfl rfl | exact .nil _ | exact .emp _) rfl (tyS rfl) (by first | rfl | omega) (by first | rfl | assumption | exact map_at (by first | assumption | omega))) ?_ | refine sdraw_skip (.no0 rfl rfl rfl (by first | assumption | with_reducible rfl | decide | (simp only [decide_eq_true_eq, decide_eq_false_iff_not]; omega))) rfl ?_) <;> (first | refine sdraw_pure (.yes rfl rfl rfl (by first | assumption | with_reducible rfl | decide | (simp only [decide_eq_true_eq, decide_eq_false_iff_not]; omega))) rfl (po_load_bx_agg rfl rfl (tyT rfl) rfl (.cons (by first | exact .t _ | exact .own rfl rfl | exact .nil _ | exact .emp _) (.cons (by first | exact .t _ | exact .own rfl rfl | exact .nil _ | exact .emp _) (.cons (by first | exact .t _ | exact .own rfl rfl | exact .nil _ | exact .emp _) (.cons (by first | exact .t _ | exact .own rfl rfl | exact .nil _ | exact .emp _) .nil)))) rfl) ?_ | refine sdraw_pure (.yes rfl rfl rfl (by first | assumption | with_reducible rfl | decide | (simp only [decide_eq_true_eq, decide_eq_false_iff_not]; omega))) rfl (po_load_agg rfl rfl (tyT rfl) rfl rfl) ?_ | refine sdraw_skip (.no0 rfl rfl rfl (by first | assumption | with_reducible rfl | decide | (simp only [decide_eq_true_eq, decide_eq_false_iff_not]; omega))) rfl ?_) <;> (first | refine sdraw_pure (.yes rfl rfl rfl (by first | assumption | with_reducible rfl | decide | (simp only [decide_eq_true_eq, decide_eq_false_iff_not]; omega))) rfl (po_move rfl rfl) ?_ | refine sdraw_skip (.no0 rfl rfl rfl (by first | assumption | with_reducible rfl | decide | (simp only [decide_eq_true_eq, decide_eq_false_iff_not]; omega))) rfl ?_) <;> (first | refine sdraw_pure (.yes rfl rfl rfl (by first | assumption | with_reducible rfl | decide | (simp only [decide_eq_true_eq, decide_eq_false_iff_not]; omega))) rfl (po_load_bx_agg rfl rfl (tyT rfl) rfl (.cons (by first | exact .t _ | exact .own rfl rfl | exact .nil _ | exact .emp _) (.cons (by first | exact .t _ | exact .own rfl rfl | exact .nil _ | exact .emp _) (.cons (by first | exact .t _ | exact .own rfl rfl | exact .nil _ | exact .emp _) (.cons (by first | exact .t _ | exact .own rfl rfl | exact .nil _ | exact .emp _) (.cons (by first | exact .t _ | exact .own rfl rfl | exact .nil _ | exact .emp _) (.cons (by first | exact .t _ | exact .own rfl rfl | exact .nil _ | exact .emp _) (.cons (by first | exact .t _ | exact .own rfl rfl | exact .nil _ | exact .emp _) .nil))))))) rfl) ?_ | refine sdraw_pure (.yes rfl rfl rfl (by first | assumption | with_reducible rfl | decide | (simp only [decide_eq_true_eq, decide_eq_false_iff_not]; omega))) rfl (po_load_agg rfl rfl (tyT rfl) rfl rfl) ?_ | refine sdraw_skip (.no0 rfl rfl rfl (by first | assumption | with_reducible rfl | decide | (simp only [decide_eq_true_eq, decide_eq_false_iff_not]; omega))) rfl ?_) <;> (first | refine sdraw_pure (.yes rfl rfl rfl (by first | assumption | with_reducible rfl | decide | (simp only [decide_eq_true_eq, decide_eq_false_iff_not]; omega))) rfl (po_call (hc) rfl (.cons rfl (by first | exact .t _ | exact .own rfl rfl | exact .nil _ | exact .emp _) (.cons rfl (by first | exact .t _ | exact .own rfl rfl | exact .nil _ | exact .emp _) (.cons rfl (by first | exact .t _ | exact .own rfl rfl | exact .nil _ | exact .emp _) .nil)))) ?_ | refine sdraw_skip (.no0 rfl rfl rfl (by first | assumption | with_reducible rfl | decide | (simp only [decide_eq_true_eq, decide_eq_false_iff_not]; omega))) rfl ?_) <;> (first | refine sdraw_pure (.free rfl rfl) rfl (po_pick_t rfl rfl (by first | assumption | with_reducible rfl | decide | (simp only [decide_eq_true_eq, decide_eq_false_iff_not]; omega)) rfl) ?_ | refine sdraw_pure (.free rfl rfl) rfl (po_pick_f rfl rfl (by first | assumption | with_reducible rfl | decide | (simp only [decide_eq_true_eq, decide_eq_false_iff_not]; omega)) rfl) ?_) <;> (refine sdraw_nil ?_) <;> (refine sops_pure (.free rfl rfl) rfl rfl (po_assign rfl rfl) ?_) <;> (refine sops_nil ?_))
        | ((refine swp_region (id := 9) ?_) <;> (refine sops_pure (.free rfl rfl) rfl rfl (po_move rfl rfl) ?_) <;> (first | refine sops_pure (.free rfl rfl) rfl rfl (po_inc rfl rfl rfl (by omega)) ?_ | refine sops_pure (.free rfl rfl) rfl rfl (po_arith rfl rfl rfl (ar_add (by first | rfl | (refine wrap_i64 ?_; omega)) rfl)) ?_) <;> (refine sops_pure (.free rfl rfl) rfl rfl (po_assign rfl rfl) ?_) <;> (refine sops_nil ?_))
        | refine swp_ret ?_
        | refine swp_skip ?_
        | refine swp_block ?_
        | refine swp_exit ?_
        | refine block_go ?_
        | refine block_exit ?_
        | refine block_far rfl ?_
        | refine block_ret ?_
        | refine then_ret ?_
        | refine then_exit ?_
        | refine for_ret ?_
        | refine for_exit ?_
        | refine swp_cond_t rfl (by first | assumption | with_reducible rfl | decide | (simp only [decide_eq_true_eq, Bool.not_eq_true', decide_eq_false_iff_not]; omega)) ?_
        | refine swp_cond_f rfl (by first | assumption | with_reducible rfl | decide | (simp only [decide_eq_false_iff_not, Bool.not_eq_false', decide_eq_true_eq]; omega)) ?_
        | refine swp_cond rfl (fun hc => ?_) (fun hc => ?_)
        | refine retq (by first | exact .inr rfl | exact .inl rfl) rfl (.tmp rfl (by first | exact .t _ | exact .own rfl rfl | exact .nil _ | exact .emp _) .nil) ?_)
  obtain rfl : k = r.to_.length := by omega
  repeat' (first
    | refine then_go ?_
    | refine swp_seq ?_
    | ((refine swp_region (id := 8) ?_) <;> (refine sops_pure (.free rfl rfl) rfl rfl (po_move rfl rfl) ?_) <;> (first | refine sops_pure (.free rfl rfl) rfl rfl (po_field_bx rfl rfl (tyF rfl)) ?_ | refine sops_pure (.free rfl rfl) rfl rfl (po_field rfl rfl (tyF rfl)) ?_) <;> (first | refine sops_pure (.free rfl rfl) rfl rfl (po_load_bx rfl rfl (tyT rfl) rfl rfl) ?_ | refine sops_pure (.free rfl rfl) rfl rfl (po_load rfl rfl (tyT rfl) rfl) ?_) <;> (refine sops_pure (.free rfl rfl) rfl rfl (po_len rfl rfl (by first | exact .t _ | exact .own rfl rfl | exact .nil _ | exact .emp _) (tyS rfl)) ?_) <;> (refine sops_pure (.free rfl rfl) rfl rfl (po_cmp rfl rfl rfl rfl) ?_) <;> (refine sops_nil ?_))
    | ((refine swp_region (id := 11) ?_) <;> (refine sops_pure (.free rfl rfl) rfl rfl (po_assign rfl rfl) ?_) <;> (refine sops_nil ?_))
    | refine swp_ret ?_
    | refine swp_skip ?_
    | refine swp_block ?_
    | refine swp_exit ?_
    | refine block_go ?_
    | refine block_exit ?_
    | refine block_far rfl ?_
    | refine block_ret ?_
    | refine then_ret ?_
    | refine then_exit ?_
    | refine for_ret ?_
    | refine for_exit ?_
    | refine swp_cond_t rfl (by first | assumption | with_reducible rfl | decide | (simp only [decide_eq_true_eq, Bool.not_eq_true', decide_eq_false_iff_not]; omega)) ?_
    | refine swp_cond_f rfl (by first | assumption | with_reducible rfl | decide | (simp only [decide_eq_false_iff_not, Bool.not_eq_false', decide_eq_true_eq]; omega)) ?_
    | refine swp_cond rfl (fun hc => ?_) (fun hc => ?_)
    | refine retq (by first | exact .inr rfl | exact .inl rfl) rfl (.tmp rfl (by first | exact .t _ | exact .own rfl rfl | exact .nil _ | exact .emp _) .nil) ?_)
  refine swp_for (M3 r a port q tg qu bd) (fun k => (r.when_.take k).all (whenP q.heads) = true) r.when_.length (weak_sub (.cons rfl rfl rfl (.cons rfl rfl rfl (.cons rfl rfl rfl (.cons rfl rfl rfl (.cons rfl rfl rfl .nil))))) (.cons rfl rfl rfl (.cons rfl rfl rfl .nil)) .nil) rfl ?_
  intro k hk hI
  unfold M3
  by_cases hlt : k < r.when_.length
  · have hc := when__ r.when_[k] (k2 _ (List.getElem_mem hlt)) (hf.ws _ (List.getElem_mem hlt)) q hq tg qu bd
    have hs1 := all_snoc (p := whenP q.heads) hlt
    rw [hI, Bool.true_and] at hs1
    repeat' (first
      | refine then_go ?_
      | refine swp_seq ?_
      | refine for_next hlt (weak_sub (.cons rfl rfl rfl (.cons rfl rfl rfl (.cons rfl rfl rfl (.cons rfl rfl rfl (.cons rfl rfl rfl .nil))))) (.cons rfl rfl rfl (.cons rfl rfl rfl .nil)) .nil) ?_
      | ((refine swp_region (id := 12) ?_) <;> (refine sops_pure (.free rfl rfl) rfl rfl (po_move rfl rfl) ?_) <;> (first | refine sops_pure (.free rfl rfl) rfl rfl (po_field_bx rfl rfl (tyF rfl)) ?_ | refine sops_pure (.free rfl rfl) rfl rfl (po_field rfl rfl (tyF rfl)) ?_) <;> (first | refine sops_pure (.free rfl rfl) rfl rfl (po_load_bx rfl rfl (tyT rfl) rfl rfl) ?_ | refine sops_pure (.free rfl rfl) rfl rfl (po_load rfl rfl (tyT rfl) rfl) ?_) <;> (refine sops_pure (.free rfl rfl) rfl rfl (po_len rfl rfl (by first | exact .t _ | exact .own rfl rfl | exact .nil _ | exact .emp _) (tyS rfl)) ?_) <;> (refine sops_pure (.free rfl rfl) rfl rfl (po_cmp rfl rfl rfl rfl) ?_) <;> (refine sops_nil ?_))
      | ((refine swp_draw_all (id := 14) mixed (by kernel_rfl) (by kernel_rfl) ?_) <;> (first | refine sdraw_pure (.free rfl rfl) rfl (po_field_bx rfl rfl (tyF rfl)) ?_ | refine sdraw_pure (.free rfl rfl) rfl (po_field rfl rfl (tyF rfl)) ?_) <;> (first | refine sdraw_pure (.free rfl rfl) rfl (po_load_bx rfl rfl (tyT rfl) rfl rfl) ?_ | refine sdraw_pure (.free rfl rfl) rfl (po_load rfl rfl (tyT rfl) rfl) ?_) <;> (refine sdraw_pure (.free rfl rfl) rfl (po_move rfl rfl) ?_) <;> (refine sdraw_pure (.free rfl rfl) rfl (po_index rfl rfl (by first | exact .t _ | exact .own rfl rfl | exact .nil _ | exact .emp _) rfl (tyS rfl) (by first | rfl | omega) (by first | rfl | assumption | exact map_at (by first | assumption | omega))) ?_) <;> (first | refine sdraw_pure (.free rfl rfl) rfl (po_load_bx_agg rfl rfl (tyT rfl) rfl (.cons (by first | exact .t _ | exact .own rfl rfl | exact .nil _ | exact .emp _) (.cons (by first | exact .t _ | exact .own rfl rfl | exact .nil _ | exact .emp _) .nil)) rfl) ?_ | refine sdraw_pure (.free rfl rfl) rfl (po_load_agg rfl rfl (tyT rfl) rfl rfl) ?_) <;> (first | refine sdraw_pure (.free rfl rfl) rfl (po_load_bx_agg rfl rfl (tyT rfl) rfl (.cons (by first | exact .t _ | exact .own rfl rfl | exact .nil _ | exact .emp _) (.cons (by first | exact .t _ | exact .own rfl rfl | exact .nil _ | exact .emp _) (.cons (by first | exact .t _ | exact .own rfl rfl | exact .nil _ | exact .emp _) (.cons (by first | exact .t _ | exact .own rfl rfl | exact .nil _ | exact .emp _) (.cons (by first | exact .t _ | exact .own rfl rfl | exact .nil _ | exact .emp _) (.cons (by first | exact .t _ | exact .own rfl rfl | exact .nil _ | exact .emp _) (.cons (by first | exact .t _ | exact .own rfl rfl | exact .nil _ | exact .emp _) .nil))))))) rfl) ?_ | refine sdraw_pure (.free rfl rfl) rfl (po_load_agg rfl rfl (tyT rfl) rfl rfl) ?_) <;> (refine sdraw_pure (.free rfl rfl) rfl (po_call (hc) rfl (.cons rfl (by first | exact .t _ | exact .own rfl rfl | exact .nil _ | exact .emp _) (.cons rfl (by first | exact .t _ | exact .own rfl rfl | exact .nil _ | exact .emp _) .nil))) ?_) <;> (refine sdraw_pure (.free rfl rfl) rfl (po_not rfl rfl) ?_) <;> (refine sdraw_nil ?_) <;> (refine sops_nil ?_))
      | ((refine swp_region (id := 15) ?_) <;> (refine sops_pure (.free rfl rfl) rfl rfl (po_assign rfl rfl) ?_) <;> (refine sops_nil ?_))
      | ((refine swp_region (id := 13) ?_) <;> (refine sops_pure (.free rfl rfl) rfl rfl (po_move rfl rfl) ?_) <;> (first | refine sops_pure (.free rfl rfl) rfl rfl (po_inc rfl rfl rfl (by omega)) ?_ | refine sops_pure (.free rfl rfl) rfl rfl (po_arith rfl rfl rfl (ar_add (by first | rfl | (refine wrap_i64 ?_; omega)) rfl)) ?_) <;> (refine sops_pure (.free rfl rfl) rfl rfl (po_assign rfl rfl) ?_) <;> (refine sops_nil ?_))
      | refine swp_ret ?_
      | refine swp_skip ?_
      | refine swp_block ?_
      | refine swp_exit ?_
      | refine block_go ?_
      | refine block_exit ?_
      | refine block_far rfl ?_
      | refine block_ret ?_
      | refine then_ret ?_
      | refine then_exit ?_
      | refine for_ret ?_
      | refine for_exit ?_
      | refine swp_cond_t rfl (by first | assumption | with_reducible rfl | decide | (simp only [decide_eq_true_eq, Bool.not_eq_true', decide_eq_false_iff_not]; omega)) ?_
      | refine swp_cond_f rfl (by first | assumption | with_reducible rfl | decide | (simp only [decide_eq_false_iff_not, Bool.not_eq_false', decide_eq_true_eq]; omega)) ?_
      | refine swp_cond rfl (fun hc => ?_) (fun hc => ?_)
      | refine retq (by first | exact .inr rfl | exact .inl rfl) rfl (.tmp rfl (by first | exact .t _ | exact .own rfl rfl | exact .nil _ | exact .emp _) .nil) ?_)
    · refine eq_b ?_
      have : r.when_.all (whenP q.heads) = false := by
        rw [List.all_eq_false]
        exact ⟨_, List.getElem_mem hlt, by simp_all⟩
      unfold matchP
      rw [this, Bool.and_false]
    · rw [hs1]; simp_all
  · obtain rfl : k = r.when_.length := by omega
    rw [List.take_length] at hI
    unfold matchP
    rw [hI, Bool.and_true, inSo_all, inSo_all]
    cases hb : (r.from_.isEmpty || r.from_.any (srcP a))
    all_goals
      repeat' (first
        | refine then_go ?_
        | refine swp_seq ?_
        | ((refine swp_region (id := 12) ?_) <;> (refine sops_pure (.free rfl rfl) rfl rfl (po_move rfl rfl) ?_) <;> (first | refine sops_pure (.free rfl rfl) rfl rfl (po_field_bx rfl rfl (tyF rfl)) ?_ | refine sops_pure (.free rfl rfl) rfl rfl (po_field rfl rfl (tyF rfl)) ?_) <;> (first | refine sops_pure (.free rfl rfl) rfl rfl (po_load_bx rfl rfl (tyT rfl) rfl rfl) ?_ | refine sops_pure (.free rfl rfl) rfl rfl (po_load rfl rfl (tyT rfl) rfl) ?_) <;> (refine sops_pure (.free rfl rfl) rfl rfl (po_len rfl rfl (by first | exact .t _ | exact .own rfl rfl | exact .nil _ | exact .emp _) (tyS rfl)) ?_) <;> (refine sops_pure (.free rfl rfl) rfl rfl (po_cmp rfl rfl rfl rfl) ?_) <;> (refine sops_nil ?_))
        | ((refine swp_region (id := 16) ?_) <;> (refine sops_pure (.free rfl rfl) rfl rfl (po_move rfl rfl) ?_) <;> (refine sops_pure (.free rfl rfl) rfl rfl (po_move rfl rfl) ?_) <;> (first | refine sops_pure (.yes rfl rfl rfl (by first | assumption | with_reducible rfl | decide | (simp only [decide_eq_true_eq, decide_eq_false_iff_not]; omega))) rfl rfl (po_move rfl rfl) ?_ | refine sops_skip (.no1 rfl rfl rfl (by first | assumption | with_reducible rfl | decide | (simp only [decide_eq_true_eq, decide_eq_false_iff_not]; omega))) rfl rfl ?_ | ((refine sops_split rfl rfl rfl (fun hc => ?_) (fun hc => ?_)) <;> (first | refine sops_pure (.yes rfl rfl rfl (by first | assumption | with_reducible rfl | decide | (simp only [decide_eq_true_eq, decide_eq_false_iff_not]; omega))) rfl rfl (po_move rfl rfl) ?_ | refine sops_skip (.no1 rfl rfl rfl (by first | assumption | with_reducible rfl | decide | (simp only [decide_eq_true_eq, decide_eq_false_iff_not]; omega))) rfl rfl ?_))) <;> (first | refine sops_pure (.free rfl rfl) rfl rfl (po_pick_t rfl rfl (by first | assumption | with_reducible rfl | decide | (simp only [decide_eq_true_eq, decide_eq_false_iff_not]; omega)) rfl) ?_ | refine sops_pure (.free rfl rfl) rfl rfl (po_pick_f rfl rfl (by first | assumption | with_reducible rfl | decide | (simp only [decide_eq_true_eq, decide_eq_false_iff_not]; omega)) rfl) ?_) <;> (refine sops_pure (.free rfl rfl) rfl rfl (po_assign rfl rfl) ?_) <;> (refine sops_nil ?_))
        | refine swp_ret ?_
        | refine swp_skip ?_
        | refine swp_block ?_
        | refine swp_exit ?_
        | refine block_go ?_
        | refine block_exit ?_
        | refine block_far rfl ?_
        | refine block_ret ?_
        | refine then_ret ?_
        | refine then_exit ?_
        | refine for_ret ?_
        | refine for_exit ?_
        | refine swp_cond_t rfl (by first | assumption | with_reducible rfl | decide | (simp only [decide_eq_true_eq, Bool.not_eq_true', decide_eq_false_iff_not]; omega)) ?_
        | refine swp_cond_f rfl (by first | assumption | with_reducible rfl | decide | (simp only [decide_eq_false_iff_not, Bool.not_eq_false', decide_eq_true_eq]; omega)) ?_
        | refine swp_cond rfl (fun hc => ?_) (fun hc => ?_)
        | refine retq (by first | exact .inr rfl | exact .inl rfl) rfl (.tmp rfl (by first | exact .t _ | exact .own rfl rfl | exact .nil _ | exact .emp _) .nil) ?_)
    all_goals
      refine eq_b ?_
      simp
theorem eq_bi {a b : Bool} {x y : Int} (h : a = b) (h' : x = y) : T.tup [.v (.bool a), .v (.int .u64 x)] = resT [.v (.bool b), .v (.int .u64 y)] := by rw [h, h']; rfl
section
open Pl
variable (M : Pl.Rule → Bool)
def byP (d : Bool) (A : List Pl.Policy) : Option Int := (firstP M d A).map (·.id)
def bySt (A : List Pl.Policy) (p : Pl.Policy) (j : Nat) : Option Int := (byP M false A).or (if kindP false p && (p.rules.take j).any M then some p.id else none)
theorem first_snoc (d : Bool) (A : List Pl.Policy) (p : Pl.Policy) : firstP M d (A ++ [p]) = (firstP M d A).or (if kindP d p && p.rules.any M then some p else none) := by
  unfold firstP
  rw [List.find?_append, List.find?_cons]
  cases kindP d p && p.rules.any M <;> simp
theorem byP_snoc (A : List Pl.Policy) (p : Pl.Policy) : byP M false (A ++ [p]) = bySt M A p p.rules.length := by
  unfold bySt byP
  rw [first_snoc, List.take_length]
  cases firstP M false A <;> simp
  try (cases kindP false p && p.rules.any M <;> simp)
theorem bySt_zero (A : List Pl.Policy) (p : Pl.Policy) : bySt M A p 0 = byP M false A := by unfold bySt; simp
theorem any_snoc {p : Pl.Policy} {j : Nat} (hj : j < p.rules.length) : (p.rules.take (j + 1)).any M = ((p.rules.take j).any M || M p.rules[j]) := by
  rw [List.take_succ_eq_append_getElem hj, List.any_append]; simp
theorem bySt_no {A : List Pl.Policy} {p : Pl.Policy} {j : Nat} (hj : j < p.rules.length) (h : M p.rules[j] = false) : bySt M A p (j + 1) = bySt M A p j := by
  unfold bySt; rw [any_snoc M hj, h, Bool.or_false]
theorem bySt_new {A : List Pl.Policy} {p : Pl.Policy} {j : Nat} (hj : j < p.rules.length) (hk : kindP false p = true) (h : M p.rules[j] = true) (ho : bySt M A p j = none) : bySt M A p (j + 1) = some p.id := by
  unfold bySt at *; rw [any_snoc M hj, h, Bool.or_true, hk]
  cases e : byP M false A with
  | none => rfl
  | some x => rw [e] at ho; simp at ho
theorem bySt_old {A : List Pl.Policy} {p : Pl.Policy} {j : Nat} {x : Int} (hj : j < p.rules.length) (h : bySt M A p j = some x) : bySt M A p (j + 1) = some x := by
  unfold bySt at *; rw [any_snoc M hj]
  cases e : byP M false A with
  | some y => rw [e] at h; simpa using h
  | none =>
    rw [e] at h
    cases hk : kindP false p
    · rw [hk] at h; simp at h
    · cases ha : (p.rules.take j).any M
      · rw [ha, hk] at h; simp at h
      · rw [ha, hk] at h; simpa using h
theorem deny_yes {l : List Pl.Policy} {i j : Nat} (hi : i < l.length) (hj : j < l[i].rules.length) (h0 : firstP M true (l.take i) = none) (hd : l[i].deny = 1) (h : M l[i].rules[j] = true) : judgeP M l = (false, l[i].id) := by
  have e : l = l.take i ++ (l[i] :: l.drop (i + 1)) := by rw [← List.drop_eq_getElem_cons hi, List.take_append_drop]
  have hf : firstP M true l = some l[i] := by
    have ha : l[i].rules.any M = true := List.any_eq_true.2 ⟨_, List.getElem_mem hj, h⟩
    have hk : kindP true l[i] = true := by simp [kindP, hd]
    unfold firstP at *
    conv => lhs; rw [e]
    rw [List.find?_append, h0, List.find?_cons, hk, ha]; rfl
  unfold judgeP; rw [hf]
theorem judge_end {l : List Pl.Policy} (h : firstP M true l = none) : judgeP M l = ((byP M false l).isSome || !someP false l, (byP M false l).getD 0) := by
  unfold judgeP byP; rw [h]
  cases firstP M false l <;> simp
end
def hitR (M : Pl.Rule → Bool) (r : Pl.Rule) : List T := [.v (.int .i64 (if M r = true then 1 else 0))]
def hitP (M : Pl.Rule → Bool) (p : Pl.Policy) : List T := [.sl 1 (p.rules.map (hitR M))]
def Y1 (M : Pl.Rule → Bool) (l : List Pl.Policy) (k : Nat) : St := ⟨[(0, .t (.sl 5 (l.map polT))), (1, .t (.sl 1 (l.map (hitP M)))), (6, .t (.v (.bool (Pl.someP false (l.take k))))), (7, .t (.v (.bool (byP M false (l.take k)).isSome))), (8, .t (.v (.int .u64 ((byP M false (l.take k)).getD 0)))), (9, .t (.v (.int .i64 (k : Int))))], [], []⟩
def Y2 (M : Pl.Rule → Bool) (l : List Pl.Policy) (i : Nat) (p : Pl.Policy) (j : Nat) : St := ⟨[(0, .t (.sl 5 (l.map polT))), (1, .t (.sl 1 (l.map (hitP M)))), (6, .t (.v (.bool (Pl.someP false (l.take (i + 1)))))), (7, .t (.v (.bool (bySt M (l.take i) p j).isSome))), (8, .t (.v (.int .u64 ((bySt M (l.take i) p j).getD 0)))), (9, .t (.v (.int .i64 (i : Int)))), (10, .t (.v (.int .i64 (j : Int))))], [], []⟩
set_option maxRecDepth 100000 in
set_option maxHeartbeats 1000000 in
theorem says_ (M : Pl.Rule → Bool) (l : List Pl.Policy) (hn : l.length ≤ 1000) (hr : ∀ p ∈ l, p.rules.length ≤ 1000) : PCalls Try.prog 72 [.sl 5 (l.map polT), .sl 1 (l.map (hitP M))] (.tup [.v (.bool (Pl.judgeP M l).1), .v (.int .u64 (Pl.judgeP M l).2)]) := by
  have hm1 : (l.map polT).length = l.length := List.length_map _
  refine pcalls_of Try.func72 rfl rfl Try.ntmps72 rfl ?_
  repeat' (first
    | refine then_go ?_
    | refine swp_seq ?_
    | ((refine swp_region (id := 0) ?_) <;> (refine sops_pure (.free rfl rfl) rfl rfl (po_assign rfl rfl) ?_) <;> (refine sops_pure (.free rfl rfl) rfl rfl (po_assign rfl rfl) ?_) <;> (refine sops_nil ?_))
    | ((refine swp_region (id := 1) ?_) <;> (refine sops_pure (.free rfl rfl) rfl rfl (po_assign rfl rfl) ?_) <;> (refine sops_nil ?_))
    | ((refine swp_region (id := 2) ?_) <;> (refine sops_pure (.free rfl rfl) rfl rfl (po_assign rfl rfl) ?_) <;> (refine sops_nil ?_))
    | ((refine swp_region (id := 3) ?_) <;> (refine sops_pure (.free rfl rfl) rfl rfl (po_assign rfl rfl) ?_) <;> (refine sops_nil ?_))
    | ((refine swp_region (id := 4) ?_) <;> (refine sops_pure (.free rfl rfl) rfl rfl (po_assign rfl rfl) ?_) <;> (refine sops_nil ?_))
    | refine swp_ret ?_
    | refine swp_skip ?_
    | refine swp_block ?_
    | refine swp_exit ?_
    | refine block_go ?_
    | refine block_exit ?_
    | refine block_far rfl ?_
    | refine block_ret ?_
    | refine then_ret ?_
    | refine then_exit ?_
    | refine for_ret ?_
    | refine for_exit ?_
    | refine swp_cond_t rfl (by first | assumption | with_reducible rfl | decide | (simp only [decide_eq_true_eq, Bool.not_eq_true', decide_eq_false_iff_not]; omega)) ?_
    | refine swp_cond_f rfl (by first | assumption | with_reducible rfl | decide | (simp only [decide_eq_false_iff_not, Bool.not_eq_false', decide_eq_true_eq]; omega)) ?_
    | refine swp_cond rfl (fun hc => ?_) (fun hc => ?_)
    | refine retq (by first | exact .inr rfl | exact .inl rfl) rfl (.tmp rfl (by first | exact .t _ | exact .own rfl rfl | exact .nil _ | exact .emp _) (.tmp rfl (by first | exact .t _ | exact .own rfl rfl | exact .nil _ | exact .emp _) .nil)) ?_)
  refine swp_for (Y1 M l) (fun k => Pl.firstP M true (l.take k) = none) l.length (weak_sub (.cons rfl rfl rfl (.cons rfl rfl rfl (.cons rfl rfl rfl (.cons rfl rfl rfl (.cons rfl rfl rfl (.cons rfl rfl rfl .nil)))))) .nil .nil) rfl ?_
  intro k hk hI
  unfold Y1
  by_cases hlt : k < l.length
  · have hnr := hr _ (List.getElem_mem hlt)
    have hm2 : (l[k].rules.map ruleT).length = l[k].rules.length := List.length_map _
    have hsn : l.take (k + 1) = l.take k ++ [l[k]] := List.take_succ_eq_append_getElem hlt
    have hso : Pl.someP false (l.take (k + 1)) = (Pl.someP false (l.take k) || !decide (l[k].deny = 1)) := by
      rw [hsn, Pl.some_append]; congr 1; unfold Pl.someP Pl.kindP; by_cases e : l[k].deny = 1 <;> simp [e]
    have hfi : (Pl.firstP M true (l.take (k + 1))) = if Pl.kindP true l[k] && l[k].rules.any M then some l[k] else none := by rw [hsn, first_snoc, hI]; rfl
    have hby := byP_snoc M (l.take k) l[k]
    rw [← hsn] at hby
    have hz := bySt_zero M (l.take k) l[k]
    by_cases hd : l[k].deny = 1
    · rw [decide_eq_true hd, Bool.not_true, Bool.or_false] at hso
      have hkt : Pl.kindP true l[k] = true := by simp [Pl.kindP, hd]
      have hkf : Pl.kindP false l[k] = false := by simp [Pl.kindP, hd]
      repeat' (first
        | refine then_go ?_
        | refine swp_seq ?_
        | ((refine swp_region (id := 5) ?_) <;> (refine sops_pure (.free rfl rfl) rfl rfl (po_move rfl rfl) ?_) <;> (refine sops_pure (.free rfl rfl) rfl rfl (po_move rfl rfl) ?_) <;> (refine sops_pure (.free rfl rfl) rfl rfl (po_len rfl rfl (by first | exact .t _ | exact .own rfl rfl | exact .nil _ | exact .emp _) (tyS rfl)) ?_) <;> (refine sops_pure (.free rfl rfl) rfl rfl (po_cmp rfl rfl rfl rfl) ?_) <;> (refine sops_nil ?_))
        | ((refine swp_region (id := 7) ?_) <;> (refine sops_pure (.free rfl rfl) rfl rfl (po_move rfl rfl) ?_) <;> (refine sops_pure (.free rfl rfl) rfl rfl (po_move rfl rfl) ?_) <;> (refine sops_pure (.free rfl rfl) rfl rfl (po_index rfl rfl (by first | exact .t _ | exact .own rfl rfl | exact .nil _ | exact .emp _) rfl (tyS rfl) (by first | rfl | omega) (by first | rfl | assumption | exact map_at (by first | assumption | omega))) ?_) <;> (first | refine sops_pure (.free rfl rfl) rfl rfl (po_field_bx rfl rfl (tyF rfl)) ?_ | refine sops_pure (.free rfl rfl) rfl rfl (po_field rfl rfl (tyF rfl)) ?_) <;> (first | refine sops_pure (.free rfl rfl) rfl rfl (po_load_bx rfl rfl (tyT rfl) rfl rfl) ?_ | refine sops_pure (.free rfl rfl) rfl rfl (po_load rfl rfl (tyT rfl) rfl) ?_) <;> (refine sops_pure (.free rfl rfl) rfl rfl (po_cmp rfl rfl rfl rfl) ?_) <;> (refine sops_nil ?_))
        | ((refine swp_region (id := 8) ?_) <;> (refine sops_pure (.free rfl rfl) rfl rfl (po_assign rfl rfl) ?_) <;> (refine sops_nil ?_))
        | ((refine swp_region (id := 9) ?_) <;> (refine sops_pure (.free rfl rfl) rfl rfl (po_assign rfl rfl) ?_) <;> (refine sops_nil ?_))
        | refine swp_ret ?_
        | refine swp_skip ?_
        | refine swp_block ?_
        | refine swp_exit ?_
        | refine block_go ?_
        | refine block_exit ?_
        | refine block_far rfl ?_
        | refine block_ret ?_
        | refine then_ret ?_
        | refine then_exit ?_
        | refine for_ret ?_
        | refine for_exit ?_
        | refine swp_cond_t rfl (by first | assumption | with_reducible rfl | decide | (simp only [decide_eq_true_eq, Bool.not_eq_true', decide_eq_false_iff_not]; omega)) ?_
        | refine swp_cond_f rfl (by first | assumption | with_reducible rfl | decide | (simp only [decide_eq_false_iff_not, Bool.not_eq_false', decide_eq_true_eq]; omega)) ?_
        | refine swp_cond rfl (fun hc => ?_) (fun hc => ?_)
        | refine retq (by first | exact .inr rfl | exact .inl rfl) rfl (.tmp rfl (by first | exact .t _ | exact .own rfl rfl | exact .nil _ | exact .emp _) (.tmp rfl (by first | exact .t _ | exact .own rfl rfl | exact .nil _ | exact .emp _) .nil)) ?_)
      refine swp_for (Y2 M l k l[k]) (fun j => (l[k].rules.take j).any M = false) l[k].rules.length (weak_sub (.cons rfl (by first | rfl | (first | rw [hso] | rw [hz])) rfl (.cons rfl (by first | rfl | (first | rw [hso] | rw [hz])) rfl (.cons rfl (by first | rfl | (first | rw [hso] | rw [hz])) rfl (.cons rfl (by first | rfl | (first | rw [hso] | rw [hz])) rfl (.cons rfl (by first | rfl | (first | rw [hso] | rw [hz])) rfl (.cons rfl (by first | rfl | (first | rw [hso] | rw [hz])) rfl (.cons rfl (by first | rfl | (first | rw [hso] | rw [hz])) rfl .nil))))))) .nil .nil) rfl ?_
      intro j hj hJ
      unfold Y2
      by_cases hjl : j < l[k].rules.length
      · cases hM : M l[k].rules[j] with
        | true =>
          have hz2 : decide ((if M l[k].rules[j] = true then (1 : Int) else 0) = 0) = false := by rw [hM]; rfl
          repeat' (first
            | refine then_go ?_
            | refine swp_seq ?_
            | ((refine swp_region (id := 10) ?_) <;> (refine sops_pure (.free rfl rfl) rfl rfl (po_move rfl rfl) ?_) <;> (refine sops_pure (.free rfl rfl) rfl rfl (po_move rfl rfl) ?_) <;> (refine sops_pure (.free rfl rfl) rfl rfl (po_move rfl rfl) ?_) <;> (refine sops_pure (.free rfl rfl) rfl rfl (po_index rfl rfl (by first | exact .t _ | exact .own rfl rfl | exact .nil _ | exact .emp _) rfl (tyS rfl) (by first | rfl | omega) (by first | rfl | assumption | exact map_at (by first | assumption | omega))) ?_) <;> (first | refine sops_pure (.free rfl rfl) rfl rfl (po_field_bx rfl rfl (tyF rfl)) ?_ | refine sops_pure (.free rfl rfl) rfl rfl (po_field rfl rfl (tyF rfl)) ?_) <;> (first | refine sops_pure (.free rfl rfl) rfl rfl (po_load_bx rfl rfl (tyT rfl) rfl rfl) ?_ | refine sops_pure (.free rfl rfl) rfl rfl (po_load rfl rfl (tyT rfl) rfl) ?_) <;> (refine sops_pure (.free rfl rfl) rfl rfl (po_len rfl rfl (by first | exact .t _ | exact .own rfl rfl | exact .nil _ | exact .emp _) (tyS rfl)) ?_) <;> (refine sops_pure (.free rfl rfl) rfl rfl (po_cmp rfl rfl rfl rfl) ?_) <;> (refine sops_nil ?_))
            | ((refine swp_region (id := 12) ?_) <;> (refine sops_pure (.free rfl rfl) rfl rfl (po_move rfl rfl) ?_) <;> (refine sops_pure (.free rfl rfl) rfl rfl (po_move rfl rfl) ?_) <;> (refine sops_pure (.free rfl rfl) rfl rfl (po_index rfl rfl (by first | exact .t _ | exact .own rfl rfl | exact .nil _ | exact .emp _) rfl (tyS rfl) (by first | rfl | omega) (by first | rfl | assumption | exact map_at (by first | assumption | omega))) ?_) <;> (first | refine sops_pure (.free rfl rfl) rfl rfl (po_load_bx rfl rfl (tyT rfl) rfl rfl) ?_ | refine sops_pure (.free rfl rfl) rfl rfl (po_load rfl rfl (tyT rfl) rfl) ?_) <;> (refine sops_pure (.free rfl rfl) rfl rfl (po_move rfl rfl) ?_) <;> (refine sops_pure (.free rfl rfl) rfl rfl (po_index rfl rfl (by first | exact .t _ | exact .own rfl rfl | exact .nil _ | exact .emp _) rfl (tyS rfl) (by first | rfl | omega) (by first | rfl | assumption | exact map_at (by first | assumption | omega))) ?_) <;> (first | refine sops_pure (.free rfl rfl) rfl rfl (po_load_bx rfl rfl (tyT rfl) rfl rfl) ?_ | refine sops_pure (.free rfl rfl) rfl rfl (po_load rfl rfl (tyT rfl) rfl) ?_) <;> (refine sops_pure (.free rfl rfl) rfl rfl (po_cmp rfl rfl rfl rfl) ?_) <;> (refine sops_nil ?_))
            | ((refine swp_region (id := 13) ?_) <;> (refine sops_pure (.free rfl rfl) rfl rfl (po_move rfl rfl) ?_) <;> (refine sops_pure (.free rfl rfl) rfl rfl (po_move rfl rfl) ?_) <;> (refine sops_pure (.free rfl rfl) rfl rfl (po_index rfl rfl (by first | exact .t _ | exact .own rfl rfl | exact .nil _ | exact .emp _) rfl (tyS rfl) (by first | rfl | omega) (by first | rfl | assumption | exact map_at (by first | assumption | omega))) ?_) <;> (first | refine sops_pure (.free rfl rfl) rfl rfl (po_field_bx rfl rfl (tyF rfl)) ?_ | refine sops_pure (.free rfl rfl) rfl rfl (po_field rfl rfl (tyF rfl)) ?_) <;> (first | refine sops_pure (.free rfl rfl) rfl rfl (po_load_bx rfl rfl (tyT rfl) rfl rfl) ?_ | refine sops_pure (.free rfl rfl) rfl rfl (po_load rfl rfl (tyT rfl) rfl) ?_) <;> (refine sops_pure (.free rfl rfl) rfl rfl (po_cmp rfl rfl rfl rfl) ?_) <;> (refine sops_nil ?_))
            | ((refine swp_draw_all (id := 14) mixed (by kernel_rfl) (by kernel_rfl) ?_) <;> (refine sdraw_pure (.free rfl rfl) rfl (po_move rfl rfl) ?_) <;> (refine sdraw_pure (.free rfl rfl) rfl (po_move rfl rfl) ?_) <;> (refine sdraw_pure (.free rfl rfl) rfl (po_index rfl rfl (by first | exact .t _ | exact .own rfl rfl | exact .nil _ | exact .emp _) rfl (tyS rfl) (by first | rfl | omega) (by first | rfl | assumption | exact map_at (by first | assumption | omega))) ?_) <;> (first | refine sdraw_pure (.free rfl rfl) rfl (po_field_bx rfl rfl (tyF rfl)) ?_ | refine sdraw_pure (.free rfl rfl) rfl (po_field rfl rfl (tyF rfl)) ?_) <;> (first | refine sdraw_pure (.free rfl rfl) rfl (po_load_bx rfl rfl (tyT rfl) rfl rfl) ?_ | refine sdraw_pure (.free rfl rfl) rfl (po_load rfl rfl (tyT rfl) rfl) ?_) <;> (refine sdraw_pure (.free rfl rfl) rfl (po_assign rfl rfl) ?_) <;> (refine sdraw_pure (.free rfl rfl) rfl (po_assign rfl rfl) ?_) <;> (refine sdraw_nil ?_) <;> (refine sops_nil ?_))
            | refine swp_ret ?_
            | refine swp_skip ?_
            | refine swp_block ?_
            | refine swp_exit ?_
            | refine block_go ?_
            | refine block_exit ?_
            | refine block_far rfl ?_
            | refine block_ret ?_
            | refine then_ret ?_
            | refine then_exit ?_
            | refine for_ret ?_
            | refine for_exit ?_
            | refine swp_cond_t rfl (by first | assumption | with_reducible rfl | decide | (simp only [decide_eq_true_eq, Bool.not_eq_true', decide_eq_false_iff_not]; omega)) ?_
            | refine swp_cond_f rfl (by first | assumption | with_reducible rfl | decide | (simp only [decide_eq_false_iff_not, Bool.not_eq_false', decide_eq_true_eq]; omega)) ?_
            | refine swp_cond rfl (fun hc => ?_) (fun hc => ?_)
            | refine retq (by first | exact .inr rfl | exact .inl rfl) rfl (.tmp rfl (by first | exact .t _ | exact .own rfl rfl | exact .nil _ | exact .emp _) (.tmp rfl (by first | exact .t _ | exact .own rfl rfl | exact .nil _ | exact .emp _) .nil)) ?_)
          refine eq_bi ?_ ?_
          · rw [deny_yes M hlt hjl hI hd hM]
          · rw [deny_yes M hlt hjl hI hd hM]
        | false =>
          have hz2 : decide ((if M l[k].rules[j] = true then (1 : Int) else 0) = 0) = true := by rw [hM]; rfl
          have hs := bySt_no M (A := l.take k) hjl hM
          repeat' (first
            | refine then_go ?_
            | refine swp_seq ?_
            | refine for_next hjl (weak_sub (.cons rfl (by first | rfl | (rw [hs]; try rfl)) rfl (.cons rfl (by first | rfl | (rw [hs]; try rfl)) rfl (.cons rfl (by first | rfl | (rw [hs]; try rfl)) rfl (.cons rfl (by first | rfl | (rw [hs]; try rfl)) rfl (.cons rfl (by first | rfl | (rw [hs]; try rfl)) rfl (.cons rfl (by first | rfl | (rw [hs]; try rfl)) rfl (.cons rfl (by first | rfl | (rw [hs]; try rfl)) rfl .nil))))))) .nil .nil) ?_
            | ((refine swp_region (id := 10) ?_) <;> (refine sops_pure (.free rfl rfl) rfl rfl (po_move rfl rfl) ?_) <;> (refine sops_pure (.free rfl rfl) rfl rfl (po_move rfl rfl) ?_) <;> (refine sops_pure (.free rfl rfl) rfl rfl (po_move rfl rfl) ?_) <;> (refine sops_pure (.free rfl rfl) rfl rfl (po_index rfl rfl (by first | exact .t _ | exact .own rfl rfl | exact .nil _ | exact .emp _) rfl (tyS rfl) (by first | rfl | omega) (by first | rfl | assumption | exact map_at (by first | assumption | omega))) ?_) <;> (first | refine sops_pure (.free rfl rfl) rfl rfl (po_field_bx rfl rfl (tyF rfl)) ?_ | refine sops_pure (.free rfl rfl) rfl rfl (po_field rfl rfl (tyF rfl)) ?_) <;> (first | refine sops_pure (.free rfl rfl) rfl rfl (po_load_bx rfl rfl (tyT rfl) rfl rfl) ?_ | refine sops_pure (.free rfl rfl) rfl rfl (po_load rfl rfl (tyT rfl) rfl) ?_) <;> (refine sops_pure (.free rfl rfl) rfl rfl (po_len rfl rfl (by first | exact .t _ | exact .own rfl rfl | exact .nil _ | exact .emp _) (tyS rfl)) ?_) <;> (refine sops_pure (.free rfl rfl) rfl rfl (po_cmp rfl rfl rfl rfl) ?_) <;> (refine sops_nil ?_))
            | ((refine swp_region (id := 12) ?_) <;> (refine sops_pure (.free rfl rfl) rfl rfl (po_move rfl rfl) ?_) <;> (refine sops_pure (.free rfl rfl) rfl rfl (po_move rfl rfl) ?_) <;> (refine sops_pure (.free rfl rfl) rfl rfl (po_index rfl rfl (by first | exact .t _ | exact .own rfl rfl | exact .nil _ | exact .emp _) rfl (tyS rfl) (by first | rfl | omega) (by first | rfl | assumption | exact map_at (by first | assumption | omega))) ?_) <;> (first | refine sops_pure (.free rfl rfl) rfl rfl (po_load_bx rfl rfl (tyT rfl) rfl rfl) ?_ | refine sops_pure (.free rfl rfl) rfl rfl (po_load rfl rfl (tyT rfl) rfl) ?_) <;> (refine sops_pure (.free rfl rfl) rfl rfl (po_move rfl rfl) ?_) <;> (refine sops_pure (.free rfl rfl) rfl rfl (po_index rfl rfl (by first | exact .t _ | exact .own rfl rfl | exact .nil _ | exact .emp _) rfl (tyS rfl) (by first | rfl | omega) (by first | rfl | assumption | exact map_at (by first | assumption | omega))) ?_) <;> (first | refine sops_pure (.free rfl rfl) rfl rfl (po_load_bx rfl rfl (tyT rfl) rfl rfl) ?_ | refine sops_pure (.free rfl rfl) rfl rfl (po_load rfl rfl (tyT rfl) rfl) ?_) <;> (refine sops_pure (.free rfl rfl) rfl rfl (po_cmp rfl rfl rfl rfl) ?_) <;> (refine sops_nil ?_))
            | ((refine swp_region (id := 11) ?_) <;> (refine sops_pure (.free rfl rfl) rfl rfl (po_move rfl rfl) ?_) <;> (first | refine sops_pure (.free rfl rfl) rfl rfl (po_inc rfl rfl rfl (by omega)) ?_ | refine sops_pure (.free rfl rfl) rfl rfl (po_arith rfl rfl rfl (ar_add (by first | rfl | (refine wrap_i64 ?_; omega)) rfl)) ?_) <;> (refine sops_pure (.free rfl rfl) rfl rfl (po_assign rfl rfl) ?_) <;> (refine sops_nil ?_))
            | refine swp_ret ?_
            | refine swp_skip ?_
            | refine swp_block ?_
            | refine swp_exit ?_
            | refine block_go ?_
            | refine block_exit ?_
            | refine block_far rfl ?_
            | refine block_ret ?_
            | refine then_ret ?_
            | refine then_exit ?_
            | refine for_ret ?_
            | refine for_exit ?_
            | refine swp_cond_t rfl (by first | assumption | with_reducible rfl | decide | (simp only [decide_eq_true_eq, Bool.not_eq_true', decide_eq_false_iff_not]; omega)) ?_
            | refine swp_cond_f rfl (by first | assumption | with_reducible rfl | decide | (simp only [decide_eq_false_iff_not, Bool.not_eq_false', decide_eq_true_eq]; omega)) ?_
            | refine swp_cond rfl (fun hc => ?_) (fun hc => ?_)
            | refine retq (by first | exact .inr rfl | exact .inl rfl) rfl (.tmp rfl (by first | exact .t _ | exact .own rfl rfl | exact .nil _ | exact .emp _) (.tmp rfl (by first | exact .t _ | exact .own rfl rfl | exact .nil _ | exact .emp _) .nil)) ?_)
          rw [any_snoc M hjl, hJ, hM]; rfl
      · obtain rfl : j = l[k].rules.length := by omega
        rw [List.take_length] at hJ
        rw [hkt, hJ] at hfi
        repeat' (first
          | refine then_go ?_
          | refine swp_seq ?_
          | refine for_next hlt (weak_sub (.cons rfl (by first | rfl | (rw [hby])) rfl (.cons rfl (by first | rfl | (rw [hby])) rfl (.cons rfl (by first | rfl | (rw [hby])) rfl (.cons rfl (by first | rfl | (rw [hby])) rfl (.cons rfl (by first | rfl | (rw [hby])) rfl (.cons rfl (by first | rfl | (rw [hby])) rfl .nil)))))) .nil .nil) hfi
          | ((refine swp_region (id := 10) ?_) <;> (refine sops_pure (.free rfl rfl) rfl rfl (po_move rfl rfl) ?_) <;> (refine sops_pure (.free rfl rfl) rfl rfl (po_move rfl rfl) ?_) <;> (refine sops_pure (.free rfl rfl) rfl rfl (po_move rfl rfl) ?_) <;> (refine sops_pure (.free rfl rfl) rfl rfl (po_index rfl rfl (by first | exact .t _ | exact .own rfl rfl | exact .nil _ | exact .emp _) rfl (tyS rfl) (by first | rfl | omega) (by first | rfl | assumption | exact map_at (by first | assumption | omega))) ?_) <;> (first | refine sops_pure (.free rfl rfl) rfl rfl (po_field_bx rfl rfl (tyF rfl)) ?_ | refine sops_pure (.free rfl rfl) rfl rfl (po_field rfl rfl (tyF rfl)) ?_) <;> (first | refine sops_pure (.free rfl rfl) rfl rfl (po_load_bx rfl rfl (tyT rfl) rfl rfl) ?_ | refine sops_pure (.free rfl rfl) rfl rfl (po_load rfl rfl (tyT rfl) rfl) ?_) <;> (refine sops_pure (.free rfl rfl) rfl rfl (po_len rfl rfl (by first | exact .t _ | exact .own rfl rfl | exact .nil _ | exact .emp _) (tyS rfl)) ?_) <;> (refine sops_pure (.free rfl rfl) rfl rfl (po_cmp rfl rfl rfl rfl) ?_) <;> (refine sops_nil ?_))
          | ((refine swp_region (id := 6) ?_) <;> (refine sops_pure (.free rfl rfl) rfl rfl (po_move rfl rfl) ?_) <;> (first | refine sops_pure (.free rfl rfl) rfl rfl (po_inc rfl rfl rfl (by omega)) ?_ | refine sops_pure (.free rfl rfl) rfl rfl (po_arith rfl rfl rfl (ar_add (by first | rfl | (refine wrap_i64 ?_; omega)) rfl)) ?_) <;> (refine sops_pure (.free rfl rfl) rfl rfl (po_assign rfl rfl) ?_) <;> (refine sops_nil ?_))
          | refine swp_ret ?_
          | refine swp_skip ?_
          | refine swp_block ?_
          | refine swp_exit ?_
          | refine block_go ?_
          | refine block_exit ?_
          | refine block_far rfl ?_
          | refine block_ret ?_
          | refine then_ret ?_
          | refine then_exit ?_
          | refine for_ret ?_
          | refine for_exit ?_
          | refine swp_cond_t rfl (by first | assumption | with_reducible rfl | decide | (simp only [decide_eq_true_eq, Bool.not_eq_true', decide_eq_false_iff_not]; omega)) ?_
          | refine swp_cond_f rfl (by first | assumption | with_reducible rfl | decide | (simp only [decide_eq_false_iff_not, Bool.not_eq_false', decide_eq_true_eq]; omega)) ?_
          | refine swp_cond rfl (fun hc => ?_) (fun hc => ?_)
          | refine retq (by first | exact .inr rfl | exact .inl rfl) rfl (.tmp rfl (by first | exact .t _ | exact .own rfl rfl | exact .nil _ | exact .emp _) (.tmp rfl (by first | exact .t _ | exact .own rfl rfl | exact .nil _ | exact .emp _) .nil)) ?_)
    · rw [decide_eq_false hd, Bool.not_false, Bool.or_true] at hso
      have hkt : Pl.kindP true l[k] = false := by simp [Pl.kindP, hd]
      have hkf : Pl.kindP false l[k] = true := by simp [Pl.kindP, hd]
      rw [hkt] at hfi
      repeat' (first
        | refine then_go ?_
        | refine swp_seq ?_
        | ((refine swp_region (id := 5) ?_) <;> (refine sops_pure (.free rfl rfl) rfl rfl (po_move rfl rfl) ?_) <;> (refine sops_pure (.free rfl rfl) rfl rfl (po_move rfl rfl) ?_) <;> (refine sops_pure (.free rfl rfl) rfl rfl (po_len rfl rfl (by first | exact .t _ | exact .own rfl rfl | exact .nil _ | exact .emp _) (tyS rfl)) ?_) <;> (refine sops_pure (.free rfl rfl) rfl rfl (po_cmp rfl rfl rfl rfl) ?_) <;> (refine sops_nil ?_))
        | ((refine swp_region (id := 7) ?_) <;> (refine sops_pure (.free rfl rfl) rfl rfl (po_move rfl rfl) ?_) <;> (refine sops_pure (.free rfl rfl) rfl rfl (po_move rfl rfl) ?_) <;> (refine sops_pure (.free rfl rfl) rfl rfl (po_index rfl rfl (by first | exact .t _ | exact .own rfl rfl | exact .nil _ | exact .emp _) rfl (tyS rfl) (by first | rfl | omega) (by first | rfl | assumption | exact map_at (by first | assumption | omega))) ?_) <;> (first | refine sops_pure (.free rfl rfl) rfl rfl (po_field_bx rfl rfl (tyF rfl)) ?_ | refine sops_pure (.free rfl rfl) rfl rfl (po_field rfl rfl (tyF rfl)) ?_) <;> (first | refine sops_pure (.free rfl rfl) rfl rfl (po_load_bx rfl rfl (tyT rfl) rfl rfl) ?_ | refine sops_pure (.free rfl rfl) rfl rfl (po_load rfl rfl (tyT rfl) rfl) ?_) <;> (refine sops_pure (.free rfl rfl) rfl rfl (po_cmp rfl rfl rfl rfl) ?_) <;> (refine sops_nil ?_))
        | ((refine swp_region (id := 8) ?_) <;> (refine sops_pure (.free rfl rfl) rfl rfl (po_assign rfl rfl) ?_) <;> (refine sops_nil ?_))
        | ((refine swp_region (id := 9) ?_) <;> (refine sops_pure (.free rfl rfl) rfl rfl (po_assign rfl rfl) ?_) <;> (refine sops_nil ?_))
        | refine swp_ret ?_
        | refine swp_skip ?_
        | refine swp_block ?_
        | refine swp_exit ?_
        | refine block_go ?_
        | refine block_exit ?_
        | refine block_far rfl ?_
        | refine block_ret ?_
        | refine then_ret ?_
        | refine then_exit ?_
        | refine for_ret ?_
        | refine for_exit ?_
        | refine swp_cond_t rfl (by first | assumption | with_reducible rfl | decide | (simp only [decide_eq_true_eq, Bool.not_eq_true', decide_eq_false_iff_not]; omega)) ?_
        | refine swp_cond_f rfl (by first | assumption | with_reducible rfl | decide | (simp only [decide_eq_false_iff_not, Bool.not_eq_false', decide_eq_true_eq]; omega)) ?_
        | refine swp_cond rfl (fun hc => ?_) (fun hc => ?_)
        | refine retq (by first | exact .inr rfl | exact .inl rfl) rfl (.tmp rfl (by first | exact .t _ | exact .own rfl rfl | exact .nil _ | exact .emp _) (.tmp rfl (by first | exact .t _ | exact .own rfl rfl | exact .nil _ | exact .emp _) .nil)) ?_)
      refine swp_for (Y2 M l k l[k]) (fun j => True) l[k].rules.length (weak_sub (.cons rfl (by first | rfl | (first | rw [hso] | rw [hz])) rfl (.cons rfl (by first | rfl | (first | rw [hso] | rw [hz])) rfl (.cons rfl (by first | rfl | (first | rw [hso] | rw [hz])) rfl (.cons rfl (by first | rfl | (first | rw [hso] | rw [hz])) rfl (.cons rfl (by first | rfl | (first | rw [hso] | rw [hz])) rfl (.cons rfl (by first | rfl | (first | rw [hso] | rw [hz])) rfl (.cons rfl (by first | rfl | (first | rw [hso] | rw [hz])) rfl .nil))))))) .nil .nil) trivial ?_
      intro j hj hJ
      unfold Y2
      by_cases hjl : j < l[k].rules.length
      · cases hM : M l[k].rules[j] with
        | true =>
          have hz2 : decide ((if M l[k].rules[j] = true then (1 : Int) else 0) = 0) = false := by rw [hM]; rfl
          cases ho : bySt M (l.take k) l[k] j with
          | none =>
            have hs := bySt_new M hjl hkf hM ho
            have hq : (!(none : Option Int).isSome) = true := rfl
            repeat' (first
              | refine then_go ?_
              | refine swp_seq ?_
              | refine for_next hjl (weak_sub (.cons rfl (by first | rfl | (rw [hs]; try rfl)) rfl (.cons rfl (by first | rfl | (rw [hs]; try rfl)) rfl (.cons rfl (by first | rfl | (rw [hs]; try rfl)) rfl (.cons rfl (by first | rfl | (rw [hs]; try rfl)) rfl (.cons rfl (by first | rfl | (rw [hs]; try rfl)) rfl (.cons rfl (by first | rfl | (rw [hs]; try rfl)) rfl (.cons rfl (by first | rfl | (rw [hs]; try rfl)) rfl .nil))))))) .nil .nil) trivial
              | ((refine swp_region (id := 10) ?_) <;> (refine sops_pure (.free rfl rfl) rfl rfl (po_move rfl rfl) ?_) <;> (refine sops_pure (.free rfl rfl) rfl rfl (po_move rfl rfl) ?_) <;> (refine sops_pure (.free rfl rfl) rfl rfl (po_move rfl rfl) ?_) <;> (refine sops_pure (.free rfl rfl) rfl rfl (po_index rfl rfl (by first | exact .t _ | exact .own rfl rfl | exact .nil _ | exact .emp _) rfl (tyS rfl) (by first | rfl | omega) (by first | rfl | assumption | exact map_at (by first | assumption | omega))) ?_) <;> (first | refine sops_pure (.free rfl rfl) rfl rfl (po_field_bx rfl rfl (tyF rfl)) ?_ | refine sops_pure (.free rfl rfl) rfl rfl (po_field rfl rfl (tyF rfl)) ?_) <;> (first | refine sops_pure (.free rfl rfl) rfl rfl (po_load_bx rfl rfl (tyT rfl) rfl rfl) ?_ | refine sops_pure (.free rfl rfl) rfl rfl (po_load rfl rfl (tyT rfl) rfl) ?_) <;> (refine sops_pure (.free rfl rfl) rfl rfl (po_len rfl rfl (by first | exact .t _ | exact .own rfl rfl | exact .nil _ | exact .emp _) (tyS rfl)) ?_) <;> (refine sops_pure (.free rfl rfl) rfl rfl (po_cmp rfl rfl rfl rfl) ?_) <;> (refine sops_nil ?_))
              | ((refine swp_region (id := 12) ?_) <;> (refine sops_pure (.free rfl rfl) rfl rfl (po_move rfl rfl) ?_) <;> (refine sops_pure (.free rfl rfl) rfl rfl (po_move rfl rfl) ?_) <;> (refine sops_pure (.free rfl rfl) rfl rfl (po_index rfl rfl (by first | exact .t _ | exact .own rfl rfl | exact .nil _ | exact .emp _) rfl (tyS rfl) (by first | rfl | omega) (by first | rfl | assumption | exact map_at (by first | assumption | omega))) ?_) <;> (first | refine sops_pure (.free rfl rfl) rfl rfl (po_load_bx rfl rfl (tyT rfl) rfl rfl) ?_ | refine sops_pure (.free rfl rfl) rfl rfl (po_load rfl rfl (tyT rfl) rfl) ?_) <;> (refine sops_pure (.free rfl rfl) rfl rfl (po_move rfl rfl) ?_) <;> (refine sops_pure (.free rfl rfl) rfl rfl (po_index rfl rfl (by first | exact .t _ | exact .own rfl rfl | exact .nil _ | exact .emp _) rfl (tyS rfl) (by first | rfl | omega) (by first | rfl | assumption | exact map_at (by first | assumption | omega))) ?_) <;> (first | refine sops_pure (.free rfl rfl) rfl rfl (po_load_bx rfl rfl (tyT rfl) rfl rfl) ?_ | refine sops_pure (.free rfl rfl) rfl rfl (po_load rfl rfl (tyT rfl) rfl) ?_) <;> (refine sops_pure (.free rfl rfl) rfl rfl (po_cmp rfl rfl rfl rfl) ?_) <;> (refine sops_nil ?_))
              | ((refine swp_region (id := 13) ?_) <;> (refine sops_pure (.free rfl rfl) rfl rfl (po_move rfl rfl) ?_) <;> (refine sops_pure (.free rfl rfl) rfl rfl (po_move rfl rfl) ?_) <;> (refine sops_pure (.free rfl rfl) rfl rfl (po_index rfl rfl (by first | exact .t _ | exact .own rfl rfl | exact .nil _ | exact .emp _) rfl (tyS rfl) (by first | rfl | omega) (by first | rfl | assumption | exact map_at (by first | assumption | omega))) ?_) <;> (first | refine sops_pure (.free rfl rfl) rfl rfl (po_field_bx rfl rfl (tyF rfl)) ?_ | refine sops_pure (.free rfl rfl) rfl rfl (po_field rfl rfl (tyF rfl)) ?_) <;> (first | refine sops_pure (.free rfl rfl) rfl rfl (po_load_bx rfl rfl (tyT rfl) rfl rfl) ?_ | refine sops_pure (.free rfl rfl) rfl rfl (po_load rfl rfl (tyT rfl) rfl) ?_) <;> (refine sops_pure (.free rfl rfl) rfl rfl (po_cmp rfl rfl rfl rfl) ?_) <;> (refine sops_nil ?_))
              | ((refine swp_region (id := 15) ?_) <;> (refine sops_pure (.free rfl rfl) rfl rfl (po_move rfl rfl) ?_) <;> (refine sops_pure (.free rfl rfl) rfl rfl (po_not rfl rfl) ?_) <;> (refine sops_nil ?_))
              | ((refine swp_region (id := 16) ?_) <;> (refine sops_pure (.free rfl rfl) rfl rfl (po_assign rfl rfl) ?_) <;> (refine sops_nil ?_))
              | ((refine swp_region (id := 17) ?_) <;> (refine sops_pure (.free rfl rfl) rfl rfl (po_move rfl rfl) ?_) <;> (refine sops_pure (.free rfl rfl) rfl rfl (po_move rfl rfl) ?_) <;> (refine sops_pure (.free rfl rfl) rfl rfl (po_index rfl rfl (by first | exact .t _ | exact .own rfl rfl | exact .nil _ | exact .emp _) rfl (tyS rfl) (by first | rfl | omega) (by first | rfl | assumption | exact map_at (by first | assumption | omega))) ?_) <;> (first | refine sops_pure (.free rfl rfl) rfl rfl (po_field_bx rfl rfl (tyF rfl)) ?_ | refine sops_pure (.free rfl rfl) rfl rfl (po_field rfl rfl (tyF rfl)) ?_) <;> (first | refine sops_pure (.free rfl rfl) rfl rfl (po_load_bx rfl rfl (tyT rfl) rfl rfl) ?_ | refine sops_pure (.free rfl rfl) rfl rfl (po_load rfl rfl (tyT rfl) rfl) ?_) <;> (refine sops_pure (.free rfl rfl) rfl rfl (po_assign rfl rfl) ?_) <;> (refine sops_nil ?_))
              | ((refine swp_region (id := 11) ?_) <;> (refine sops_pure (.free rfl rfl) rfl rfl (po_move rfl rfl) ?_) <;> (first | refine sops_pure (.free rfl rfl) rfl rfl (po_inc rfl rfl rfl (by omega)) ?_ | refine sops_pure (.free rfl rfl) rfl rfl (po_arith rfl rfl rfl (ar_add (by first | rfl | (refine wrap_i64 ?_; omega)) rfl)) ?_) <;> (refine sops_pure (.free rfl rfl) rfl rfl (po_assign rfl rfl) ?_) <;> (refine sops_nil ?_))
              | refine swp_ret ?_
              | refine swp_skip ?_
              | refine swp_block ?_
              | refine swp_exit ?_
              | refine block_go ?_
              | refine block_exit ?_
              | refine block_far rfl ?_
              | refine block_ret ?_
              | refine then_ret ?_
              | refine then_exit ?_
              | refine for_ret ?_
              | refine for_exit ?_
              | refine swp_cond_t rfl (by first | assumption | with_reducible rfl | decide | (simp only [decide_eq_true_eq, Bool.not_eq_true', decide_eq_false_iff_not]; omega)) ?_
              | refine swp_cond_f rfl (by first | assumption | with_reducible rfl | decide | (simp only [decide_eq_false_iff_not, Bool.not_eq_false', decide_eq_true_eq]; omega)) ?_
              | refine swp_cond rfl (fun hc => ?_) (fun hc => ?_)
              | refine retq (by first | exact .inr rfl | exact .inl rfl) rfl (.tmp rfl (by first | exact .t _ | exact .own rfl rfl | exact .nil _ | exact .emp _) (.tmp rfl (by first | exact .t _ | exact .own rfl rfl | exact .nil _ | exact .emp _) .nil)) ?_)
          | some x =>
            have hs := bySt_old M hjl ho
            have hq : (!(some x).isSome) = false := rfl
            repeat' (first
              | refine then_go ?_
              | refine swp_seq ?_
              | refine for_next hjl (weak_sub (.cons rfl (by first | rfl | (rw [hs]; try rfl)) rfl (.cons rfl (by first | rfl | (rw [hs]; try rfl)) rfl (.cons rfl (by first | rfl | (rw [hs]; try rfl)) rfl (.cons rfl (by first | rfl | (rw [hs]; try rfl)) rfl (.cons rfl (by first | rfl | (rw [hs]; try rfl)) rfl (.cons rfl (by first | rfl | (rw [hs]; try rfl)) rfl (.cons rfl (by first | rfl | (rw [hs]; try rfl)) rfl .nil))))))) .nil .nil) trivial
              | ((refine swp_region (id := 10) ?_) <;> (refine sops_pure (.free rfl rfl) rfl rfl (po_move rfl rfl) ?_) <;> (refine sops_pure (.free rfl rfl) rfl rfl (po_move rfl rfl) ?_) <;> (refine sops_pure (.free rfl rfl) rfl rfl (po_move rfl rfl) ?_) <;> (refine sops_pure (.free rfl rfl) rfl rfl (po_index rfl rfl (by first | exact .t _ | exact .own rfl rfl | exact .nil _ | exact .emp _) rfl (tyS rfl) (by first | rfl | omega) (by first | rfl | assumption | exact map_at (by first | assumption | omega))) ?_) <;> (first | refine sops_pure (.free rfl rfl) rfl rfl (po_field_bx rfl rfl (tyF rfl)) ?_ | refine sops_pure (.free rfl rfl) rfl rfl (po_field rfl rfl (tyF rfl)) ?_) <;> (first | refine sops_pure (.free rfl rfl) rfl rfl (po_load_bx rfl rfl (tyT rfl) rfl rfl) ?_ | refine sops_pure (.free rfl rfl) rfl rfl (po_load rfl rfl (tyT rfl) rfl) ?_) <;> (refine sops_pure (.free rfl rfl) rfl rfl (po_len rfl rfl (by first | exact .t _ | exact .own rfl rfl | exact .nil _ | exact .emp _) (tyS rfl)) ?_) <;> (refine sops_pure (.free rfl rfl) rfl rfl (po_cmp rfl rfl rfl rfl) ?_) <;> (refine sops_nil ?_))
              | ((refine swp_region (id := 12) ?_) <;> (refine sops_pure (.free rfl rfl) rfl rfl (po_move rfl rfl) ?_) <;> (refine sops_pure (.free rfl rfl) rfl rfl (po_move rfl rfl) ?_) <;> (refine sops_pure (.free rfl rfl) rfl rfl (po_index rfl rfl (by first | exact .t _ | exact .own rfl rfl | exact .nil _ | exact .emp _) rfl (tyS rfl) (by first | rfl | omega) (by first | rfl | assumption | exact map_at (by first | assumption | omega))) ?_) <;> (first | refine sops_pure (.free rfl rfl) rfl rfl (po_load_bx rfl rfl (tyT rfl) rfl rfl) ?_ | refine sops_pure (.free rfl rfl) rfl rfl (po_load rfl rfl (tyT rfl) rfl) ?_) <;> (refine sops_pure (.free rfl rfl) rfl rfl (po_move rfl rfl) ?_) <;> (refine sops_pure (.free rfl rfl) rfl rfl (po_index rfl rfl (by first | exact .t _ | exact .own rfl rfl | exact .nil _ | exact .emp _) rfl (tyS rfl) (by first | rfl | omega) (by first | rfl | assumption | exact map_at (by first | assumption | omega))) ?_) <;> (first | refine sops_pure (.free rfl rfl) rfl rfl (po_load_bx rfl rfl (tyT rfl) rfl rfl) ?_ | refine sops_pure (.free rfl rfl) rfl rfl (po_load rfl rfl (tyT rfl) rfl) ?_) <;> (refine sops_pure (.free rfl rfl) rfl rfl (po_cmp rfl rfl rfl rfl) ?_) <;> (refine sops_nil ?_))
              | ((refine swp_region (id := 13) ?_) <;> (refine sops_pure (.free rfl rfl) rfl rfl (po_move rfl rfl) ?_) <;> (refine sops_pure (.free rfl rfl) rfl rfl (po_move rfl rfl) ?_) <;> (refine sops_pure (.free rfl rfl) rfl rfl (po_index rfl rfl (by first | exact .t _ | exact .own rfl rfl | exact .nil _ | exact .emp _) rfl (tyS rfl) (by first | rfl | omega) (by first | rfl | assumption | exact map_at (by first | assumption | omega))) ?_) <;> (first | refine sops_pure (.free rfl rfl) rfl rfl (po_field_bx rfl rfl (tyF rfl)) ?_ | refine sops_pure (.free rfl rfl) rfl rfl (po_field rfl rfl (tyF rfl)) ?_) <;> (first | refine sops_pure (.free rfl rfl) rfl rfl (po_load_bx rfl rfl (tyT rfl) rfl rfl) ?_ | refine sops_pure (.free rfl rfl) rfl rfl (po_load rfl rfl (tyT rfl) rfl) ?_) <;> (refine sops_pure (.free rfl rfl) rfl rfl (po_cmp rfl rfl rfl rfl) ?_) <;> (refine sops_nil ?_))
              | ((refine swp_region (id := 15) ?_) <;> (refine sops_pure (.free rfl rfl) rfl rfl (po_move rfl rfl) ?_) <;> (refine sops_pure (.free rfl rfl) rfl rfl (po_not rfl rfl) ?_) <;> (refine sops_nil ?_))
              | ((refine swp_region (id := 11) ?_) <;> (refine sops_pure (.free rfl rfl) rfl rfl (po_move rfl rfl) ?_) <;> (first | refine sops_pure (.free rfl rfl) rfl rfl (po_inc rfl rfl rfl (by omega)) ?_ | refine sops_pure (.free rfl rfl) rfl rfl (po_arith rfl rfl rfl (ar_add (by first | rfl | (refine wrap_i64 ?_; omega)) rfl)) ?_) <;> (refine sops_pure (.free rfl rfl) rfl rfl (po_assign rfl rfl) ?_) <;> (refine sops_nil ?_))
              | refine swp_ret ?_
              | refine swp_skip ?_
              | refine swp_block ?_
              | refine swp_exit ?_
              | refine block_go ?_
              | refine block_exit ?_
              | refine block_far rfl ?_
              | refine block_ret ?_
              | refine then_ret ?_
              | refine then_exit ?_
              | refine for_ret ?_
              | refine for_exit ?_
              | refine swp_cond_t rfl (by first | assumption | with_reducible rfl | decide | (simp only [decide_eq_true_eq, Bool.not_eq_true', decide_eq_false_iff_not]; omega)) ?_
              | refine swp_cond_f rfl (by first | assumption | with_reducible rfl | decide | (simp only [decide_eq_false_iff_not, Bool.not_eq_false', decide_eq_true_eq]; omega)) ?_
              | refine swp_cond rfl (fun hc => ?_) (fun hc => ?_)
              | refine retq (by first | exact .inr rfl | exact .inl rfl) rfl (.tmp rfl (by first | exact .t _ | exact .own rfl rfl | exact .nil _ | exact .emp _) (.tmp rfl (by first | exact .t _ | exact .own rfl rfl | exact .nil _ | exact .emp _) .nil)) ?_)
        | false =>
          have hz2 : decide ((if M l[k].rules[j] = true then (1 : Int) else 0) = 0) = true := by rw [hM]; rfl
          have hs := bySt_no M (A := l.take k) hjl hM
          repeat' (first
            | refine then_go ?_
            | refine swp_seq ?_
            | refine for_next hjl (weak_sub (.cons rfl (by first | rfl | (rw [hs]; try rfl)) rfl (.cons rfl (by first | rfl | (rw [hs]; try rfl)) rfl (.cons rfl (by first | rfl | (rw [hs]; try rfl)) rfl (.cons rfl (by first | rfl | (rw [hs]; try rfl)) rfl (.cons rfl (by first | rfl | (rw [hs]; try rfl)) rfl (.cons rfl (by first | rfl | (rw [hs]; try rfl)) rfl (.cons rfl (by first | rfl | (rw [hs]; try rfl)) rfl .nil))))))) .nil .nil) trivial
            | ((refine swp_region (id := 10) ?_) <;> (refine sops_pure (.free rfl rfl) rfl rfl (po_move rfl rfl) ?_) <;> (refine sops_pure (.free rfl rfl) rfl rfl (po_move rfl rfl) ?_) <;> (refine sops_pure (.free rfl rfl) rfl rfl (po_move rfl rfl) ?_) <;> (refine sops_pure (.free rfl rfl) rfl rfl (po_index rfl rfl (by first | exact .t _ | exact .own rfl rfl | exact .nil _ | exact .emp _) rfl (tyS rfl) (by first | rfl | omega) (by first | rfl | assumption | exact map_at (by first | assumption | omega))) ?_) <;> (first | refine sops_pure (.free rfl rfl) rfl rfl (po_field_bx rfl rfl (tyF rfl)) ?_ | refine sops_pure (.free rfl rfl) rfl rfl (po_field rfl rfl (tyF rfl)) ?_) <;> (first | refine sops_pure (.free rfl rfl) rfl rfl (po_load_bx rfl rfl (tyT rfl) rfl rfl) ?_ | refine sops_pure (.free rfl rfl) rfl rfl (po_load rfl rfl (tyT rfl) rfl) ?_) <;> (refine sops_pure (.free rfl rfl) rfl rfl (po_len rfl rfl (by first | exact .t _ | exact .own rfl rfl | exact .nil _ | exact .emp _) (tyS rfl)) ?_) <;> (refine sops_pure (.free rfl rfl) rfl rfl (po_cmp rfl rfl rfl rfl) ?_) <;> (refine sops_nil ?_))
            | ((refine swp_region (id := 12) ?_) <;> (refine sops_pure (.free rfl rfl) rfl rfl (po_move rfl rfl) ?_) <;> (refine sops_pure (.free rfl rfl) rfl rfl (po_move rfl rfl) ?_) <;> (refine sops_pure (.free rfl rfl) rfl rfl (po_index rfl rfl (by first | exact .t _ | exact .own rfl rfl | exact .nil _ | exact .emp _) rfl (tyS rfl) (by first | rfl | omega) (by first | rfl | assumption | exact map_at (by first | assumption | omega))) ?_) <;> (first | refine sops_pure (.free rfl rfl) rfl rfl (po_load_bx rfl rfl (tyT rfl) rfl rfl) ?_ | refine sops_pure (.free rfl rfl) rfl rfl (po_load rfl rfl (tyT rfl) rfl) ?_) <;> (refine sops_pure (.free rfl rfl) rfl rfl (po_move rfl rfl) ?_) <;> (refine sops_pure (.free rfl rfl) rfl rfl (po_index rfl rfl (by first | exact .t _ | exact .own rfl rfl | exact .nil _ | exact .emp _) rfl (tyS rfl) (by first | rfl | omega) (by first | rfl | assumption | exact map_at (by first | assumption | omega))) ?_) <;> (first | refine sops_pure (.free rfl rfl) rfl rfl (po_load_bx rfl rfl (tyT rfl) rfl rfl) ?_ | refine sops_pure (.free rfl rfl) rfl rfl (po_load rfl rfl (tyT rfl) rfl) ?_) <;> (refine sops_pure (.free rfl rfl) rfl rfl (po_cmp rfl rfl rfl rfl) ?_) <;> (refine sops_nil ?_))
            | ((refine swp_region (id := 11) ?_) <;> (refine sops_pure (.free rfl rfl) rfl rfl (po_move rfl rfl) ?_) <;> (first | refine sops_pure (.free rfl rfl) rfl rfl (po_inc rfl rfl rfl (by omega)) ?_ | refine sops_pure (.free rfl rfl) rfl rfl (po_arith rfl rfl rfl (ar_add (by first | rfl | (refine wrap_i64 ?_; omega)) rfl)) ?_) <;> (refine sops_pure (.free rfl rfl) rfl rfl (po_assign rfl rfl) ?_) <;> (refine sops_nil ?_))
            | refine swp_ret ?_
            | refine swp_skip ?_
            | refine swp_block ?_
            | refine swp_exit ?_
            | refine block_go ?_
            | refine block_exit ?_
            | refine block_far rfl ?_
            | refine block_ret ?_
            | refine then_ret ?_
            | refine then_exit ?_
            | refine for_ret ?_
            | refine for_exit ?_
            | refine swp_cond_t rfl (by first | assumption | with_reducible rfl | decide | (simp only [decide_eq_true_eq, Bool.not_eq_true', decide_eq_false_iff_not]; omega)) ?_
            | refine swp_cond_f rfl (by first | assumption | with_reducible rfl | decide | (simp only [decide_eq_false_iff_not, Bool.not_eq_false', decide_eq_true_eq]; omega)) ?_
            | refine swp_cond rfl (fun hc => ?_) (fun hc => ?_)
            | refine retq (by first | exact .inr rfl | exact .inl rfl) rfl (.tmp rfl (by first | exact .t _ | exact .own rfl rfl | exact .nil _ | exact .emp _) (.tmp rfl (by first | exact .t _ | exact .own rfl rfl | exact .nil _ | exact .emp _) .nil)) ?_)
      · obtain rfl : j = l[k].rules.length := by omega
        repeat' (first
          | refine then_go ?_
          | refine swp_seq ?_
          | refine for_next hlt (weak_sub (.cons rfl (by first | rfl | (rw [hby])) rfl (.cons rfl (by first | rfl | (rw [hby])) rfl (.cons rfl (by first | rfl | (rw [hby])) rfl (.cons rfl (by first | rfl | (rw [hby])) rfl (.cons rfl (by first | rfl | (rw [hby])) rfl (.cons rfl (by first | rfl | (rw [hby])) rfl .nil)))))) .nil .nil) hfi
          | ((refine swp_region (id := 10) ?_) <;> (refine sops_pure (.free rfl rfl) rfl rfl (po_move rfl rfl) ?_) <;> (refine sops_pure (.free rfl rfl) rfl rfl (po_move rfl rfl) ?_) <;> (refine sops_pure (.free rfl rfl) rfl rfl (po_move rfl rfl) ?_) <;> (refine sops_pure (.free rfl rfl) rfl rfl (po_index rfl rfl (by first | exact .t _ | exact .own rfl rfl | exact .nil _ | exact .emp _) rfl (tyS rfl) (by first | rfl | omega) (by first | rfl | assumption | exact map_at (by first | assumption | omega))) ?_) <;> (first | refine sops_pure (.free rfl rfl) rfl rfl (po_field_bx rfl rfl (tyF rfl)) ?_ | refine sops_pure (.free rfl rfl) rfl rfl (po_field rfl rfl (tyF rfl)) ?_) <;> (first | refine sops_pure (.free rfl rfl) rfl rfl (po_load_bx rfl rfl (tyT rfl) rfl rfl) ?_ | refine sops_pure (.free rfl rfl) rfl rfl (po_load rfl rfl (tyT rfl) rfl) ?_) <;> (refine sops_pure (.free rfl rfl) rfl rfl (po_len rfl rfl (by first | exact .t _ | exact .own rfl rfl | exact .nil _ | exact .emp _) (tyS rfl)) ?_) <;> (refine sops_pure (.free rfl rfl) rfl rfl (po_cmp rfl rfl rfl rfl) ?_) <;> (refine sops_nil ?_))
          | ((refine swp_region (id := 6) ?_) <;> (refine sops_pure (.free rfl rfl) rfl rfl (po_move rfl rfl) ?_) <;> (first | refine sops_pure (.free rfl rfl) rfl rfl (po_inc rfl rfl rfl (by omega)) ?_ | refine sops_pure (.free rfl rfl) rfl rfl (po_arith rfl rfl rfl (ar_add (by first | rfl | (refine wrap_i64 ?_; omega)) rfl)) ?_) <;> (refine sops_pure (.free rfl rfl) rfl rfl (po_assign rfl rfl) ?_) <;> (refine sops_nil ?_))
          | refine swp_ret ?_
          | refine swp_skip ?_
          | refine swp_block ?_
          | refine swp_exit ?_
          | refine block_go ?_
          | refine block_exit ?_
          | refine block_far rfl ?_
          | refine block_ret ?_
          | refine then_ret ?_
          | refine then_exit ?_
          | refine for_ret ?_
          | refine for_exit ?_
          | refine swp_cond_t rfl (by first | assumption | with_reducible rfl | decide | (simp only [decide_eq_true_eq, Bool.not_eq_true', decide_eq_false_iff_not]; omega)) ?_
          | refine swp_cond_f rfl (by first | assumption | with_reducible rfl | decide | (simp only [decide_eq_false_iff_not, Bool.not_eq_false', decide_eq_true_eq]; omega)) ?_
          | refine swp_cond rfl (fun hc => ?_) (fun hc => ?_)
          | refine retq (by first | exact .inr rfl | exact .inl rfl) rfl (.tmp rfl (by first | exact .t _ | exact .own rfl rfl | exact .nil _ | exact .emp _) (.tmp rfl (by first | exact .t _ | exact .own rfl rfl | exact .nil _ | exact .emp _) .nil)) ?_)
  · obtain rfl : k = l.length := by omega
    rw [List.take_length] at *
    rw [judge_end M hI]
    cases ho : byP M false l
    all_goals
      repeat' (first
        | refine then_go ?_
        | refine swp_seq ?_
        | ((refine swp_region (id := 5) ?_) <;> (refine sops_pure (.free rfl rfl) rfl rfl (po_move rfl rfl) ?_) <;> (refine sops_pure (.free rfl rfl) rfl rfl (po_move rfl rfl) ?_) <;> (refine sops_pure (.free rfl rfl) rfl rfl (po_len rfl rfl (by first | exact .t _ | exact .own rfl rfl | exact .nil _ | exact .emp _) (tyS rfl)) ?_) <;> (refine sops_pure (.free rfl rfl) rfl rfl (po_cmp rfl rfl rfl rfl) ?_) <;> (refine sops_nil ?_))
        | ((refine swp_region (id := 18) ?_) <;> (refine sops_pure (.free rfl rfl) rfl rfl (po_move rfl rfl) ?_) <;> (refine sops_pure (.free rfl rfl) rfl rfl (po_move rfl rfl) ?_) <;> (first | refine sops_pure (.yes rfl rfl rfl (by first | assumption | with_reducible rfl | decide | (simp only [decide_eq_true_eq, decide_eq_false_iff_not]; omega))) rfl rfl (po_move rfl rfl) ?_ | refine sops_skip (.no0 rfl rfl rfl (by first | assumption | with_reducible rfl | decide | (simp only [decide_eq_true_eq, decide_eq_false_iff_not]; omega))) rfl rfl ?_ | ((refine sops_split rfl rfl rfl (fun hc => ?_) (fun hc => ?_)) <;> (first | refine sops_pure (.yes rfl rfl rfl (by first | assumption | with_reducible rfl | decide | (simp only [decide_eq_true_eq, decide_eq_false_iff_not]; omega))) rfl rfl (po_move rfl rfl) ?_ | refine sops_skip (.no0 rfl rfl rfl (by first | assumption | with_reducible rfl | decide | (simp only [decide_eq_true_eq, decide_eq_false_iff_not]; omega))) rfl rfl ?_))) <;> (first | refine sops_pure (.yes rfl rfl rfl (by first | assumption | with_reducible rfl | decide | (simp only [decide_eq_true_eq, decide_eq_false_iff_not]; omega))) rfl rfl (po_not rfl rfl) ?_ | refine sops_skip (.no0 rfl rfl rfl (by first | assumption | with_reducible rfl | decide | (simp only [decide_eq_true_eq, decide_eq_false_iff_not]; omega))) rfl rfl ?_) <;> (first | refine sops_pure (.free rfl rfl) rfl rfl (po_pick_t rfl rfl (by first | assumption | with_reducible rfl | decide | (simp only [decide_eq_true_eq, decide_eq_false_iff_not]; omega)) rfl) ?_ | refine sops_pure (.free rfl rfl) rfl rfl (po_pick_f rfl rfl (by first | assumption | with_reducible rfl | decide | (simp only [decide_eq_true_eq, decide_eq_false_iff_not]; omega)) rfl) ?_) <;> (refine sops_pure (.free rfl rfl) rfl rfl (po_move rfl rfl) ?_) <;> (refine sops_pure (.free rfl rfl) rfl rfl (po_assign rfl rfl) ?_) <;> (refine sops_pure (.free rfl rfl) rfl rfl (po_assign rfl rfl) ?_) <;> (refine sops_nil ?_))
        | refine swp_ret ?_
        | refine swp_skip ?_
        | refine swp_block ?_
        | refine swp_exit ?_
        | refine block_go ?_
        | refine block_exit ?_
        | refine block_far rfl ?_
        | refine block_ret ?_
        | refine then_ret ?_
        | refine then_exit ?_
        | refine for_ret ?_
        | refine for_exit ?_
        | refine swp_cond_t rfl (by first | assumption | with_reducible rfl | decide | (simp only [decide_eq_true_eq, Bool.not_eq_true', decide_eq_false_iff_not]; omega)) ?_
        | refine swp_cond_f rfl (by first | assumption | with_reducible rfl | decide | (simp only [decide_eq_false_iff_not, Bool.not_eq_false', decide_eq_true_eq]; omega)) ?_
        | refine swp_cond rfl (fun hc => ?_) (fun hc => ?_)
        | refine retq (by first | exact .inr rfl | exact .inl rfl) rfl (.tmp rfl (by first | exact .t _ | exact .own rfl rfl | exact .nil _ | exact .emp _) (.tmp rfl (by first | exact .t _ | exact .own rfl rfl | exact .nil _ | exact .emp _) .nil)) ?_)
    all_goals
      refine eq_bi ?_ ?_ <;> simp_all
end Go.Proofs.Ytlcecabfmemfeaa.Pol
