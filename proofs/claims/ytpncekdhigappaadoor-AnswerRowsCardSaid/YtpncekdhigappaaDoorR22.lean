/- Merged by bundles.py: PlBack, SimRq3. -/
import Derived.Test.YtpncekdhigappaaDoorR19
import Derived.Test.YtpncekdhigappaaDoorR21
/- Headers: a line and what it is read as: plain. -/
namespace Go.Proofs.YtpncekdhigappaaDoor.Hd
set_option linter.unusedVariables false
set_option linter.unusedSimpArgs false
open Go.RowKit Mem Sim Opn Str
def upU (b : UInt8) : UInt8 := if 97 ≤ b.toNat ∧ b.toNat ≤ 122 then b - 32 else b
theorem tok_facts : (List.range 256).all (fun c => !(inB tokL (UInt8.ofNat c)) || (lowU (upU (UInt8.ofNat c)) == UInt8.ofNat c && lowU (UInt8.ofNat c) == UInt8.ofNat c && !(upU (UInt8.ofNat c) == 58) && !(UInt8.ofNat c == 58))) = true := by kernel_rfl
theorem tok_fact {b : UInt8} (h : inB tokL b = true) : lowU (upU b) = b ∧ lowU b = b ∧ upU b ≠ 58 ∧ b ≠ 58 := by
  have := (List.all_eq_true.1 tok_facts) b.toNat (List.mem_range.2 (u8_lt b))
  rw [show UInt8.ofNat b.toNat = b from UInt8.ofNat_toNat] at this
  rw [h] at this
  simpa [and_assoc] using this
theorem find_at (m rest : List UInt8) (hm : ∀ b ∈ m, b ≠ 58) : (m ++ 58 :: rest).findIdx (· == 58) = m.length := by
  induction m with
  | nil => simp [List.findIdx_cons]
  | cons b m ih =>
    have hb : (b == 58) = false := by simpa using hm b (by simp)
    rw [List.cons_append, List.findIdx_cons, hb, ih fun x hx => hm x (by simp [hx])]; rfl
theorem dropWhile_all {p : UInt8 → Bool} {a b : List UInt8} (ha : ∀ x ∈ a, p x = true) : (a ++ b).dropWhile p = b.dropWhile p := by
  induction a with
  | nil => rfl
  | cons x a ih => rw [List.cons_append, List.dropWhile_cons, if_pos (ha x (by simp)), ih fun y hy => ha y (by simp [hy])]
theorem rdrop_all {p : UInt8 → Bool} : ∀ (b a : List UInt8), (∀ x ∈ b, p x = true) → rdrop p (a ++ b) = rdrop p a := by
  intro b
  induction b with
  | nil => intro a _; rw [List.append_nil]
  | cons x b ih =>
    intro a hb
    rw [show a ++ x :: b = (a ++ [x]) ++ b by simp, ih (a ++ [x]) fun y hy => hb y (by simp [hy]), rdrop_snoc, if_pos (hb x (by simp))]
theorem trim_mid {p : UInt8 → Bool} {a v b : List UInt8} (ha : ∀ x ∈ a, p x = true) (hb : ∀ x ∈ b, p x = true) (h1 : ∀ x, v.head? = some x → p x = false) (h2 : ∀ x, v.getLast? = some x → p x = false) : rdrop p ((a ++ v ++ b).dropWhile p) = v := by
  rw [← drop_rdrop, rdrop_all b (a ++ v) hb, drop_rdrop, dropWhile_all ha]
  cases v with
  | nil => rfl
  | cons x v =>
    rw [List.dropWhile_cons, if_neg (by rw [h1 x rfl]; simp)]
    have hne : x :: v ≠ [] := by simp
    have hl := h2 ((x :: v).getLast hne) (List.getLast?_eq_some_getLast hne)
    conv => lhs; rw [← List.dropLast_concat_getLast hne]
    rw [rdrop_snoc, hl, if_neg (by simp), List.dropLast_concat_getLast hne]
theorem value_edges {v : List UInt8} (h : mayValueL v = true) : (∀ x, v.head? = some x → inB ws x = false) ∧ (∀ x, v.getLast? = some x → inB ws x = false) := by
  unfold mayValueL at h
  rw [Bool.and_eq_true, List.all_eq_true] at h
  have hat : ∀ i, (hi : i < v.length) → (i = 0 ∨ i + 1 = v.length) → inB ws v[i] = false := fun i hi he => by
    have := h.1 i (List.mem_range.2 hi)
    rw [List.getD_eq_getElem?_getD, List.getElem?_eq_getElem hi, Option.getD_some] at this
    unfold vcN at this
    rw [ws_at]
    simp at this ⊢
    omega
  constructor
  · intro x hx
    cases v with
    | nil => cases hx
    | cons y v => injection hx with hx; subst hx; exact hat 0 (by simp) (.inl rfl)
  · intro x hx
    have hne : v ≠ [] := by intro e; rw [e] at hx; cases hx
    have hpos : 0 < v.length := List.length_pos_iff.2 hne
    rw [List.getLast?_eq_getElem?, List.getElem?_eq_getElem (show v.length - 1 < v.length by omega)] at hx
    injection hx with hx; subst hx
    exact hat (v.length - 1) (by omega) (.inr (by omega))
/-- a line in any dress is read as the header -/
theorem read_line {m n a v b : List UInt8} (hmn : m.map lowU = n) (hm : ∀ x ∈ m, x ≠ 58) (hn : mayNameL n = true) (hv : mayValueL v = true) (ha : ∀ x ∈ a, inB ws x = true) (hb : ∀ x ∈ b, inB ws x = true) (hsz : (m ++ 58 :: (a ++ v ++ b)).length ≤ 578) : readL (m ++ 58 :: (a ++ v ++ b)) = ((n, v), 0) := by
  obtain ⟨h1, h2⟩ := value_edges hv
  unfold readL
  rw [find_at m _ hm]
  simp only []
  rw [if_pos hsz, if_pos (by simp), List.take_left, hmn]
  rw [show (m ++ 58 :: (a ++ v ++ b)).drop (m.length + 1) = a ++ v ++ b by rw [show m ++ 58 :: (a ++ v ++ b) = (m ++ [58]) ++ (a ++ v ++ b) by simp, show m.length + 1 = (m ++ [58]).length by simp, List.drop_left]]
  unfold trimB
  rw [trim_mid ha hb h1 h2, hn, hv]; rfl
theorem good_lists {h : Pl.Head} (hg : good h = true) : mayNameL h.name.toList = true ∧ mayValueL h.value.toList = true := by
  unfold good at hg
  rw [← toList_bs h.name, ← toList_bs h.value, mayName_bs, mayValue_bs, Bool.and_eq_true] at hg
  exact hg
theorem name_toks {n : List UInt8} (h : mayNameL n = true) : ∀ b ∈ n, inB tokL b = true := by
  unfold mayNameL at h
  rw [Bool.and_eq_true, Bool.and_eq_true] at h
  exact List.all_eq_true.1 h.1.1
theorem low_names {n : List UInt8} (h : mayNameL n = true) : n.map lowU = n ∧ (n.map upU).map lowU = n ∧ (∀ b ∈ n, b ≠ 58) ∧ ∀ b ∈ n.map upU, b ≠ 58 := by
  have ht := name_toks h
  refine ⟨?_, ?_, fun b hb => (tok_fact (ht b hb)).2.2.2, fun b hb => ?_⟩
  · conv => rhs; rw [← List.map_id n]
    exact List.map_congr_left fun b hb => (tok_fact (ht b hb)).2.1
  · rw [List.map_map]
    conv => rhs; rw [← List.map_id n]
    exact List.map_congr_left fun b hb => (tok_fact (ht b hb)).1
  · obtain ⟨c, hc, rfl⟩ := List.mem_map.1 hb
    exact (tok_fact (ht c hc)).2.2.1
theorem line_list (h : Pl.Head) : lineS h = bs (h.name.toList ++ 58 :: ([32] ++ h.value.toList ++ [])) := by
  refine bs_inj ?_
  unfold lineS
  rw [bs_toList, toList_append, toList_append, show (⟨#[58, 32]⟩ : ByteArray).toList = [58, 32] from bs_toList [58, 32]]
  simp
theorem read_back {h : Pl.Head} (hg : good h = true) : readH (lineS h) = (h, 0) := by
  obtain ⟨hn, hv⟩ := good_lists hg
  obtain ⟨l1, _, l3, _⟩ := low_names hn
  have hz := good_size hg
  rw [line_list, readH_bs, read_line l1 l3 hn hv (by decide) (by simp) (by simp [toList_len]; omega), toList_bs, toList_bs]
end Go.Proofs.YtpncekdhigappaaDoor.Hd

/- The reader of messages: a header's line; a byte of a line: walked. -/
namespace Go.Proofs.YtpncekdhigappaaDoor.Rq
set_option linter.unusedVariables false
set_option linter.unusedSimpArgs false
open Go.RowKit Mem Sim Opn Hd Str
theorem readH_ok (s : ByteArray) (hs : s.size ≤ maxLen) : okHead (readH s).1 := by
  unfold readH
  repeat' split
  all_goals first | exact readC_ok s hs | exact ⟨Nat.zero_le _, Nat.zero_le _⟩
set_option maxRecDepth 100000 in
set_option maxHeartbeats 2000000 in
theorem header_ (r : PRd) (hn : r.raw.heads.length ≤ 1000) (hh : ∀ h ∈ r.raw.heads, okHead h) (ho : r.out.length ≤ 1000000) (s : ByteArray) (hs : s.size ≤ maxLen) : LCalls Tryd.prog 67 [.bp 2000 0, .t (.v (.string s))] [(2000, rdA r)] (rdO r) (.tu []) [(2000, rdA (headerP r s))] (rdO (headerP r s)) := by
  have c0 := body_ r hn hh ho
  have c1 := read_ s hs
  have c2 := add_ r.raw.heads hn (readH s).1 (readH_ok s hs)
  have c3 := fault_ r (readH s).2
  have c4 := fault_ r 3
  have c5 := fault_ r 1
  unfold readT at c1
  unfold addT at c2
  unfold headerP
  refine lcalls_of Tryd.func67 rfl rfl Tryd.ntmps67 rfl ?_
  by_cases h1 : s = ⟨#[]⟩
  · rw [if_pos h1]
    have e1 : decide (s = ⟨#[]⟩) = true := decide_eq_true h1
    repeat' (first | (refine rg 0 ?_; refine oMv ?_; refine sp (po_str rfl rfl rfl rfl) ?_; refine oN ?_) | (refine rg 1 ?_; refine oMv ?_; refine sops_lcall (c0) (fun i => i) (fun i => i) (fun _ => false) (.free rfl rfl) rfl rfl rfl (by first | ((repeat' (first | exact .nil | refine .cons rfl rfl rfl ?_ | refine .vw rfl (by first | exact .t _ | exact .own rfl (by first | rfl | assumption | (simp; done) | (simp; omega)) | exact .nil _ | exact .emp _ | exact .fn _) ?_)) <;> fail) | fail) (.cons rfl rfl .nil) (.cons rfl rfl (.cons rfl rfl (.cons rfl rfl .nil))) rfl rfl (fun _ h => Bool.noConfusion h) ?_; refine oN ?_) | refine gc ?_ | refine ct ?_ | refine cf ?_ | refine swp_cond rfl (fun hc => ?_) (fun hc => ?_) | refine retl (by first | exact .inr rfl | exact .inl rfl) rfl .nil ?_ rfl (.cons rfl (by first | rfl | assumption | (symm; assumption)) rfl .nil) (.cons rfl (by first | rfl | assumption | (symm; assumption)) (.cons rfl (by first | rfl | assumption | (symm; assumption)) (.cons rfl (by first | rfl | assumption | (symm; assumption)) .nil))))
    rfl
  · rw [if_neg h1]
    have e1 : decide (s = ⟨#[]⟩) = false := decide_eq_false h1
    generalize (readH s).2 = e at *
    generalize (readH s).1 = h at *
    by_cases h2 : e ≠ 0
    · rw [if_pos h2]
      repeat' (first | (refine rg 0 ?_; refine oMv ?_; refine sp (po_str rfl rfl rfl rfl) ?_; refine oN ?_) | (refine rg 2 ?_; refine oMv ?_; (first | refine sops_lcall (c3) (fun i => i) (fun i => i) (fun _ => false) (.free rfl rfl) rfl rfl rfl (by first | ((repeat' (first | exact .nil | refine .cons rfl rfl rfl ?_ | refine .vw rfl (by first | exact .t _ | exact .own rfl (by first | rfl | assumption | (simp; done) | (simp; omega)) | exact .nil _ | exact .emp _ | exact .fn _) ?_)) <;> fail) | fail) (.cons rfl rfl .nil) (.cons rfl rfl (.cons rfl rfl (.cons rfl rfl .nil))) rfl rfl (fun _ h => Bool.noConfusion h) ?_ | refine oC (c1) rfl (ac .nil) ?_); refine oMv ?_; (first | refine oEx ?_ | refine sp (po_extract_tu rfl rfl rfl) ?_); (first | refine oEx ?_ | refine sp (po_extract_tu rfl rfl rfl) ?_); refine sal str32 ?_; (first | refine oS ?_ | refine sso ?_); refine oAs ?_; refine oN ?_) | (refine rg 3 ?_; refine oMv ?_; refine oCm ?_; refine oN ?_) | (refine rg 4 ?_; refine oMv ?_; refine oMv ?_; (first | refine sops_lcall (c3) (fun i => i) (fun i => i) (fun _ => false) (.free rfl rfl) rfl rfl rfl (by first | ((repeat' (first | exact .nil | refine .cons rfl rfl rfl ?_ | refine .vw rfl (by first | exact .t _ | exact .own rfl (by first | rfl | assumption | (simp; done) | (simp; omega)) | exact .nil _ | exact .emp _ | exact .fn _) ?_)) <;> fail) | fail) (.cons rfl rfl .nil) (.cons rfl rfl (.cons rfl rfl (.cons rfl rfl .nil))) rfl rfl (fun _ h => Bool.noConfusion h) ?_ | refine oC (c1) rfl (ac (ac .nil)) ?_); refine oN ?_) | refine gc ?_ | refine ct ?_ | refine cf ?_ | refine swp_cond rfl (fun hc => ?_) (fun hc => ?_) | refine retl (by first | exact .inr rfl | exact .inl rfl) rfl .nil ?_ rfl (.cons rfl (by first | rfl | assumption | (symm; assumption)) rfl .nil) (.cons rfl (by first | rfl | assumption | (symm; assumption)) (.cons rfl (by first | rfl | assumption | (symm; assumption)) (.cons rfl (by first | rfl | assumption | (symm; assumption)) .nil))))
      rfl
    · rw [if_neg h2]
      by_cases h3 : good h = true
      · rw [if_pos h3] at c2 ⊢
        by_cases h4 : r.raw.heads.length < 24
        · rw [if_pos h4] at c2 ⊢
          repeat' (first | (refine rg 0 ?_; refine oMv ?_; refine sp (po_str rfl rfl rfl rfl) ?_; refine oN ?_) | (refine rg 2 ?_; refine oMv ?_; (first | refine oC (c1) rfl (ac .nil) ?_ | refine oC (c2) rfl (ac .nil) ?_); refine oMv ?_; (first | refine oEx ?_ | refine sp (po_extract_tu rfl rfl rfl) ?_); (first | refine oEx ?_ | refine sp (po_extract_tu rfl rfl rfl) ?_); refine sal str32 ?_; (first | refine oS ?_ | refine sso ?_); refine oAs ?_; refine oN ?_) | (refine rg 3 ?_; refine oMv ?_; refine oCm ?_; refine oN ?_) | (refine rd 5 ?_; refine dMv ?_; refine dp (po_nilcheck rfl rfl) ?_; (first | refine dFb ?_ | refine dFd ?_ | refine dp (fdo rfl) ?_); (first | refine dFb ?_ | refine dFd ?_ | refine dp (fdo rfl) ?_); (first | refine dFb ?_ | refine dFd ?_ | refine dp (fdo rfl) ?_); (first | refine dLb ?_ | refine dLd ?_ | refine dp (ldo rfl) ?_); (first | refine dp (po_load_bx_agg rfl rfl (tyT rfl) rfl (vc (vc .nil)) rfl) ?_ | refine dp (po_load_agg rfl rfl (tyT rfl) rfl rfl) ?_ | refine dp (lda rfl) ?_ | refine dp (po_load_bx_ag rfl rfl (tyT rfl) rfl rfl rfl rfl) ?_); (first | refine dC (c1) rfl (ac (ac .nil)) ?_ | refine dC (c2) rfl (ac (ac .nil)) ?_); refine dMv ?_; (first | refine dEx ?_ | refine dp (po_extract_tu rfl rfl rfl) ?_); (first | refine dEx ?_ | refine dp (po_extract_tu rfl rfl rfl) ?_); refine dAs ?_; refine dAs ?_; refine dN ?_; refine oN ?_) | (refine rg 6 ?_; refine oMv ?_; refine oCm ?_; refine oN ?_) | (refine rg 8 ?_; refine oMv ?_; refine oMv ?_; refine sp (po_nilcheck rfl rfl) ?_; (first | refine oFb ?_ | refine oFd ?_ | refine sp (fdo rfl) ?_); (first | refine oFb ?_ | refine oFd ?_ | refine sp (fdo rfl) ?_); (first | refine oFb ?_ | refine oFd ?_ | refine sp (fdo rfl) ?_); (first | refine oS ?_ | refine sso ?_); refine oN ?_) | refine gc ?_ | refine ct ?_ | refine cf ?_ | refine swp_cond rfl (fun hc => ?_) (fun hc => ?_) | refine retl (by first | exact .inr rfl | exact .inl rfl) rfl .nil ?_ rfl (.cons rfl (by first | rfl | assumption | (symm; assumption)) rfl .nil) (.cons rfl (by first | rfl | assumption | (symm; assumption)) (.cons rfl (by first | rfl | assumption | (symm; assumption)) (.cons rfl (by first | rfl | assumption | (symm; assumption)) .nil))))
          rfl
        · rw [if_neg h4] at c2 ⊢
          repeat' (first | (refine rg 0 ?_; refine oMv ?_; refine sp (po_str rfl rfl rfl rfl) ?_; refine oN ?_) | (refine rg 2 ?_; refine oMv ?_; (first | refine sops_lcall (c4) (fun i => i) (fun i => i) (fun _ => false) (.free rfl rfl) rfl rfl rfl (by first | ((repeat' (first | exact .nil | refine .cons rfl rfl rfl ?_ | refine .vw rfl (by first | exact .t _ | exact .own rfl (by first | rfl | assumption | (simp; done) | (simp; omega)) | exact .nil _ | exact .emp _ | exact .fn _) ?_)) <;> fail) | fail) (.cons rfl rfl .nil) (.cons rfl rfl (.cons rfl rfl (.cons rfl rfl .nil))) rfl rfl (fun _ h => Bool.noConfusion h) ?_ | refine oC (c1) rfl (ac .nil) ?_ | refine oC (c2) rfl (ac .nil) ?_); refine oMv ?_; (first | refine oEx ?_ | refine sp (po_extract_tu rfl rfl rfl) ?_); (first | refine oEx ?_ | refine sp (po_extract_tu rfl rfl rfl) ?_); refine sal str32 ?_; (first | refine oS ?_ | refine sso ?_); refine oAs ?_; refine oN ?_) | (refine rg 3 ?_; refine oMv ?_; refine oCm ?_; refine oN ?_) | (refine rd 5 ?_; refine dMv ?_; refine dp (po_nilcheck rfl rfl) ?_; (first | refine dFb ?_ | refine dFd ?_ | refine dp (fdo rfl) ?_); (first | refine dFb ?_ | refine dFd ?_ | refine dp (fdo rfl) ?_); (first | refine dFb ?_ | refine dFd ?_ | refine dp (fdo rfl) ?_); (first | refine dLb ?_ | refine dLd ?_ | refine dp (ldo rfl) ?_); (first | refine dp (po_load_bx_agg rfl rfl (tyT rfl) rfl (vc (vc .nil)) rfl) ?_ | refine dp (po_load_agg rfl rfl (tyT rfl) rfl rfl) ?_ | refine dp (lda rfl) ?_ | refine dp (po_load_bx_ag rfl rfl (tyT rfl) rfl rfl rfl rfl) ?_); (first | refine dC (c1) rfl (ac (ac .nil)) ?_ | refine dC (c2) rfl (ac (ac .nil)) ?_); refine dMv ?_; (first | refine dEx ?_ | refine dp (po_extract_tu rfl rfl rfl) ?_); (first | refine dEx ?_ | refine dp (po_extract_tu rfl rfl rfl) ?_); refine dAs ?_; refine dAs ?_; refine dN ?_; refine oN ?_) | (refine rg 6 ?_; refine oMv ?_; refine oCm ?_; refine oN ?_) | (refine rg 7 ?_; refine oMv ?_; refine oMv ?_; (first | refine sops_lcall (c4) (fun i => i) (fun i => i) (fun _ => false) (.free rfl rfl) rfl rfl rfl (by first | ((repeat' (first | exact .nil | refine .cons rfl rfl rfl ?_ | refine .vw rfl (by first | exact .t _ | exact .own rfl (by first | rfl | assumption | (simp; done) | (simp; omega)) | exact .nil _ | exact .emp _ | exact .fn _) ?_)) <;> fail) | fail) (.cons rfl rfl .nil) (.cons rfl rfl (.cons rfl rfl (.cons rfl rfl .nil))) rfl rfl (fun _ h => Bool.noConfusion h) ?_ | refine oC (c1) rfl (ac (ac .nil)) ?_ | refine oC (c2) rfl (ac (ac .nil)) ?_); refine oN ?_) | refine gc ?_ | refine ct ?_ | refine cf ?_ | refine swp_cond rfl (fun hc => ?_) (fun hc => ?_) | refine retl (by first | exact .inr rfl | exact .inl rfl) rfl .nil ?_ rfl (.cons rfl (by first | rfl | assumption | (symm; assumption)) rfl .nil) (.cons rfl (by first | rfl | assumption | (symm; assumption)) (.cons rfl (by first | rfl | assumption | (symm; assumption)) (.cons rfl (by first | rfl | assumption | (symm; assumption)) .nil))))
          rfl
      · rw [if_neg h3] at c2 ⊢
        repeat' (first | (refine rg 0 ?_; refine oMv ?_; refine sp (po_str rfl rfl rfl rfl) ?_; refine oN ?_) | (refine rg 2 ?_; refine oMv ?_; (first | refine sops_lcall (c5) (fun i => i) (fun i => i) (fun _ => false) (.free rfl rfl) rfl rfl rfl (by first | ((repeat' (first | exact .nil | refine .cons rfl rfl rfl ?_ | refine .vw rfl (by first | exact .t _ | exact .own rfl (by first | rfl | assumption | (simp; done) | (simp; omega)) | exact .nil _ | exact .emp _ | exact .fn _) ?_)) <;> fail) | fail) (.cons rfl rfl .nil) (.cons rfl rfl (.cons rfl rfl (.cons rfl rfl .nil))) rfl rfl (fun _ h => Bool.noConfusion h) ?_ | refine oC (c1) rfl (ac .nil) ?_ | refine oC (c2) rfl (ac .nil) ?_); refine oMv ?_; (first | refine oEx ?_ | refine sp (po_extract_tu rfl rfl rfl) ?_); (first | refine oEx ?_ | refine sp (po_extract_tu rfl rfl rfl) ?_); refine sal str32 ?_; (first | refine oS ?_ | refine sso ?_); refine oAs ?_; refine oN ?_) | (refine rg 3 ?_; refine oMv ?_; refine oCm ?_; refine oN ?_) | (refine rd 5 ?_; refine dMv ?_; refine dp (po_nilcheck rfl rfl) ?_; (first | refine dFb ?_ | refine dFd ?_ | refine dp (fdo rfl) ?_); (first | refine dFb ?_ | refine dFd ?_ | refine dp (fdo rfl) ?_); (first | refine dFb ?_ | refine dFd ?_ | refine dp (fdo rfl) ?_); (first | refine dLb ?_ | refine dLd ?_ | refine dp (ldo rfl) ?_); (first | refine dp (po_load_bx_agg rfl rfl (tyT rfl) rfl (vc (vc .nil)) rfl) ?_ | refine dp (po_load_agg rfl rfl (tyT rfl) rfl rfl) ?_ | refine dp (lda rfl) ?_ | refine dp (po_load_bx_ag rfl rfl (tyT rfl) rfl rfl rfl rfl) ?_); (first | refine dC (c1) rfl (ac (ac .nil)) ?_ | refine dC (c2) rfl (ac (ac .nil)) ?_); refine dMv ?_; (first | refine dEx ?_ | refine dp (po_extract_tu rfl rfl rfl) ?_); (first | refine dEx ?_ | refine dp (po_extract_tu rfl rfl rfl) ?_); refine dAs ?_; refine dAs ?_; refine dN ?_; refine oN ?_) | (refine rg 6 ?_; refine oMv ?_; refine oCm ?_; refine oN ?_) | (refine rg 7 ?_; refine oMv ?_; refine oMv ?_; (first | refine sops_lcall (c5) (fun i => i) (fun i => i) (fun _ => false) (.free rfl rfl) rfl rfl rfl (by first | ((repeat' (first | exact .nil | refine .cons rfl rfl rfl ?_ | refine .vw rfl (by first | exact .t _ | exact .own rfl (by first | rfl | assumption | (simp; done) | (simp; omega)) | exact .nil _ | exact .emp _ | exact .fn _) ?_)) <;> fail) | fail) (.cons rfl rfl .nil) (.cons rfl rfl (.cons rfl rfl (.cons rfl rfl .nil))) rfl rfl (fun _ h => Bool.noConfusion h) ?_ | refine oC (c1) rfl (ac (ac .nil)) ?_ | refine oC (c2) rfl (ac (ac .nil)) ?_); refine oN ?_) | refine gc ?_ | refine ct ?_ | refine cf ?_ | refine swp_cond rfl (fun hc => ?_) (fun hc => ?_) | refine retl (by first | exact .inr rfl | exact .inl rfl) rfl .nil ?_ rfl (.cons rfl (by first | rfl | assumption | (symm; assumption)) rfl .nil) (.cons rfl (by first | rfl | assumption | (symm; assumption)) (.cons rfl (by first | rfl | assumption | (symm; assumption)) (.cons rfl (by first | rfl | assumption | (symm; assumption)) .nil))))
        rfl
def linesT : List T := [.clo 66 [], .clo 67 [], .v .nilFunc, .clo 68 [], .v .nilFunc, .clo 69 [], .clo 69 []]
theorem bldLines : bldT Tryd.prog 94 [(0, .clo 66 []), (1, .clo 67 []), (3, .clo 68 []), (5, .clo 69 []), (6, .clo 69 [])] = some linesT := by kernel_rfl
theorem zeroLines : zeroOk Tryd.prog 94 = true := by kernel_rfl
theorem zeroLines' : (Tryd.prog.info? 94).bind (·.zero) = some (.agg #[.nilFunc, .nilFunc, .nilFunc, .nilFunc, .nilFunc, .nilFunc, .nilFunc]) := by kernel_rfl
theorem eltLines : elt1 Tryd.prog 94 = some (7, 1) := by kernel_rfl
set_option maxRecDepth 100000 in
theorem lines_ : PCalls Tryd.prog 58 [] (.agg linesT) := by
  refine pcalls_of Tryd.func58 rfl rfl Tryd.ntmps58 rfl ?_
  repeat' (first | (refine rg 0 ?_; (first | refine sops_alloc_arr (n := 7) (.free rfl rfl) rfl rfl rfl zeroLines' rfl rfl rfl ?_ | refine sal str94 ?_); refine oN ?_) | (refine rg 1 ?_; (first | refine sp (po_build rfl (.cons rfl (.fn _) (.cons rfl (.fn _) (.cons rfl (.fn _) (.cons rfl (.fn _) (.cons rfl (.fn _) .nil))))) zeroLines bldLines) ?_ | refine sp (po_buildS str94 rfl (pc (pc (pc (pc (pc .nil))))) rfl) ?_); refine oS ?_; refine oN ?_) | refine gc ?_ | refine ct ?_ | refine cf ?_ | refine swp_cond rfl (fun hc => ?_) (fun hc => ?_) | refine rq rfl (.cell rfl rfl (tyT rfl) (vc (vc (vc (vc (vc (vc (vc .nil))))))) rfl .nil) ?_)
  rfl
end Go.Proofs.YtpncekdhigappaaDoor.Rq
