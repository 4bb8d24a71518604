/- Merged by bundles.py: PlBack, SimRq3, SimRq4. -/
import Derived.Test.YtloippgblkoemaaGreatDoorB16
import Derived.Test.YtloippgblkoemaaGreatDoorB17
import Derived.Test.YtloippgblkoemaaGreatDoorB13
/- Headers: a line and what it is read as: plain. -/
namespace Go.Proofs.YtloippgblkoemaaGreatDoor.Hd
set_option linter.unusedVariables false
set_option linter.unusedSimpArgs false
open Go.RowKit Mem Sim Opn Str
def upU (b : UInt8) : UInt8 := if 97 ≤ b.toNat ∧ b.toNat ≤ 122 then b - 32 else b
theorem tok_facts : (List.range 256).all (fun c => !(inB tokL (UInt8.ofNat c)) || (lowU (upU (UInt8.ofNat c)) == UInt8.ofNat c && lowU (UInt8.ofNat c) == UInt8.ofNat c && !(upU (UInt8.ofNat c) == 58) && !(UInt8.ofNat c == 58))) = true := by kernel_rfl
theorem tok_fact {b : UInt8} (h : inB tokL b = true) : lowU (upU b) = b ∧ lowU b = b ∧ upU b ≠ 58 ∧ b ≠ 58 := by
  have := (List.all_eq_true.1 tok_facts) b.toNat (List.mem_range.2 (u8_lt b))
  rw [show UInt8.ofNat b.toNat = b from UInt8.ofNat_toNat] at this
  rw [h] at this
  simpa [and_assoc] using this
theorem find_at (m rest : List UInt8) (hm : ∀ b ∈ m, b ≠ 58) : (m ++ 58 :: rest).findIdx (· == 58) = m.length := by
  induction m with
  | nil => simp [List.findIdx_cons]
  | cons b m ih =>
    have hb : (b == 58) = false := by simpa using hm b (by simp)
    rw [List.cons_append, List.findIdx_cons, hb, ih fun x hx => hm x (by simp [hx])]; rfl
theorem dropWhile_all {p : UInt8 → Bool} {a b : List UInt8} (ha : ∀ x ∈ a, p x = true) : (a ++ b).dropWhile p = b.dropWhile p := by
  induction a with
  | nil => rfl
  | cons x a ih => rw [List.cons_append, List.dropWhile_cons, if_pos (ha x (by simp)), ih fun y hy => ha y (by simp [hy])]
theorem rdrop_all {p : UInt8 → Bool} : ∀ (b a : List UInt8), (∀ x ∈ b, p x = true) → rdrop p (a ++ b) = rdrop p a := by
  intro b
  induction b with
  | nil => intro a _; rw [List.append_nil]
  | cons x b ih =>
    intro a hb
    rw [show a ++ x :: b = (a ++ [x]) ++ b by simp, ih (a ++ [x]) fun y hy => hb y (by simp [hy]), rdrop_snoc, if_pos (hb x (by simp))]
theorem trim_mid {p : UInt8 → Bool} {a v b : List UInt8} (ha : ∀ x ∈ a, p x = true) (hb : ∀ x ∈ b, p x = true) (h1 : ∀ x, v.head? = some x → p x = false) (h2 : ∀ x, v.getLast? = some x → p x = false) : rdrop p ((a ++ v ++ b).dropWhile p) = v := by
  rw [← drop_rdrop, rdrop_all b (a ++ v) hb, drop_rdrop, dropWhile_all ha]
  cases v with
  | nil => rfl
  | cons x v =>
    rw [List.dropWhile_cons, if_neg (by rw [h1 x rfl]; simp)]
    have hne : x :: v ≠ [] := by simp
    have hl := h2 ((x :: v).getLast hne) (List.getLast?_eq_some_getLast hne)
    conv => lhs; rw [← List.dropLast_concat_getLast hne]
    rw [rdrop_snoc, hl, if_neg (by simp), List.dropLast_concat_getLast hne]
theorem value_edges {v : List UInt8} (h : mayValueL v = true) : (∀ x, v.head? = some x → inB ws x = false) ∧ (∀ x, v.getLast? = some x → inB ws x = false) := by
  unfold mayValueL at h
  rw [Bool.and_eq_true, List.all_eq_true] at h
  have hat : ∀ i, (hi : i < v.length) → (i = 0 ∨ i + 1 = v.length) → inB ws v[i] = false := fun i hi he => by
    have := h.1 i (List.mem_range.2 hi)
    rw [List.getD_eq_getElem?_getD, List.getElem?_eq_getElem hi, Option.getD_some] at this
    unfold vcN at this
    rw [ws_at]
    simp at this ⊢
    omega
  constructor
  · intro x hx
    cases v with
    | nil => cases hx
    | cons y v => injection hx with hx; subst hx; exact hat 0 (by simp) (.inl rfl)
  · intro x hx
    have hne : v ≠ [] := by intro e; rw [e] at hx; cases hx
    have hpos : 0 < v.length := List.length_pos_iff.2 hne
    rw [List.getLast?_eq_getElem?, List.getElem?_eq_getElem (show v.length - 1 < v.length by omega)] at hx
    injection hx with hx; subst hx
    exact hat (v.length - 1) (by omega) (.inr (by omega))
theorem read_line {m n a v b : List UInt8} (hmn : m.map lowU = n) (hm : ∀ x ∈ m, x ≠ 58) (hn : mayNameL n = true) (hv : mayValueL v = true) (ha : ∀ x ∈ a, inB ws x = true) (hb : ∀ x ∈ b, inB ws x = true) (hsz : (m ++ 58 :: (a ++ v ++ b)).length ≤ 578) : readL (m ++ 58 :: (a ++ v ++ b)) = ((n, v), 0) := by
  obtain ⟨h1, h2⟩ := value_edges hv
  unfold readL
  rw [find_at m _ hm]
  simp only []
  rw [if_pos hsz, if_pos (by simp), List.take_left, hmn]
  rw [show (m ++ 58 :: (a ++ v ++ b)).drop (m.length + 1) = a ++ v ++ b by rw [show m ++ 58 :: (a ++ v ++ b) = (m ++ [58]) ++ (a ++ v ++ b) by simp, show m.length + 1 = (m ++ [58]).length by simp, List.drop_left]]
  unfold trimB
  rw [trim_mid ha hb h1 h2, hn, hv]; rfl
theorem good_lists {h : Pl.Head} (hg : good h = true) : mayNameL h.name.toList = true ∧ mayValueL h.value.toList = true := by
  unfold good at hg
  rw [← toList_bs h.name, ← toList_bs h.value, mayName_bs, mayValue_bs, Bool.and_eq_true] at hg
  exact hg
theorem name_toks {n : List UInt8} (h : mayNameL n = true) : ∀ b ∈ n, inB tokL b = true := by
  unfold mayNameL at h
  rw [Bool.and_eq_true, Bool.and_eq_true] at h
  exact List.all_eq_true.1 h.1.1
theorem low_names {n : List UInt8} (h : mayNameL n = true) : n.map lowU = n ∧ (n.map upU).map lowU = n ∧ (∀ b ∈ n, b ≠ 58) ∧ ∀ b ∈ n.map upU, b ≠ 58 := by
  have ht := name_toks h
  refine ⟨?_, ?_, fun b hb => (tok_fact (ht b hb)).2.2.2, fun b hb => ?_⟩
  · conv => rhs; rw [← List.map_id n]
    exact List.map_congr_left fun b hb => (tok_fact (ht b hb)).2.1
  · rw [List.map_map]
    conv => rhs; rw [← List.map_id n]
    exact List.map_congr_left fun b hb => (tok_fact (ht b hb)).1
  · obtain ⟨c, hc, rfl⟩ := List.mem_map.1 hb
    exact (tok_fact (ht c hc)).2.2.1
theorem line_list (h : Pl.Head) : lineS h = bs (h.name.toList ++ 58 :: ([32] ++ h.value.toList ++ [])) := by
  refine bs_inj ?_
  unfold lineS
  rw [bs_toList, toList_append, toList_append, show (⟨#[58, 32]⟩ : ByteArray).toList = [58, 32] from bs_toList [58, 32]]
  simp
theorem read_back {h : Pl.Head} (hg : good h = true) : readH (lineS h) = (h, 0) := by
  obtain ⟨hn, hv⟩ := good_lists hg
  obtain ⟨l1, _, l3, _⟩ := low_names hn
  have hz := good_size hg
  rw [line_list, readH_bs, read_line l1 l3 hn hv (by decide) (by simp) (by simp [toList_len]; omega), toList_bs, toList_bs]
theorem readH_good (s : ByteArray) : ((readH s).2 = 0 ∧ good (readH s).1 = true) ∨ ((readH s).2 ≠ 0 ∧ (readH s).1 = head0) := by
  unfold readH
  split
  · split
    · split
      · rename_i h; exact .inl ⟨rfl, h⟩
      · exact .inr ⟨by decide, rfl⟩
    · exact .inr ⟨by decide, rfl⟩
  · exact .inr ⟨by decide, rfl⟩
end Go.Proofs.YtloippgblkoemaaGreatDoor.Hd

/- The reader of messages: a header's line; a byte of a line: walked. -/
namespace Go.Proofs.YtloippgblkoemaaGreatDoor.Rq
set_option linter.unusedVariables false
set_option linter.unusedSimpArgs false
open Go.RowKit Mem Sim Opn Hd Str
theorem readH_ok (s : ByteArray) (hs : s.size ≤ maxLen) : okHead (readH s).1 := by
  unfold readH
  repeat' split
  all_goals first | exact readC_ok s hs | exact ⟨Nat.zero_le _, Nat.zero_le _⟩
set_option maxRecDepth 100000 in
set_option maxHeartbeats 2000000 in
theorem header_ (r : PRd) (hn : r.raw.heads.length ≤ 1000) (hh : ∀ h ∈ r.raw.heads, okHead h) (ho : r.out.length ≤ 1000000) (s : ByteArray) (hs : s.size ≤ maxLen) : LCalls Tryz.prog 99 [.bp 2000 0, .t (.v (.string s))] [(2000, rdA r)] (rdO r) (.tu []) [(2000, rdA (headerP r s))] (rdO (headerP r s)) := by
  have c0 := body_ r hn hh ho
  have c1 := read_ s hs
  have c2 := add_ r.raw.heads hn (readH s).1 (readH_ok s hs)
  have c3 := fault_ r (readH s).2
  have c4 := fault_ r 3
  have c5 := fault_ r 1
  unfold readT at c1
  unfold addT at c2
  unfold headerP
  refine lcalls_of Tryz.func99 rfl rfl Tryz.ntmps99 rfl ?_
  by_cases h1 : s = ⟨#[]⟩
  · rw [if_pos h1]
    have e1 : decide (s = ⟨#[]⟩) = true := decide_eq_true h1
    repeat' (first | refine rg 0 (aq60 ?_) | (refine rg 1 ?_; refine oMv ?_; refine sops_lcall (c0) (fun i => i) (fun i => i) (fun _ => false) (.free rfl rfl) rfl rfl rfl (by ((repeat' (first | exact .nil | refine .cons rfl rfl rfl ?_)) <;> fail)) (.cons rfl rfl .nil) (.cons rfl rfl (.cons rfl rfl (.cons rfl rfl .nil))) rfl rfl (fun _ h => Bool.noConfusion h) ?_; refine oN ?_) | refine gc ?_ | refine ct ?_ | refine cf ?_ | refine sc ?_ ?_ <;> intro hc | refine retl (by exact .inr rfl) rfl .nil ?_ rfl (.cons rfl (by rfl) rfl .nil) (.cons rfl (by rfl) (.cons rfl (by rfl) (.cons rfl (by rfl) .nil))))
    rfl
  · rw [if_neg h1]
    have e1 : decide (s = ⟨#[]⟩) = false := decide_eq_false h1
    generalize (readH s).2 = e at *
    generalize (readH s).1 = h at *
    by_cases h2 : e ≠ 0
    · rw [if_pos h2]
      repeat' (first | refine rg 0 (aq60 ?_) | (refine rg 2 ?_; refine oMv ?_; (first | refine sops_lcall (c3) (fun i => i) (fun i => i) (fun _ => false) (.free rfl rfl) rfl rfl rfl (by first | ((repeat' (first | exact .nil | refine .cons rfl rfl rfl ?_ | refine .vw rfl (by first | exact .t _ | exact .own rfl (by rfl) | exact .nil _ | exact .emp _ | exact .fn _) ?_)) <;> fail) | fail) (.cons rfl rfl .nil) (.cons rfl rfl (.cons rfl rfl (.cons rfl rfl .nil))) rfl rfl (fun _ h => Bool.noConfusion h) ?_ | refine oC (c1) rfl (ac .nil) ?_); refine aq27 ?_; refine sal str65 ?_; refine aq58 ?_) | refine rg 3 (aq21 ?_) | (refine rg 4 (aq15 ?_); (refine sops_lcall (c3) (fun i => i) (fun i => i) (fun _ => false) (.free rfl rfl) rfl rfl rfl (by ((repeat' (first | exact .nil | refine .cons rfl rfl rfl ?_)) <;> fail)) (.cons rfl rfl .nil) (.cons rfl rfl (.cons rfl rfl (.cons rfl rfl .nil))) rfl rfl (fun _ h => Bool.noConfusion h) ?_); refine oN ?_) | refine gc ?_ | refine ct ?_ | refine cf ?_ | refine sc ?_ ?_ <;> intro hc | refine retl (by exact .inr rfl) rfl .nil ?_ rfl (.cons rfl (by rfl) rfl .nil) (.cons rfl (by rfl) (.cons rfl (by rfl) (.cons rfl (by rfl) .nil))))
      rfl
    · rw [if_neg h2]
      by_cases h3 : good h = true
      · rw [if_pos h3] at c2 ⊢
        by_cases h4 : r.raw.heads.length < 24
        · rw [if_pos h4] at c2 ⊢
          repeat' (first | refine rg 0 (aq60 ?_) | (refine rg 2 ?_; refine oMv ?_; refine oC (c1) rfl (ac .nil) ?_; refine aq27 ?_; refine sal str65 ?_; refine aq58 ?_) | refine rg 3 (aq21 ?_) | (refine aq61 ?_; (first | refine dC (c1) rfl (ac (ac .nil)) ?_ | refine dC (c2) rfl (ac (ac .nil)) ?_); refine aq62 ?_) | refine rg 6 (aq21 ?_) | (refine rg 8 ?_; refine oMv ?_; refine oMv ?_; refine sp (po_nilcheck rfl rfl) ?_; refine oFb ?_; refine oFb ?_; refine oFb ?_; refine oS ?_; refine oN ?_) | refine gc ?_ | refine ct ?_ | refine cf ?_ | refine sc ?_ ?_ <;> intro hc | refine retl (by first | exact .inr rfl | exact .inl rfl) rfl .nil ?_ rfl (.cons rfl (by rfl) rfl .nil) (.cons rfl (by rfl) (.cons rfl (by rfl) (.cons rfl (by rfl) .nil))))
          rfl
        · rw [if_neg h4] at c2 ⊢
          repeat' (first | refine rg 0 (aq60 ?_) | (refine rg 2 ?_; refine oMv ?_; (first | refine sops_lcall (c4) (fun i => i) (fun i => i) (fun _ => false) (.free rfl rfl) rfl rfl rfl (by first | ((repeat' (first | exact .nil | refine .cons rfl rfl rfl ?_ | refine .vw rfl (by first | exact .t _ | exact .own rfl (by rfl) | exact .nil _ | exact .emp _ | exact .fn _) ?_)) <;> fail) | fail) (.cons rfl rfl .nil) (.cons rfl rfl (.cons rfl rfl (.cons rfl rfl .nil))) rfl rfl (fun _ h => Bool.noConfusion h) ?_ | refine oC (c1) rfl (ac .nil) ?_); refine aq27 ?_; refine sal str65 ?_; refine aq58 ?_) | refine rg 3 (aq21 ?_) | (refine aq61 ?_; (first | refine dC (c1) rfl (ac (ac .nil)) ?_ | refine dC (c2) rfl (ac (ac .nil)) ?_); refine aq62 ?_) | refine rg 6 (aq21 ?_) | (refine rg 7 (aq15 ?_); (refine sops_lcall (c4) (fun i => i) (fun i => i) (fun _ => false) (.free rfl rfl) rfl rfl rfl (by ((repeat' (first | exact .nil | refine .cons rfl rfl rfl ?_)) <;> fail)) (.cons rfl rfl .nil) (.cons rfl rfl (.cons rfl rfl (.cons rfl rfl .nil))) rfl rfl (fun _ h => Bool.noConfusion h) ?_); refine oN ?_) | refine gc ?_ | refine ct ?_ | refine cf ?_ | refine sc ?_ ?_ <;> intro hc | refine retl (by exact .inr rfl) rfl .nil ?_ rfl (.cons rfl (by rfl) rfl .nil) (.cons rfl (by rfl) (.cons rfl (by rfl) (.cons rfl (by rfl) .nil))))
          rfl
      · rw [if_neg h3] at c2 ⊢
        repeat' (first | refine rg 0 (aq60 ?_) | (refine rg 2 ?_; refine oMv ?_; (first | refine sops_lcall (c5) (fun i => i) (fun i => i) (fun _ => false) (.free rfl rfl) rfl rfl rfl (by first | ((repeat' (first | exact .nil | refine .cons rfl rfl rfl ?_ | refine .vw rfl (by first | exact .t _ | exact .own rfl (by rfl) | exact .nil _ | exact .emp _ | exact .fn _) ?_)) <;> fail) | fail) (.cons rfl rfl .nil) (.cons rfl rfl (.cons rfl rfl (.cons rfl rfl .nil))) rfl rfl (fun _ h => Bool.noConfusion h) ?_ | refine oC (c1) rfl (ac .nil) ?_); refine aq27 ?_; refine sal str65 ?_; refine aq58 ?_) | refine rg 3 (aq21 ?_) | (refine aq61 ?_; (first | refine dC (c1) rfl (ac (ac .nil)) ?_ | refine dC (c2) rfl (ac (ac .nil)) ?_); refine aq62 ?_) | refine rg 6 (aq21 ?_) | (refine rg 7 (aq15 ?_); (refine sops_lcall (c5) (fun i => i) (fun i => i) (fun _ => false) (.free rfl rfl) rfl rfl rfl (by ((repeat' (first | exact .nil | refine .cons rfl rfl rfl ?_)) <;> fail)) (.cons rfl rfl .nil) (.cons rfl rfl (.cons rfl rfl (.cons rfl rfl .nil))) rfl rfl (fun _ h => Bool.noConfusion h) ?_); refine oN ?_) | refine gc ?_ | refine ct ?_ | refine cf ?_ | refine sc ?_ ?_ <;> intro hc | refine retl (by exact .inr rfl) rfl .nil ?_ rfl (.cons rfl (by rfl) rfl .nil) (.cons rfl (by rfl) (.cons rfl (by rfl) (.cons rfl (by rfl) .nil))))
        rfl
def linesT : List T := [.clo 98 [], .clo 99 [], .v .nilFunc, .clo 100 [], .v .nilFunc, .clo 101 [], .clo 101 []]
theorem bldLines : bldT Tryz.prog 108 [(0, .clo 98 []), (1, .clo 99 []), (3, .clo 100 []), (5, .clo 101 []), (6, .clo 101 [])] = some linesT := by kernel_rfl
theorem zeroLines : zeroOk Tryz.prog 108 = true := by kernel_rfl
theorem zeroLines' : (Tryz.prog.info? 108).bind (·.zero) = some (.agg #[.nilFunc, .nilFunc, .nilFunc, .nilFunc, .nilFunc, .nilFunc, .nilFunc]) := by kernel_rfl
theorem eltLines : elt1 Tryz.prog 108 = some (7, 1) := by kernel_rfl
set_option maxRecDepth 100000 in
theorem lines_ : PCalls Tryz.prog 69 [] (.agg linesT) := by
  refine pcalls_of Tryz.func69 rfl rfl Tryz.ntmps69 rfl ?_
  repeat' (first | (refine rg 0 ?_; refine sops_alloc_arr (n := 7) (.free rfl rfl) rfl rfl rfl zeroLines' rfl rfl rfl ?_; refine oN ?_) | (refine rg 1 ?_; (refine sp (po_build rfl (.cons rfl (.fn _) (.cons rfl (.fn _) (.cons rfl (.fn _) (.cons rfl (.fn _) (.cons rfl (.fn _) .nil))))) zeroLines bldLines) ?_); refine aq8 ?_) | refine gc ?_ | refine ct ?_ | refine cf ?_ | refine sc ?_ ?_ <;> intro hc | refine rq rfl (.cell rfl rfl (tyT rfl) (vc (vc (vc (vc (vc (vc (vc .nil))))))) rfl .nil) ?_)
  rfl
end Go.Proofs.YtloippgblkoemaaGreatDoor.Rq

/- The reader of messages: a byte of a line, walked. -/
namespace Go.Proofs.YtloippgblkoemaaGreatDoor.Rq
set_option linter.unusedVariables false
set_option linter.unusedSimpArgs false
open Go.RowKit Mem Sim Opn Hd Str
theorem take_last {l : List UInt8} (h : 0 < l.length) : l.getLast? = some (l[l.length - 1]'(by omega)) := by
  rw [List.getLast?_eq_getElem?, List.getElem?_eq_getElem (by omega)]
theorem crP_pos {l : List UInt8} (h : 0 < l.length) : crP l = decide ((l[l.length - 1]'(by omega)).toNat = 13) := by
  unfold crP; rw [take_last h]
theorem dropLast_map (l : List UInt8) : (l.map byteT).take (l.length - 1) = l.dropLast.map byteT := by
  rw [← List.map_take, List.dropLast_eq_take]
theorem byt23' : byE Tryz.prog 23 = some 5 := by kernel_rfl
theorem vws_take {ow : List (Nat × Own)} {i n : Nat} {e : TypeId} {sz : Nat} {rows rows' : List (List T)} (h : get ow i = some ⟨e, sz, rows⟩) (hr : rows = rows') (hn : n = rows'.length) : VwS ow (.own i n) (.sl sz rows') := .own (by rw [h, hr]) hn
def LineP (r : PRd) : Prop := r.phase = 0 ∨ r.phase = 1 ∨ r.phase = 3 ∨ r.phase = 5 ∨ r.phase = 6
structure RdOk (r : PRd) : Prop where
  hn : r.raw.heads.length ≤ 1000
  hh : ∀ h ∈ r.raw.heads, okHead h
  ho : r.out.length ≤ 1000000
  hl : r.line.length ≤ 1000000
  hb : r.raw.body.length ≤ 1000000
theorem ne13 (c : UInt8) : (c.toNat = 13 ∧ (!decide ((c.toNat : Int) = 13)) = false) ∨ (c.toNat ≠ 13 ∧ (!decide ((c.toNat : Int) = 13)) = true) := by
  by_cases h : c.toNat = 13
  · exact .inl ⟨h, by rw [decide_eq_true (by omega)]; rfl⟩
  · exact .inr ⟨h, by rw [decide_eq_false (by omega)]; rfl⟩
set_option maxRecDepth 100000 in
set_option maxHeartbeats 4000000 in
theorem take_ (r : PRd) (hp : LineP r) (hr : RdOk r) (c : UInt8) : LCalls Tryz.prog 43 [.bp 2000 0, .t (.v (.int .u8 (c.toNat : Int)))] [(2000, rdA r)] (rdO r) (.tu []) [(2000, rdA (takeP r c))] (rdO (takeP r c)) := by
  obtain ⟨hn, hh, ho, hl, hbd⟩ := hr
  have hml : (r.line.map byteT).length = r.line.length := List.length_map _
  have hb : ((r.line.map byteT).length + 1) * 1 ≤ 140737488355328 := by omega
  have hm : (r.line.map byteT).length + 1 ≤ maxLen := by unfold maxLen; omega
  have hmx : ((r.line.map byteT).length : Int) ≤ 1000000 := by omega
  have f2 := fault_ r 2
  have f6 := fault_ r 6
  have hA : rdA { r with line := r.line ++ [c] } = [.t (.v (.int .i64 r.phase)), .own 1001 (r.line.map byteT ++ [byteT c]).length, .t (.v (.string r.raw.start)), .t (headsT r.raw.heads), .own 1002 (r.raw.body.map byteT).length, .t (.v (.int .i64 r.left)), .t (.v (.int .i64 r.err)), .own 1003 (r.out.map rawT).length] := by
    unfold rdA; rw [List.map_append]; rfl
  have hO : rdO { r with line := r.line ++ [c] } = [(1001, ⟨5, 1, r.line.map byteT ++ [byteT c]⟩), (1002, ⟨5, 1, r.raw.body.map byteT⟩), (1003, ⟨25, 3, r.out.map rawT⟩)] := by
    unfold rdO; rw [List.map_append]; rfl
  unfold takeP
  refine lcalls_of Tryz.func43 rfl rfl Tryz.ntmps43 rfl ?_
  by_cases h0 : r.line.length = 0
  · have hcr : crP r.line = false := by rw [List.length_eq_zero_iff.1 h0]; rfl
    rw [hcr]
    by_cases hc : c.toNat = 10
    · rw [if_neg (by simp), if_pos (.inl hc)]
      repeat' (first | (refine rg 0 ?_; refine oMv ?_; refine sp (po_nilcheck rfl rfl) ?_; refine oFb ?_; refine oFb ?_; refine oLb ?_; refine sp (po_len_own rfl rfl (tyS rfl)) ?_; refine oAs ?_; refine oN ?_) | (refine rg 1 ?_; refine oMv ?_; refine oCm ?_; refine oMv ?_; (first | refine oMv ?_ | refine oK ?_) <;> (first | refine sp (po_nilcheck rfl rfl) ?_ | refine oK ?_) <;> (first | refine oFb ?_ | refine oFd ?_ | refine sp (fdo rfl) ?_ | refine oK ?_) <;> (first | refine oFb ?_ | refine oFd ?_ | refine sp (fdo rfl) ?_ | refine oK ?_) <;> (first | refine oLb ?_ | refine oLd ?_ | refine sp (ldo rfl) ?_ | refine oK ?_) <;> (first | refine oMv ?_ | refine oK ?_) <;> (first | refine sp (po_dec rfl rfl rfl (by omega)) ?_ | refine sp (po_arith rfl rfl rfl (ar_sub (by first | rfl | (refine wrap_i64 ?_; omega)) rfl)) ?_ | refine oK ?_) <;> (first | refine sp (ixo rfl) ?_ | refine sp (pix rfl (tyS rfl)) ?_ | refine oK ?_) <;> (first | refine oLb ?_ | refine oLd ?_ | refine sp (ldo rfl) ?_ | refine oK ?_) <;> (first | refine oCm ?_ | refine oK ?_) <;> (first | refine oPt ?_ | refine oPf ?_) <;> refine oAs ?_ <;> refine oN ?_) | (refine rg 3 ?_; refine oMv ?_; refine oCm ?_; refine oMv ?_; refine oMv ?_ <;> refine oPt ?_ <;> refine oAs ?_ <;> refine oN ?_) | (refine rg 7 ?_; refine oMv ?_; refine oCm ?_; refine oMv ?_; (first | refine oMv ?_ | refine oK ?_) <;> refine oPt ?_ <;> refine oAs ?_ <;> refine oN ?_) | (refine rg 8 ?_; refine oMv ?_; refine sops_lcall (f2) (fun i => i) (fun i => i) (fun _ => false) (.free rfl rfl) rfl rfl rfl (by ((repeat' (first | exact .nil | refine .cons rfl rfl rfl ?_)) <;> fail)) (.cons rfl rfl .nil) (.cons rfl rfl (.cons rfl rfl (.cons rfl rfl .nil))) rfl rfl (fun _ h => Bool.noConfusion h) ?_; refine oN ?_) | refine gc ?_ | refine ct ?_ | refine cf ?_ | refine swp_cond rfl (fun hc => ?_) (fun hc => ?_) | refine retl (by first | exact .inr rfl | exact .inl rfl) rfl .nil ?_ rfl (.cons rfl (by rfl) rfl .nil) (.cons rfl (by rfl) (.cons rfl (by rfl) (.cons rfl (by rfl) .nil))))
      rfl
    · rw [if_neg (by simp), if_neg (by simp [hc]), if_neg (by omega), hA, hO]
      rcases ne13 c with ⟨h13, e13⟩ | ⟨h13, e13⟩
      · repeat' (first | (refine rg 0 ?_; refine oMv ?_; refine sp (po_nilcheck rfl rfl) ?_; refine oFb ?_; refine oFb ?_; refine oLb ?_; refine sp (po_len_own rfl rfl (tyS rfl)) ?_; refine oAs ?_; refine oN ?_) | (refine rg 1 ?_; refine oMv ?_; refine oCm ?_; refine oMv ?_; (first | refine oMv ?_ | refine oK ?_) <;> (first | refine sp (po_nilcheck rfl rfl) ?_ | refine oK ?_) <;> (first | refine oFb ?_ | refine oFd ?_ | refine sp (fdo rfl) ?_ | refine oK ?_) <;> (first | refine oFb ?_ | refine oFd ?_ | refine sp (fdo rfl) ?_ | refine oK ?_) <;> (first | refine oLb ?_ | refine oLd ?_ | refine sp (ldo rfl) ?_ | refine oK ?_) <;> (first | refine oMv ?_ | refine oK ?_) <;> (first | refine sp (po_dec rfl rfl rfl (by omega)) ?_ | refine sp (po_arith rfl rfl rfl (ar_sub (by first | rfl | (refine wrap_i64 ?_; omega)) rfl)) ?_ | refine oK ?_) <;> (first | refine sp (ixo rfl) ?_ | refine sp (pix rfl (tyS rfl)) ?_ | refine oK ?_) <;> (first | refine oLb ?_ | refine oLd ?_ | refine sp (ldo rfl) ?_ | refine oK ?_) <;> (first | refine oCm ?_ | refine oK ?_) <;> (first | refine oPt ?_ | refine oPf ?_) <;> refine oAs ?_ <;> refine oN ?_) | (refine rg 3 ?_; refine oMv ?_; refine oCm ?_; refine oMv ?_; (first | refine oMv ?_ | refine oK ?_) <;> (first | refine oPt ?_ | refine oPf ?_) <;> refine oAs ?_ <;> refine oN ?_) | (refine rg 7 ?_; refine oMv ?_; refine oCm ?_; refine oMv ?_; refine oMv ?_ <;> (first | refine oPt ?_ | refine oPf ?_) <;> refine oAs ?_ <;> refine oN ?_) | (refine rg 9 ?_; refine oMv ?_; refine oCm ?_; refine oMv ?_; (first | refine oMv ?_ | refine oK ?_) <;> (first | refine oCm ?_ | refine oK ?_) <;> (first | refine oPt ?_ | refine oPf ?_) <;> refine oAs ?_ <;> refine oN ?_) | (refine rg 2 ?_; refine oMv ?_; refine oMv ?_; refine sp (po_nilcheck rfl rfl) ?_; refine oFb ?_; refine oFb ?_; refine oLb ?_; refine oMv ?_; refine sp (po_buildSlice rfl (tyE rfl) (dc (.nil _)) rfl rfl rfl) ?_; refine sap rfl (tyE rfl) ?_; refine sp (po_nilcheck rfl rfl) ?_; refine oFb ?_; refine oFb ?_; refine oS ?_; refine oN ?_) | refine gc ?_ | refine ct ?_ | refine cf ?_ | refine swp_cond rfl (fun hc => ?_) (fun hc => ?_) | refine retl (by first | exact .inr rfl | exact .inl rfl) rfl .nil ?_ rfl (.cons rfl (by rfl) rfl .nil) (.cons rfl (by rfl) (.cons rfl (by rfl) (.cons rfl (by rfl) .nil))))
        rfl
      · repeat' (first | (refine rg 0 ?_; refine oMv ?_; refine sp (po_nilcheck rfl rfl) ?_; refine oFb ?_; refine oFb ?_; refine oLb ?_; refine sp (po_len_own rfl rfl (tyS rfl)) ?_; refine oAs ?_; refine oN ?_) | (refine rg 1 ?_; refine oMv ?_; refine oCm ?_; refine oMv ?_; (first | refine oMv ?_ | refine oK ?_) <;> (first | refine sp (po_nilcheck rfl rfl) ?_ | refine oK ?_) <;> (first | refine oFb ?_ | refine oFd ?_ | refine sp (fdo rfl) ?_ | refine oK ?_) <;> (first | refine oFb ?_ | refine oFd ?_ | refine sp (fdo rfl) ?_ | refine oK ?_) <;> (first | refine oLb ?_ | refine oLd ?_ | refine sp (ldo rfl) ?_ | refine oK ?_) <;> (first | refine oMv ?_ | refine oK ?_) <;> (first | refine sp (po_dec rfl rfl rfl (by omega)) ?_ | refine sp (po_arith rfl rfl rfl (ar_sub (by first | rfl | (refine wrap_i64 ?_; omega)) rfl)) ?_ | refine oK ?_) <;> (first | refine sp (ixo rfl) ?_ | refine sp (pix rfl (tyS rfl)) ?_ | refine oK ?_) <;> (first | refine oLb ?_ | refine oLd ?_ | refine sp (ldo rfl) ?_ | refine oK ?_) <;> (first | refine oCm ?_ | refine oK ?_) <;> (first | refine oPt ?_ | refine oPf ?_) <;> refine oAs ?_ <;> refine oN ?_) | (refine rg 3 ?_; refine oMv ?_; refine oCm ?_; refine oMv ?_; (first | refine oMv ?_ | refine oK ?_) <;> (first | refine oPt ?_ | refine oPf ?_) <;> refine oAs ?_ <;> refine oN ?_) | (refine rg 7 ?_; refine oMv ?_; refine oCm ?_; refine oMv ?_; refine oMv ?_ <;> (first | refine oPt ?_ | refine oPf ?_) <;> refine oAs ?_ <;> refine oN ?_) | (refine rg 9 ?_; refine oMv ?_; refine oCm ?_; refine oMv ?_; refine oMv ?_ <;> refine oCm ?_ <;> refine oPt ?_ <;> refine oAs ?_ <;> refine oN ?_) | (refine rg 2 ?_; refine oMv ?_; refine oMv ?_; refine sp (po_nilcheck rfl rfl) ?_; refine oFb ?_; refine oFb ?_; refine oLb ?_; refine oMv ?_; refine sp (po_buildSlice rfl (tyE rfl) (dc (.nil _)) rfl rfl rfl) ?_; refine sap rfl (tyE rfl) ?_; refine sp (po_nilcheck rfl rfl) ?_; refine oFb ?_; refine oFb ?_; refine oS ?_; refine oN ?_) | refine gc ?_ | refine ct ?_ | refine cf ?_ | refine swp_cond rfl (fun hc => ?_) (fun hc => ?_) | refine retl (by first | exact .inr rfl | exact .inl rfl) rfl .nil ?_ rfl (.cons rfl (by rfl) rfl .nil) (.cons rfl (by rfl) (.cons rfl (by rfl) (.cons rfl (by rfl) .nil))))
        rfl
  · have hpos : 0 < r.line.length := by omega
    have hcr := crP_pos hpos
    rw [hcr]
    have hat : (r.line.map byteT)[(r.line.map byteT).length - 1]? = some (byteT (r.line[r.line.length - 1]'(by omega))) := by
      rw [hml]; exact map_at (by omega)
    generalize (r.line[r.line.length - 1]'(by omega)) = b at hat
    by_cases hb13 : b.toNat = 13
    · rw [decide_eq_true hb13]
      by_cases hc : c.toNat = 10
      · rw [if_pos ⟨hc, rfl⟩]
        have hdl : (r.line.map byteT).take ((r.line.map byteT).length - 1) = r.line.dropLast.map byteT := by rw [hml]; exact dropLast_map r.line
        have hdn : (r.line.map byteT).length - 1 = (r.line.dropLast.map byteT).length := by simp
        repeat' (first | (refine rg 0 ?_; refine oMv ?_; refine sp (po_nilcheck rfl rfl) ?_; refine oFb ?_; refine oFb ?_; refine oLb ?_; refine sp (po_len_own rfl rfl (tyS rfl)) ?_; refine oAs ?_; refine oN ?_) | (refine rg 1 ?_; refine oMv ?_; refine oCm ?_; refine oMv ?_; refine oMv ?_ <;> refine sp (po_nilcheck rfl rfl) ?_ <;> refine oFb ?_ <;> refine oFb ?_ <;> refine oLb ?_ <;> refine oMv ?_ <;> refine sp (po_dec rfl rfl rfl (by omega)) ?_ <;> refine sp (ixo rfl) ?_ <;> (first | refine oLb ?_ | refine oLd ?_ | refine sp (ldo rfl) ?_) <;> refine oCm ?_ <;> refine oPt ?_ <;> refine oAs ?_ <;> refine oN ?_) | (refine rg 3 ?_; refine oMv ?_; refine oCm ?_; refine oMv ?_; refine oMv ?_ <;> refine oPt ?_ <;> refine oAs ?_ <;> refine oN ?_) | (refine rg 4 ?_; refine oMv ?_; refine sp (po_nilcheck rfl rfl) ?_; refine oFb ?_; refine oFb ?_; refine oLb ?_; refine oMv ?_; refine sp (po_dec rfl rfl rfl (by omega)) ?_; (first | refine sp (po_slice_sfx rfl rfl rfl (by rfl) (tyS rfl) rfl (by omega) (by omega)) ?_ | refine sops_shrink (by rfl) (by rfl) (.free rfl rfl) rfl rfl rfl rfl rfl (by rfl) (tyS rfl) rfl (by omega) ?_); refine sp (po_bytes_str (l := r.line.dropLast) rfl rfl (vws_take rfl hdl hdn) byt23' rfl) ?_; refine oAs ?_; refine oN ?_) | (refine rg 5 ?_; refine oMv ?_; refine sp (po_nilcheck rfl rfl) ?_; refine oFb ?_; refine oFb ?_; refine oS ?_; refine oN ?_) | refine gc ?_ | refine ct ?_ | refine cf ?_ | refine swp_cond rfl (fun hc => ?_) (fun hc => ?_) | refine rq rfl .nil ?_)
        have hp0 : LineP { r with line := [] } := hp
        have hok0 : RdOk { r with line := [] } := ⟨hn, hh, ho, Nat.zero_le _, hbd⟩
        refine swp_weak (st' := ⟨[(0, .bp 2000 0), (6, .t (.v (.string (bs r.line.dropLast))))], [(2000, rdA { r with line := [] })], rdO { r with line := [] }⟩) ((weak_ren 1001 1004 rfl rfl rfl rfl rfl rfl rfl).trans ((weak_own0_bx 5 1 (i := 2000) (j := 1) (q := 1001) rfl rfl rfl).trans (weak_sub (.cons rfl rfl rfl (.cons rfl rfl rfl .nil)) (.cons rfl rfl rfl .nil) (.cons rfl rfl (.cons rfl rfl (.cons rfl rfl .nil)))))) ?_
        have hsz : (bs r.line.dropLast).size ≤ maxLen := by unfold maxLen; rw [bs_size, List.length_dropLast]; omega
        generalize bs r.line.dropLast = s at *
        generalize ({ r with line := [] } : PRd) = q at *
        obtain ⟨hn, hh, ho, hl, hbd⟩ := hok0
        have cl := lines_
        unfold linesT at cl
        unfold lineP
        rcases hp0 with h | h | h | h | h
        · rw [if_pos h]
          have c0 := start_ q s
          repeat' (first | (refine swp_draw (id := 6) 9 mixed (by kernel_rfl) (by kernel_rfl) ?_; refine dC (cl) rfl .nil ?_; refine dMv ?_; refine dp (po_nilcheck rfl rfl) ?_; refine dFb ?_; refine dFb ?_; refine dLb ?_; refine dp (po_elt (k := 0) rfl rfl rfl eltLines (by omega) (by omega) rfl) ?_; refine dMv ?_; refine dMv ?_; refine dN ?_; (refine sops_lcall_tclo (args := [_, _]) (caps := []) (c0) (fun i => i) (fun i => i) (fun _ => false) (.free rfl rfl) rfl rfl rfl rfl (by ((repeat' (first | exact .nil | refine .cons rfl rfl rfl ?_)) <;> fail)) (.cons rfl rfl .nil) (.cons rfl rfl (.cons rfl rfl (.cons rfl rfl .nil))) rfl rfl (fun _ h => Bool.noConfusion h) ?_); refine oN ?_) | refine gc ?_ | refine ct ?_ | refine cf ?_ | refine swp_cond rfl (fun hc => ?_) (fun hc => ?_) | refine retl (by first | exact .inr rfl | exact .inl rfl) rfl .nil ?_ rfl (.cons rfl (by rfl) rfl .nil) (.cons rfl (by rfl) (.cons rfl (by rfl) (.cons rfl (by rfl) .nil))))
          rfl
        · rw [if_neg (by omega), if_pos h]
          have c0 := header_ q hn hh ho s hsz
          repeat' (first | (refine swp_draw (id := 6) 9 mixed (by kernel_rfl) (by kernel_rfl) ?_; refine dC (cl) rfl .nil ?_; refine dMv ?_; refine dp (po_nilcheck rfl rfl) ?_; refine dFb ?_; refine dFb ?_; refine dLb ?_; refine dp (po_elt (k := 1) rfl rfl rfl eltLines (by omega) (by omega) rfl) ?_; refine dMv ?_; refine dMv ?_; refine dN ?_; (refine sops_lcall_tclo (args := [_, _]) (caps := []) (c0) (fun i => i) (fun i => i) (fun _ => false) (.free rfl rfl) rfl rfl rfl rfl (by ((repeat' (first | exact .nil | refine .cons rfl rfl rfl ?_)) <;> fail)) (.cons rfl rfl .nil) (.cons rfl rfl (.cons rfl rfl (.cons rfl rfl .nil))) rfl rfl (fun _ h => Bool.noConfusion h) ?_); refine oN ?_) | refine gc ?_ | refine ct ?_ | refine cf ?_ | refine swp_cond rfl (fun hc => ?_) (fun hc => ?_) | refine retl (by first | exact .inr rfl | exact .inl rfl) rfl .nil ?_ rfl (.cons rfl (by rfl) rfl .nil) (.cons rfl (by rfl) (.cons rfl (by rfl) (.cons rfl (by rfl) .nil))))
          rfl
        · rw [if_neg (by omega), if_neg (by omega), if_pos h]
          have c0 := chunk_ q hbd s hsz
          repeat' (first | (refine swp_draw (id := 6) 9 mixed (by kernel_rfl) (by kernel_rfl) ?_; refine dC (cl) rfl .nil ?_; refine dMv ?_; refine dp (po_nilcheck rfl rfl) ?_; refine dFb ?_; refine dFb ?_; refine dLb ?_; refine dp (po_elt (k := 3) rfl rfl rfl eltLines (by omega) (by omega) rfl) ?_; refine dMv ?_; refine dMv ?_; refine dN ?_; (refine sops_lcall_tclo (args := [_, _]) (caps := []) (c0) (fun i => i) (fun i => i) (fun _ => false) (.free rfl rfl) rfl rfl rfl rfl (by ((repeat' (first | exact .nil | refine .cons rfl rfl rfl ?_)) <;> fail)) (.cons rfl rfl .nil) (.cons rfl rfl (.cons rfl rfl (.cons rfl rfl .nil))) rfl rfl (fun _ h => Bool.noConfusion h) ?_); refine oN ?_) | refine gc ?_ | refine ct ?_ | refine cf ?_ | refine swp_cond rfl (fun hc => ?_) (fun hc => ?_) | refine retl (by first | exact .inr rfl | exact .inl rfl) rfl .nil ?_ rfl (.cons rfl (by rfl) rfl .nil) (.cons rfl (by rfl) (.cons rfl (by rfl) (.cons rfl (by rfl) .nil))))
          rfl
        · rw [if_neg (by omega), if_neg (by omega), if_neg (by omega)]
          have c0 := ended_ q ho s
          repeat' (first | (refine swp_draw (id := 6) 9 mixed (by kernel_rfl) (by kernel_rfl) ?_; refine dC (cl) rfl .nil ?_; refine dMv ?_; refine dp (po_nilcheck rfl rfl) ?_; refine dFb ?_; refine dFb ?_; refine dLb ?_; refine dp (po_elt (k := 5) rfl rfl rfl eltLines (by omega) (by omega) rfl) ?_; refine dMv ?_; refine dMv ?_; refine dN ?_; (refine sops_lcall_tclo (args := [_, _]) (caps := []) (c0) (fun i => i) (fun i => i) (fun _ => false) (.free rfl rfl) rfl rfl rfl rfl (by ((repeat' (first | exact .nil | refine .cons rfl rfl rfl ?_)) <;> fail)) (.cons rfl rfl .nil) (.cons rfl rfl (.cons rfl rfl (.cons rfl rfl .nil))) rfl rfl (fun _ h => Bool.noConfusion h) ?_); refine oN ?_) | refine gc ?_ | refine ct ?_ | refine cf ?_ | refine swp_cond rfl (fun hc => ?_) (fun hc => ?_) | refine retl (by first | exact .inr rfl | exact .inl rfl) rfl .nil ?_ rfl (.cons rfl (by rfl) rfl .nil) (.cons rfl (by rfl) (.cons rfl (by rfl) (.cons rfl (by rfl) .nil))))
          rfl
        · rw [if_neg (by omega), if_neg (by omega), if_neg (by omega)]
          have c0 := ended_ q ho s
          repeat' (first | (refine swp_draw (id := 6) 9 mixed (by kernel_rfl) (by kernel_rfl) ?_; refine dC (cl) rfl .nil ?_; refine dMv ?_; refine dp (po_nilcheck rfl rfl) ?_; refine dFb ?_; refine dFb ?_; refine dLb ?_; refine dp (po_elt (k := 6) rfl rfl rfl eltLines (by omega) (by omega) rfl) ?_; refine dMv ?_; refine dMv ?_; refine dN ?_; (refine sops_lcall_tclo (args := [_, _]) (caps := []) (c0) (fun i => i) (fun i => i) (fun _ => false) (.free rfl rfl) rfl rfl rfl rfl (by ((repeat' (first | exact .nil | refine .cons rfl rfl rfl ?_)) <;> fail)) (.cons rfl rfl .nil) (.cons rfl rfl (.cons rfl rfl (.cons rfl rfl .nil))) rfl rfl (fun _ h => Bool.noConfusion h) ?_); refine oN ?_) | refine gc ?_ | refine ct ?_ | refine cf ?_ | refine swp_cond rfl (fun hc => ?_) (fun hc => ?_) | refine retl (by first | exact .inr rfl | exact .inl rfl) rfl .nil ?_ rfl (.cons rfl (by rfl) rfl .nil) (.cons rfl (by rfl) (.cons rfl (by rfl) (.cons rfl (by rfl) .nil))))
          rfl
      · rw [if_neg (by simp [hc]), if_pos (.inr rfl)]
        repeat' (first | (refine rg 0 ?_; refine oMv ?_; refine sp (po_nilcheck rfl rfl) ?_; refine oFb ?_; refine oFb ?_; refine oLb ?_; refine sp (po_len_own rfl rfl (tyS rfl)) ?_; refine oAs ?_; refine oN ?_) | (refine rg 1 ?_; refine oMv ?_; refine oCm ?_; refine oMv ?_; refine oMv ?_ <;> refine sp (po_nilcheck rfl rfl) ?_ <;> refine oFb ?_ <;> refine oFb ?_ <;> refine oLb ?_ <;> refine oMv ?_ <;> refine sp (po_dec rfl rfl rfl (by omega)) ?_ <;> refine sp (ixo rfl) ?_ <;> (first | refine oLb ?_ | refine oLd ?_ | refine sp (ldo rfl) ?_) <;> refine oCm ?_ <;> refine oPt ?_ <;> refine oAs ?_ <;> refine oN ?_) | (refine rg 3 ?_; refine oMv ?_; refine oCm ?_; refine oMv ?_; (first | refine oMv ?_ | refine oK ?_) <;> (first | refine oPt ?_ | refine oPf ?_) <;> refine oAs ?_ <;> refine oN ?_) | (refine rg 7 ?_; refine oMv ?_; refine oCm ?_; refine oMv ?_; refine oMv ?_ <;> (first | refine oPt ?_ | refine oPf ?_) <;> refine oAs ?_ <;> refine oN ?_) | (refine rg 8 ?_; refine oMv ?_; refine sops_lcall (f2) (fun i => i) (fun i => i) (fun _ => false) (.free rfl rfl) rfl rfl rfl (by ((repeat' (first | exact .nil | refine .cons rfl rfl rfl ?_)) <;> fail)) (.cons rfl rfl .nil) (.cons rfl rfl (.cons rfl rfl (.cons rfl rfl .nil))) rfl rfl (fun _ h => Bool.noConfusion h) ?_; refine oN ?_) | refine gc ?_ | refine ct ?_ | refine cf ?_ | refine swp_cond rfl (fun hc => ?_) (fun hc => ?_) | refine retl (by first | exact .inr rfl | exact .inl rfl) rfl .nil ?_ rfl (.cons rfl (by rfl) rfl .nil) (.cons rfl (by rfl) (.cons rfl (by rfl) (.cons rfl (by rfl) .nil))))
        rfl
    · rw [decide_eq_false hb13]
      by_cases hc : c.toNat = 10
      · rw [if_neg (by simp), if_pos (.inl hc)]
        repeat' (first | (refine rg 0 ?_; refine oMv ?_; refine sp (po_nilcheck rfl rfl) ?_; refine oFb ?_; refine oFb ?_; refine oLb ?_; refine sp (po_len_own rfl rfl (tyS rfl)) ?_; refine oAs ?_; refine oN ?_) | (refine rg 1 ?_; refine oMv ?_; refine oCm ?_; refine oMv ?_; refine oMv ?_ <;> refine sp (po_nilcheck rfl rfl) ?_ <;> refine oFb ?_ <;> refine oFb ?_ <;> refine oLb ?_ <;> refine oMv ?_ <;> refine sp (po_dec rfl rfl rfl (by omega)) ?_ <;> refine sp (ixo rfl) ?_ <;> (first | refine oLb ?_ | refine oLd ?_ | refine sp (ldo rfl) ?_) <;> refine oCm ?_ <;> refine oPt ?_ <;> refine oAs ?_ <;> refine oN ?_) | (refine rg 3 ?_; refine oMv ?_; refine oCm ?_; refine oMv ?_; refine oMv ?_ <;> refine oPt ?_ <;> refine oAs ?_ <;> refine oN ?_) | (refine rg 7 ?_; refine oMv ?_; refine oCm ?_; refine oMv ?_; (first | refine oMv ?_ | refine oK ?_) <;> refine oPt ?_ <;> refine oAs ?_ <;> refine oN ?_) | (refine rg 8 ?_; refine oMv ?_; refine sops_lcall (f2) (fun i => i) (fun i => i) (fun _ => false) (.free rfl rfl) rfl rfl rfl (by ((repeat' (first | exact .nil | refine .cons rfl rfl rfl ?_)) <;> fail)) (.cons rfl rfl .nil) (.cons rfl rfl (.cons rfl rfl (.cons rfl rfl .nil))) rfl rfl (fun _ h => Bool.noConfusion h) ?_; refine oN ?_) | refine gc ?_ | refine ct ?_ | refine cf ?_ | refine swp_cond rfl (fun hc => ?_) (fun hc => ?_) | refine retl (by first | exact .inr rfl | exact .inl rfl) rfl .nil ?_ rfl (.cons rfl (by rfl) rfl .nil) (.cons rfl (by rfl) (.cons rfl (by rfl) (.cons rfl (by rfl) .nil))))
        rfl
      · rw [if_neg (by simp), if_neg (by simp [hc])]
        by_cases h6 : c.toNat ≠ 13 ∧ 578 ≤ r.line.length
        · rw [if_pos h6]
          obtain ⟨h6, h7⟩ := h6
          have e13 : (!decide ((c.toNat : Int) = 13)) = true := by rw [decide_eq_false (by omega)]; rfl
          repeat' (first | (refine rg 0 ?_; refine oMv ?_; refine sp (po_nilcheck rfl rfl) ?_; refine oFb ?_; refine oFb ?_; refine oLb ?_; refine sp (po_len_own rfl rfl (tyS rfl)) ?_; refine oAs ?_; refine oN ?_) | (refine rg 1 ?_; refine oMv ?_; refine oCm ?_; refine oMv ?_; refine oMv ?_ <;> refine sp (po_nilcheck rfl rfl) ?_ <;> refine oFb ?_ <;> refine oFb ?_ <;> refine oLb ?_ <;> refine oMv ?_ <;> refine sp (po_dec rfl rfl rfl (by omega)) ?_ <;> refine sp (ixo rfl) ?_ <;> (first | refine oLb ?_ | refine oLd ?_ | refine sp (ldo rfl) ?_) <;> refine oCm ?_ <;> refine oPt ?_ <;> refine oAs ?_ <;> refine oN ?_) | (refine rg 3 ?_; refine oMv ?_; refine oCm ?_; refine oMv ?_; (first | refine oMv ?_ | refine oK ?_) <;> (first | refine oPt ?_ | refine oPf ?_) <;> refine oAs ?_ <;> refine oN ?_) | (refine rg 7 ?_; refine oMv ?_; refine oCm ?_; refine oMv ?_; refine oMv ?_ <;> (first | refine oPt ?_ | refine oPf ?_) <;> refine oAs ?_ <;> refine oN ?_) | (refine rg 9 ?_; refine oMv ?_; refine oCm ?_; refine oMv ?_; refine oMv ?_ <;> refine oCm ?_ <;> refine oPt ?_ <;> refine oAs ?_ <;> refine oN ?_) | (refine rg 10 ?_; refine oMv ?_; refine sops_lcall (f6) (fun i => i) (fun i => i) (fun _ => false) (.free rfl rfl) rfl rfl rfl (by ((repeat' (first | exact .nil | refine .cons rfl rfl rfl ?_)) <;> fail)) (.cons rfl rfl .nil) (.cons rfl rfl (.cons rfl rfl (.cons rfl rfl .nil))) rfl rfl (fun _ h => Bool.noConfusion h) ?_; refine oN ?_) | refine gc ?_ | refine ct ?_ | refine cf ?_ | refine swp_cond rfl (fun hc => ?_) (fun hc => ?_) | refine retl (by first | exact .inr rfl | exact .inl rfl) rfl .nil ?_ rfl (.cons rfl (by rfl) rfl .nil) (.cons rfl (by rfl) (.cons rfl (by rfl) (.cons rfl (by rfl) .nil))))
          rfl
        · rw [if_neg h6, hA, hO]
          rcases ne13 c with ⟨h13, e13⟩ | ⟨h13, e13⟩
          · repeat' (first | (refine rg 0 ?_; refine oMv ?_; refine sp (po_nilcheck rfl rfl) ?_; refine oFb ?_; refine oFb ?_; refine oLb ?_; refine sp (po_len_own rfl rfl (tyS rfl)) ?_; refine oAs ?_; refine oN ?_) | (refine rg 1 ?_; refine oMv ?_; refine oCm ?_; refine oMv ?_; refine oMv ?_ <;> refine sp (po_nilcheck rfl rfl) ?_ <;> refine oFb ?_ <;> refine oFb ?_ <;> refine oLb ?_ <;> refine oMv ?_ <;> refine sp (po_dec rfl rfl rfl (by omega)) ?_ <;> refine sp (ixo rfl) ?_ <;> (first | refine oLb ?_ | refine oLd ?_ | refine sp (ldo rfl) ?_) <;> refine oCm ?_ <;> refine oPt ?_ <;> refine oAs ?_ <;> refine oN ?_) | (refine rg 3 ?_; refine oMv ?_; refine oCm ?_; refine oMv ?_; (first | refine oMv ?_ | refine oK ?_) <;> (first | refine oPt ?_ | refine oPf ?_) <;> refine oAs ?_ <;> refine oN ?_) | (refine rg 7 ?_; refine oMv ?_; refine oCm ?_; refine oMv ?_; refine oMv ?_ <;> (first | refine oPt ?_ | refine oPf ?_) <;> refine oAs ?_ <;> refine oN ?_) | (refine rg 9 ?_; refine oMv ?_; refine oCm ?_; refine oMv ?_; (first | refine oMv ?_ | refine oK ?_) <;> (first | refine oCm ?_ | refine oK ?_) <;> (first | refine oPt ?_ | refine oPf ?_) <;> refine oAs ?_ <;> refine oN ?_) | (refine rg 2 ?_; refine oMv ?_; refine oMv ?_; refine sp (po_nilcheck rfl rfl) ?_; refine oFb ?_; refine oFb ?_; refine oLb ?_; refine oMv ?_; refine sp (po_buildSlice rfl (tyE rfl) (dc (.nil _)) rfl rfl rfl) ?_; refine sap rfl (tyE rfl) ?_; refine sp (po_nilcheck rfl rfl) ?_; refine oFb ?_; refine oFb ?_; refine oS ?_; refine oN ?_) | refine gc ?_ | refine ct ?_ | refine cf ?_ | refine swp_cond rfl (fun hc => ?_) (fun hc => ?_) | refine retl (by first | exact .inr rfl | exact .inl rfl) rfl .nil ?_ rfl (.cons rfl (by rfl) rfl .nil) (.cons rfl (by rfl) (.cons rfl (by rfl) (.cons rfl (by rfl) .nil))))
            rfl
          · have h7 : r.line.length < 578 := by omega
            repeat' (first | (refine rg 0 ?_; refine oMv ?_; refine sp (po_nilcheck rfl rfl) ?_; refine oFb ?_; refine oFb ?_; refine oLb ?_; refine sp (po_len_own rfl rfl (tyS rfl)) ?_; refine oAs ?_; refine oN ?_) | (refine rg 1 ?_; refine oMv ?_; refine oCm ?_; refine oMv ?_; refine oMv ?_ <;> refine sp (po_nilcheck rfl rfl) ?_ <;> refine oFb ?_ <;> refine oFb ?_ <;> refine oLb ?_ <;> refine oMv ?_ <;> refine sp (po_dec rfl rfl rfl (by omega)) ?_ <;> refine sp (ixo rfl) ?_ <;> (first | refine oLb ?_ | refine oLd ?_ | refine sp (ldo rfl) ?_) <;> refine oCm ?_ <;> refine oPt ?_ <;> refine oAs ?_ <;> refine oN ?_) | (refine rg 3 ?_; refine oMv ?_; refine oCm ?_; refine oMv ?_; (first | refine oMv ?_ | refine oK ?_) <;> (first | refine oPt ?_ | refine oPf ?_) <;> refine oAs ?_ <;> refine oN ?_) | (refine rg 7 ?_; refine oMv ?_; refine oCm ?_; refine oMv ?_; refine oMv ?_ <;> (first | refine oPt ?_ | refine oPf ?_) <;> refine oAs ?_ <;> refine oN ?_) | (refine rg 9 ?_; refine oMv ?_; refine oCm ?_; refine oMv ?_; refine oMv ?_ <;> refine oCm ?_ <;> refine oPt ?_ <;> refine oAs ?_ <;> refine oN ?_) | (refine rg 2 ?_; refine oMv ?_; refine oMv ?_; refine sp (po_nilcheck rfl rfl) ?_; refine oFb ?_; refine oFb ?_; refine oLb ?_; refine oMv ?_; refine sp (po_buildSlice rfl (tyE rfl) (dc (.nil _)) rfl rfl rfl) ?_; refine sap rfl (tyE rfl) ?_; refine sp (po_nilcheck rfl rfl) ?_; refine oFb ?_; refine oFb ?_; refine oS ?_; refine oN ?_) | refine gc ?_ | refine ct ?_ | refine cf ?_ | refine swp_cond rfl (fun hc => ?_) (fun hc => ?_) | refine retl (by first | exact .inr rfl | exact .inl rfl) rfl .nil ?_ rfl (.cons rfl (by rfl) rfl .nil) (.cons rfl (by rfl) (.cons rfl (by rfl) (.cons rfl (by rfl) .nil))))
            rfl
end Go.Proofs.YtloippgblkoemaaGreatDoor.Rq
