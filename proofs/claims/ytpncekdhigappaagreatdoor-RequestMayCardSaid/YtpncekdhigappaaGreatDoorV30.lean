/- Merged by bundles.py: SimPath11, SimPath12, SimAn4, SimAn5, SimAn6. -/
import Derived.Test.YtpncekdhigappaaGreatDoorV29
import Derived.Test.YtpncekdhigappaaGreatDoorV13
import Derived.Test.YtpncekdhigappaaGreatDoorV22
/- Targets: the document's answer: split, joined, the same: walks. -/
namespace Go.Proofs.YtpncekdhigappaaGreatDoor.Pth
set_option linter.unusedVariables false
set_option linter.unusedSimpArgs false
open Go.RowKit Mem Sim Opn Str
structure SpX where
  l : List L8
  f : Nat
  i : Nat
def SpS (s : ByteArray) (x : SpX) : St := ⟨[(0, .t (.v (.string s))), (3, .own 103 (x.l.map strT).length), (4, .t (.v (.int .i64 (x.f : Int)))), (5, .t (.v (.int .i64 (x.i : Int))))], [], [(103, ⟨9, 1, x.l.map strT⟩)]⟩
theorem seg_all {s : L8} {f i : Nat} (hf : f ≤ i) (hi : i ≤ s.length) : s.drop f = (s.take i).drop f ++ s.drop i := by
  conv => lhs; rw [← List.take_append_drop i s]
  rw [List.drop_append_of_le_length (by rw [List.length_take]; omega)]
theorem seg_next {s : ByteArray} {f i : Nat} (hf : f ≤ i) (hi : i < s.size) : (s.toList.take (i + 1)).drop f = (s.toList.take i).drop f ++ [s[i]] := by
  have hl := toList_len s
  have h1 : s.toList[i]'(by omega) = s[i] := by
    have := toList_get s i hi
    rw [List.getElem?_eq_getElem (by omega)] at this
    injection this
  rw [List.take_succ_eq_append_getElem (by omega), List.drop_append_of_le_length (by rw [List.length_take]; omega), h1]
set_option maxRecDepth 100000 in
set_option maxHeartbeats 1000000 in
theorem refSplit_ (s : ByteArray) (h0 : 1 ≤ s.size) (hs : s.size ≤ 100000) : PCalls Tryz.prog 113 [.v (.string s)] (.sl 1 ((splL (s.toList.drop 1)).map strT)) := by
  have hl := toList_len s
  refine pcalls_of Tryz.func113 rfl rfl Tryz.ntmps113 rfl ?_
  repeat' (first | refine rg 0 (aq0 ?_) | refine rg 1 (aq0 ?_) | refine rg 2 (aq0 ?_) | refine rg 3 (aq0 ?_) | refine gc ?_ | refine ct ?_ | refine cf ?_ | refine sc ?_ ?_ <;> intro hc | refine rq rfl (rt .nil) ?_)
  refine swp_fam (SpS s) (fun x => 1 ≤ x.f ∧ x.l.length ≤ x.i ∧ x.i ≤ s.size + 1 ∧ ((x.i = s.size + 1 ∧ splL (s.toList.drop 1) = x.l) ∨ (x.f ≤ x.i ∧ x.i ≤ s.size ∧ splL (s.toList.drop 1) = x.l ++ splL (s.toList.drop x.f) ∧ ∀ c ∈ (s.toList.take x.i).drop x.f, c ≠ 47))) (fun x => s.size + 2 - x.i) ⟨[], 1, 1⟩ ?_ ⟨Nat.le_refl _, by simp, by simp only; omega, .inr ⟨Nat.le_refl _, h0, rfl, fun c hc => ?_⟩⟩ ?_
  · refine Weak.trans (weak_own0 (i := 103) 9 1 (s := 3) rfl rfl) ?_
    exact (weak_sub (.cons rfl rfl rfl (.cons rfl rfl rfl (.cons rfl rfl rfl (.cons rfl rfl rfl .nil)))) .nil (.cons rfl rfl .nil))
  · simp at hc
  rintro ⟨l, f, i⟩ ⟨h1, h2, h3, h4⟩
  unfold SpS
  dsimp only at h1 h2 h3 h4 ⊢
  have hm : (l.map strT).length = l.length := List.length_map _
  have hb1 : ((l.map strT).length + 1) * 64 ≤ 140737488355328 := by omega
  have hb2 : (l.map strT).length + 1 ≤ maxLen := by unfold maxLen; omega
  rcases h4 with ⟨h4, h5⟩ | ⟨h4, h5, h6, h7⟩
  · subst h4
    rw [h5]
    have hle : decide (((s.size + 1 : Nat) : Int) ≤ (s.size : Int)) = false := decide_eq_false (by omega)
    repeat' (first | refine fam_ret ?_ | refine fam_exit ?_ | refine rg 4 (aq24 ?_) | refine rg 9 (aq4 ?_) | refine gc ?_ | refine ct ?_ | refine cf ?_ | refine sc ?_ ?_ <;> intro hc | refine rq rfl (rt .nil) ?_)
    rfl
  · have hle : decide ((i : Int) ≤ (s.size : Int)) = true := decide_eq_true (by omega)
    have hex : s.extract f i = bs ((s.toList.take i).drop f) := by
      have := ext_bs s.toList f i
      rwa [toList_bs] at this
    have ha : (l ++ [(s.toList.take i).drop f]).map strT = l.map strT ++ [[T.v (.string (s.extract f i))]] := by rw [List.map_append, hex]; rfl
    by_cases he : i = s.size
    · subst he
      have hd : s.toList.drop f = (s.toList.take s.size).drop f := by rw [List.take_of_length_le (by omega)]
      have hsp : splL (s.toList.drop f) = [(s.toList.take s.size).drop f] := by rw [hd]; exact splL_all _ h7
      rw [hsp] at h6
      have hee : decide ((s.size : Int) = (s.size : Int)) = true := decide_eq_true rfl
      repeat' (first | refine fam_next ⟨l ++ [(s.toList.take s.size).drop f], s.size + 1, s.size + 1⟩ (by simp only; omega) (weak_sub (.cons rfl (by rfl) rfl (.cons rfl (by first | rfl | (((try dsimp only); rw [ha]; try rfl))) rfl (.cons rfl (by rfl) rfl (.cons rfl (by rfl) rfl .nil)))) .nil (.cons rfl (by first | rfl | (((try dsimp only); rw [ha]; try rfl))) .nil)) ⟨by simp only; omega, by simp; omega, by simp only; omega, .inl ⟨rfl, h6⟩⟩ | refine rg 4 (aq24 ?_) | (refine rg 6 ?_; refine oMv ?_; refine oMv ?_; refine sp (po_len_str rfl rfl (tyR rfl)) ?_; refine oCm ?_; refine oMv ?_; (first | refine oMv ?_ | refine oK ?_) <;> (first | refine oMv ?_ | refine oK ?_) <;> (first | refine sp (xist rfl) ?_ | refine oK ?_) <;> (first | refine oCm ?_ | refine oK ?_) <;> refine oPt ?_ <;> refine oN ?_) | refine rg 7 (aq130 ?_) | refine rg 8 (aq3 ?_) | refine rg 5 (aq3 ?_) | refine gc ?_ | refine ct ?_)
    · have hlt : i < s.size := by omega
      have hne : decide ((i : Int) = (s.size : Int)) = false := decide_eq_false (by omega)
      have hall := seg_all (s := s.toList) h4 (by omega)
      rw [tl_drop s hlt] at hall
      by_cases hc : s[i].toNat = 47
      · have hc' : s[i] = 47 := UInt8.toNat_inj.1 hc
        rw [hc'] at hall
        have hsp : splL (s.toList.drop f) = (s.toList.take i).drop f :: splL (s.toList.drop (i + 1)) := by rw [hall]; exact splL_pre _ _ h7
        rw [hsp] at h6
        have hI : 1 ≤ i + 1 ∧ (l ++ [(s.toList.take i).drop f]).length ≤ i + 1 ∧ i + 1 ≤ s.size + 1 ∧ ((i + 1 = s.size + 1 ∧ splL (s.toList.drop 1) = l ++ [(s.toList.take i).drop f]) ∨ (i + 1 ≤ i + 1 ∧ i + 1 ≤ s.size ∧ splL (s.toList.drop 1) = (l ++ [(s.toList.take i).drop f]) ++ splL (s.toList.drop (i + 1)) ∧ ∀ c ∈ (s.toList.take (i + 1)).drop (i + 1), c ≠ 47)) :=
          ⟨by omega, by simp; omega, by omega, .inr ⟨Nat.le_refl _, by omega, by rw [h6]; simp, fun c hc => by rw [List.drop_of_length_le (by rw [List.length_take]; omega)] at hc; cases hc⟩⟩
        repeat' (first | refine fam_next ⟨l ++ [(s.toList.take i).drop f], i + 1, i + 1⟩ (by simp only; omega) (weak_sub (.cons rfl (by rfl) rfl (.cons rfl (by first | rfl | (((try dsimp only); rw [ha]; try rfl))) rfl (.cons rfl (by rfl) rfl (.cons rfl (by rfl) rfl .nil)))) .nil (.cons rfl (by first | rfl | (((try dsimp only); rw [ha]; try rfl))) .nil)) hI | refine rg 4 (aq24 ?_) | refine rg 6 (aq131 ?_) | refine rg 7 (aq130 ?_) | refine rg 8 (aq3 ?_) | refine rg 5 (aq3 ?_) | refine gc ?_ | refine ct ?_)
      · have hc' : s[i] ≠ 47 := fun e => hc (by rw [e]; rfl)
        have hnx := seg_next (s := s) h4 hlt
        repeat' (first | refine fam_next ⟨l, f, i + 1⟩ (by simp only; omega) (weak_sub (.cons rfl rfl rfl (.cons rfl rfl rfl (.cons rfl rfl rfl (.cons rfl rfl rfl .nil)))) .nil (.cons rfl rfl .nil)) ⟨h1, by simp only; omega, by simp only; omega, .inr ⟨by simp only; omega, by simp only; omega, h6, fun c hc => by rw [hnx, List.mem_append] at hc; rcases hc with hc | hc; exact h7 c hc; rw [List.mem_singleton] at hc; rw [hc]; exact hc'⟩⟩ | refine rg 4 (aq24 ?_) | refine rg 6 (aq131 ?_) | refine rg 5 (aq3 ?_) | refine gc ?_ | refine ct ?_ | refine cf ?_)
def jk (l : List L8) (k : Nat) : L8 := (l.take k).flatMap fun s => 47 :: s
theorem jk_succ {l : List L8} {k : Nat} (h : k < l.length) : bs (jk l k) ++ (⟨#[47]⟩ : ByteArray) ++ bs l[k] = bs (jk l (k + 1)) := bs_inj (by
  rw [toList_append, toList_append, bs_toList, bs_toList, bs_toList, show (⟨#[47]⟩ : ByteArray).toList = [47] from bs_toList [47]]
  unfold jk
  rw [List.take_succ_eq_append_getElem h, List.flatMap_append]
  simp)
set_option maxRecDepth 100000 in
set_option maxHeartbeats 1000000 in
theorem refJoin_ (dir : Bool) (l : List L8) (hn : tot l ≤ 1000000) : PCalls Tryz.prog 115 [.v (.bool dir), .sl 1 (l.map strT)] (.v (.string (bs (joinL dir l)))) := by
  have hm : (l.map strT).length = l.length := List.length_map _
  have hl : l.length ≤ 1000000 := by unfold tot at hn; omega
  have hj := fun k => take_flat_len l k
  have hsz : ∀ k, (bs (jk l k)).size ≤ 1000000 := fun k => by rw [bs_size]; have := hj k; unfold jk; omega
  have h47 : (⟨#[47]⟩ : ByteArray).size = 1 := rfl
  refine pcalls_of Tryz.func115 rfl rfl Tryz.ntmps115 rfl ?_
  rw [joinL_R]
  repeat' (first | refine rg 0 (aq0 ?_) | refine rg 1 (aq0 ?_) | refine rg 2 (aq0 ?_) | refine gc ?_ | refine ct ?_ | refine cf ?_ | refine sc ?_ ?_ <;> intro hc | refine rq rfl (rt .nil) ?_)
  refine swp_for (fun k => ⟨[(0, .t (.v (.bool dir))), (1, .t (.sl 1 (l.map strT))), (5, .t (.v (.string (bs (jk l k))))), (6, .t (.v (.int .i64 (k : Int))))], [], []⟩) (fun _ => True) l.length (weak_sub (.cons rfl rfl rfl (.cons rfl rfl rfl (.cons rfl rfl rfl (.cons rfl rfl rfl .nil)))) .nil .nil) trivial ?_
  intro k hk _
  by_cases hlt : k < l.length
  · have hrow := strs_at hlt
    have hnx := jk_succ hlt
    have h1 := hsz k
    have h2 : (bs (jk l k) ++ (⟨#[47]⟩ : ByteArray)).size = (bs (jk l k)).size + 1 := by rw [ByteArray.size_append, h47]
    have h3 : (bs l[k]).size ≤ 1000000 := by
      have := hsz (k + 1)
      rw [← hnx, ByteArray.size_append] at this; omega
    repeat' (first | refine for_next hlt (weak_sub (.cons rfl (by rfl) rfl (.cons rfl (by rfl) rfl (.cons rfl (by first | rfl | (exact str_eq hnx)) rfl (.cons rfl (by rfl) rfl .nil)))) .nil .nil) trivial | refine rg 3 (aq1 ?_) | (refine rg 5 ?_; refine oMv ?_; refine sp (po_cat rfl rfl rfl (by omega)) ?_; refine oMv ?_; refine oMv ?_; refine sp (pix rfl (tyS rfl)) ?_; (first | refine oLb ?_ | refine oLd ?_); refine sp (po_cat rfl rfl rfl (by omega)) ?_; refine oAs ?_; refine oN ?_) | refine rg 4 (aq3 ?_) | refine gc ?_ | refine ct ?_)
  · obtain rfl : k = l.length := by omega
    have h1 := hsz l.length
    have hjl : jk l l.length = l.flatMap fun s => 47 :: s := by unfold jk; rw [List.take_length]
    have hc : bs (jk l l.length) ++ (⟨#[47]⟩ : ByteArray) = bs (jk l l.length ++ [47]) := bs_cat _ [47]
    unfold joinR
    by_cases hz : l = []
    · have hz' : decide ((((l.map strT).length : Nat) : Int) = 0) = true := by subst hz; rfl
      rw [if_pos (.inl hz), ← hjl, ← hc]
      repeat' (first | refine rg 3 (aq1 ?_) | (refine rg 6 ?_; refine oMv ?_; refine sp (pln rfl (tyS rfl)) ?_; refine oCm ?_; refine oMv ?_; (first | refine oMv ?_ | refine oK ?_) <;> refine oPt ?_ <;> refine oN ?_) | refine rg 7 (aq119 ?_) | refine rg 8 (aq4 ?_) | refine gc ?_ | refine ct ?_ | refine cf ?_ | refine sc ?_ ?_ <;> intro hc | refine rq rfl (rt .nil) ?_)
      rfl
    · have hz' : decide ((((l.map strT).length : Nat) : Int) = 0) = false := decide_eq_false (by cases l with | nil => exact absurd rfl hz | cons _ _ => simp; omega)
      cases dir with
      | true =>
        rw [if_pos (.inr rfl), ← hjl, ← hc]
        repeat' (first | refine rg 3 (aq1 ?_) | refine rg 6 (aq132 ?_) | refine rg 7 (aq119 ?_) | refine rg 8 (aq4 ?_) | refine gc ?_ | refine ct ?_ | refine cf ?_ | refine sc ?_ ?_ <;> intro hc | refine rq rfl (rt .nil) ?_)
        rfl
      | false =>
        rw [if_neg (by simp [hz]), ← hjl, List.append_nil]
        repeat' (first | refine rg 3 (aq1 ?_) | refine rg 6 (aq132 ?_) | refine rg 8 (aq4 ?_) | refine gc ?_ | refine ct ?_ | refine cf ?_ | refine sc ?_ ?_ <;> intro hc | refine rq rfl (rt .nil) ?_)
        rfl
end Go.Proofs.YtpncekdhigappaaGreatDoor.Pth

/- Targets: the document's answer: walks. -/
namespace Go.Proofs.YtpncekdhigappaaGreatDoor.Pth
set_option linter.unusedVariables false
set_option linter.unusedSimpArgs false
open Go.RowKit Mem Sim Opn Str
theorem swp_join_b {P : Program} {N : Nat} {Q : Exit → St → Prop} {st : St} {id : Nat} {c : Code} (st' : St) (h : Hold (SWp P N (.block id c) (JoinQ N st' Q) st)) (k : Q .normal st') : SWp P N (.block id c) Q st := swp_joinQ st' h.go k
def refNormT (x : Option (L8 × L8)) : T := match x with
  | some (p, q) => .tup [.v (.string (bs p)), .v (.string (bs q)), .v (.bool true)]
  | none => .tup [.v (.string ⟨#[]⟩), .v (.string ⟨#[]⟩), .v (.bool false)]
theorem badR_t : badR true = hiddenB := by funext c; unfold badR; simp
theorem badR_f : badR false = fun _ => false := by funext c; unfold badR; simp
theorem noq_take {l : L8} {k : Nat} (hk : k < l.findIdx (· == 63)) (hl : k < l.length) : l[k] ≠ 63 := by
  intro e
  have := List.not_of_lt_findIdx hk
  simp [e] at this
theorem saidF_ok : ∀ (l : L8), okL l = true → (saidL (fun _ => false) l).2 = true
  | [], _ => rfl
  | c :: l, h => by
    by_cases hc : c = 37
    · subst hc
      have hp := okL_pct h
      match l, hp with
      | a :: b :: l', _ =>
        rw [saidL_pct, if_neg (by simp)]
        have := saidF_ok l' (okL_tail (okL_tail (okL_tail h)))
        split <;> exact this
    · rw [saidL_cons hc]
      exact saidF_ok l (okL_tail h)
theorem last_strs {l : List L8} {z : L8} (h : l.getLast? = some z) : (l.map strT)[(l.map strT).length - 1]? = some [T.v (.string (bs z))] := by
  rw [List.length_map, List.getElem?_map, ← List.getLast?_eq_getElem?, h]; rfl
set_option maxRecDepth 100000 in
set_option maxHeartbeats 2000000 in
theorem refNormal_ (s : ByteArray) (hs : s.size ≤ 100000) : PCalls Tryz.prog 82 [.v (.string s)] (refNormT (normL s.toList)) := by
  have c0 := refMay_ s hs
  unfold normL
  refine pcalls_of Tryz.func82 rfl rfl Tryz.ntmps82 rfl ?_
  cases hmay : mayL s.toList with
  | false =>
    rw [hmay] at c0
    repeat' (first | refine rg 0 (aq21 ?_) | (refine rg 1 ?_; refine oMv ?_; refine oC (c0) rfl (ac .nil) ?_; refine aq27 ?_) | refine rg 2 (aq21 ?_) | refine gc ?_ | refine ct ?_ | refine cf ?_ | refine sc ?_ ?_ <;> intro hc | refine rq rfl (rt (rt (rt .nil))) ?_)
    rfl
  | true =>
    rw [hmay] at c0
    obtain ⟨m1, m2, m3⟩ := may_parts hmay
    have hl := toList_len s
    rw [if_pos rfl]
    obtain ⟨k1, k2⟩ := cut_ok m3
    obtain ⟨n1, n2⟩ := cut_len s.toList
    have hh := head_cut m2
    have c2 := refSaid_ true (bs (cutL s.toList).1) (by rw [bs_size]; omega) (by rw [bs_toList]; exact k1)
    have c3 := refSaid_ false (bs (cutL s.toList).2) (by rw [bs_size]; omega) (by rw [bs_toList]; exact k2)
    rw [bs_toList] at c2 c3
    rw [badR_t] at c2
    rw [badR_f] at c3
    have hq3 := saidF_ok _ k2
    have hh2 := said_head (bad := hiddenB) hh.1
    have l2 := saidL_len hiddenB (cutL s.toList).1
    have hci := cut_idx s.toList
    have hex : ∀ a b, s.extract a b = bs ((s.toList.take b).drop a) := fun a b => by
      have := ext_bs s.toList a b
      rwa [toList_bs] at this
    repeat' (first | refine swp_join_b ⟨[(0, .t (.v (.string s))), (5, .t (.v (.string (bs (cutL s.toList).1)))), (6, .t (.v (.string (bs (cutL s.toList).2))))], [], []⟩ ?_ ?_ | refine then_go ?_ | refine swp_seq ?_ | refine rg 0 (aq21 ?_) | (refine rg 1 ?_; refine oMv ?_; refine oC (c0) rfl (ac .nil) ?_; refine aq27 ?_) | refine rg 3 (aq52 ?_) | refine rg 4 (aq0 ?_) | refine swp_ret ?_ | refine swp_skip ?_ | refine swp_block ?_ | refine swp_exit ?_ | refine block_go ?_ | refine block_exit ?_ | refine block_far rfl ?_ | refine block_ret ?_ | refine then_ret ?_ | refine then_exit ?_ | refine for_ret ?_ | refine for_exit ?_ | refine ct ?_ | refine cf ?_ | refine sc ?_ ?_ <;> intro hc | refine rq rfl (rt (rt (rt .nil))) ?_)
    · refine ⟨swp_block ?_⟩
      refine swp_for (fun k => ⟨[(0, .t (.v (.string s))), (5, .t (.v (.string s))), (6, .t (.v (.string ⟨#[]⟩))), (7, .t (.v (.int .i64 (k : Int))))], [], []⟩) (fun k => k ≤ s.toList.findIdx (· == 63)) s.size (weak_sub (.cons rfl rfl rfl (.cons rfl rfl rfl (.cons rfl rfl rfl (.cons rfl rfl rfl .nil)))) .nil .nil) (Nat.zero_le _) ?_
      intro k hk hI
      have hfl := List.findIdx_le_length (xs := s.toList) (p := (· == 63))
      by_cases hlt : k < s.size
      · have hat : s.toList[k]'(by omega) = s[k] := by
          have := toList_get s k hlt
          rw [List.getElem?_eq_getElem (by omega)] at this
          injection this
        by_cases hq : s[k].toNat = 63
        · have hq' : s[k] = 63 := UInt8.toNat_inj.1 hq
          have hki : k = s.toList.findIdx (· == 63) := by
            refine Nat.le_antisymm hI (Nat.le_of_not_lt fun h => ?_)
            exact noq_take h (by omega) (hat.trans hq')
          have e1 : s.extract 0 k = bs (cutL s.toList).1 := by rw [hex, hci, ← hki]; rfl
          have e2 : s.extract (k + 1) s.size = bs (cutL s.toList).2 := by rw [hex, hci, ← hki, List.take_of_length_le (by omega)]
          repeat' (first | refine gc ?_ | refine for_exit ?_ | refine join_go (weak_sub (.cons rfl (by rfl) rfl (.cons rfl (by first | rfl | (exact str_eq e1)) rfl (.cons rfl (by first | rfl | (first | exact str_eq e1 | exact str_eq e2)) rfl .nil))) .nil .nil) | refine rg 5 (aq24 ?_) | refine rg 7 (aq127 ?_) | (refine rd 8 ?_; refine dMv ?_; refine dMv ?_; refine dp (po_slice_str (l := 0) (h' := k) rfl rfl (tyR rfl) rfl ⟨_, rfl⟩ (by omega) (by omega)) ?_; refine dMv ?_; refine dMv ?_; refine dp (xinc rfl) ?_; (first | refine dp (po_slice_str (l := 0) (h' := k) rfl rfl (tyR rfl) rfl ⟨_, rfl⟩ (by omega) (by omega)) ?_ | refine dp (po_slice_str rfl rfl (tyR rfl) (by first | rfl | exact ⟨_, rfl⟩) (by rfl) (by omega) (by omega)) ?_); refine aq115 ?_) | refine ct ?_)
        · have hne : s.toList[k]'(by omega) ≠ 63 := fun e => hq (by rw [← hat, e]; rfl)
          have hkl : k + 1 ≤ s.toList.findIdx (· == 63) := by
            refine Nat.lt_of_le_of_ne hI fun e => hne ?_
            have := List.findIdx_getElem (xs := s.toList) (p := (· == 63)) (w := by omega)
            simp only [← e] at this
            simpa using this
          repeat' (first | refine for_next hlt (weak_sub (.cons rfl rfl rfl (.cons rfl rfl rfl (.cons rfl rfl rfl (.cons rfl rfl rfl .nil)))) .nil .nil) hkl | refine rg 5 (aq24 ?_) | refine rg 7 (aq127 ?_) | refine rg 6 (aq3 ?_) | refine gc ?_ | refine ct ?_ | refine cf ?_)
      · obtain rfl : k = s.size := by omega
        have hfi : s.toList.findIdx (· == 63) = s.toList.length := by omega
        have e1 : s = bs (cutL s.toList).1 := by rw [hci, hfi, List.take_length, toList_bs]
        have e2 : (⟨#[]⟩ : ByteArray) = bs (cutL s.toList).2 := by rw [hci, hfi, List.drop_of_length_le (by omega)]; rfl
        repeat' (first | refine gc ?_ | refine for_exit ?_ | refine join_go (weak_sub (.cons rfl (by rfl) rfl (.cons rfl (by first | rfl | (exact str_eq e1)) rfl (.cons rfl (by first | rfl | (first | exact str_eq e1 | exact str_eq e2)) rfl .nil))) .nil .nil) | refine rg 5 (aq24 ?_) | refine ct ?_ | refine cf ?_)
    · clear hci hex
      generalize (cutL s.toList).1 = road0 at *
      generalize (cutL s.toList).2 = q0 at *
      generalize saidL hiddenB road0 = rd at *
      generalize saidL (fun _ => false) q0 = qd at *
      obtain ⟨road, ok⟩ := rd
      obtain ⟨q, qok⟩ := qd
      dsimp only at *
      subst hq3
      unfold refSaidT at c2 c3
      dsimp only at c2 c3
      rw [if_pos rfl] at c3
      have c4 := refSplit_ (bs road) (by rw [bs_size]; exact hh2.2) (by rw [bs_size]; omega)
      rw [bs_toList] at c4
      rw [keptL_G]
      have htot := tot_splL (road.drop 1)
      rw [List.length_drop] at htot
      have hsl : (splL (road.drop 1)).length ≤ 100000 := by unfold tot at htot; omega
      have c5 := refKept_ (splL (road.drop 1)) hsl
      have ht : ∀ r, keptL road = some r → tot r.1 ≤ road.length := fun r => tot_keptL hh2.2
      rw [keptL_G] at ht
      have hne := splL_ne (road.drop 1)
      obtain ⟨z, hz⟩ : ∃ z, (splL (road.drop 1)).getLast? = some z := Option.isSome_iff_exists.1 (by cases hq : splL (road.drop 1) with | nil => exact absurd hq hne | cons a b => simp)
      have hrow := last_strs hz
      have hlen : 1 ≤ ((splL (road.drop 1)).map strT).length := by rw [List.length_map]; cases hq : splL (road.drop 1) with | nil => exact absurd hq hne | cons a b => simp
      rw [hz] at ht
      cases ok with
      | false =>
        rw [if_neg (by simp)] at c2
        repeat' (first | (refine rg 9 ?_; refine oMv ?_; refine oC (c2) rfl (ac (ac .nil)) ?_; refine aq120 ?_) | refine rg 10 (aq34 ?_) | refine rg 11 (aq21 ?_) | refine gc ?_ | refine ct ?_ | refine cf ?_ | refine sc ?_ ?_ <;> intro hc | refine rq rfl (rt (rt (rt .nil))) ?_)
        cases keptG [] (splL (road.drop 1)) <;> rfl
      | true =>
        rw [if_pos rfl] at c2
        generalize splL (road.drop 1) = segs at *
        cases hk : keptG [] segs with
        | none =>
          rw [hk] at c5
          unfold refKeptT at c5
          dsimp only at c5
          repeat' (first | (refine rg 9 ?_; refine oMv ?_; refine oC (c2) rfl (ac (ac .nil)) ?_; refine aq120 ?_) | refine rg 10 (aq34 ?_) | (refine rg 12 ?_; refine oMv ?_; (first | refine oC (c2) rfl (ac .nil) ?_ | refine oC (c4) rfl (ac .nil) ?_); refine aq0 ?_) | (refine rg 13 ?_; refine oMv ?_; (first | refine oC (c2) rfl (ac .nil) ?_ | refine oC (c4) rfl (ac .nil) ?_ | refine oC (c5) rfl (ac .nil) ?_); refine aq120 ?_) | refine rg 14 (aq34 ?_) | refine rg 15 (aq21 ?_) | refine gc ?_ | refine ct ?_ | refine cf ?_ | refine sc ?_ ?_ <;> intro hc | refine rq rfl (rt (rt (rt .nil))) ?_)
          rfl
        | some out =>
          rw [hk] at c5 ht
          unfold refKeptT at c5
          dsimp only at c5
          have ht' := ht _ rfl
          dsimp only at ht'
          have hjn : ∀ d, joinL (d && decide (out ≠ [])) out = joinL d out := fun d => by unfold joinL; cases d <;> simp
          show SWp _ _ _ (Then _ _ _ _) _
          have hgoal : (Option.map (fun x : List L8 => (x, ((some z).map dotB).getD false && decide (x ≠ []))) (some out)) = some (out, dotB z && decide (out ≠ [])) := rfl
          rw [hz, hgoal]
          dsimp only
          rw [if_pos rfl, hjn]
          have g0 : decide (bs z = ⟨#[]⟩) = decide (z = []) := bs_dec z []
          have g1 : decide (bs z = ⟨#[46]⟩) = decide (z = [46]) := bs_dec z [46]
          have g2 : decide (bs z = ⟨#[46, 46]⟩) = decide (z = [46, 46]) := bs_dec z [46, 46]
          have c6 := refJoin_ (dotB z) out (by omega)
          have hub : (segs.map strT).length ≤ 100000 := by rw [List.length_map]; exact hsl
          clear hk ht hz hgoal hjn htot hsl
          unfold refNormT
          dsimp only
          by_cases hs0 : z = []
          · have g0' := g0.trans (decide_eq_true hs0)
            rw [show dotB z = true by subst hs0; rfl] at *
            clear g0 g1 g2
            repeat' (first | (refine rg 9 ?_; refine oMv ?_; refine oC (c2) rfl (ac (ac .nil)) ?_; refine aq120 ?_) | refine rg 10 (aq34 ?_) | (refine rg 12 ?_; refine oMv ?_; (first | refine oC (c2) rfl (ac .nil) ?_ | refine oC (c3) rfl (ac .nil) ?_ | refine oC (c4) rfl (ac .nil) ?_); refine aq0 ?_) | (refine rg 13 ?_; refine oMv ?_; (first | refine oC (c2) rfl (ac .nil) ?_ | refine oC (c3) rfl (ac .nil) ?_ | refine oC (c4) rfl (ac .nil) ?_ | refine oC (c5) rfl (ac .nil) ?_); refine aq120 ?_) | refine rg 14 (aq34 ?_) | refine rg 16 (aq0 ?_) | refine rg 17 (aq10 ?_) | refine rg 18 (aq133 ?_) | (refine rg 19 ?_; refine oMv ?_; refine sp (po_str rfl rfl rfl rfl) ?_; refine oMv ?_; (first | refine oMv ?_ | refine oK ?_) <;> (first | refine sp (po_str rfl rfl rfl rfl) ?_ | refine oK ?_) <;> refine oPt ?_ <;> refine oMv ?_ <;> (first | refine oMv ?_ | refine oK ?_) <;> (first | refine sp (po_str rfl rfl rfl rfl) ?_ | refine oK ?_) <;> refine oPt ?_ <;> refine oAs ?_ <;> refine oN ?_) | (refine rg 20 ?_; refine oMv ?_; (first | refine oC (c2) rfl (ac (ac .nil)) ?_ | refine oC (c3) rfl (ac (ac .nil)) ?_); refine aq120 ?_) | (refine rg 21 (aq16 ?_); (first | refine oC (c2) rfl (ac (ac .nil)) ?_ | refine oC (c3) rfl (ac (ac .nil)) ?_ | refine oC (c4) rfl (ac (ac .nil)) ?_ | refine oC (c5) rfl (ac (ac .nil)) ?_ | refine oC (c6) rfl (ac (ac .nil)) ?_); refine aq23 ?_) | refine gc ?_ | refine ct ?_ | refine cf ?_ | refine sc ?_ ?_ <;> intro hc | refine rq rfl (rt (rt (rt .nil))) ?_)
            rfl
          by_cases hs1 : z = [46]
          · have g0' := g0.trans (decide_eq_false hs0)
            have g1' := g1.trans (decide_eq_true hs1)
            rw [show dotB z = true by subst hs1; rfl] at *
            clear g0 g1 g2
            repeat' (first | (refine rg 9 ?_; refine oMv ?_; refine oC (c2) rfl (ac (ac .nil)) ?_; refine aq120 ?_) | refine rg 10 (aq34 ?_) | (refine rg 12 ?_; refine oMv ?_; (first | refine oC (c2) rfl (ac .nil) ?_ | refine oC (c3) rfl (ac .nil) ?_ | refine oC (c4) rfl (ac .nil) ?_); refine aq0 ?_) | (refine rg 13 ?_; refine oMv ?_; (first | refine oC (c2) rfl (ac .nil) ?_ | refine oC (c3) rfl (ac .nil) ?_ | refine oC (c4) rfl (ac .nil) ?_ | refine oC (c5) rfl (ac .nil) ?_); refine aq120 ?_) | refine rg 14 (aq34 ?_) | refine rg 16 (aq0 ?_) | refine rg 17 (aq10 ?_) | refine rg 18 (aq133 ?_) | (refine rg 19 ?_; refine oMv ?_; refine sp (po_str rfl rfl rfl rfl) ?_; refine oMv ?_; refine oMv ?_ <;> refine sp (po_str rfl rfl rfl rfl) ?_ <;> (first | refine oPt ?_ | refine oPf ?_) <;> refine oMv ?_ <;> (first | refine oMv ?_ | refine oK ?_) <;> (first | refine sp (po_str rfl rfl rfl rfl) ?_ | refine oK ?_) <;> refine oPt ?_ <;> refine oAs ?_ <;> refine oN ?_) | (refine rg 20 ?_; refine oMv ?_; (first | refine oC (c2) rfl (ac (ac .nil)) ?_ | refine oC (c3) rfl (ac (ac .nil)) ?_); refine aq120 ?_) | (refine rg 21 (aq16 ?_); (first | refine oC (c2) rfl (ac (ac .nil)) ?_ | refine oC (c3) rfl (ac (ac .nil)) ?_ | refine oC (c4) rfl (ac (ac .nil)) ?_ | refine oC (c5) rfl (ac (ac .nil)) ?_ | refine oC (c6) rfl (ac (ac .nil)) ?_); refine aq23 ?_) | refine gc ?_ | refine ct ?_ | refine cf ?_ | refine sc ?_ ?_ <;> intro hc | refine rq rfl (rt (rt (rt .nil))) ?_)
            rfl
          have g0' := g0.trans (decide_eq_false hs0)
          have g1' := g1.trans (decide_eq_false hs1)
          rw [show dotB z = decide (bs z = ⟨#[46, 46]⟩) by rw [g2]; unfold dotB; rw [decide_eq_false hs0, decide_eq_false hs1]; rfl] at *
          clear g0 g1 g2
          repeat' (first | (refine rg 9 ?_; refine oMv ?_; refine oC (c2) rfl (ac (ac .nil)) ?_; refine aq120 ?_) | refine rg 10 (aq34 ?_) | (refine rg 12 ?_; refine oMv ?_; (first | refine oC (c2) rfl (ac .nil) ?_ | refine oC (c3) rfl (ac .nil) ?_ | refine oC (c4) rfl (ac .nil) ?_); refine aq0 ?_) | (refine rg 13 ?_; refine oMv ?_; (first | refine oC (c2) rfl (ac .nil) ?_ | refine oC (c3) rfl (ac .nil) ?_ | refine oC (c4) rfl (ac .nil) ?_ | refine oC (c5) rfl (ac .nil) ?_); refine aq120 ?_) | refine rg 14 (aq34 ?_) | refine rg 16 (aq0 ?_) | refine rg 17 (aq10 ?_) | refine rg 18 (aq133 ?_) | (refine rg 19 ?_; refine oMv ?_; refine sp (po_str rfl rfl rfl rfl) ?_; refine oMv ?_; refine oMv ?_ <;> refine sp (po_str rfl rfl rfl rfl) ?_ <;> (first | refine oPt ?_ | refine oPf ?_) <;> refine oMv ?_ <;> refine oMv ?_ <;> refine sp (po_str rfl rfl rfl rfl) ?_ <;> (first | refine oPt ?_ | refine oPf ?_) <;> refine oAs ?_ <;> refine oN ?_) | (refine rg 20 ?_; refine oMv ?_; (first | refine oC (c2) rfl (ac (ac .nil)) ?_ | refine oC (c3) rfl (ac (ac .nil)) ?_); refine aq120 ?_) | (refine rg 21 (aq16 ?_); (first | refine oC (c2) rfl (ac (ac .nil)) ?_ | refine oC (c3) rfl (ac (ac .nil)) ?_ | refine oC (c4) rfl (ac (ac .nil)) ?_ | refine oC (c5) rfl (ac (ac .nil)) ?_ | refine oC (c6) rfl (ac (ac .nil)) ?_); refine aq23 ?_) | refine gc ?_ | refine ct ?_ | refine cf ?_ | refine sc ?_ ?_ <;> intro hc | refine rq rfl (rt (rt (rt .nil))) ?_)
          rfl
end Go.Proofs.YtpncekdhigappaaGreatDoor.Pth

/- Answers: a text's beginning; is a text plain; walks. -/
namespace Go.Proofs.YtpncekdhigappaaGreatDoor.An
set_option linter.unusedVariables false
set_option linter.unusedSimpArgs false
open Go.RowKit Mem Sim Opn Hd Str Rq
set_option maxRecDepth 100000 in
theorem write1_ (c : Nat) : PCalls Tryz.prog 83 [.v (.int .i32 (c : Int))] (.v (.bool (oddR c))) := by
  have h2 : decide (126 < (c : Int)) = decide (126 < c) := by by_cases h : 126 < c <;> simp [h] <;> omega
  unfold oddR
  refine pcalls_of Tryz.func83 rfl rfl Tryz.ntmps83 rfl ?_
  by_cases h : c < 32
  · rw [decide_eq_true h]
    repeat' (first | refine rg 0 (aq0 ?_) | refine rg 1 (aq135 ?_) | refine gc ?_ | refine ct ?_ | refine cf ?_ | refine sc ?_ ?_ <;> intro hc | refine rq rfl (rt .nil) ?_)
    rfl
  · rw [decide_eq_false h]
    repeat' (first | refine rg 0 (aq0 ?_) | refine rg 1 (aq136 ?_) | refine gc ?_ | refine ct ?_ | refine cf ?_ | refine sc ?_ ?_ <;> intro hc | refine rq rfl (rt .nil) ?_)
    rw [← h2]; rfl
end Go.Proofs.YtpncekdhigappaaGreatDoor.An

/- Answers: is a text plain; a number of three digits; walks. -/
namespace Go.Proofs.YtpncekdhigappaaGreatDoor.An
set_option linter.unusedVariables false
set_option linter.unusedSimpArgs false
open Go.RowKit Mem Sim Opn Hd Str Rq
def oddAt (s : ByteArray) : Int := if plainP s then -1 else (s.toList.findIdx oddB : Int)
theorem even_rune {s : ByteArray} {k : Nat} (h : k < s.size) (hd : evenB s[k] = true) : Utf8.decode s k = ((s[k]).toNat, 1) ∧ oddR s[k].toNat = false := by
  unfold evenB oddB at hd
  have hd : oddR s[k].toNat = false := by simpa using hd
  have h2 := hd
  unfold oddR at h2
  simp at h2
  exact ⟨decode_ascii s k h (by omega), hd⟩
theorem odd_rune {s : ByteArray} {k : Nat} (h : k < s.size) (hd : evenB s[k] = false) : oddR (Utf8.decode s k).1 = true := by
  unfold evenB oddB at hd
  have hd : oddR s[k].toNat = true := by simpa using hd
  by_cases ha : s[k].toNat < 128
  · rw [decode_ascii s k h ha]; exact hd
  · have := (decode_high s k h (by omega)).1
    unfold oddR; simp; omega
theorem oddAt_at {s : ByteArray} {k : Nat} (hk : k < s.size) (hI : (s.toList.take k).all evenB = true) (hd : evenB s[k] = false) : oddAt s = (k : Int) := by
  have hl := toList_len s
  have h1 : plainP s = false := all_bad hk hd
  unfold oddAt
  rw [h1, if_neg (by simp)]
  have : s.toList.findIdx oddB = k := by
    rw [List.findIdx_eq (by omega)]
    refine ⟨?_, fun j hj => ?_⟩
    · rw [toList_at s hk]; unfold evenB at hd; simpa using hd
    · have h2 := (List.all_eq_true.1 hI) (s.toList[j]'(by omega)) (List.mem_of_getElem? (by rw [List.getElem?_take_of_lt hj]; exact List.getElem?_eq_getElem (by omega)))
      unfold evenB at h2; simpa using h2
  rw [this]
set_option maxRecDepth 100000 in
set_option maxHeartbeats 2000000 in
theorem indexFunc_ (F : FuncId) (hF : ∀ c : Nat, PCalls Tryz.prog F ([.v (.int .i32 (c : Int))] ++ []) (.v (.bool (oddR c)))) (s : ByteArray) (hs : s.size ≤ maxLen) : PCalls Tryz.prog 122 [.v (.string s), .clo F [], .v (.bool true)] (.v (.int .i64 (oddAt s))) := by
  unfold maxLen at hs
  refine pcalls_of Tryz.func122 rfl rfl Tryz.ntmps122 rfl ?_
  repeat' (first | refine rg 0 (aq0 ?_) | refine rg 1 (aq50 ?_) | refine gc ?_ | refine ct ?_ | refine cf ?_ | refine sc ?_ ?_ <;> intro hc | refine rq rfl (rt .nil) ?_)
  refine swp_for (fun k => ⟨[(1, .t (.clo F [])), (2, .t (.v (.bool true))), (10, .bp 1000 0)], [(1000, itC s k)], []⟩) (fun k => (s.toList.take k).all evenB = true) s.size (weak_sub (.cons rfl rfl rfl (.cons rfl rfl rfl (.cons rfl rfl rfl .nil))) (.cons rfl rfl rfl .nil) .nil) rfl ?_
  intro k hk hI
  by_cases hlt : k < s.size
  · have hK := hF (Utf8.decode s k).1
    cases hd : evenB s[k] with
    | true =>
      obtain ⟨hdec, ho⟩ := even_rune hlt hd
      rw [hdec] at hK
      rw [ho] at hK
      repeat' (first | refine for_next hlt (weak_sub (.cons rfl rfl rfl (.cons rfl rfl rfl (.cons rfl rfl rfl .nil))) (.cons rfl rfl rfl .nil) .nil) (all_snoc hI hlt hd) | refine rg 2 (aq30 ?_) | refine rg 3 (aq134 ?_) | (refine rg 4 (aq16 ?_); refine sp (po_call_clo rfl rfl (ac .nil) (hK)) ?_; refine oMv ?_; refine sp (po_boolq rfl rfl rfl (by kernel_rfl) (by exact .inl rfl)) ?_; refine oN ?_) | refine gc ?_ | refine ct ?_ | refine cf ?_)
    | false =>
      have ho := odd_rune hlt hd
      rw [ho] at hK
      rw [oddAt_at hlt hI hd]
      generalize hdec : Utf8.decode s k = ck at hK
      obtain ⟨c, w⟩ := ck
      repeat' (first | refine rg 2 (aq30 ?_) | refine rg 3 (aq134 ?_) | (refine rg 4 (aq16 ?_); refine sp (po_call_clo rfl rfl (ac .nil) (hK)) ?_; refine oMv ?_; refine sp (po_boolq rfl rfl rfl (by kernel_rfl) (by exact .inl rfl)) ?_; refine oN ?_) | refine rg 5 (aq4 ?_) | refine gc ?_ | refine ct ?_ | refine cf ?_ | refine sc ?_ ?_ <;> intro hc | refine rq rfl (rt .nil) ?_)
      rfl
  · obtain rfl : k = s.size := by omega
    rw [take_full s (Nat.lt_irrefl _)] at hI
    have e1 : oddAt s = -1 := by unfold oddAt plainP; rw [hI]; rfl
    rw [e1]
    repeat' (first | refine rg 2 (aq32 ?_) | refine rg 6 (aq0 ?_) | refine gc ?_ | refine ct ?_ | refine cf ?_ | refine sc ?_ ?_ <;> intro hc | refine rq rfl (rt .nil) ?_)
    rfl
set_option maxRecDepth 100000 in
theorem indexFunc2_ (F : FuncId) (hF : ∀ c : Nat, PCalls Tryz.prog F ([.v (.int .i32 (c : Int))] ++ []) (.v (.bool (oddR c)))) (s : ByteArray) (hs : s.size ≤ maxLen) : PCalls Tryz.prog 93 [.v (.string s), .clo F []] (.v (.int .i64 (oddAt s))) := by
  have c1 := indexFunc_ F hF s hs
  refine pcalls_of Tryz.func93 rfl rfl Tryz.ntmps93 rfl ?_
  repeat' (first | refine rg 0 (aq0 ?_) | (refine rg 1 (aq16 ?_); refine oC (c1) rfl (ac (ac (ac .nil))) ?_; refine aq0 ?_) | refine gc ?_ | refine ct ?_ | refine cf ?_ | refine sc ?_ ?_ <;> intro hc | refine rq rfl (rt .nil) ?_)
  rfl
set_option maxRecDepth 100000 in
theorem containsFunc_ (F : FuncId) (hF : ∀ c : Nat, PCalls Tryz.prog F ([.v (.int .i32 (c : Int))] ++ []) (.v (.bool (oddR c)))) (s : ByteArray) (hs : s.size ≤ maxLen) : PCalls Tryz.prog 58 [.v (.string s), .clo F []] (.v (.bool (!plainP s))) := by
  have c1 := indexFunc2_ F hF s hs
  have e : (!plainP s) = decide (0 ≤ oddAt s) := by
    unfold oddAt
    cases plainP s <;> simp
  rw [e]
  refine pcalls_of Tryz.func58 rfl rfl Tryz.ntmps58 rfl ?_
  repeat' (first | refine rg 0 (aq0 ?_) | (refine rg 1 (aq16 ?_); refine oC (c1) rfl (ac (ac .nil)) ?_; refine aq45 ?_) | refine gc ?_ | refine ct ?_ | refine cf ?_ | refine sc ?_ ?_ <;> intro hc | refine rq rfl (rt .nil) ?_)
  rfl
end Go.Proofs.YtpncekdhigappaaGreatDoor.An

/- Answers: of a message; walks. -/
namespace Go.Proofs.YtpncekdhigappaaGreatDoor.An
set_option linter.unusedVariables false
set_option linter.unusedSimpArgs false
open Go.RowKit Mem Sim Opn Hd Str Rq
set_option maxRecDepth 100000 in
set_option maxHeartbeats 1000000 in
theorem cloneBytesV (rows : List (List T)) (hbd : rows.length * 1 ≤ 140737488355328) (hmx : rows.length ≤ maxLen) : LCalls Tryz.prog 57 [.t (.sl 1 rows)] [] [] (.own 101 rows.length) [] [(101, ⟨5, 1, rows⟩)] := by
  have hbd' : 0 + rows.length * 1 ≤ 140737488355328 := by omega
  refine lcalls_of Tryz.func57 rfl rfl Tryz.ntmps57 rfl ?_
  repeat' (first | refine rg 0 (aq0 ?_) | (refine rg 1 ?_; refine oMv ?_; refine sops_isnil (.free rfl rfl) rfl rfl rfl rfl (.t _) (tyS rfl) (fun b hnil => ?_); refine oN ?_) | refine gc ?_ | refine ct ?_ | refine cf ?_ | refine sc ?_ ?_ <;> intro hc | refine rq rfl (rt .nil) ?_)
  · obtain rfl := hnil hc
    repeat' (first | refine then_go ?_ | refine swp_seq ?_ | refine swp_ret_weak (weak_own0 (i := 101) 5 1 (s := 2) rfl rfl) ?_ | refine rg 2 (aq0 ?_) | refine swp_ret ?_ | refine swp_skip ?_ | refine swp_block ?_ | refine swp_exit ?_ | refine block_go ?_ | refine block_exit ?_ | refine block_far rfl ?_ | refine block_ret ?_ | refine then_ret ?_ | refine then_exit ?_ | refine for_ret ?_ | refine for_exit ?_ | refine ct ?_ | refine cf ?_ | refine sc ?_ ?_ <;> intro hc | exact retl1 (by exact .inr rfl) rfl (.tmp rfl rfl .nil) rfl .nil (.cons rfl (by rfl) .nil))
  · repeat' (first | (refine rg 3 ?_; refine sops_build0i 101 (.free rfl rfl) rfl rfl rfl (tyE rfl) rfl ?_; refine oMv ?_; refine sap rfl (tyE rfl) ?_; refine oAs ?_; refine oN ?_) | refine gc ?_ | refine ct ?_ | refine cf ?_ | refine sc ?_ ?_ <;> intro hc | refine retl (by exact .inr rfl) rfl (.tmp rfl rfl .nil) ?_ rfl .nil (.cons rfl (by rfl) .nil))
    rfl
structure RawOk (r : PRaw) : Prop where
  hn : r.heads.length ≤ 1000
  hh : ∀ h ∈ r.heads, okHead h
  hb : r.body.length ≤ 100000
  hs : r.start.size ≤ maxLen
end Go.Proofs.YtpncekdhigappaaGreatDoor.An
