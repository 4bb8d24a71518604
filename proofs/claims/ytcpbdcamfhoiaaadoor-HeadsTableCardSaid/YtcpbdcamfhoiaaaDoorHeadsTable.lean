/- The law HeadsTable: a walk. -/
import Derived.Test.YtcpbdcamfhoiaaaDoorHdC2
namespace Go.Proofs.YtcpbdcamfhoiaaaDoor.HeadsTable
set_option linter.unusedVariables false
set_option linter.unusedSimpArgs false
open Go.RowKit Mem Sim Opn Hd
abbrev wasR (l : List Pl.Head) : List (List T) := [] ++ l.map headT
theorem was_eq (l : List Pl.Head) : T.sl 2 (wasR l) = headsT l := by unfold wasR headsT; rw [List.nil_append]
def restL (n : ByteArray) (l : List Pl.Head) : List Pl.Head := l.filter fun h => decide (h.name ≠ n)
theorem rest_yes {n : ByteArray} {l : List Pl.Head} {k : Nat} (hk : k < l.length) (h : (!decide (l[k].name = n)) = true) : (restL n (l.take (k + 1))).map headT = (restL n (l.take k)).map headT ++ [headT l[k]] := by
  unfold restL
  rw [List.take_succ_eq_append_getElem hk, List.filter_append, List.map_append]
  simp at h
  simp [List.filter_cons, h]
theorem rest_no {n : ByteArray} {l : List Pl.Head} {k : Nat} (hk : k < l.length) (h : (!decide (l[k].name = n)) = false) : restL n (l.take (k + 1)) = restL n (l.take k) := by
  unfold restL
  rw [List.take_succ_eq_append_getElem hk, List.filter_append]
  simp at h
  simp [List.filter_cons, h]
theorem rest_len (n : ByteArray) (l : List Pl.Head) (k : Nat) : ((restL n (l.take k)).map headT).length ≤ l.length := by
  rw [List.length_map]
  have := List.length_filter_le (fun h : Pl.Head => decide (h.name ≠ n)) (l.take k)
  unfold restL
  rw [List.length_take] at this; omega
def RS (l : List Pl.Head) (h : Pl.Head) (n : ByteArray) (k : Nat) : St := ⟨[(0, .t (headsT l)), (2, .t (.v (.string n))), (7, .own 29 (wasR l).length), (14, .own 150 ((restL n (l.take k)).map headT).length), (15, .t (.v (.int .i64 (k : Int))))], [], [(29, ⟨53, 2, wasR l⟩), (150, ⟨53, 2, (restL n (l.take k)).map headT⟩)]⟩
set_option maxRecDepth 100000 in
set_option maxHeartbeats 8000000 in
theorem law_ (l : List Pl.Head) (hl : ∀ h ∈ l, okHead h) (h : Pl.Head) (hh : okHead h) (n : ByteArray) (hnz : n.size ≤ maxLen) : PCalls Tryd.prog 11 [headsT l, .agg (headT h), .v (.string n)] (.v (.bool true)) := by
  have c0 := long_ l
  have c1 := long_ [h]
  have ca := awake_
  refine pcalls_of Tryd.func11 rfl rfl Tryd.ntmps11 rfl ?_
  cases h0 : longH l with
  | true =>
    rw [h0] at c0
    repeat' (first
      | refine then_go ?_
      | refine swp_seq ?_
      | ((refine swp_region (id := 0) ?_) <;> (refine sops_box (.free rfl rfl) rfl rfl rfl rfl rfl rfl ?_) <;> (refine sops_pure (.free rfl rfl) rfl rfl (po_assign rfl rfl) ?_) <;> (refine sops_nil ?_))
      | ((refine swp_region (id := 1) ?_) <;> (refine sops_pure (.free rfl rfl) rfl rfl (po_move rfl rfl) ?_) <;> (first | refine sops_pure (.free rfl rfl) rfl rfl (po_call (c0) rfl (ac .nil)) ?_ | refine sops_pure (.free rfl rfl) rfl rfl (po_call (ca) rfl (ac .nil)) ?_) <;> (refine sops_pure (.free rfl rfl) rfl rfl (po_move rfl rfl) ?_) <;> (first | refine sops_pure gy rfl rfl (po_load_bx_agg rfl rfl (tyT rfl) rfl (vc (vc .nil)) rfl) ?_ | refine sops_pure gy rfl rfl (po_load_agg rfl rfl (tyT rfl) rfl rfl) ?_ | refine sops_skip gn0 rfl rfl ?_ | ((refine sops_split rfl rfl rfl (fun hc => ?_) (fun hc => ?_)) <;> (first | refine sops_pure gy rfl rfl (po_load_bx_agg rfl rfl (tyT rfl) rfl (vc (vc .nil)) rfl) ?_ | refine sops_pure gy rfl rfl (po_load_agg rfl rfl (tyT rfl) rfl rfl) ?_ | refine sops_skip gn0 rfl rfl ?_))) <;> (first | refine sops_pure gy rfl rfl (po_buildSlice rfl (tyE rfl) (dc (.nil _)) rfl rfl rfl) ?_ | refine sops_skip gn0 rfl rfl ?_) <;> (first | refine sops_pure gy rfl rfl (po_call (c0) rfl (ac .nil)) ?_ | refine sops_pure gy rfl rfl (po_call (ca) rfl (ac .nil)) ?_ | refine sops_skip gn0 rfl rfl ?_) <;> (first | refine sops_pure (.free rfl rfl) rfl rfl (pkt rfl) ?_ | refine sops_pure (.free rfl rfl) rfl rfl (pkf rfl) ?_) <;> (refine sops_pure (.free rfl rfl) rfl rfl (po_move rfl rfl) ?_) <;> (first | refine sops_pure gy rfl rfl (po_move rfl rfl) ?_ | refine sops_skip gn0 rfl rfl ?_ | ((refine sops_split rfl rfl rfl (fun hc => ?_) (fun hc => ?_)) <;> (first | refine sops_pure gy rfl rfl (po_move rfl rfl) ?_ | refine sops_skip gn0 rfl rfl ?_))) <;> (first | refine sops_pure gy rfl rfl (po_len_str rfl rfl (tyR rfl)) ?_ | refine sops_skip gn0 rfl rfl ?_) <;> (first | refine sops_pure gy rfl rfl (po_cmp rfl rfl rfl rfl) ?_ | refine sops_skip gn0 rfl rfl ?_) <;> (first | refine sops_pure (.free rfl rfl) rfl rfl (pkt rfl) ?_ | refine sops_pure (.free rfl rfl) rfl rfl (pkf rfl) ?_) <;> (refine sops_nil ?_))
      | ((refine swp_region (id := 2) ?_) <;> (first | refine sops_pure (.free rfl rfl) rfl rfl (po_call (c0) rfl .nil) ?_ | refine sops_pure (.free rfl rfl) rfl rfl (po_call (ca) rfl .nil) ?_) <;> (refine sops_pure (.free rfl rfl) rfl rfl (po_assign rfl rfl) ?_) <;> (refine sops_nil ?_))
      | refine swp_ret ?_
      | refine swp_skip ?_
      | refine swp_block ?_
      | refine swp_exit ?_
      | refine block_go ?_
      | refine block_exit ?_
      | refine block_far rfl ?_
      | refine block_ret ?_
      | refine then_ret ?_
      | refine then_exit ?_
      | refine for_ret ?_
      | refine for_exit ?_
      | refine ct ?_
      | refine cf ?_
      | refine swp_cond rfl (fun hc => ?_) (fun hc => ?_)
      | refine retq (by first | exact .inr rfl | exact .inl rfl) rfl (.tmp rfl (by first | exact .t _ | exact .own rfl (by first | rfl | assumption | (simp; done) | (simp; omega)) | exact .nil _ | exact .emp _ | exact .fn _) .nil) ?_)
    rfl
  | false =>
  rw [h0] at c0
  cases h1 : longH [h] with
  | true =>
    rw [h1] at c1
    repeat' (first
      | refine then_go ?_
      | refine swp_seq ?_
      | ((refine swp_region (id := 0) ?_) <;> (refine sops_box (.free rfl rfl) rfl rfl rfl rfl rfl rfl ?_) <;> (refine sops_pure (.free rfl rfl) rfl rfl (po_assign rfl rfl) ?_) <;> (refine sops_nil ?_))
      | ((refine swp_region (id := 1) ?_) <;> (refine sops_pure (.free rfl rfl) rfl rfl (po_move rfl rfl) ?_) <;> (first | refine sops_pure (.free rfl rfl) rfl rfl (po_call (c0) rfl (ac .nil)) ?_ | refine sops_pure (.free rfl rfl) rfl rfl (po_call (c1) rfl (ac .nil)) ?_ | refine sops_pure (.free rfl rfl) rfl rfl (po_call (ca) rfl (ac .nil)) ?_) <;> (refine sops_pure (.free rfl rfl) rfl rfl (po_move rfl rfl) ?_) <;> (first | refine sops_pure gy rfl rfl (po_load_bx_agg rfl rfl (tyT rfl) rfl (vc (vc .nil)) rfl) ?_ | refine sops_pure gy rfl rfl (po_load_agg rfl rfl (tyT rfl) rfl rfl) ?_ | refine sops_skip gn0 rfl rfl ?_ | ((refine sops_split rfl rfl rfl (fun hc => ?_) (fun hc => ?_)) <;> (first | refine sops_pure gy rfl rfl (po_load_bx_agg rfl rfl (tyT rfl) rfl (vc (vc .nil)) rfl) ?_ | refine sops_pure gy rfl rfl (po_load_agg rfl rfl (tyT rfl) rfl rfl) ?_ | refine sops_skip gn0 rfl rfl ?_))) <;> (first | refine sops_pure gy rfl rfl (po_buildSlice rfl (tyE rfl) (dc (.nil _)) rfl rfl rfl) ?_ | refine sops_skip gn0 rfl rfl ?_) <;> (first | refine sops_pure gy rfl rfl (po_call (c0) rfl (ac .nil)) ?_ | refine sops_pure gy rfl rfl (po_call (c1) rfl (ac .nil)) ?_ | refine sops_pure gy rfl rfl (po_call (ca) rfl (ac .nil)) ?_ | refine sops_skip gn0 rfl rfl ?_) <;> (first | refine sops_pure (.free rfl rfl) rfl rfl (pkt rfl) ?_ | refine sops_pure (.free rfl rfl) rfl rfl (pkf rfl) ?_) <;> (refine sops_pure (.free rfl rfl) rfl rfl (po_move rfl rfl) ?_) <;> (first | refine sops_pure gy rfl rfl (po_move rfl rfl) ?_ | refine sops_skip gn0 rfl rfl ?_ | ((refine sops_split rfl rfl rfl (fun hc => ?_) (fun hc => ?_)) <;> (first | refine sops_pure gy rfl rfl (po_move rfl rfl) ?_ | refine sops_skip gn0 rfl rfl ?_))) <;> (first | refine sops_pure gy rfl rfl (po_len_str rfl rfl (tyR rfl)) ?_ | refine sops_skip gn0 rfl rfl ?_) <;> (first | refine sops_pure gy rfl rfl (po_cmp rfl rfl rfl rfl) ?_ | refine sops_skip gn0 rfl rfl ?_) <;> (first | refine sops_pure (.free rfl rfl) rfl rfl (pkt rfl) ?_ | refine sops_pure (.free rfl rfl) rfl rfl (pkf rfl) ?_) <;> (refine sops_nil ?_))
      | ((refine swp_region (id := 2) ?_) <;> (first | refine sops_pure (.free rfl rfl) rfl rfl (po_call (c0) rfl .nil) ?_ | refine sops_pure (.free rfl rfl) rfl rfl (po_call (c1) rfl .nil) ?_ | refine sops_pure (.free rfl rfl) rfl rfl (po_call (ca) rfl .nil) ?_) <;> (refine sops_pure (.free rfl rfl) rfl rfl (po_assign rfl rfl) ?_) <;> (refine sops_nil ?_))
      | refine swp_ret ?_
      | refine swp_skip ?_
      | refine swp_block ?_
      | refine swp_exit ?_
      | refine block_go ?_
      | refine block_exit ?_
      | refine block_far rfl ?_
      | refine block_ret ?_
      | refine then_ret ?_
      | refine then_exit ?_
      | refine for_ret ?_
      | refine for_exit ?_
      | refine ct ?_
      | refine cf ?_
      | refine swp_cond rfl (fun hc => ?_) (fun hc => ?_)
      | refine retq (by first | exact .inr rfl | exact .inl rfl) rfl (.tmp rfl (by first | exact .t _ | exact .own rfl (by first | rfl | assumption | (simp; done) | (simp; omega)) | exact .nil _ | exact .emp _ | exact .fn _) .nil) ?_)
    rfl
  | false =>
  rw [h1] at c1
  by_cases h2 : n.size ≤ 1000
  · have hn := few h0
    have hn100 : l.length ≤ 100 := by unfold longH at h0; simp at h0; omega
    have hma : (l.map headT).length = l.length := List.length_map _
    have hn2 : (l ++ [h]).length ≤ 1000 := by simp; omega
    have cadd := add_ l hn h hh
    have cgood := refGood_ h hh
    have a1 := all_ n l hn
    have a2 := refAll_ n l hn
    have cg := get_ n l hn
    have cd := del_ n l hn
    have hfl : (l.filter fun h => decide (h.name ≠ n)).length ≤ 1000 := Nat.le_trans (List.length_filter_le _ _) hn
    have s1 := same_ (l ++ [h]) hn2
    have s2 := same_ (l.filter fun h => decide (h.name ≠ n)) hfl
    have s3 := same_ l hn
    have tx := texts_ (valsOf n l) (valsOf n l) (Nat.le_trans (valsOf_len n l) hn)
    rw [decide_eq_true rfl] at tx
    have hVl := valsOf_len n l
    generalize valsOf n l = V at *
    have z1 : (V.map strT).length = V.length := List.length_map _
    obtain ⟨v0, ok, cg', hget⟩ : ∃ (v0 : ByteArray) (ok : Bool), PCalls Tryd.prog 42 [.v (.string n), headsT l] (.tup [.v (.string v0), .v (.bool ok)]) ∧ ((V = [] ∧ v0 = ⟨#[]⟩ ∧ ok = false) ∨ (∃ r, V = v0 :: r ∧ ok = true)) := by
      cases V with
      | nil => exact ⟨_, _, cg, .inl ⟨rfl, rfl, rfl⟩⟩
      | cons v r => exact ⟨_, _, cg, .inr ⟨r, rfl, rfl⟩⟩
    have e1 : (T.sl 2 (wasR l)) = headsT l := was_eq l
    have e2 : (T.sl 2 ([] ++ wasR l ++ [headT h])) = headsT (l ++ [h]) := by unfold wasR headsT; rw [List.map_append, List.nil_append, List.nil_append]; rfl
    have s1' : PCalls Tryd.prog 46 [headsT (l ++ [h]), .sl 2 ([] ++ wasR l ++ [headT h])] (.v (.bool true)) := by rw [e2]; exact s1
    have s3' : PCalls Tryd.prog 46 [headsT l, .sl 2 (wasR l)] (.v (.bool true)) := by rw [e1]; exact s3
    have hq0 : (!decide ((⟨#[]⟩ : ByteArray) = ⟨#[]⟩)) = false := by simp
    have hqv : (!decide (v0 = v0)) = false := by simp
    have hw1 : (wasR l).length = l.length := by unfold wasR; simp
    obtain ⟨X, e, cadd', hadd⟩ : ∃ (X : T) (e : Int), PCalls Tryd.prog 45 [headsT l, .agg (headT h)] (.tup [X, .v (.int .i64 e)]) ∧ ((good h = true ∧ l.length < 24 ∧ e = 0 ∧ X = headsT (l ++ [h])) ∨ (good h = true ∧ 24 ≤ l.length ∧ e = 3 ∧ X = .v (.slice none 0 0)) ∨ (good h = false ∧ e = 1 ∧ X = .v (.slice none 0 0))) := by
      unfold addT at cadd
      cases hg : good h with
      | false => rw [hg, if_neg (by simp)] at cadd; exact ⟨_, _, cadd, .inr (.inr ⟨rfl, rfl, rfl⟩)⟩
      | true =>
        rw [hg, if_pos rfl] at cadd
        by_cases h24 : l.length < 24
        · rw [if_pos h24] at cadd; exact ⟨_, _, cadd, .inl ⟨rfl, h24, rfl, rfl⟩⟩
        · rw [if_neg h24] at cadd; exact ⟨_, _, cadd, .inr (.inl ⟨rfl, by omega, rfl, rfl⟩)⟩
    repeat' (first
      | refine swp_join_r (id := 6) ⟨[(0, .t (headsT l)), (2, .t (.v (.string n))), (4, .bp 4 0), (7, .own 29 (wasR l).length)], [(4, (headT h).map A.t)], [(29, ⟨53, 2, wasR l⟩)]⟩ ?_ ?_
      | refine swp_join_r (id := 10) ⟨[(0, .t (headsT l)), (2, .t (.v (.string n))), (4, .bp 4 0), (7, .own 29 (wasR l).length), (11, .t X), (12, .t (.v (.int .i64 e))), (13, .t (.v (.int .i64 e)))], [(4, (headT h).map A.t)], [(29, ⟨53, 2, wasR l⟩)]⟩ ?_ ?_
      | refine swp_join_r (id := 14) ⟨[(0, .t (headsT l)), (2, .t (.v (.string n))), (7, .own 29 (wasR l).length)], [], [(29, ⟨53, 2, wasR l⟩)]⟩ ?_ ?_
      | refine then_go ?_
      | refine swp_seq ?_
      | ((refine swp_region (id := 0) ?_) <;> (refine sops_box (.free rfl rfl) rfl rfl rfl rfl rfl rfl ?_) <;> (refine sops_pure (.free rfl rfl) rfl rfl (po_assign rfl rfl) ?_) <;> (refine sops_nil ?_))
      | ((refine swp_region (id := 1) ?_) <;> (refine sops_pure (.free rfl rfl) rfl rfl (po_move rfl rfl) ?_) <;> (first | refine sops_pure (.free rfl rfl) rfl rfl (po_call (c0) rfl (ac .nil)) ?_ | refine sops_pure (.free rfl rfl) rfl rfl (po_call (c1) rfl (ac .nil)) ?_ | refine sops_pure (.free rfl rfl) rfl rfl (po_call (a2) rfl (ac .nil)) ?_ | refine sops_pure (.free rfl rfl) rfl rfl (po_call (cg') rfl (ac .nil)) ?_ | refine sops_pure (.free rfl rfl) rfl rfl (po_call (cadd') rfl (ac .nil)) ?_) <;> (refine sops_pure (.free rfl rfl) rfl rfl (po_move rfl rfl) ?_) <;> (first | refine sops_pure gy rfl rfl (po_load_bx_agg rfl rfl (tyT rfl) rfl (vc (vc .nil)) rfl) ?_ | refine sops_pure gy rfl rfl (po_load_agg rfl rfl (tyT rfl) rfl rfl) ?_ | refine sops_skip gn0 rfl rfl ?_ | ((refine sops_split rfl rfl rfl (fun hc => ?_) (fun hc => ?_)) <;> (first | refine sops_pure gy rfl rfl (po_load_bx_agg rfl rfl (tyT rfl) rfl (vc (vc .nil)) rfl) ?_ | refine sops_pure gy rfl rfl (po_load_agg rfl rfl (tyT rfl) rfl rfl) ?_ | refine sops_skip gn0 rfl rfl ?_))) <;> (first | refine sops_pure gy rfl rfl (po_buildSlice rfl (tyE rfl) (dc (.nil _)) rfl rfl rfl) ?_ | refine sops_skip gn0 rfl rfl ?_) <;> (first | refine sops_pure gy rfl rfl (po_call (c0) rfl (ac .nil)) ?_ | refine sops_pure gy rfl rfl (po_call (c1) rfl (ac .nil)) ?_ | refine sops_pure gy rfl rfl (po_call (a2) rfl (ac .nil)) ?_ | refine sops_pure gy rfl rfl (po_call (cg') rfl (ac .nil)) ?_ | refine sops_pure gy rfl rfl (po_call (cadd') rfl (ac .nil)) ?_ | refine sops_skip gn0 rfl rfl ?_) <;> (first | refine sops_pure (.free rfl rfl) rfl rfl (pkt rfl) ?_ | refine sops_pure (.free rfl rfl) rfl rfl (pkf rfl) ?_) <;> (refine sops_pure (.free rfl rfl) rfl rfl (po_move rfl rfl) ?_) <;> (first | refine sops_pure gy rfl rfl (po_move rfl rfl) ?_ | refine sops_skip gn0 rfl rfl ?_ | ((refine sops_split rfl rfl rfl (fun hc => ?_) (fun hc => ?_)) <;> (first | refine sops_pure gy rfl rfl (po_move rfl rfl) ?_ | refine sops_skip gn0 rfl rfl ?_))) <;> (first | refine sops_pure gy rfl rfl (po_len_str rfl rfl (tyR rfl)) ?_ | refine sops_skip gn0 rfl rfl ?_) <;> (first | refine sops_pure gy rfl rfl (po_cmp rfl rfl rfl rfl) ?_ | refine sops_skip gn0 rfl rfl ?_) <;> (first | refine sops_pure (.free rfl rfl) rfl rfl (pkt rfl) ?_ | refine sops_pure (.free rfl rfl) rfl rfl (pkf rfl) ?_) <;> (refine sops_nil ?_))
      | ((refine swp_region (id := 3) ?_) <;> (refine sops_build0 (.free rfl rfl) rfl rfl rfl (tyE rfl) rfl ?_) <;> (refine sops_pure (.free rfl rfl) rfl rfl (po_move rfl rfl) ?_) <;> (first | refine sap rfl (tyE rfl) ?_ | refine san rfl (tyE rfl) ?_) <;> (refine sops_pure (.free rfl rfl) rfl rfl (po_assign rfl rfl) ?_) <;> (refine sops_nil ?_))
      | ((refine swp_region (id := 4) ?_) <;> (refine sops_pure (.free rfl rfl) rfl rfl (po_move rfl rfl) ?_) <;> (refine sops_pure (.free rfl rfl) rfl rfl (po_move rfl rfl) ?_) <;> (first | refine sops_pure (.free rfl rfl) rfl rfl (po_call (c0) rfl (ac (ac .nil))) ?_ | refine sops_pure (.free rfl rfl) rfl rfl (po_call (c1) rfl (ac (ac .nil))) ?_ | refine sops_pure (.free rfl rfl) rfl rfl (po_call (a2) rfl (ac (ac .nil))) ?_ | refine sops_pure (.free rfl rfl) rfl rfl (po_call (cg') rfl (ac (ac .nil))) ?_ | refine sops_pure (.free rfl rfl) rfl rfl (po_call (cadd') rfl (ac (ac .nil))) ?_) <;> (refine sops_pure (.free rfl rfl) rfl rfl (po_assign rfl rfl) ?_) <;> (refine sops_nil ?_))
      | ((refine swp_region (id := 5) ?_) <;> (refine sops_pure (.free rfl rfl) rfl rfl (po_move rfl rfl) ?_) <;> (refine sops_pure (.free rfl rfl) rfl rfl (po_move rfl rfl) ?_) <;> (first | refine sops_pure (.free rfl rfl) rfl rfl (po_call (c0) rfl (ac (ac .nil))) ?_ | refine sops_pure (.free rfl rfl) rfl rfl (po_call (c1) rfl (ac (ac .nil))) ?_ | refine sops_pure (.free rfl rfl) rfl rfl (po_call (a2) rfl (ac (ac .nil))) ?_ | refine sops_pure (.free rfl rfl) rfl rfl (po_call (cg') rfl (ac (ac .nil))) ?_ | refine sops_pure (.free rfl rfl) rfl rfl (po_call (cadd') rfl (ac (ac .nil))) ?_) <;> (refine sops_pure (.free rfl rfl) rfl rfl (po_move rfl rfl) ?_) <;> (refine sops_pure (.free rfl rfl) rfl rfl (po_extract rfl rfl rfl) ?_) <;> (refine sops_pure (.free rfl rfl) rfl rfl (po_extract rfl rfl rfl) ?_) <;> (refine sops_pure (.free rfl rfl) rfl rfl (po_assign rfl rfl) ?_) <;> (refine sops_pure (.free rfl rfl) rfl rfl (po_assign rfl rfl) ?_) <;> (refine sops_nil ?_))
      | ((refine swp_region (id := 8) ?_) <;> (refine sops_pure (.free rfl rfl) rfl rfl (po_move rfl rfl) ?_) <;> (first | refine sops_pure (.free rfl rfl) rfl rfl (po_load_bx_agg rfl rfl (tyT rfl) rfl (vc (vc .nil)) rfl) ?_ | refine sops_pure (.free rfl rfl) rfl rfl (po_load_agg rfl rfl (tyT rfl) rfl rfl) ?_) <;> (first | refine sops_pure (.free rfl rfl) rfl rfl (po_call (c0) rfl (ac (ac .nil))) ?_ | refine sops_pure (.free rfl rfl) rfl rfl (po_call (c1) rfl (ac (ac .nil))) ?_ | refine sops_pure (.free rfl rfl) rfl rfl (po_call (a2) rfl (ac (ac .nil))) ?_ | refine sops_pure (.free rfl rfl) rfl rfl (po_call (cg') rfl (ac (ac .nil))) ?_ | refine sops_pure (.free rfl rfl) rfl rfl (po_call (cadd') rfl (ac (ac .nil))) ?_) <;> (refine sops_pure (.free rfl rfl) rfl rfl (po_move rfl rfl) ?_) <;> (refine sops_pure (.free rfl rfl) rfl rfl (po_extract rfl rfl rfl) ?_) <;> (refine sops_pure (.free rfl rfl) rfl rfl (po_extract rfl rfl rfl) ?_) <;> (refine sops_pure (.free rfl rfl) rfl rfl (po_assign rfl rfl) ?_) <;> (refine sops_pure (.free rfl rfl) rfl rfl (po_assign rfl rfl) ?_) <;> (refine sops_nil ?_))
      | ((refine swp_region (id := 9) ?_) <;> (refine sops_pure (.free rfl rfl) rfl rfl (po_assign rfl rfl) ?_) <;> (refine sops_nil ?_))
      | refine swp_ret ?_
      | refine swp_skip ?_
      | refine swp_block ?_
      | refine swp_exit ?_
      | refine block_go ?_
      | refine block_exit ?_
      | refine block_far rfl ?_
      | refine block_ret ?_
      | refine then_ret ?_
      | refine then_exit ?_
      | refine for_ret ?_
      | refine for_exit ?_
      | refine ct ?_
      | refine cf ?_
      | refine swp_cond rfl (fun hc => ?_) (fun hc => ?_)
      | refine retq (by first | exact .inr rfl | exact .inl rfl) rfl (.tmp rfl (by first | exact .t _ | exact .own rfl (by first | rfl | assumption | (simp; done) | (simp; omega)) | exact .nil _ | exact .emp _ | exact .fn _) .nil) ?_)
    · refine Hold.mk ?_
      rcases hget with ⟨rfl, rfl, rfl⟩ | ⟨r, rfl, rfl⟩
      · repeat' (first
          | refine then_go ?_
          | refine swp_seq ?_
          | refine join_go (weak_sub (.cons rfl rfl rfl (.cons rfl rfl rfl (.cons rfl rfl rfl (.cons rfl rfl rfl .nil)))) (.cons rfl rfl rfl .nil) (.cons rfl rfl .nil))
          | ((refine swp_region (id := 6) ?_) <;> (refine sops_pure (.free rfl rfl) rfl rfl (po_move rfl rfl) ?_) <;> (refine sops_pure (.free rfl rfl) rfl rfl (po_move rfl rfl) ?_) <;> (first | refine sops_pure (.free rfl rfl) rfl rfl (po_call (a1) rfl (ac (ac .nil))) ?_ | refine sops_pure (.free rfl rfl) rfl rfl (po_call (tx) rfl (ac (ac .nil))) ?_) <;> (refine sops_pure (.free rfl rfl) rfl rfl (po_move rfl rfl) ?_) <;> (first | refine sops_pure (.free rfl rfl) rfl rfl (po_call (a1) rfl (ac (ac .nil))) ?_ | refine sops_pure (.free rfl rfl) rfl rfl (po_call (tx) rfl (ac (ac .nil))) ?_) <;> (refine sops_pure (.free rfl rfl) rfl rfl (po_not rfl rfl) ?_) <;> (refine sops_pure (.free rfl rfl) rfl rfl (po_move rfl rfl) ?_) <;> (first | refine sops_pure gy rfl rfl (po_move rfl rfl) ?_ | refine sops_skip gn0 rfl rfl ?_ | ((refine sops_split rfl rfl rfl (fun hc => ?_) (fun hc => ?_)) <;> (first | refine sops_pure gy rfl rfl (po_move rfl rfl) ?_ | refine sops_skip gn0 rfl rfl ?_))) <;> (first | refine sops_pure gy rfl rfl (po_move rfl rfl) ?_ | refine sops_skip gn0 rfl rfl ?_) <;> (first | refine sops_pure gy rfl rfl (pln rfl (tyS rfl)) ?_ | refine sops_skip gn0 rfl rfl ?_) <;> (first | refine sops_pure gy rfl rfl (po_bneq false rfl rfl rfl (by kernel_rfl) (by simp)) ?_ | refine sops_pure gy rfl rfl (po_cmp rfl rfl rfl rfl) ?_ | refine sops_skip gn0 rfl rfl ?_) <;> (first | refine sops_pure gy rfl rfl (po_bneq false rfl rfl rfl (by kernel_rfl) (by simp)) ?_ | refine sops_pure gy rfl rfl (po_boolq rfl rfl rfl (by kernel_rfl) (by first | exact .inl rfl | exact .inr rfl)) ?_ | refine sops_skip gn0 rfl rfl ?_) <;> (first | refine sops_pure (.free rfl rfl) rfl rfl (pkt rfl) ?_ | refine sops_pure (.free rfl rfl) rfl rfl (pkf rfl) ?_) <;> (refine sops_pure (.free rfl rfl) rfl rfl (po_move rfl rfl) ?_) <;> (first | refine sops_pure gy rfl rfl (po_move rfl rfl) ?_ | refine sops_skip gn0 rfl rfl ?_ | ((refine sops_split rfl rfl rfl (fun hc => ?_) (fun hc => ?_)) <;> (first | refine sops_pure gy rfl rfl (po_move rfl rfl) ?_ | refine sops_skip gn0 rfl rfl ?_))) <;> (first | refine sops_pure gy rfl rfl (po_move rfl rfl) ?_ | refine sops_skip gn0 rfl rfl ?_) <;> (first | refine sops_pure gy rfl rfl (po_move rfl rfl) ?_ | refine sops_skip gn1 rfl rfl ?_ | refine sops_skip (.nou rfl rfl rfl) rfl rfl ?_ | ((refine sops_split rfl rfl rfl (fun hc => ?_) (fun hc => ?_)) <;> (first | refine sops_pure gy rfl rfl (po_move rfl rfl) ?_ | refine sops_skip gn1 rfl rfl ?_ | refine sops_skip (.nou rfl rfl rfl) rfl rfl ?_))) <;> (first | refine sops_pure gy rfl rfl (po_move rfl rfl) ?_ | refine sops_skip gn1 rfl rfl ?_ | refine sops_skip (.nou rfl rfl rfl) rfl rfl ?_) <;> (first | refine sops_pure gy rfl rfl (pix rfl (tyS rfl)) ?_ | refine sops_skip gn1 rfl rfl ?_ | refine sops_skip (.nou rfl rfl rfl) rfl rfl ?_) <;> (first | refine sops_pure gy rfl rfl (po_load_bx rfl rfl (tyT rfl) rfl rfl) ?_ | refine sops_pure gy rfl rfl (po_load rfl rfl (tyT rfl) rfl) ?_ | refine sops_skip gn1 rfl rfl ?_ | refine sops_skip (.nou rfl rfl rfl) rfl rfl ?_) <;> (first | refine sops_pure gy rfl rfl (po_bneq false rfl rfl rfl (by kernel_rfl) (by simp)) ?_ | refine sops_pure gy rfl rfl (po_str rfl rfl rfl rfl) ?_ | refine sops_skip gn1 rfl rfl ?_ | refine sops_skip (.nou rfl rfl rfl) rfl rfl ?_) <;> (first | refine sops_pure gy rfl rfl (pkt rfl) ?_ | refine sops_pure gy rfl rfl (pkf rfl) ?_ | refine sops_skip gn0 rfl rfl ?_) <;> (first | refine sops_pure (.free rfl rfl) rfl rfl (pkt rfl) ?_ | refine sops_pure (.free rfl rfl) rfl rfl (pkf rfl) ?_) <;> (refine sops_pure (.free rfl rfl) rfl rfl (po_move rfl rfl) ?_) <;> (first | refine sops_pure gy rfl rfl (po_move rfl rfl) ?_ | refine sops_skip gn0 rfl rfl ?_ | ((refine sops_split rfl rfl rfl (fun hc => ?_) (fun hc => ?_)) <;> (first | refine sops_pure gy rfl rfl (po_move rfl rfl) ?_ | refine sops_skip gn0 rfl rfl ?_))) <;> (first | refine sops_pure gy rfl rfl (po_not rfl rfl) ?_ | refine sops_skip gn0 rfl rfl ?_) <;> (first | refine sops_pure gy rfl rfl (po_move rfl rfl) ?_ | refine sops_skip gn0 rfl rfl ?_) <;> (first | refine sops_pure gy rfl rfl (po_move rfl rfl) ?_ | refine sops_skip gn1 rfl rfl ?_ | refine sops_skip (.nou rfl rfl rfl) rfl rfl ?_ | ((refine sops_split rfl rfl rfl (fun hc => ?_) (fun hc => ?_)) <;> (first | refine sops_pure gy rfl rfl (po_move rfl rfl) ?_ | refine sops_skip gn1 rfl rfl ?_ | refine sops_skip (.nou rfl rfl rfl) rfl rfl ?_))) <;> (first | refine sops_pure gy rfl rfl (po_bneq false rfl rfl rfl (by kernel_rfl) (by simp)) ?_ | refine sops_pure gy rfl rfl (po_str rfl rfl rfl rfl) ?_ | refine sops_skip gn1 rfl rfl ?_ | refine sops_skip (.nou rfl rfl rfl) rfl rfl ?_) <;> (first | refine sops_pure gy rfl rfl (pkt rfl) ?_ | refine sops_pure gy rfl rfl (pkf rfl) ?_ | refine sops_skip gn0 rfl rfl ?_) <;> (first | refine sops_pure (.free rfl rfl) rfl rfl (pkt rfl) ?_ | refine sops_pure (.free rfl rfl) rfl rfl (pkf rfl) ?_) <;> (refine sops_nil ?_))
          | refine swp_ret ?_
          | refine swp_skip ?_
          | refine swp_block ?_
          | refine swp_exit ?_
          | refine block_go ?_
          | refine block_exit ?_
          | refine block_far rfl ?_
          | refine block_ret ?_
          | refine then_ret ?_
          | refine then_exit ?_
          | refine for_ret ?_
          | refine for_exit ?_
          | refine ct ?_
          | refine cf ?_
          | refine swp_cond rfl (fun hc => ?_) (fun hc => ?_)
          | refine retq (by first | exact .inr rfl | exact .inl rfl) rfl (.tmp rfl (by first | exact .t _ | exact .own rfl (by first | rfl | assumption | (simp; done) | (simp; omega)) | exact .nil _ | exact .emp _ | exact .fn _) .nil) ?_)
      · repeat' (first
          | refine then_go ?_
          | refine swp_seq ?_
          | refine join_go (weak_sub (.cons rfl rfl rfl (.cons rfl rfl rfl (.cons rfl rfl rfl (.cons rfl rfl rfl .nil)))) (.cons rfl rfl rfl .nil) (.cons rfl rfl .nil))
          | ((refine swp_region (id := 6) ?_) <;> (refine sops_pure (.free rfl rfl) rfl rfl (po_move rfl rfl) ?_) <;> (refine sops_pure (.free rfl rfl) rfl rfl (po_move rfl rfl) ?_) <;> (first | refine sops_pure (.free rfl rfl) rfl rfl (po_call (a1) rfl (ac (ac .nil))) ?_ | refine sops_pure (.free rfl rfl) rfl rfl (po_call (tx) rfl (ac (ac .nil))) ?_) <;> (refine sops_pure (.free rfl rfl) rfl rfl (po_move rfl rfl) ?_) <;> (first | refine sops_pure (.free rfl rfl) rfl rfl (po_call (a1) rfl (ac (ac .nil))) ?_ | refine sops_pure (.free rfl rfl) rfl rfl (po_call (tx) rfl (ac (ac .nil))) ?_) <;> (refine sops_pure (.free rfl rfl) rfl rfl (po_not rfl rfl) ?_) <;> (refine sops_pure (.free rfl rfl) rfl rfl (po_move rfl rfl) ?_) <;> (first | refine sops_pure gy rfl rfl (po_move rfl rfl) ?_ | refine sops_skip gn0 rfl rfl ?_ | ((refine sops_split rfl rfl rfl (fun hc => ?_) (fun hc => ?_)) <;> (first | refine sops_pure gy rfl rfl (po_move rfl rfl) ?_ | refine sops_skip gn0 rfl rfl ?_))) <;> (first | refine sops_pure gy rfl rfl (po_move rfl rfl) ?_ | refine sops_skip gn0 rfl rfl ?_) <;> (first | refine sops_pure gy rfl rfl (pln rfl (tyS rfl)) ?_ | refine sops_skip gn0 rfl rfl ?_) <;> (first | refine sops_pure gy rfl rfl (po_bneq false rfl rfl rfl (by kernel_rfl) (by first | (simp; done) | (simp; omega))) ?_ | refine sops_pure gy rfl rfl (po_cmp rfl rfl rfl rfl) ?_ | refine sops_skip gn0 rfl rfl ?_) <;> (first | refine sops_pure gy rfl rfl (po_bneq false rfl rfl rfl (by kernel_rfl) (by first | (simp; done) | (simp; omega))) ?_ | refine sops_pure gy rfl rfl (po_boolq rfl rfl rfl (by kernel_rfl) (by first | exact .inl rfl | exact .inr rfl)) ?_ | refine sops_skip gn0 rfl rfl ?_) <;> (first | refine sops_pure (.free rfl rfl) rfl rfl (pkt rfl) ?_ | refine sops_pure (.free rfl rfl) rfl rfl (pkf rfl) ?_) <;> (refine sops_pure (.free rfl rfl) rfl rfl (po_move rfl rfl) ?_) <;> (first | refine sops_pure gy rfl rfl (po_move rfl rfl) ?_ | refine sops_skip gn0 rfl rfl ?_ | ((refine sops_split rfl rfl rfl (fun hc => ?_) (fun hc => ?_)) <;> (first | refine sops_pure gy rfl rfl (po_move rfl rfl) ?_ | refine sops_skip gn0 rfl rfl ?_))) <;> (first | refine sops_pure gy rfl rfl (po_move rfl rfl) ?_ | refine sops_skip gn0 rfl rfl ?_) <;> (first | refine sops_pure gy rfl rfl (po_move rfl rfl) ?_ | refine sops_skip gn1 rfl rfl ?_ | refine sops_skip (.nou rfl rfl rfl) rfl rfl ?_ | ((refine sops_split rfl rfl rfl (fun hc => ?_) (fun hc => ?_)) <;> (first | refine sops_pure gy rfl rfl (po_move rfl rfl) ?_ | refine sops_skip gn1 rfl rfl ?_ | refine sops_skip (.nou rfl rfl rfl) rfl rfl ?_))) <;> (first | refine sops_pure gy rfl rfl (po_move rfl rfl) ?_ | refine sops_skip gn1 rfl rfl ?_ | refine sops_skip (.nou rfl rfl rfl) rfl rfl ?_) <;> (first | refine sops_pure gy rfl rfl (pix rfl (tyS rfl)) ?_ | refine sops_skip gn1 rfl rfl ?_ | refine sops_skip (.nou rfl rfl rfl) rfl rfl ?_) <;> (first | refine sops_pure gy rfl rfl (po_load_bx rfl rfl (tyT rfl) rfl rfl) ?_ | refine sops_pure gy rfl rfl (po_load rfl rfl (tyT rfl) rfl) ?_ | refine sops_skip gn1 rfl rfl ?_ | refine sops_skip (.nou rfl rfl rfl) rfl rfl ?_) <;> (first | refine sops_pure gy rfl rfl (po_bneq false rfl rfl rfl (by kernel_rfl) (by first | (simp; done) | (simp; omega))) ?_ | refine sops_pure gy rfl rfl (po_str rfl rfl rfl rfl) ?_ | refine sops_skip gn1 rfl rfl ?_ | refine sops_skip (.nou rfl rfl rfl) rfl rfl ?_) <;> (first | refine sops_pure gy rfl rfl (pkt rfl) ?_ | refine sops_pure gy rfl rfl (pkf rfl) ?_ | refine sops_skip gn0 rfl rfl ?_) <;> (first | refine sops_pure (.free rfl rfl) rfl rfl (pkt rfl) ?_ | refine sops_pure (.free rfl rfl) rfl rfl (pkf rfl) ?_) <;> (refine sops_pure (.free rfl rfl) rfl rfl (po_move rfl rfl) ?_) <;> (first | refine sops_pure gy rfl rfl (po_move rfl rfl) ?_ | refine sops_skip gn0 rfl rfl ?_ | ((refine sops_split rfl rfl rfl (fun hc => ?_) (fun hc => ?_)) <;> (first | refine sops_pure gy rfl rfl (po_move rfl rfl) ?_ | refine sops_skip gn0 rfl rfl ?_))) <;> (first | refine sops_pure gy rfl rfl (po_not rfl rfl) ?_ | refine sops_skip gn0 rfl rfl ?_) <;> (first | refine sops_pure gy rfl rfl (po_move rfl rfl) ?_ | refine sops_skip gn0 rfl rfl ?_) <;> (first | refine sops_pure gy rfl rfl (po_move rfl rfl) ?_ | refine sops_skip gn1 rfl rfl ?_ | refine sops_skip (.nou rfl rfl rfl) rfl rfl ?_ | ((refine sops_split rfl rfl rfl (fun hc => ?_) (fun hc => ?_)) <;> (first | refine sops_pure gy rfl rfl (po_move rfl rfl) ?_ | refine sops_skip gn1 rfl rfl ?_ | refine sops_skip (.nou rfl rfl rfl) rfl rfl ?_))) <;> (first | refine sops_pure gy rfl rfl (po_bneq false rfl rfl rfl (by kernel_rfl) (by first | (simp; done) | (simp; omega))) ?_ | refine sops_pure gy rfl rfl (po_str rfl rfl rfl rfl) ?_ | refine sops_skip gn1 rfl rfl ?_ | refine sops_skip (.nou rfl rfl rfl) rfl rfl ?_) <;> (first | refine sops_pure gy rfl rfl (pkt rfl) ?_ | refine sops_pure gy rfl rfl (pkf rfl) ?_ | refine sops_skip gn0 rfl rfl ?_) <;> (first | refine sops_pure (.free rfl rfl) rfl rfl (pkt rfl) ?_ | refine sops_pure (.free rfl rfl) rfl rfl (pkf rfl) ?_) <;> (refine sops_nil ?_))
          | refine swp_ret ?_
          | refine swp_skip ?_
          | refine swp_block ?_
          | refine swp_exit ?_
          | refine block_go ?_
          | refine block_exit ?_
          | refine block_far rfl ?_
          | refine block_ret ?_
          | refine then_ret ?_
          | refine then_exit ?_
          | refine for_ret ?_
          | refine for_exit ?_
          | refine ct ?_
          | refine cf ?_
          | refine swp_cond rfl (fun hc => ?_) (fun hc => ?_)
          | refine retq (by first | exact .inr rfl | exact .inl rfl) rfl (.tmp rfl (by first | exact .t _ | exact .own rfl (by first | rfl | assumption | (simp; done) | (simp; omega)) | exact .nil _ | exact .emp _ | exact .fn _) .nil) ?_)
    · refine Hold.mk ?_
      rcases hadd with ⟨hg, h24, rfl, rfl⟩ | ⟨hg, h24, rfl, rfl⟩ | ⟨hg, rfl, rfl⟩
      all_goals
        rw [hg] at cgood
        repeat' (first
          | refine then_go ?_
          | refine swp_seq ?_
          | refine join_go (weak_sub (.cons rfl rfl rfl (.cons rfl rfl rfl (.cons rfl rfl rfl (.cons rfl rfl rfl (.cons rfl rfl rfl (.cons rfl rfl rfl (.cons rfl rfl rfl .nil))))))) (.cons rfl rfl rfl .nil) (.cons rfl rfl .nil))
          | ((refine swp_region (id := 10) ?_) <;> (first | refine sops_pure (.free rfl rfl) rfl rfl (po_load_bx_agg rfl rfl (tyT rfl) rfl (vc (vc .nil)) rfl) ?_ | refine sops_pure (.free rfl rfl) rfl rfl (po_load_agg rfl rfl (tyT rfl) rfl rfl) ?_) <;> (refine sops_pure (.free rfl rfl) rfl rfl (po_call (cgood) rfl (ac .nil)) ?_) <;> (refine sops_pure (.free rfl rfl) rfl rfl (po_not rfl rfl) ?_) <;> (refine sops_nil ?_))
          | ((refine swp_region (id := 11) ?_) <;> (refine sops_pure (.free rfl rfl) rfl rfl (po_assign rfl rfl) ?_) <;> (refine sops_nil ?_))
          | ((refine swp_region (id := 12) ?_) <;> (refine sops_pure (.free rfl rfl) rfl rfl (po_move rfl rfl) ?_) <;> (refine sops_pure (.free rfl rfl) rfl rfl (pln rfl (tyS rfl)) ?_) <;> (refine sops_pure (.free rfl rfl) rfl rfl (po_cmp rfl rfl rfl rfl) ?_) <;> (refine sops_nil ?_))
          | ((refine swp_region (id := 13) ?_) <;> (refine sops_pure (.free rfl rfl) rfl rfl (po_assign rfl rfl) ?_) <;> (refine sops_nil ?_))
          | refine swp_ret ?_
          | refine swp_skip ?_
          | refine swp_block ?_
          | refine swp_exit ?_
          | refine block_go ?_
          | refine block_exit ?_
          | refine block_far rfl ?_
          | refine block_ret ?_
          | refine then_ret ?_
          | refine then_exit ?_
          | refine for_ret ?_
          | refine for_exit ?_
          | refine ct ?_
          | refine cf ?_
          | refine swp_cond rfl (fun hc => ?_) (fun hc => ?_)
          | refine retq (by first | exact .inr rfl | exact .inl rfl) rfl (.tmp rfl (by first | exact .t _ | exact .own rfl (by first | rfl | assumption | (simp; done) | (simp; omega)) | exact .nil _ | exact .emp _ | exact .fn _) .nil) ?_)
    · refine Hold.mk ?_
      rcases hadd with ⟨hg, h24, rfl, rfl⟩ | ⟨hg, h24, rfl, rfl⟩ | ⟨hg, rfl, rfl⟩
      · repeat' (first
          | refine then_go ?_
          | refine swp_seq ?_
          | refine join_go (weak_sub (.cons rfl rfl rfl (.cons rfl rfl rfl (.cons rfl rfl rfl .nil))) .nil (.cons rfl rfl .nil))
          | ((refine swp_any (id := 14) [[], [], [], [], [], [], [], [], [92], [], [92], [], [], [92], [], [], [], [], [], [], [], [], [], [], [], [], []] [[], [], [], [], [], [], [], [92], [], [92], [], [92], [92], [], [], [], [], [], [], [], [], [], [], [], [], [], []] mixed (by kernel_rfl) ?_) <;> (refine sany_pure (.free rfl rfl) rfl rfl (fun _ _ => po_move rfl rfl) ?_) <;> (refine sany_pure (.free rfl rfl) rfl rfl (fun _ _ => po_move rfl rfl) ?_) <;> (refine sany_pure (.free rfl rfl) rfl rfl (fun _ _ => po_cmp rfl rfl rfl rfl) ?_) <;> (refine sany_pure (.free rfl rfl) rfl rfl (fun _ _ => po_move rfl rfl) ?_) <;> (first | refine sany_pure gy rfl rfl (fun _ _ => po_move rfl rfl) ?_ | refine sany_skip gn0 rfl rfl ?_ | ((refine sany_split rfl rfl rfl (fun hc => ?_) (fun hc => ?_)) <;> (first | refine sany_pure gy rfl rfl (fun _ _ => po_move rfl rfl) ?_ | refine sany_skip gn0 rfl rfl ?_))) <;> (first | refine sany_pure gy rfl rfl (fun _ _ => po_cmp rfl rfl rfl rfl) ?_ | refine sany_skip gn0 rfl rfl ?_) <;> (first | refine sany_pure gy rfl rfl (fun _ _ => po_move rfl rfl) ?_ | refine sany_skip gn0 rfl rfl ?_) <;> (first | refine sany_pure gy rfl rfl (fun _ _ => po_move rfl rfl) ?_ | refine sany_skip gn1 rfl rfl ?_ | ((refine sany_split rfl rfl rfl (fun hc => ?_) (fun hc => ?_)) <;> (first | refine sany_pure gy rfl rfl (fun _ _ => po_move rfl rfl) ?_ | refine sany_skip gn1 rfl rfl ?_))) <;> (first | refine sany_eff [] [(92, ⟨_, _, []⟩)] gy rfl rfl (fun _ _ _ ho => e_build0 rfl (tyE rfl) (ho 92 rfl rfl)) ?_ | refine sany_skip gn1 rfl rfl ?_) <;> (first | refine sany_pure gy rfl rfl (fun _ _ => po_move rfl rfl) ?_ | refine sany_skip gn1 rfl rfl ?_) <;> (first | refine sany_eff [] [(92, _)] gy rfl rfl (fun _ _ _ _ => e_append rfl rfl rfl (by first | rfl | simp) rfl (by first | exact .t _ | exact .own rfl (by first | rfl | assumption | (simp; done) | (simp; omega)) | exact .nil _ | exact .emp _ | exact .fn _) (tyE rfl) (by first | assumption | (simp at *; omega)) (by first | assumption | (simp [maxLen] at *; omega))) ?_ | refine sany_skip gn1 rfl rfl ?_) <;> (first | refine sany_pure gy rfl rfl (fun _ _ => po_load_bx_agg rfl rfl (tyT rfl) rfl (vc (vc .nil)) rfl) ?_ | refine sany_pure gy rfl rfl (fun _ _ => po_load_agg rfl rfl (tyT rfl) rfl rfl) ?_ | refine sany_skip gn1 rfl rfl ?_) <;> (first | refine sany_pure gy rfl rfl (fun _ _ => po_buildSlice rfl (tyE rfl) (dc (.nil _)) rfl rfl rfl) ?_ | refine sany_skip gn1 rfl rfl ?_) <;> (first | refine sany_eff [] [(92, _)] gy rfl rfl (fun _ _ _ _ => e_append rfl rfl rfl (by first | rfl | simp) rfl (by first | exact .t _ | exact .own rfl (by first | rfl | assumption | (simp; done) | (simp; omega)) | exact .nil _ | exact .emp _ | exact .fn _) (tyE rfl) (by first | assumption | (simp at *; omega)) (by first | assumption | (simp [maxLen] at *; omega))) ?_ | refine sany_skip gn1 rfl rfl ?_) <;> (first | refine sany_pure gy rfl rfl (fun _ _ => po_call (s1') rfl (ac (ac .nil))) ?_ | refine sany_skip gn1 rfl rfl ?_) <;> (first | refine sany_pure gy rfl rfl (fun _ _ => po_not rfl rfl) ?_ | refine sany_skip gn1 rfl rfl ?_) <;> (first | refine sany_pure gy rfl rfl (fun _ _ => pkt rfl) ?_ | refine sany_pure gy rfl rfl (fun _ _ => pkf rfl) ?_ | refine sany_skip gn0 rfl rfl ?_) <;> (first | refine sany_pure (.free rfl rfl) rfl rfl (fun _ _ => pkt rfl) ?_ | refine sany_pure (.free rfl rfl) rfl rfl (fun _ _ => pkf rfl) ?_) <;> (refine sany_pure (.free rfl rfl) rfl rfl (fun _ _ => po_move rfl rfl) ?_) <;> (first | refine sany_pure gy rfl rfl (fun _ _ => po_move rfl rfl) ?_ | refine sany_skip gn0 rfl rfl ?_ | ((refine sany_split rfl rfl rfl (fun hc => ?_) (fun hc => ?_)) <;> (first | refine sany_pure gy rfl rfl (fun _ _ => po_move rfl rfl) ?_ | refine sany_skip gn0 rfl rfl ?_))) <;> (first | refine sany_pure gy rfl rfl (fun _ _ => po_cmp rfl rfl rfl rfl) ?_ | refine sany_skip gn0 rfl rfl ?_) <;> (first | refine sany_pure gy rfl rfl (fun _ _ => po_move rfl rfl) ?_ | refine sany_skip gn0 rfl rfl ?_) <;> (first | refine sany_pure gy rfl rfl (fun _ _ => po_move rfl rfl) ?_ | refine sany_skip gn1 rfl rfl ?_ | ((refine sany_split rfl rfl rfl (fun hc => ?_) (fun hc => ?_)) <;> (first | refine sany_pure gy rfl rfl (fun _ _ => po_move rfl rfl) ?_ | refine sany_skip gn1 rfl rfl ?_))) <;> (first | refine sany_pure gy rfl rfl (fun _ _ => pln rfl (tyS rfl)) ?_ | refine sany_skip gn1 rfl rfl ?_) <;> (first | refine sany_pure gy rfl rfl (fun _ _ => po_cmp rfl rfl rfl rfl) ?_ | refine sany_skip gn1 rfl rfl ?_) <;> (first | refine sany_pure gy rfl rfl (fun _ _ => pkt rfl) ?_ | refine sany_pure gy rfl rfl (fun _ _ => pkf rfl) ?_ | refine sany_skip gn0 rfl rfl ?_) <;> (first | refine sany_pure (.free rfl rfl) rfl rfl (fun _ _ => pkt rfl) ?_ | refine sany_pure (.free rfl rfl) rfl rfl (fun _ _ => pkf rfl) ?_) <;> (refine sany_nil ?_))
          | refine swp_ret ?_
          | refine swp_skip ?_
          | refine swp_block ?_
          | refine swp_exit ?_
          | refine block_go ?_
          | refine block_exit ?_
          | refine block_far rfl ?_
          | refine block_ret ?_
          | refine then_ret ?_
          | refine then_exit ?_
          | refine for_ret ?_
          | refine for_exit ?_
          | refine ct ?_
          | refine cf ?_
          | refine swp_cond rfl (fun hc => ?_) (fun hc => ?_)
          | refine retq (by first | exact .inr rfl | exact .inl rfl) rfl (.tmp rfl (by first | exact .t _ | exact .own rfl (by first | rfl | assumption | (simp; done) | (simp; omega)) | exact .nil _ | exact .emp _ | exact .fn _) .nil) ?_)
      · repeat' (first
          | refine then_go ?_
          | refine swp_seq ?_
          | refine join_go (weak_sub (.cons rfl rfl rfl (.cons rfl rfl rfl (.cons rfl rfl rfl .nil))) .nil (.cons rfl rfl .nil))
          | ((refine swp_any (id := 14) [[], [], [], [], [], [], [], [], [], [], [], [], [], [], [], [], [], [], [], [], [], [], [], [], [], [], []] [[], [], [], [], [], [], [], [], [], [], [], [], [], [], [], [], [], [], [], [], [], [], [], [], [], [], []] mixed (by kernel_rfl) ?_) <;> (refine sany_pure (.free rfl rfl) rfl rfl (fun _ _ => po_move rfl rfl) ?_) <;> (refine sany_pure (.free rfl rfl) rfl rfl (fun _ _ => po_move rfl rfl) ?_) <;> (refine sany_pure (.free rfl rfl) rfl rfl (fun _ _ => po_cmp rfl rfl rfl rfl) ?_) <;> (refine sany_pure (.free rfl rfl) rfl rfl (fun _ _ => po_move rfl rfl) ?_) <;> (first | refine sany_pure gy rfl rfl (fun _ _ => po_move rfl rfl) ?_ | refine sany_skip gn0 rfl rfl ?_ | ((refine sany_split rfl rfl rfl (fun hc => ?_) (fun hc => ?_)) <;> (first | refine sany_pure gy rfl rfl (fun _ _ => po_move rfl rfl) ?_ | refine sany_skip gn0 rfl rfl ?_))) <;> (first | refine sany_pure gy rfl rfl (fun _ _ => po_cmp rfl rfl rfl rfl) ?_ | refine sany_skip gn0 rfl rfl ?_) <;> (first | refine sany_pure gy rfl rfl (fun _ _ => po_move rfl rfl) ?_ | refine sany_skip gn0 rfl rfl ?_) <;> (first | refine sany_pure gy rfl rfl (fun _ _ => po_move rfl rfl) ?_ | refine sany_skip gn1 rfl rfl ?_ | ((refine sany_split rfl rfl rfl (fun hc => ?_) (fun hc => ?_)) <;> (first | refine sany_pure gy rfl rfl (fun _ _ => po_move rfl rfl) ?_ | refine sany_skip gn1 rfl rfl ?_))) <;> (first | refine sany_pure gy rfl rfl (fun _ _ => po_buildSlice0 rfl (tyE rfl)) ?_ | refine sany_skip gn1 rfl rfl ?_) <;> (first | refine sany_pure gy rfl rfl (fun _ _ => po_move rfl rfl) ?_ | refine sany_skip gn1 rfl rfl ?_) <;> (first | refine sany_pure gy rfl rfl (fun _ _ => pan rfl (tyE rfl)) ?_ | refine sany_skip gn1 rfl rfl ?_) <;> (first | refine sany_pure gy rfl rfl (fun _ _ => po_load_bx_agg rfl rfl (tyT rfl) rfl (vc (vc .nil)) rfl) ?_ | refine sany_pure gy rfl rfl (fun _ _ => po_load_agg rfl rfl (tyT rfl) rfl rfl) ?_ | refine sany_skip gn1 rfl rfl ?_) <;> (first | refine sany_pure gy rfl rfl (fun _ _ => po_buildSlice rfl (tyE rfl) (dc (.nil _)) rfl rfl rfl) ?_ | refine sany_skip gn1 rfl rfl ?_) <;> (first | refine sany_pure gy rfl rfl (fun _ _ => pan rfl (tyE rfl)) ?_ | refine sany_skip gn1 rfl rfl ?_) <;> (first | refine sany_skip gn1 rfl rfl ?_) <;> (first | refine sany_pure gy rfl rfl (fun _ _ => po_not rfl rfl) ?_ | refine sany_skip gn1 rfl rfl ?_) <;> (first | refine sany_pure gy rfl rfl (fun _ _ => pkt rfl) ?_ | refine sany_pure gy rfl rfl (fun _ _ => pkf rfl) ?_ | refine sany_skip gn0 rfl rfl ?_) <;> (first | refine sany_pure (.free rfl rfl) rfl rfl (fun _ _ => pkt rfl) ?_ | refine sany_pure (.free rfl rfl) rfl rfl (fun _ _ => pkf rfl) ?_) <;> (refine sany_pure (.free rfl rfl) rfl rfl (fun _ _ => po_move rfl rfl) ?_) <;> (first | refine sany_pure gy rfl rfl (fun _ _ => po_move rfl rfl) ?_ | refine sany_skip gn0 rfl rfl ?_ | ((refine sany_split rfl rfl rfl (fun hc => ?_) (fun hc => ?_)) <;> (first | refine sany_pure gy rfl rfl (fun _ _ => po_move rfl rfl) ?_ | refine sany_skip gn0 rfl rfl ?_))) <;> (first | refine sany_pure gy rfl rfl (fun _ _ => po_cmp rfl rfl rfl rfl) ?_ | refine sany_skip gn0 rfl rfl ?_) <;> (first | refine sany_pure gy rfl rfl (fun _ _ => po_move rfl rfl) ?_ | refine sany_skip gn0 rfl rfl ?_) <;> (first | refine sany_pure gy rfl rfl (fun _ _ => po_move rfl rfl) ?_ | refine sany_skip gn1 rfl rfl ?_ | ((refine sany_split rfl rfl rfl (fun hc => ?_) (fun hc => ?_)) <;> (first | refine sany_pure gy rfl rfl (fun _ _ => po_move rfl rfl) ?_ | refine sany_skip gn1 rfl rfl ?_))) <;> (first | refine sany_pure gy rfl rfl (fun _ _ => pln rfl (tyS rfl)) ?_ | refine sany_skip gn1 rfl rfl ?_) <;> (first | refine sany_pure gy rfl rfl (fun _ _ => po_cmp rfl rfl rfl rfl) ?_ | refine sany_skip gn1 rfl rfl ?_) <;> (first | refine sany_pure gy rfl rfl (fun _ _ => pkt rfl) ?_ | refine sany_pure gy rfl rfl (fun _ _ => pkf rfl) ?_ | refine sany_skip gn0 rfl rfl ?_) <;> (first | refine sany_pure (.free rfl rfl) rfl rfl (fun _ _ => pkt rfl) ?_ | refine sany_pure (.free rfl rfl) rfl rfl (fun _ _ => pkf rfl) ?_) <;> (refine sany_nil ?_))
          | refine swp_ret ?_
          | refine swp_skip ?_
          | refine swp_block ?_
          | refine swp_exit ?_
          | refine block_go ?_
          | refine block_exit ?_
          | refine block_far rfl ?_
          | refine block_ret ?_
          | refine then_ret ?_
          | refine then_exit ?_
          | refine for_ret ?_
          | refine for_exit ?_
          | refine ct ?_
          | refine cf ?_
          | refine swp_cond rfl (fun hc => ?_) (fun hc => ?_)
          | refine retq (by first | exact .inr rfl | exact .inl rfl) rfl (.tmp rfl (by first | exact .t _ | exact .own rfl (by first | rfl | assumption | (simp; done) | (simp; omega)) | exact .nil _ | exact .emp _ | exact .fn _) .nil) ?_)
      · repeat' (first
          | refine then_go ?_
          | refine swp_seq ?_
          | refine join_go (weak_sub (.cons rfl rfl rfl (.cons rfl rfl rfl (.cons rfl rfl rfl .nil))) .nil (.cons rfl rfl .nil))
          | ((refine swp_any (id := 14) [[], [], [], [], [], [], [], [], [], [], [], [], [], [], [], [], [], [], [], [], [], [], [], [], [], [], []] [[], [], [], [], [], [], [], [], [], [], [], [], [], [], [], [], [], [], [], [], [], [], [], [], [], [], []] mixed (by kernel_rfl) ?_) <;> (refine sany_pure (.free rfl rfl) rfl rfl (fun _ _ => po_move rfl rfl) ?_) <;> (refine sany_pure (.free rfl rfl) rfl rfl (fun _ _ => po_move rfl rfl) ?_) <;> (refine sany_pure (.free rfl rfl) rfl rfl (fun _ _ => po_cmp rfl rfl rfl rfl) ?_) <;> (refine sany_pure (.free rfl rfl) rfl rfl (fun _ _ => po_move rfl rfl) ?_) <;> (first | refine sany_pure gy rfl rfl (fun _ _ => po_move rfl rfl) ?_ | refine sany_skip gn0 rfl rfl ?_ | ((refine sany_split rfl rfl rfl (fun hc => ?_) (fun hc => ?_)) <;> (first | refine sany_pure gy rfl rfl (fun _ _ => po_move rfl rfl) ?_ | refine sany_skip gn0 rfl rfl ?_))) <;> (first | refine sany_pure gy rfl rfl (fun _ _ => po_cmp rfl rfl rfl rfl) ?_ | refine sany_skip gn0 rfl rfl ?_) <;> (first | refine sany_pure gy rfl rfl (fun _ _ => po_move rfl rfl) ?_ | refine sany_skip gn0 rfl rfl ?_) <;> (first | refine sany_pure gy rfl rfl (fun _ _ => po_move rfl rfl) ?_ | refine sany_skip gn1 rfl rfl ?_ | ((refine sany_split rfl rfl rfl (fun hc => ?_) (fun hc => ?_)) <;> (first | refine sany_pure gy rfl rfl (fun _ _ => po_move rfl rfl) ?_ | refine sany_skip gn1 rfl rfl ?_))) <;> (first | refine sany_pure gy rfl rfl (fun _ _ => po_buildSlice0 rfl (tyE rfl)) ?_ | refine sany_skip gn1 rfl rfl ?_) <;> (first | refine sany_pure gy rfl rfl (fun _ _ => po_move rfl rfl) ?_ | refine sany_skip gn1 rfl rfl ?_) <;> (first | refine sany_pure gy rfl rfl (fun _ _ => pan rfl (tyE rfl)) ?_ | refine sany_skip gn1 rfl rfl ?_) <;> (first | refine sany_pure gy rfl rfl (fun _ _ => po_load_bx_agg rfl rfl (tyT rfl) rfl (vc (vc .nil)) rfl) ?_ | refine sany_pure gy rfl rfl (fun _ _ => po_load_agg rfl rfl (tyT rfl) rfl rfl) ?_ | refine sany_skip gn1 rfl rfl ?_) <;> (first | refine sany_pure gy rfl rfl (fun _ _ => po_buildSlice rfl (tyE rfl) (dc (.nil _)) rfl rfl rfl) ?_ | refine sany_skip gn1 rfl rfl ?_) <;> (first | refine sany_pure gy rfl rfl (fun _ _ => pan rfl (tyE rfl)) ?_ | refine sany_skip gn1 rfl rfl ?_) <;> (first | refine sany_skip gn1 rfl rfl ?_) <;> (first | refine sany_pure gy rfl rfl (fun _ _ => po_not rfl rfl) ?_ | refine sany_skip gn1 rfl rfl ?_) <;> (first | refine sany_pure gy rfl rfl (fun _ _ => pkt rfl) ?_ | refine sany_pure gy rfl rfl (fun _ _ => pkf rfl) ?_ | refine sany_skip gn0 rfl rfl ?_) <;> (first | refine sany_pure (.free rfl rfl) rfl rfl (fun _ _ => pkt rfl) ?_ | refine sany_pure (.free rfl rfl) rfl rfl (fun _ _ => pkf rfl) ?_) <;> (refine sany_pure (.free rfl rfl) rfl rfl (fun _ _ => po_move rfl rfl) ?_) <;> (first | refine sany_pure gy rfl rfl (fun _ _ => po_move rfl rfl) ?_ | refine sany_skip gn0 rfl rfl ?_ | ((refine sany_split rfl rfl rfl (fun hc => ?_) (fun hc => ?_)) <;> (first | refine sany_pure gy rfl rfl (fun _ _ => po_move rfl rfl) ?_ | refine sany_skip gn0 rfl rfl ?_))) <;> (first | refine sany_pure gy rfl rfl (fun _ _ => po_cmp rfl rfl rfl rfl) ?_ | refine sany_skip gn0 rfl rfl ?_) <;> (first | refine sany_pure gy rfl rfl (fun _ _ => po_move rfl rfl) ?_ | refine sany_skip gn0 rfl rfl ?_) <;> (first | refine sany_pure gy rfl rfl (fun _ _ => po_move rfl rfl) ?_ | refine sany_skip gn1 rfl rfl ?_ | ((refine sany_split rfl rfl rfl (fun hc => ?_) (fun hc => ?_)) <;> (first | refine sany_pure gy rfl rfl (fun _ _ => po_move rfl rfl) ?_ | refine sany_skip gn1 rfl rfl ?_))) <;> (first | refine sany_pure gy rfl rfl (fun _ _ => pln rfl (tyS rfl)) ?_ | refine sany_skip gn1 rfl rfl ?_) <;> (first | refine sany_pure gy rfl rfl (fun _ _ => po_cmp rfl rfl rfl rfl) ?_ | refine sany_skip gn1 rfl rfl ?_) <;> (first | refine sany_pure gy rfl rfl (fun _ _ => pkt rfl) ?_ | refine sany_pure gy rfl rfl (fun _ _ => pkf rfl) ?_ | refine sany_skip gn0 rfl rfl ?_) <;> (first | refine sany_pure (.free rfl rfl) rfl rfl (fun _ _ => pkt rfl) ?_ | refine sany_pure (.free rfl rfl) rfl rfl (fun _ _ => pkf rfl) ?_) <;> (refine sany_nil ?_))
          | refine swp_ret ?_
          | refine swp_skip ?_
          | refine swp_block ?_
          | refine swp_exit ?_
          | refine block_go ?_
          | refine block_exit ?_
          | refine block_far rfl ?_
          | refine block_ret ?_
          | refine then_ret ?_
          | refine then_exit ?_
          | refine for_ret ?_
          | refine for_exit ?_
          | refine ct ?_
          | refine cf ?_
          | refine swp_cond rfl (fun hc => ?_) (fun hc => ?_)
          | refine retq (by first | exact .inr rfl | exact .inl rfl) rfl (.tmp rfl (by first | exact .t _ | exact .own rfl (by first | rfl | assumption | (simp; done) | (simp; omega)) | exact .nil _ | exact .emp _ | exact .fn _) .nil) ?_)
    repeat' (first
      | refine then_go ?_
      | refine swp_seq ?_
      | ((refine swp_region (id := 16) ?_) <;> (refine sops_pure (.free rfl rfl) rfl rfl (po_assign rfl rfl) ?_) <;> (refine sops_nil ?_))
      | ((refine swp_region (id := 17) ?_) <;> (refine sops_pure (.free rfl rfl) rfl rfl (po_assign rfl rfl) ?_) <;> (refine sops_nil ?_))
      | refine swp_ret ?_
      | refine swp_skip ?_
      | refine swp_block ?_
      | refine swp_exit ?_
      | refine block_go ?_
      | refine block_exit ?_
      | refine block_far rfl ?_
      | refine block_ret ?_
      | refine then_ret ?_
      | refine then_exit ?_
      | refine for_ret ?_
      | refine for_exit ?_
      | refine ct ?_
      | refine cf ?_
      | refine swp_cond rfl (fun hc => ?_) (fun hc => ?_)
      | refine retq (by first | exact .inr rfl | exact .inl rfl) rfl (.tmp rfl (by first | exact .t _ | exact .own rfl (by first | rfl | assumption | (simp; done) | (simp; omega)) | exact .nil _ | exact .emp _ | exact .fn _) .nil) ?_)
    refine swp_for (RS l h n) (fun _ => True) l.length ?_ trivial ?_
    · refine Weak.trans (weak_own0 (i := 150) 53 2 (s := 14) rfl rfl) ?_
      exact (weak_sub (.cons rfl rfl rfl (.cons rfl rfl rfl (.cons rfl rfl rfl (.cons rfl rfl rfl (.cons rfl rfl rfl .nil))))) .nil (.cons rfl rfl (.cons rfl rfl .nil)))
    intro k hk _
    unfold RS
    by_cases hlt : k < l.length
    · have hrow : (wasR l)[k]? = some (headT l[k]) := by unfold wasR; rw [List.nil_append, List.getElem?_map, List.getElem?_eq_getElem hlt]; rfl
      have g1 := rest_len n l k
      have g2 : (((restL n (l.take k)).map headT).length + 1) * 32 ≤ 140737488355328 := by omega
      cases hb : (!decide (l[k].name = n)) with
      | true =>
        have hs := rest_yes hlt hb
        repeat' (first
          | refine then_go ?_
          | refine swp_seq ?_
          | refine for_next hlt (weak_sub (.cons rfl (by first | rfl | (rw [hs]; try rfl)) rfl (.cons rfl (by first | rfl | (rw [hs]; try rfl)) rfl (.cons rfl (by first | rfl | (rw [hs]; try rfl)) rfl (.cons rfl (by first | rfl | (rw [hs]; try rfl)) rfl (.cons rfl (by first | rfl | (rw [hs]; try rfl)) rfl .nil))))) .nil (.cons rfl (by first | rfl | (rw [hs]; try rfl)) (.cons rfl (by first | rfl | (rw [hs]; try rfl)) .nil))) trivial
          | ((refine swp_region (id := 18) ?_) <;> (refine sops_pure (.free rfl rfl) rfl rfl (po_move rfl rfl) ?_) <;> (refine sops_pure (.free rfl rfl) rfl rfl (po_move rfl rfl) ?_) <;> (refine sops_pure (.free rfl rfl) rfl rfl (pln rfl (tyS rfl)) ?_) <;> (refine sops_pure (.free rfl rfl) rfl rfl (po_cmp rfl rfl rfl rfl) ?_) <;> (refine sops_nil ?_))
          | ((refine swp_region (id := 20) ?_) <;> (refine sops_pure (.free rfl rfl) rfl rfl (po_move rfl rfl) ?_) <;> (refine sops_pure (.free rfl rfl) rfl rfl (po_move rfl rfl) ?_) <;> (refine sops_pure (.free rfl rfl) rfl rfl (pix rfl (tyS rfl)) ?_) <;> (first | refine sops_pure (.free rfl rfl) rfl rfl (po_field_bx rfl rfl (tyF rfl)) ?_ | refine sops_pure (.free rfl rfl) rfl rfl (po_field rfl rfl (tyF rfl)) ?_) <;> (first | refine sops_pure (.free rfl rfl) rfl rfl (po_load_bx rfl rfl (tyT rfl) rfl rfl) ?_ | refine sops_pure (.free rfl rfl) rfl rfl (po_load rfl rfl (tyT rfl) rfl) ?_) <;> (refine sops_pure (.free rfl rfl) rfl rfl (po_move rfl rfl) ?_) <;> (refine sops_pure (.free rfl rfl) rfl rfl (po_str rfl rfl rfl rfl) ?_) <;> (refine sops_nil ?_))
          | ((refine swp_region (id := 21) ?_) <;> (refine sops_pure (.free rfl rfl) rfl rfl (po_move rfl rfl) ?_) <;> (refine sops_pure (.free rfl rfl) rfl rfl (po_move rfl rfl) ?_) <;> (refine sops_pure (.free rfl rfl) rfl rfl (po_move rfl rfl) ?_) <;> (refine sops_pure (.free rfl rfl) rfl rfl (pix rfl (tyS rfl)) ?_) <;> (first | refine sops_pure (.free rfl rfl) rfl rfl (po_load_bx_agg rfl rfl (tyT rfl) rfl (vc (vc .nil)) rfl) ?_ | refine sops_pure (.free rfl rfl) rfl rfl (po_load_agg rfl rfl (tyT rfl) rfl rfl) ?_) <;> (refine sops_pure (.free rfl rfl) rfl rfl (po_buildSlice rfl (tyE rfl) (dc (.nil _)) rfl rfl rfl) ?_) <;> (first | refine sap rfl (tyE rfl) ?_ | refine san rfl (tyE rfl) ?_) <;> (refine sops_pure (.free rfl rfl) rfl rfl (po_assign rfl rfl) ?_) <;> (refine sops_nil ?_))
          | ((refine swp_region (id := 19) ?_) <;> (refine sops_pure (.free rfl rfl) rfl rfl (po_move rfl rfl) ?_) <;> (first | refine sops_pure (.free rfl rfl) rfl rfl (po_inc rfl rfl rfl (by omega)) ?_ | refine sops_pure (.free rfl rfl) rfl rfl (po_arith rfl rfl rfl (ar_add (by first | rfl | (refine wrap_i64 ?_; omega)) rfl)) ?_) <;> (refine sops_pure (.free rfl rfl) rfl rfl (po_assign rfl rfl) ?_) <;> (refine sops_nil ?_))
          | refine swp_ret ?_
          | refine swp_skip ?_
          | refine swp_block ?_
          | refine swp_exit ?_
          | refine block_go ?_
          | refine block_exit ?_
          | refine block_far rfl ?_
          | refine block_ret ?_
          | refine then_ret ?_
          | refine then_exit ?_
          | refine for_ret ?_
          | refine for_exit ?_
          | refine ct ?_
          | refine cf ?_
          | refine swp_cond rfl (fun hc => ?_) (fun hc => ?_)
          | refine retq (by first | exact .inr rfl | exact .inl rfl) rfl (.tmp rfl (by first | exact .t _ | exact .own rfl (by first | rfl | assumption | (simp; done) | (simp; omega)) | exact .nil _ | exact .emp _ | exact .fn _) .nil) ?_)
      | false =>
        have hs := rest_no hlt hb
        repeat' (first
          | refine then_go ?_
          | refine swp_seq ?_
          | refine for_next hlt (weak_sub (.cons rfl (by first | rfl | (rw [hs])) rfl (.cons rfl (by first | rfl | (rw [hs])) rfl (.cons rfl (by first | rfl | (rw [hs])) rfl (.cons rfl (by first | rfl | (rw [hs])) rfl (.cons rfl (by first | rfl | (rw [hs])) rfl .nil))))) .nil (.cons rfl (by first | rfl | (rw [hs])) (.cons rfl (by first | rfl | (rw [hs])) .nil))) trivial
          | ((refine swp_region (id := 18) ?_) <;> (refine sops_pure (.free rfl rfl) rfl rfl (po_move rfl rfl) ?_) <;> (refine sops_pure (.free rfl rfl) rfl rfl (po_move rfl rfl) ?_) <;> (refine sops_pure (.free rfl rfl) rfl rfl (pln rfl (tyS rfl)) ?_) <;> (refine sops_pure (.free rfl rfl) rfl rfl (po_cmp rfl rfl rfl rfl) ?_) <;> (refine sops_nil ?_))
          | ((refine swp_region (id := 20) ?_) <;> (refine sops_pure (.free rfl rfl) rfl rfl (po_move rfl rfl) ?_) <;> (refine sops_pure (.free rfl rfl) rfl rfl (po_move rfl rfl) ?_) <;> (refine sops_pure (.free rfl rfl) rfl rfl (pix rfl (tyS rfl)) ?_) <;> (first | refine sops_pure (.free rfl rfl) rfl rfl (po_field_bx rfl rfl (tyF rfl)) ?_ | refine sops_pure (.free rfl rfl) rfl rfl (po_field rfl rfl (tyF rfl)) ?_) <;> (first | refine sops_pure (.free rfl rfl) rfl rfl (po_load_bx rfl rfl (tyT rfl) rfl rfl) ?_ | refine sops_pure (.free rfl rfl) rfl rfl (po_load rfl rfl (tyT rfl) rfl) ?_) <;> (refine sops_pure (.free rfl rfl) rfl rfl (po_move rfl rfl) ?_) <;> (refine sops_pure (.free rfl rfl) rfl rfl (po_str rfl rfl rfl rfl) ?_) <;> (refine sops_nil ?_))
          | ((refine swp_region (id := 19) ?_) <;> (refine sops_pure (.free rfl rfl) rfl rfl (po_move rfl rfl) ?_) <;> (first | refine sops_pure (.free rfl rfl) rfl rfl (po_inc rfl rfl rfl (by omega)) ?_ | refine sops_pure (.free rfl rfl) rfl rfl (po_arith rfl rfl rfl (ar_add (by first | rfl | (refine wrap_i64 ?_; omega)) rfl)) ?_) <;> (refine sops_pure (.free rfl rfl) rfl rfl (po_assign rfl rfl) ?_) <;> (refine sops_nil ?_))
          | refine swp_ret ?_
          | refine swp_skip ?_
          | refine swp_block ?_
          | refine swp_exit ?_
          | refine block_go ?_
          | refine block_exit ?_
          | refine block_far rfl ?_
          | refine block_ret ?_
          | refine then_ret ?_
          | refine then_exit ?_
          | refine for_ret ?_
          | refine for_exit ?_
          | refine ct ?_
          | refine cf ?_
          | refine swp_cond rfl (fun hc => ?_) (fun hc => ?_)
          | refine retq (by first | exact .inr rfl | exact .inl rfl) rfl (.tmp rfl (by first | exact .t _ | exact .own rfl (by first | rfl | assumption | (simp; done) | (simp; omega)) | exact .nil _ | exact .emp _ | exact .fn _) .nil) ?_)
    · obtain rfl : k = l.length := by omega
      rw [List.take_length]
      repeat' (first
        | refine then_go ?_
        | refine swp_seq ?_
        | ((refine swp_region (id := 18) ?_) <;> (refine sops_pure (.free rfl rfl) rfl rfl (po_move rfl rfl) ?_) <;> (refine sops_pure (.free rfl rfl) rfl rfl (po_move rfl rfl) ?_) <;> (refine sops_pure (.free rfl rfl) rfl rfl (pln rfl (tyS rfl)) ?_) <;> (refine sops_pure (.free rfl rfl) rfl rfl (po_cmp rfl rfl rfl rfl) ?_) <;> (refine sops_nil ?_))
        | ((refine swp_region (id := 22) ?_) <;> (refine sops_pure (.free rfl rfl) rfl rfl (po_move rfl rfl) ?_) <;> (refine sops_pure (.free rfl rfl) rfl rfl (po_move rfl rfl) ?_) <;> (first | refine sops_pure (.free rfl rfl) rfl rfl (po_call (cd) rfl (ac (ac .nil))) ?_ | refine sops_pure (.free rfl rfl) rfl rfl (po_call (s2) rfl (ac (ac .nil))) ?_ | refine sops_pure (.free rfl rfl) rfl rfl (po_call (s3') rfl (ac (ac .nil))) ?_ | refine sops_pure (.free rfl rfl) rfl rfl (po_call (ca) rfl (ac (ac .nil))) ?_) <;> (refine sops_pure (.free rfl rfl) rfl rfl (po_move rfl rfl) ?_) <;> (first | refine sops_pure (.free rfl rfl) rfl rfl (po_call (cd) rfl (ac (ac .nil))) ?_ | refine sops_pure (.free rfl rfl) rfl rfl (po_call (s2) rfl (ac (ac .nil))) ?_ | refine sops_pure (.free rfl rfl) rfl rfl (po_call (s3') rfl (ac (ac .nil))) ?_ | refine sops_pure (.free rfl rfl) rfl rfl (po_call (ca) rfl (ac (ac .nil))) ?_) <;> (refine sops_pure (.free rfl rfl) rfl rfl (po_move rfl rfl) ?_) <;> (first | refine sops_pure gy rfl rfl (po_move rfl rfl) ?_ | refine sops_skip gn1 rfl rfl ?_ | ((refine sops_split rfl rfl rfl (fun hc => ?_) (fun hc => ?_)) <;> (first | refine sops_pure gy rfl rfl (po_move rfl rfl) ?_ | refine sops_skip gn1 rfl rfl ?_))) <;> (first | refine sops_pure gy rfl rfl (po_move rfl rfl) ?_ | refine sops_skip gn1 rfl rfl ?_) <;> (first | refine sops_pure gy rfl rfl (po_call (cd) rfl (ac (ac .nil))) ?_ | refine sops_pure gy rfl rfl (po_call (s2) rfl (ac (ac .nil))) ?_ | refine sops_pure gy rfl rfl (po_call (s3') rfl (ac (ac .nil))) ?_ | refine sops_pure gy rfl rfl (po_call (ca) rfl (ac (ac .nil))) ?_ | refine sops_skip gn1 rfl rfl ?_) <;> (first | refine sops_pure (.free rfl rfl) rfl rfl (pkt rfl) ?_ | refine sops_pure (.free rfl rfl) rfl rfl (pkf rfl) ?_) <;> (refine sops_pure (.free rfl rfl) rfl rfl (po_move rfl rfl) ?_) <;> (first | refine sops_pure gy rfl rfl (po_call (cd) rfl .nil) ?_ | refine sops_pure gy rfl rfl (po_call (s2) rfl .nil) ?_ | refine sops_pure gy rfl rfl (po_call (s3') rfl .nil) ?_ | refine sops_pure gy rfl rfl (po_call (ca) rfl .nil) ?_ | refine sops_skip gn1 rfl rfl ?_ | ((refine sops_split rfl rfl rfl (fun hc => ?_) (fun hc => ?_)) <;> (first | refine sops_pure gy rfl rfl (po_call (cd) rfl .nil) ?_ | refine sops_pure gy rfl rfl (po_call (s2) rfl .nil) ?_ | refine sops_pure gy rfl rfl (po_call (s3') rfl .nil) ?_ | refine sops_pure gy rfl rfl (po_call (ca) rfl .nil) ?_ | refine sops_skip gn1 rfl rfl ?_))) <;> (first | refine sops_pure (.free rfl rfl) rfl rfl (pkt rfl) ?_ | refine sops_pure (.free rfl rfl) rfl rfl (pkf rfl) ?_) <;> (refine sops_pure (.free rfl rfl) rfl rfl (po_assign rfl rfl) ?_) <;> (refine sops_nil ?_))
        | refine swp_ret ?_
        | refine swp_skip ?_
        | refine swp_block ?_
        | refine swp_exit ?_
        | refine block_go ?_
        | refine block_exit ?_
        | refine block_far rfl ?_
        | refine block_ret ?_
        | refine then_ret ?_
        | refine then_exit ?_
        | refine for_ret ?_
        | refine for_exit ?_
        | refine ct ?_
        | refine cf ?_
        | refine swp_cond rfl (fun hc => ?_) (fun hc => ?_)
        | refine retq (by first | exact .inr rfl | exact .inl rfl) rfl (.tmp rfl (by first | exact .t _ | exact .own rfl (by first | rfl | assumption | (simp; done) | (simp; omega)) | exact .nil _ | exact .emp _ | exact .fn _) .nil) ?_)
      rfl
  · repeat' (first
      | refine then_go ?_
      | refine swp_seq ?_
      | ((refine swp_region (id := 0) ?_) <;> (refine sops_box (.free rfl rfl) rfl rfl rfl rfl rfl rfl ?_) <;> (refine sops_pure (.free rfl rfl) rfl rfl (po_assign rfl rfl) ?_) <;> (refine sops_nil ?_))
      | ((refine swp_region (id := 1) ?_) <;> (refine sops_pure (.free rfl rfl) rfl rfl (po_move rfl rfl) ?_) <;> (first | refine sops_pure (.free rfl rfl) rfl rfl (po_call (c0) rfl (ac .nil)) ?_ | refine sops_pure (.free rfl rfl) rfl rfl (po_call (c1) rfl (ac .nil)) ?_ | refine sops_pure (.free rfl rfl) rfl rfl (po_call (ca) rfl (ac .nil)) ?_) <;> (refine sops_pure (.free rfl rfl) rfl rfl (po_move rfl rfl) ?_) <;> (first | refine sops_pure gy rfl rfl (po_load_bx_agg rfl rfl (tyT rfl) rfl (vc (vc .nil)) rfl) ?_ | refine sops_pure gy rfl rfl (po_load_agg rfl rfl (tyT rfl) rfl rfl) ?_ | refine sops_skip gn0 rfl rfl ?_ | ((refine sops_split rfl rfl rfl (fun hc => ?_) (fun hc => ?_)) <;> (first | refine sops_pure gy rfl rfl (po_load_bx_agg rfl rfl (tyT rfl) rfl (vc (vc .nil)) rfl) ?_ | refine sops_pure gy rfl rfl (po_load_agg rfl rfl (tyT rfl) rfl rfl) ?_ | refine sops_skip gn0 rfl rfl ?_))) <;> (first | refine sops_pure gy rfl rfl (po_buildSlice rfl (tyE rfl) (dc (.nil _)) rfl rfl rfl) ?_ | refine sops_skip gn0 rfl rfl ?_) <;> (first | refine sops_pure gy rfl rfl (po_call (c0) rfl (ac .nil)) ?_ | refine sops_pure gy rfl rfl (po_call (c1) rfl (ac .nil)) ?_ | refine sops_pure gy rfl rfl (po_call (ca) rfl (ac .nil)) ?_ | refine sops_skip gn0 rfl rfl ?_) <;> (first | refine sops_pure (.free rfl rfl) rfl rfl (pkt rfl) ?_ | refine sops_pure (.free rfl rfl) rfl rfl (pkf rfl) ?_) <;> (refine sops_pure (.free rfl rfl) rfl rfl (po_move rfl rfl) ?_) <;> (first | refine sops_pure gy rfl rfl (po_move rfl rfl) ?_ | refine sops_skip gn0 rfl rfl ?_ | ((refine sops_split rfl rfl rfl (fun hc => ?_) (fun hc => ?_)) <;> (first | refine sops_pure gy rfl rfl (po_move rfl rfl) ?_ | refine sops_skip gn0 rfl rfl ?_))) <;> (first | refine sops_pure gy rfl rfl (po_len_str rfl rfl (tyR rfl)) ?_ | refine sops_skip gn0 rfl rfl ?_) <;> (first | refine sops_pure gy rfl rfl (po_cmp rfl rfl rfl rfl) ?_ | refine sops_skip gn0 rfl rfl ?_) <;> (first | refine sops_pure (.free rfl rfl) rfl rfl (pkt rfl) ?_ | refine sops_pure (.free rfl rfl) rfl rfl (pkf rfl) ?_) <;> (refine sops_nil ?_))
      | ((refine swp_region (id := 2) ?_) <;> (first | refine sops_pure (.free rfl rfl) rfl rfl (po_call (c0) rfl .nil) ?_ | refine sops_pure (.free rfl rfl) rfl rfl (po_call (c1) rfl .nil) ?_ | refine sops_pure (.free rfl rfl) rfl rfl (po_call (ca) rfl .nil) ?_) <;> (refine sops_pure (.free rfl rfl) rfl rfl (po_assign rfl rfl) ?_) <;> (refine sops_nil ?_))
      | refine swp_ret ?_
      | refine swp_skip ?_
      | refine swp_block ?_
      | refine swp_exit ?_
      | refine block_go ?_
      | refine block_exit ?_
      | refine block_far rfl ?_
      | refine block_ret ?_
      | refine then_ret ?_
      | refine then_exit ?_
      | refine for_ret ?_
      | refine for_exit ?_
      | refine ct ?_
      | refine cf ?_
      | refine swp_cond rfl (fun hc => ?_) (fun hc => ?_)
      | refine retq (by first | exact .inr rfl | exact .inl rfl) rfl (.tmp rfl (by first | exact .t _ | exact .own rfl (by first | rfl | assumption | (simp; done) | (simp; omega)) | exact .nil _ | exact .emp _ | exact .fn _) .nil) ?_)
    rfl
theorem walk (A : Option Addr) (cap : Nat) (l : List Pl.Head) (n x v : ByteArray) (w : World) {B : Nat} (hA : SliceAt HeadR 2 B w A l) (_ : B ≤ w.heap.size) (hl1 : l.length ≤ cap) (hl2 : cap ≤ maxLen) (hn : n.size ≤ maxLen) (hx : x.size ≤ maxLen) (hv : v.size ≤ maxLen) :
    Calls Tryd.prog 11 #[.slice A l.length cap, .agg #[.string n, .string x], .string v] w fun e w' => e = .returned (.bool true) ∧ Lo w w' :=
  (law_ l (heads_ok hA) ⟨n, x⟩ ⟨hn, hx⟩ v hv).law w _ rfl fun i t v' h1 h2 => by
    match i, h1, h2 with
    | 0, h1, h2 => simp at h1 h2; subst h1 h2; exact heads_bwd hA hl1 hl2
    | 1, h1, h2 => simp at h1 h2; subst h1 h2; exact agg_bwd (vs := [_, _]) (cellsAre_cons (.v _) rfl (cellsAre_cons (.v _) rfl (cellsAre_nil _)))
    | 2, h1, h2 => simp at h1 h2; subst h1 h2; exact .v _
end Go.Proofs.YtcpbdcamfhoiaaaDoor.HeadsTable
