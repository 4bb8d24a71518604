/- Merged by bundles.py: SimLb, SimLc. -/
import Derived.Test.YtgbcmjcaggnobaaP23
/- The laws' parts that ask a net: row, rest, like, played. -/
namespace Go.Proofs.Ytgbcmjcaggnobaa.Sim
set_option linter.unusedVariables false
set_option linter.unusedSimpArgs false
open Go.RowKit Mem
def rowP (d : PNet) (x y : Int) : List (List UInt8) := bif isL d.n x y then d.row (kOf x y) else []
theorem rowP_len {d : PNet} (hd : NetOk d) (x y : Int) : (rowP d x y).length ≤ 32 := by
  unfold rowP
  cases isL d.n x y with
  | false => exact Nat.zero_le _
  | true => exact hd.len _
theorem rowP_big {d : PNet} (hd : NetOk d) (x y : Int) : ∀ b ∈ rowP d x y, b.length ≤ 16384 := by
  unfold rowP
  cases isL d.n x y with
  | false => intro b hb; cases hb
  | true => exact hd.big _
theorem atP_some {d : PNet} {x y : Int} {k : Nat} (h : k < (rowP d x y).length) : atP d x y k = (⟨x, y, (rowP d x y)[k]⟩, 0) := by
  unfold atP
  cases hl : isL d.n x y with
  | false => unfold rowP at h; rw [hl] at h; simp at h
  | true =>
    have e : rowP d x y = d.row (kOf x y) := by unfold rowP; rw [hl]; rfl
    simp only [e] at h ⊢
    rw [getP_row h]; rfl
theorem atP_none {d : PNet} {x y : Int} {k : Int} (h : k < 0 ∨ ((rowP d x y).length : Int) ≤ k) : (atP d x y k).1 = msgZ ∧ (atP d x y k).2 ≠ 0 := by
  unfold atP
  cases hl : isL d.n x y with
  | false => exact ⟨rfl, by show (1 : Int) ≠ 0; omega⟩
  | true =>
    have e : rowP d x y = d.row (kOf x y) := by unfold rowP; rw [hl]; rfl
    rw [e] at h
    have : getP (d.row (kOf x y)) k = none := by
      unfold getP
      rcases h with h | h
      · rw [if_neg (by omega)]
      · rw [if_pos (by omega), List.getElem?_eq_none (by omega)]
    rw [this]
    exact ⟨rfl, by show (4 : Int) ≠ 0; omega⟩
def SRw (d : PNet) (x y : Int) (k : Nat) : St := ⟨[(0, .bp 3000 0), (1, .t (.v (.int .i64 x))), (2, .t (.v (.int .i64 y))), (7, .own 100 (((rowP d x y).take k).map txtC).length), (8, .t (.v (.int .i64 (k : Int))))], netN d, [(100, ⟨9, 1, ((rowP d x y).take k).map txtC⟩)]⟩
set_option maxRecDepth 100000 in
set_option maxHeartbeats 2000000 in
theorem row_ (d : PNet) (hd : NetOk d) (x y : Int) : LCalls Try.prog 20 [.bp 3000 0, .t (.v (.int .i64 x)), .t (.v (.int .i64 y))] (netN d) [] (.t (.sl 1 ((rowP d x y).map txtC))) (netN d) [] := by
  have h32 := rowP_len hd x y
  refine lcalls_of Try.func20 rfl rfl Try.ntmps20 rfl ?_
  repeat' (first | (refine rg 0 ?_; refine oAs ?_; refine oN ?_) | (refine rg 1 ?_; refine oAs ?_; refine oN ?_) | (refine rg 2 ?_; refine oAs ?_; refine oN ?_) | refine gc ?_ | refine ct ?_ | refine cf ?_ | refine swp_cond rfl (fun hc => ?_) (fun hc => ?_) | refine rq rfl (rt .nil) ?_)
  refine swp_for (SRw d x y) (fun _ => True) (rowP d x y).length ?_ trivial ?_
  · refine Weak.trans (weak_own0 (i := 100) 9 1 (s := 7) rfl rfl) ?_
    exact (weak_sub (.cons rfl rfl rfl (.cons rfl rfl rfl (.cons rfl rfl rfl (.cons rfl rfl rfl (.cons rfl rfl rfl .nil))))) (.cons rfl rfl rfl .nil) (.cons rfl rfl .nil))
  intro k hk _
  unfold SRw
  have hk64 : (k : Int) < 64 := by omega
  have c1 := at_ d hd x y (k : Int)
  by_cases hlt : k < (rowP d x y).length
  · rw [atP_some hlt] at c1
    dsimp only at c1
    have hb := rowP_big hd x y _ (List.getElem_mem hlt)
    have hmk : ((rowP d x y)[k].map byteT).length = (rowP d x y)[k].length := List.length_map _
    have hmx : (rowP d x y)[k].length ≤ maxLen := by unfold maxLen; omega
    have hml : (((rowP d x y).take k).map txtC).length = k := by rw [List.length_map, List.length_take]; omega
    have e1 : ((rowP d x y).take (k + 1)).map txtC = ((rowP d x y).take k).map txtC ++ [txtC (rowP d x y)[k]] := by rw [← List.take_append_getElem hlt, List.map_append]; rfl
    unfold msgA msgT bysT at c1
    repeat' (first | refine for_next hlt (weak_sub (.cons rfl (by rfl) rfl (.cons rfl (by rfl) rfl (.cons rfl (by rfl) rfl (.cons rfl (by first | rfl | ((rw [e1]; try rfl))) rfl (.cons rfl (by rfl) rfl .nil))))) (.cons rfl (by rfl) rfl .nil) (.cons rfl (by first | rfl | ((rw [e1]; try rfl))) .nil)) trivial | (refine rg 3 ?_; refine oMv ?_; refine oCm ?_; refine oN ?_) | (refine rg 5 ?_; refine oMv ?_; refine oMv ?_; refine oMv ?_; refine oMv ?_; refine sops_lcall (c1) (fun i => i) (fun i => i) (fun _ => false) (.free rfl rfl) rfl rfl rfl (by ((repeat' (first | exact .nil | refine .cons rfl rfl rfl ?_)) <;> fail)) (.cons rfl rfl .nil) .nil rfl rfl (fun _ h => Bool.noConfusion h) ?_; refine oMv ?_; (first | refine oEx ?_ | refine sp (po_extract_tu rfl rfl rfl) ?_); (first | refine oEx ?_ | refine sp (po_extract_tu rfl rfl rfl) ?_); refine sal str32 ?_; refine oS ?_; refine oAs ?_; refine oN ?_) | (refine rg 6 ?_; refine oMv ?_; refine oCm ?_; refine oN ?_) | (refine rg 8 ?_; refine oMv ?_; refine oFb ?_; (first | refine sp (po_load_ntn rfl rfl (tyT rfl) rfl) ?_ | refine sp (po_load_ntk rfl rfl (tyT rfl) rfl (by first | assumption | omega) (by assumption) rfl) ?_ | refine oLb ?_); refine sp (po_bytes_str rfl rfl (by exact .t _) byt28 (tyR rfl)) ?_; refine sp (po_buildSlice rfl (tyE rfl) (dc (.nil _)) rfl rfl rfl) ?_; refine sap rfl (tyE rfl) ?_; refine oAs ?_; refine oN ?_) | (refine rg 4 ?_; refine oMv ?_; refine sp (xinc rfl) ?_; refine oAs ?_; refine oN ?_) | refine gc ?_ | refine ct ?_ | refine cf ?_)
  · obtain rfl : k = (rowP d x y).length := by omega
    obtain ⟨e1, e2⟩ := atP_none (d := d) (x := x) (y := y) (k := ((rowP d x y).length : Int)) (.inr (Int.le_refl _))
    rw [e1] at c1
    generalize (atP d x y ((rowP d x y).length : Int)).2 = q at *
    rw [List.take_length]
    repeat' (first | (refine rg 3 ?_; refine oMv ?_; refine oCm ?_; refine oN ?_) | (refine rg 5 ?_; refine oMv ?_; refine oMv ?_; refine oMv ?_; refine oMv ?_; refine sops_lcall (c1) (fun i => i) (fun i => i) (fun _ => false) (.free rfl rfl) rfl rfl rfl (by ((repeat' (first | exact .nil | refine .cons rfl rfl rfl ?_)) <;> fail)) (.cons rfl rfl .nil) .nil rfl rfl (fun _ h => Bool.noConfusion h) ?_; refine oMv ?_; (first | refine oEx ?_ | refine sp (po_extract_tu rfl rfl rfl) ?_); (first | refine oEx ?_ | refine sp (po_extract_tu rfl rfl rfl) ?_); refine sal str32 ?_; refine oS ?_; refine oAs ?_; refine oN ?_) | (refine rg 6 ?_; refine oMv ?_; refine oCm ?_; refine oN ?_) | (refine rg 7 ?_; refine oMv ?_; refine oAs ?_; refine oN ?_) | refine gc ?_ | refine ct ?_ | refine cf ?_ | refine swp_cond rfl (fun hc => ?_) (fun hc => ?_) | refine retl (by exact .inr rfl) rfl (.tmpT rfl (by first | exact .t _ | exact .own rfl (by rfl) | exact .nil _ | exact .emp _ | exact .fn _) .nil) ?_ rfl (.cons rfl (by rfl) rfl .nil) .nil)
    rfl
end Go.Proofs.Ytgbcmjcaggnobaa.Sim

/- The laws' parts: like, played, three, awake. -/
namespace Go.Proofs.Ytgbcmjcaggnobaa.Sim
set_option linter.unusedVariables false
set_option linter.unusedSimpArgs false
open Go.RowKit Mem
theorem sameP_iff {a b : PMsg} : sameP a b = true ↔ a = b := by
  unfold sameP
  cases a; cases b
  simp
/-- a net behind calls -/
def playN (n : Nat) (l : List PHop) : PNet := l.foldl doesN (netE n)
theorem netE_ok {n : Nat} (h : n ≤ 9) : NetOk (netE n) := ⟨h, fun _ => Nat.zero_le _, fun _ x hx => (by cases hx), fun _ _ => rfl⟩
theorem doesN_n (d : PNet) (h : PHop) : (doesN d h).n = d.n := by
  unfold doesN sendP delP doubleP frontP
  cases isL d.n h.f h.t <;> (repeat' split) <;> first | rfl | (simp only [cond_true, cond_false]; repeat' split) <;> rfl
theorem foldl_ok {d : PNet} (hd : NetOk d) (l : List PHop) : NetOk (l.foldl doesN d) ∧ (l.foldl doesN d).n = d.n := by
  induction l generalizing d with
  | nil => exact ⟨hd, rfl⟩
  | cons h l ih =>
    obtain ⟨h1, h2⟩ := ih (does_okN hd h)
    exact ⟨h1, h2.trans (doesN_n d h)⟩
theorem play_ok {n : Nat} (h : n ≤ 9) (l : List PHop) : NetOk (playN n l) := (foldl_ok (netE_ok h) l).1
theorem play_s (n : Nat) (l : List PHop) (h : PHop) : playN n (l ++ [h]) = doesN (playN n l) h := by unfold playN; rw [List.foldl_append]; rfl
def SPl (n : Nat) (l : List PHop) (k : Nat) : St := ⟨[(1, .t (.sl 5 (l.map hopC))), (5, .bp 1100 0), (7, .t (.v (.int .i64 (k : Int))))], [(1100, [.rs (NetR (lnk (playN n (l.take k)).n) (playN n (l.take k)))])], []⟩
set_option maxRecDepth 100000 in
set_option maxHeartbeats 2000000 in
theorem played_ok (n : Nat) (h1 : 1 ≤ n) (h2 : n ≤ 9) (l : List PHop) (hl : heavyP l = false) : LCalls Try.prog 9 [.t (.v (.int .i64 (n : Int))), .t (.sl 5 (l.map hopC))] [] [] (.bp 1100 0) [(1100, [.rs (NetR (lnk (playN n l).n) (playN n l))])] [] := by
  obtain ⟨hl1, hl2, hl3⟩ := light hl
  have c1 := new_ok n h1 h2
  have c2 := heavy_ l (by omega) (fun x hx => by have := hl3 x hx; omega)
  rw [hl] at c2
  have hm : (l.map hopC).length = l.length := List.length_map _
  refine lcalls_of Try.func9 rfl rfl Try.ntmps9 rfl ?_
  repeat' (first | (refine rg 0 ?_; refine oAs ?_; refine oN ?_) | (refine rg 1 ?_; refine oMv ?_; (refine sops_lcall (c1) (fun i => i) (fun i => i) (fun _ => false) (.free rfl rfl) rfl rfl rfl (by ((repeat' (first | exact .nil | refine .cons rfl rfl rfl ?_)) <;> fail)) .nil .nil rfl rfl (fun _ h => Bool.noConfusion h) ?_); refine oMv ?_; (first | refine oEx ?_ | refine sp (po_extract_tu rfl rfl rfl) ?_); (first | refine oEx ?_ | refine sp (po_extract_tu rfl rfl rfl) ?_); refine oAs ?_; refine oAs ?_; refine oN ?_) | (refine rg 2 ?_; refine oMv ?_; refine oCm ?_; refine oMv ?_; refine oMv ?_ <;> refine sp (po_nil_bp rfl rfl (by kernel_rfl)) ?_ <;> (first | refine oPt ?_ | refine oPf ?_) <;> refine oMv ?_ <;> refine oMv ?_ <;> (first | refine sops_lcall (c1) (fun i => i) (fun i => i) (fun _ => false) gy rfl rfl rfl (by first | ((repeat' (first | exact .nil | refine .cons rfl rfl rfl ?_ | refine .vw rfl (by exact .t _) ?_)) <;> fail) | fail) .nil .nil rfl rfl (fun _ h => Bool.noConfusion h) ?_ | refine oC (c2) rfl (ac .nil) ?_) <;> (first | refine oPt ?_ | refine oPf ?_) <;> refine oN ?_) | (refine rg 4 ?_; refine oAs ?_; refine oN ?_) | refine gc ?_ | refine ct ?_ | refine cf ?_ | refine swp_cond rfl (fun hc => ?_) (fun hc => ?_) | refine rq rfl (rt .nil) ?_)
  refine swp_for (SPl n l) (fun _ => True) l.length ?_ trivial ?_
  · exact (weak_sub (.cons rfl rfl rfl (.cons rfl rfl rfl (.cons rfl rfl rfl .nil))) (.cons rfl rfl rfl .nil) .nil)
  intro k hk _
  unfold SPl
  by_cases hlt : k < l.length
  · have hlt' : (k : Int) < l.length := by omega
    have hat : (l.map hopC)[k]? = some (hopC l[k]) := by rw [List.getElem?_map, List.getElem?_eq_getElem hlt]; rfl
    have c3 := does_ (playN n (l.take k)) (play_ok h2 _) l[k] (hl3 _ (List.getElem_mem hlt))
    have e1 : playN n (l.take (k + 1)) = doesN (playN n (l.take k)) l[k] := by rw [← List.take_append_getElem hlt, play_s]
    unfold hopT at c3
    unfold hopC at hat
    unfold doesA at c3
    repeat' (first | refine for_next hlt (weak_sub (.cons rfl (by rfl) rfl (.cons rfl (by rfl) rfl (.cons rfl (by rfl) rfl .nil))) (.cons rfl (by first | rfl | ((rw [e1]; try rfl))) rfl .nil) .nil) trivial | (refine rg 5 ?_; refine oMv ?_; refine oMv ?_; (first | refine sp (po_len_own rfl rfl (tyS rfl)) ?_ | refine sp (pln rfl (tyS rfl)) ?_); refine oCm ?_; refine oN ?_) | (refine rg 7 ?_; refine oMv ?_; refine oMv ?_; refine oMv ?_; (first | refine sp (ixo rfl) ?_ | refine sp (po_index_arr rfl rfl rfl arr22 rfl (by first | omega | assumption)) ?_ | refine sp (pix rfl (tyS rfl)) ?_); (first | refine sp (po_load_bx_agg rfl rfl (tyT rfl) rfl (vc (vc (vc (vc (vc .nil))))) rfl) ?_ | refine sp (po_load_agg rfl rfl (tyT rfl) rfl rfl) ?_); refine sops_lcall (c3) (fun _ => 1100) (fun i => i) (fun _ => false) (.free rfl rfl) rfl rfl rfl (by ((repeat' (first | exact .nil | refine .cons rfl rfl rfl ?_)) <;> fail)) (.cons rfl rfl .nil) .nil rfl rfl (fun _ h => Bool.noConfusion h) ?_; refine oN ?_) | (refine rg 6 ?_; refine oMv ?_; refine sp (xinc rfl) ?_; refine oAs ?_; refine oN ?_) | refine gc ?_ | refine ct ?_)
  · obtain rfl : k = l.length := by omega
    rw [List.take_length]
    repeat' (first | (refine rg 5 ?_; refine oMv ?_; refine oMv ?_; (first | refine sp (po_len_own rfl rfl (tyS rfl)) ?_ | refine sp (pln rfl (tyS rfl)) ?_); refine oCm ?_; refine oN ?_) | (refine rg 8 ?_; refine oMv ?_; refine oAs ?_; refine oN ?_) | refine gc ?_ | refine ct ?_ | refine cf ?_ | refine swp_cond rfl (fun hc => ?_) (fun hc => ?_) | exact retl1 (by exact .inr rfl) rfl (.tmp rfl rfl .nil) rfl (.cons rfl (by rfl) rfl .nil) .nil)
set_option maxRecDepth 100000 in
theorem played_bad (n : Int) (h : n < 1 ∨ 9 < n) (l : List PHop) : LCalls Try.prog 9 [.t (.v (.int .i64 n)), .t (.sl 5 (l.map hopC))] [] [] (.t (.v (.pointer none))) [] [] := by
  have c1 := new_bad n h
  refine lcalls_of Try.func9 rfl rfl Try.ntmps9 rfl ?_
  repeat' (first | (refine rg 0 ?_; refine oAs ?_; refine oN ?_) | (refine rg 1 ?_; refine oMv ?_; refine sops_lcall (c1) (fun i => i) (fun i => i) (fun _ => false) (.free rfl rfl) rfl rfl rfl (by ((repeat' (first | exact .nil | refine .cons rfl rfl rfl ?_)) <;> fail)) .nil .nil rfl rfl (fun _ h => Bool.noConfusion h) ?_; refine oMv ?_; (first | refine oEx ?_ | refine sp (po_extract_tu rfl rfl rfl) ?_); (first | refine oEx ?_ | refine sp (po_extract_tu rfl rfl rfl) ?_); refine oAs ?_; refine oAs ?_; refine oN ?_) | (refine rg 2 ?_; refine oMv ?_; refine oCm ?_; refine oMv ?_; (first | refine oMv ?_ | refine oK ?_) <;> (first | refine sp (po_nil_bp rfl rfl (by kernel_rfl)) ?_ | refine sp (po_nil_p0 rfl rfl (by kernel_rfl)) ?_ | refine oK ?_) <;> refine oPt ?_ <;> refine oMv ?_ <;> (first | refine oMv ?_ | refine oK ?_) <;> (first | refine sops_lcall (c1) (fun i => i) (fun i => i) (fun _ => false) gy rfl rfl rfl (by first | ((repeat' (first | exact .nil | refine .cons rfl rfl rfl ?_ | refine .vw rfl (by first | exact .t _ | exact .own rfl (by first | rfl | assumption | (simp; done) | (simp; omega)) | exact .nil _ | exact .emp _ | exact .fn _) ?_)) <;> fail) | fail) .nil .nil rfl rfl (fun _ h => Bool.noConfusion h) ?_ | refine oK ?_) <;> refine oPt ?_ <;> refine oN ?_) | (refine rg 3 ?_; refine oAs ?_; refine oN ?_) | refine gc ?_ | refine ct ?_ | refine cf ?_ | refine swp_cond rfl (fun hc => ?_) (fun hc => ?_) | exact retl1 (by exact .inr rfl) rfl (.tmp rfl rfl .nil) rfl .nil .nil)
end Go.Proofs.Ytgbcmjcaggnobaa.Sim
