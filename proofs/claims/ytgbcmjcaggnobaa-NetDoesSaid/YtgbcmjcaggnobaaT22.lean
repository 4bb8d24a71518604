/- Merged by bundles.py: SimNud, SimCb. -/
import Derived.Test.YtgbcmjcaggnobaaT21
import Derived.Test.YtgbcmjcaggnobaaT11
import Derived.Test.YtgbcmjcaggnobaaT4
import Derived.Lib.SlBytesConst
/- A net counted; copied. -/
namespace Go.Proofs.Ytgbcmjcaggnobaa.Sim
set_option linter.unusedVariables false
set_option linter.unusedSimpArgs false
open Go.RowKit Mem
def cntA (d : PNet) (l : List (Nat × Nat)) : Int := l.foldl (fun s p => s + lenP d p.1 p.2) 0
def cntP (d : PNet) : Int := cntA d (linksP d)
theorem cntA_s (d : PNet) (l : List (Nat × Nat)) (p : Nat × Nat) : cntA d (l ++ [p]) = cntA d l + lenP d p.1 p.2 := by unfold cntA; rw [List.foldl_append]; rfl
theorem lenP_link {d : PNet} {p : Nat × Nat} (h : IsL d.n p.1 p.2) : lenP d p.1 p.2 = ((d.row (keyP p)).length : Int) := by
  unfold lenP
  obtain ⟨e1, e2⟩ := isL_of h
  rw [e1, e2]; rfl
theorem lenP_le {d : PNet} (hd : NetOk d) (x y : Int) : 0 ≤ lenP d x y ∧ lenP d x y ≤ 32 := by
  unfold lenP
  cases isL d.n x y with
  | false => exact ⟨Int.le_refl _, by show (0 : Int) ≤ 32; omega⟩
  | true =>
    have := hd.len (kOf x y)
    show 0 ≤ ((d.row (kOf x y)).length : Int) ∧ ((d.row (kOf x y)).length : Int) ≤ 32
    omega
theorem cntA_le {d : PNet} (hd : NetOk d) (l : List (Nat × Nat)) : 0 ≤ cntA d l ∧ cntA d l ≤ 32 * l.length := by
  have key : ∀ (l : List (Nat × Nat)) (s : Int), 0 ≤ s → s ≤ l.foldl (fun s p => s + lenP d p.1 p.2) s ∧ l.foldl (fun s p => s + lenP d p.1 p.2) s ≤ s + 32 * l.length := by
    intro l
    induction l with
    | nil => intro s hs; simp
    | cons p l ih =>
      intro s hs
      have h1 := lenP_le hd p.1 p.2
      have h2 := ih (s + lenP d p.1 p.2) (by omega)
      simp only [List.foldl_cons, List.length_cons]
      omega
  have := key l 0 (Int.le_refl _)
  unfold cntA; omega
theorem links_len (d : PNet) (hn : d.n ≤ 9) : (linksP d).length ≤ 81 := by
  have := outL_len d hn d.n
  unfold linksP; omega
def SC (d : PNet) (k : Nat) : St := ⟨[(3, .t (.v (.int .i64 (cntA d ((linksP d).take k))))), (7, .t (.sl 3 ((linksP d).map (linkT d)))), (8, .t (.v (.int .i64 ((linksP d).length : Int)))), (9, .t (.v (.int .i64 (k : Int))))], netN d, []⟩
set_option maxRecDepth 100000 in
set_option maxHeartbeats 2000000 in
theorem count_ (d : PNet) (hd : NetOk d) : LCalls Try.prog 13 [.bp 3000 0] (netN d) [] (.t (.v (.int .i64 (cntP d)))) (netN d) [] := by
  have c1 := links_ d hd
  have hm : ((linksP d).map (linkT d)).length = (linksP d).length := List.length_map _
  refine lcalls_of Try.func13 rfl rfl Try.ntmps13 rfl ?_
  repeat' (first | (refine rg 0 ?_; refine oAs ?_; refine oN ?_) | (refine rg 1 ?_; refine oAs ?_; refine oN ?_) | (refine rg 2 ?_; refine oMv ?_; refine sops_lcall (c1) (fun i => i) (fun i => i) (fun _ => false) (.free rfl rfl) rfl rfl rfl (by ((repeat' (first | exact .nil | refine .cons rfl rfl rfl ?_)) <;> fail)) (.cons rfl rfl .nil) .nil rfl rfl (fun _ h => Bool.noConfusion h) ?_; refine sp (pln rfl (tyS rfl)) ?_; refine oMv ?_; refine oN ?_) | refine gc ?_ | refine ct ?_ | refine cf ?_ | refine swp_cond rfl (fun hc => ?_) (fun hc => ?_) | refine rq rfl (rt .nil) ?_)
  refine swp_for (SC d) (fun _ => True) (linksP d).length ?_ trivial ?_
  · exact (weak_sub (.cons rfl (by first | rfl | ((rw [hm]; try rfl))) rfl (.cons rfl (by first | rfl | ((rw [hm]; try rfl))) rfl (.cons rfl (by first | rfl | ((rw [hm]; try rfl))) rfl (.cons rfl (by first | rfl | ((rw [hm]; try rfl))) rfl .nil)))) (.cons rfl (by first | rfl | ((rw [hm]; try rfl))) rfl .nil) .nil)
  intro k hk _
  unfold SC
  by_cases hlt : k < (linksP d).length
  · have hlt' : (k : Int) < (linksP d).length := by omega
    have hat : ((linksP d).map (linkT d))[k]? = some (linkT d (linksP d)[k]) := by rw [List.getElem?_map, List.getElem?_eq_getElem hlt]; rfl
    have h1 := cntA_le hd ((linksP d).take k)
    have h2 := links_len d hd.n
    have h3 := lenP_le hd (linksP d)[k].1 (linksP d)[k].2
    have h4 : ((linksP d).take k).length ≤ 81 := by rw [List.length_take]; omega
    have e1 : cntA d ((linksP d).take (k + 1)) = cntA d ((linksP d).take k) + lenP d (linksP d)[k].1 (linksP d)[k].2 := by rw [← List.take_append_getElem hlt, cntA_s]
    repeat' (first | refine for_next hlt (weak_sub (.cons rfl (by first | rfl | ((rw [e1]; try rfl))) rfl (.cons rfl (by rfl) rfl (.cons rfl (by rfl) rfl (.cons rfl (by rfl) rfl .nil)))) (.cons rfl (by rfl) rfl .nil) .nil) trivial | (refine rg 3 ?_; refine oCm ?_; refine oN ?_) | (refine rg 4 ?_; (first | refine sp (po_index_arr rfl rfl rfl arr58 rfl (by first | omega | assumption)) ?_ | refine sp (pix rfl (tyS rfl)) ?_); (first | refine sp (po_load_bx_agg rfl rfl (tyT rfl) rfl (vc (vc (vc .nil))) rfl) ?_ | refine sp (po_load_agg rfl rfl (tyT rfl) rfl rfl) ?_); refine sal str61 ?_; refine oS ?_; refine oN ?_) | (refine rg 5 ?_; refine oMv ?_; refine oFb ?_; (first | refine sp (po_load_ntn rfl rfl (tyT rfl) rfl) ?_ | refine sp (po_load_ntk rfl rfl (tyT rfl) rfl (by first | assumption | omega) (by assumption) rfl) ?_ | refine oLb ?_); (first | refine sp (xinc rfl) ?_ | refine sp (xadd rfl) ?_); refine oAs ?_; refine oN ?_) | (refine rg 6 ?_; refine sp (xinc rfl) ?_; refine oMv ?_; refine oN ?_) | refine gc ?_ | refine ct ?_)
  · obtain rfl : k = (linksP d).length := by omega
    rw [List.take_length]
    repeat' (first | (refine rg 3 ?_; refine oCm ?_; refine oN ?_) | (refine rg 7 ?_; refine oMv ?_; refine oAs ?_; refine oN ?_) | refine gc ?_ | refine ct ?_ | refine cf ?_ | refine swp_cond rfl (fun hc => ?_) (fun hc => ?_) | exact retl1 (by exact .inr rfl) rfl (.tmp rfl rfl .nil) rfl (.cons rfl (by rfl) rfl .nil) .nil)
theorem copN_ok {d : PNet} (hd : NetOk d) (l : List (Nat × Nat)) : NetOk (copN d l) where
  n := hd.n
  len := fun k => by
    unfold copN; dsimp only
    split
    · exact hd.len k
    · exact Nat.zero_le _
  big := fun k x hx => by
    unfold copN at hx; dsimp only at hx
    split at hx
    · exact hd.big k x hx
    · cases hx
  zero := fun k hk => by
    unfold copN; dsimp only
    split
    · exact hd.zero k hk
    · rfl
def SP1 (d : PNet) (j : Nat) : St := ⟨[(0, .bp 3000 0), (3, .bp 1100 0), (22, .t (.sl 3 ((linksP d).map (linkT d)))), (23, .t (.v (.int .i64 ((linksP d).length : Int)))), (24, .t (.v (.int .i64 (j : Int))))], [(3000, [.rs (NetR (lnk d.n) d)]), (1100, [.rs (NetR (lnk d.n) (copN d ((linksP d).take j)))])], []⟩
def SP2 (d : PNet) (j : Nat) (p : Nat × Nat) (i : Nat) : St := ⟨[(0, .bp 3000 0), (3, .bp 1100 0), (6, .bp 6 0), (22, .t (.sl 3 ((linksP d).map (linkT d)))), (23, .t (.v (.int .i64 ((linksP d).length : Int)))), (24, .t (.v (.int .i64 (j : Int)))), (29, .t (.v (.int .i64 ((d.row (keyP p)).length : Int)))), (30, .t (.v (.int .i64 (i : Int))))], [(3000, [.rs (NetR (lnk d.n) d)]), (1100, [.rs (NetR (lnk d.n) ((copN d ((linksP d).take j)).put (keyP p) ((d.row (keyP p)).take i)))]), (6, [.t (.v (.int .i64 (p.1 : Int))), .t (.v (.int .i64 (p.2 : Int))), .t (.v (.int .i64 ((d.row (keyP p)).length : Int)))])], []⟩
set_option maxRecDepth 100000 in
set_option maxHeartbeats 4000000 in
theorem copy_ (d : PNet) (hd : NetOk d) (h1 : 1 ≤ d.n) : LCalls Try.prog 24 [.bp 3000 0] (netN d) [] (.bp 1100 0) [(3000, [.rs (NetR (lnk d.n) d)]), (1100, [.rs (NetR (lnk d.n) d)])] [] := by
  have c0 := nodes_ (lnk d.n) d
  have c1 := links_ d hd
  have c2 := new_ok d.n h1 hd.n
  have hm : ((linksP d).map (linkT d)).length = (linksP d).length := List.length_map _
  have hnz : ¬ ((d.n : Int) = 0) := by omega
  have hl81 := links_len d hd.n
  refine lcalls_of Try.func24 rfl rfl Try.ntmps24 rfl ?_
  repeat' (first | (refine rg 0 ?_; refine oAs ?_; refine oN ?_) | (refine rg 1 ?_; refine oMv ?_; (first | refine sops_lcall (c2) (fun i => i) (fun i => i) (fun _ => false) (.free rfl rfl) rfl rfl rfl (by first | ((repeat' (first | exact .nil | refine .cons rfl rfl rfl ?_ | refine .vw rfl (by exact .t _) ?_)) <;> fail) | fail) .nil .nil rfl rfl (fun _ h => Bool.noConfusion h) ?_ | refine sops_lcall (c1) (fun i => i) (fun i => i) (fun _ => false) (.free rfl rfl) rfl rfl rfl (by first | ((repeat' (first | exact .nil | refine .cons rfl rfl rfl ?_ | refine .vw rfl (by first | exact .t _ | exact .own rfl (by rfl) | exact .nil _ | exact .emp _ | exact .fn _) ?_)) <;> fail) | fail) (.cons rfl rfl .nil) .nil rfl rfl (fun _ h => Bool.noConfusion h) ?_ | refine sops_lcall (c0) (fun i => i) (fun i => i) (fun _ => false) (.free rfl rfl) rfl rfl rfl (by ((repeat' (first | exact .nil | refine .cons rfl rfl rfl ?_)) <;> fail)) (.cons rfl rfl .nil) .nil rfl rfl (fun _ h => Bool.noConfusion h) ?_); refine oCm ?_; refine oN ?_) | (refine rg 3 ?_; refine oMv ?_; refine sp (po_nilcheck rfl rfl) ?_; refine oFb ?_; refine sp (po_load_ntn rfl rfl (tyT rfl) rfl) ?_; (refine sops_lcall (c2) (fun i => i) (fun i => i) (fun _ => false) (.free rfl rfl) rfl rfl rfl (by ((repeat' (first | exact .nil | refine .cons rfl rfl rfl ?_)) <;> fail)) .nil .nil rfl rfl (fun _ h => Bool.noConfusion h) ?_); refine oMv ?_; (first | refine oEx ?_ | refine sp (po_extract_tu rfl rfl rfl) ?_); (first | refine oEx ?_ | refine sp (po_extract_tu rfl rfl rfl) ?_); refine oAs ?_; refine oAs ?_; refine oN ?_) | (refine rg 4 ?_; refine oMv ?_; (first | refine sops_lcall (c2) (fun i => i) (fun i => i) (fun _ => false) (.free rfl rfl) rfl rfl rfl (by first | ((repeat' (first | exact .nil | refine .cons rfl rfl rfl ?_ | refine .vw rfl (by exact .t _) ?_)) <;> fail) | fail) .nil .nil rfl rfl (fun _ h => Bool.noConfusion h) ?_ | refine sops_lcall (c1) (fun i => i) (fun i => i) (fun _ => false) (.free rfl rfl) rfl rfl rfl (by ((repeat' (first | exact .nil | refine .cons rfl rfl rfl ?_)) <;> fail)) (.cons rfl rfl .nil) .nil rfl rfl (fun _ h => Bool.noConfusion h) ?_); (first | refine sp (po_len_own rfl rfl (tyS rfl)) ?_ | refine sp (pln rfl (tyS rfl)) ?_); refine oMv ?_; refine oN ?_) | refine gc ?_ | refine ct ?_ | refine cf ?_ | refine swp_cond rfl (fun hc => ?_) (fun hc => ?_) | refine rq rfl (rt .nil) ?_)
  refine swp_for (SP1 d) (fun _ => True) (linksP d).length ?_ trivial ?_
  · exact (weak_sub (.cons rfl (by first | rfl | ((rw [hm]; try rfl))) rfl (.cons rfl (by first | rfl | ((rw [hm]; try rfl))) rfl (.cons rfl (by first | rfl | ((rw [hm]; try rfl))) rfl (.cons rfl (by first | rfl | ((rw [hm]; try rfl))) rfl (.cons rfl (by first | rfl | ((rw [hm]; try rfl))) rfl .nil))))) (.cons rfl (by first | rfl | ((rw [hm]; try rfl))) rfl (.cons rfl (by first | rfl | ((rw [hm]; try rfl))) rfl .nil)) .nil)
  intro j hj _
  unfold SP1
  by_cases hlt : j < (linksP d).length
  · have hlt' : (j : Int) < (linksP d).length := by omega
    have hat : ((linksP d).map (linkT d))[j]? = some (linkT d (linksP d)[j]) := by rw [List.getElem?_map, List.getElem?_eq_getElem hlt]; rfl
    have hmem := (mem_links.1 (List.getElem_mem hlt)).1
    have hle := lenP_link hmem
    have hnew : (copN d ((linksP d).take j)).row (keyP (linksP d)[j]) = [] := copN_row_new fun q hq => by
      have hpw := pw_outL d hd.n d.n
      have : (linksP d).Pairwise fun p q => keyP p < keyP q := hpw
      rw [← List.take_append_drop j (linksP d), List.pairwise_append] at this
      refine this.2.2 q hq _ ?_
      have hdr : (linksP d).drop j = (linksP d)[j] :: (linksP d).drop (j + 1) := List.drop_eq_getElem_cons hlt
      rw [hdr]; exact List.mem_cons_self
    have hs : copN d ((linksP d).take (j + 1)) = (copN d ((linksP d).take j)).put (keyP (linksP d)[j]) (d.row (keyP (linksP d)[j])) := by rw [← List.take_append_getElem hlt, copN_snoc]
    have hp0 : (copN d ((linksP d).take j)).put (keyP (linksP d)[j]) [] = copN d ((linksP d).take j) := by rw [← hnew, PNet.put_same]
    have hco := copN_ok hd ((linksP d).take j)
    unfold linkT at hat
    rw [hle] at hat
    repeat' (first | (refine rg 5 ?_; refine oCm ?_; refine oN ?_) | (refine rg 6 ?_; (first | refine sp (ixo rfl) ?_ | refine sp (po_index_arr rfl rfl rfl arr58 rfl (by first | omega | assumption)) ?_ | refine sp (pix rfl (tyS rfl)) ?_); (first | refine sp (po_load_bx_agg rfl rfl (tyT rfl) rfl (vc (vc (vc .nil))) rfl) ?_ | refine sp (po_load_agg rfl rfl (tyT rfl) rfl rfl) ?_); refine sal str61 ?_; refine oS ?_; refine oN ?_) | (refine rg 7 ?_; refine oFb ?_; (first | refine sp (po_load_ntn rfl rfl (tyT rfl) rfl) ?_ | refine sp (po_load_ntk rfl rfl (tyT rfl) rfl (by first | assumption | omega) (by assumption) rfl) ?_ | refine oLb ?_); refine oMv ?_; refine oN ?_) | refine gc ?_ | refine ct ?_ | refine cf ?_ | refine swp_cond rfl (fun hc => ?_) (fun hc => ?_) | refine rq rfl (rt .nil) ?_)
    generalize (linksP d)[j] = p at *
    refine swp_for (SP2 d j p) (fun _ => True) (d.row (keyP p)).length ?_ trivial ?_
    · exact (weak_sub (.cons rfl (by first | rfl | (first | (rw [List.take_zero, hp0]; try rfl) | trivial)) rfl (.cons rfl (by first | rfl | (first | (rw [List.take_zero, hp0]; try rfl) | trivial)) rfl (.cons rfl (by first | rfl | (first | (rw [List.take_zero, hp0]; try rfl) | trivial)) rfl (.cons rfl (by first | rfl | (first | (rw [List.take_zero, hp0]; try rfl) | trivial)) rfl (.cons rfl (by first | rfl | (first | (rw [List.take_zero, hp0]; try rfl) | trivial)) rfl (.cons rfl (by first | rfl | (first | (rw [List.take_zero, hp0]; try rfl) | trivial)) rfl (.cons rfl (by first | rfl | (first | (rw [List.take_zero, hp0]; try rfl) | trivial)) rfl (.cons rfl (by first | rfl | (first | (rw [List.take_zero, hp0]; try rfl) | trivial)) rfl .nil)))))))) (.cons rfl (by first | rfl | (first | (rw [List.take_zero, hp0]; try rfl) | trivial)) rfl (.cons rfl (by first | rfl | (first | (rw [List.take_zero, hp0]; try rfl) | trivial)) rfl (.cons rfl (by first | rfl | (first | (rw [List.take_zero, hp0]; try rfl) | trivial)) rfl .nil))) .nil)
    intro i hi _
    unfold SP2
    by_cases hli : i < (d.row (keyP p)).length
    · have hli' : (i : Int) < (d.row (keyP p)).length := by omega
      have c3 := at_ok d hd p.1 p.2 i hmem hli
      have hb := hd.big _ _ (List.getElem_mem hli)
      have hlen := hd.len (keyP p)
      have hput : NetOk ((copN d ((linksP d).take j)).put (keyP p) ((d.row (keyP p)).take i)) := hco.put ⟨p.1, p.2, hmem, rfl⟩ (by rw [List.length_take]; omega) fun x hx => hd.big _ x (List.mem_of_mem_take hx)
      have c4 := send_ok _ hput p.1 p.2 hmem (d.row (keyP p))[i] hb (by
        show (((copN d ((linksP d).take j)).put (keyP p) ((d.row (keyP p)).take i)).row (keyP p)).length < 32
        rw [PNet.put_row, List.length_take]; omega)
      have e1 : ((copN d ((linksP d).take j)).put (keyP p) ((d.row (keyP p)).take i)).put (p.1 * 10 + p.2) (((copN d ((linksP d).take j)).put (keyP p) ((d.row (keyP p)).take i)).row (p.1 * 10 + p.2) ++ [(d.row (keyP p))[i]]) = (copN d ((linksP d).take j)).put (keyP p) ((d.row (keyP p)).take (i + 1)) := by
        show ((copN d ((linksP d).take j)).put (keyP p) ((d.row (keyP p)).take i)).put (keyP p) (((copN d ((linksP d).take j)).put (keyP p) ((d.row (keyP p)).take i)).row (keyP p) ++ [(d.row (keyP p))[i]]) = _
        rw [PNet.put_put, PNet.put_row, List.take_append_getElem hli]
      rw [e1] at c4
      repeat' (first | refine for_next hli (weak_sub (.cons rfl rfl rfl (.cons rfl rfl rfl (.cons rfl rfl rfl (.cons rfl rfl rfl (.cons rfl rfl rfl (.cons rfl rfl rfl (.cons rfl rfl rfl (.cons rfl rfl rfl .nil)))))))) (.cons rfl rfl rfl (.cons rfl rfl rfl (.cons rfl rfl rfl .nil))) .nil) trivial | (refine rg 8 ?_; refine oCm ?_; refine oN ?_) | (refine rg 9 ?_; refine oMv ?_; refine oAs ?_; refine oN ?_) | (refine rg 10 ?_; refine oMv ?_; refine oFb ?_; (first | refine sp (po_load_ntn rfl rfl (tyT rfl) rfl) ?_ | refine sp (po_load_ntk rfl rfl (tyT rfl) rfl (by first | assumption | omega) (by assumption) rfl) ?_ | refine oLb ?_); refine oFb ?_; (first | refine sp (po_load_ntn rfl rfl (tyT rfl) rfl) ?_ | refine sp (po_load_ntk rfl rfl (tyT rfl) rfl (by first | assumption | omega) (by assumption) rfl) ?_ | refine oLb ?_); refine oMv ?_; (first | refine sops_lcall (c4) (fun _ => 1100) (fun i => i) (fun _ => false) (.free rfl rfl) rfl rfl rfl (by first | ((repeat' (first | exact .nil | refine .cons rfl rfl rfl ?_ | refine .vw rfl (by first | exact .t _ | exact .own rfl (by rfl) | exact .nil _ | exact .emp _ | exact .fn _) ?_)) <;> fail) | fail) (.cons rfl rfl .nil) .nil rfl rfl (fun _ h => Bool.noConfusion h) ?_ | refine sops_lcall (c3) (fun i => i) (fun i => i) (fun _ => false) (.free rfl rfl) rfl rfl rfl (by ((repeat' (first | exact .nil | refine .cons rfl rfl rfl ?_)) <;> fail)) (.cons rfl rfl .nil) .nil rfl rfl (fun _ h => Bool.noConfusion h) ?_); refine oMv ?_; (first | refine oEx ?_ | refine sp (po_extract_tu rfl rfl rfl) ?_); (first | refine oEx ?_ | refine sp (po_extract_tu rfl rfl rfl) ?_); refine sal str32 ?_; refine oS ?_; refine oAs ?_; refine oN ?_) | (refine rg 11 ?_; refine oMv ?_; refine oFb ?_; (first | refine sp (po_load_ntn rfl rfl (tyT rfl) rfl) ?_ | refine sp (po_load_ntk rfl rfl (tyT rfl) rfl (by first | assumption | omega) (by assumption) rfl) ?_ | refine oLb ?_); refine oFb ?_; (first | refine sp (po_load_ntn rfl rfl (tyT rfl) rfl) ?_ | refine sp (po_load_ntk rfl rfl (tyT rfl) rfl (by first | assumption | omega) (by assumption) rfl) ?_ | refine oLb ?_); refine oFb ?_; (first | refine sp (po_load_ntn rfl rfl (tyT rfl) rfl) ?_ | refine sp (po_load_ntk rfl rfl (tyT rfl) rfl (by first | assumption | omega) (by assumption) rfl) ?_ | refine oLb ?_); (refine sops_lcall (c4) (fun _ => 1100) (fun i => i) (fun _ => false) (.free rfl rfl) rfl rfl rfl (by ((repeat' (first | exact .nil | refine .cons rfl rfl rfl ?_)) <;> fail)) (.cons rfl rfl .nil) .nil rfl rfl (fun _ h => Bool.noConfusion h) ?_); refine oN ?_) | (refine rg 12 ?_; refine sp (xinc rfl) ?_; refine oMv ?_; refine oN ?_) | refine gc ?_ | refine ct ?_)
    · obtain rfl : i = (d.row (keyP p)).length := by omega
      rw [List.take_length, ← hs]
      repeat' (first | refine for_next hlt (weak_sub (.cons rfl rfl rfl (.cons rfl rfl rfl (.cons rfl rfl rfl (.cons rfl rfl rfl (.cons rfl rfl rfl .nil))))) (.cons rfl rfl rfl (.cons rfl rfl rfl .nil)) .nil) trivial | (refine rg 8 ?_; refine oCm ?_; refine oN ?_) | (refine rg 13 ?_; refine sp (xinc rfl) ?_; refine oMv ?_; refine oN ?_) | refine gc ?_ | refine ct ?_ | refine cf ?_)
  · obtain rfl : j = (linksP d).length := by omega
    rw [List.take_length, copN_all hd]
    repeat' (first | (refine rg 5 ?_; refine oCm ?_; refine oN ?_) | (refine rg 14 ?_; refine oMv ?_; refine oAs ?_; refine oN ?_) | refine gc ?_ | refine ct ?_ | refine cf ?_ | refine swp_cond rfl (fun hc => ?_) (fun hc => ?_) | exact retl1 (by exact .inr rfl) rfl (.tmp rfl rfl .nil) rfl (.cons rfl (by rfl) rfl (.cons rfl (by rfl) rfl .nil)) .nil)
end Go.Proofs.Ytgbcmjcaggnobaa.Sim

/- A logic of states: a constant text's bytes. -/
namespace Go.Proofs.Ytgbcmjcaggnobaa.Sim
set_option linter.unusedVariables false
set_option linter.unusedSimpArgs false
open Go.RowKit Mem
section
variable {P : Program} {N : Nat} {Q : Exit → St → Prop} {ops : Array Oper} {rest : List Oper} {o : Oper} {tm : List (Nat × A)} {bx : List (Nat × List A)} {ow : List (Nat × Own)}
/-- behind a constant's row: its conversion comes next -/
structure SMk (P : Program) (N : Nat) (ops : Array Oper) (Q : Exit → St → Prop) (d e : Nat) (rows : List (List T)) (l : List Oper) (st : St) : Prop where
  go : ∀ C a w m g, RelG C N st a w m g → ∀ vs : List Value, vs.length = rows.length * 1 → (∀ r ∈ rows, r.length = 1) → CellsAre m rows.flatten vs → wpList P ops (Good C N Q) l (a.put (some d) (.slice (some ⟨w.heap.size, 0, none⟩) rows.length rows.length)) (w.alloc (.cells vs.toArray e))
theorem sops_cb1 {t e by_ len d : Nat} {xs : List (Nat × Operand)} {rows : List (List T)} (hg : GuardIs ops tm o true) (ho : o.op = .buildSlice t len xs.toArray) (hd : o.dst = some d) (hT : sliceE P t = some (e, 1, by_)) (hx : DParts ow (evA tm) 1 0 xs rows) (hlen : rows.length = len) (h0 : Nat.blt 0 len = true) (hsm : Nat.ble (len * 1) (2 ^ 24) = true)
    (k : SMk P N ops Q d e rows rest ⟨tm, bx, ow⟩) : SOps P N ops Q (o :: rest) ⟨tm, bx, ow⟩ := by
  refine .mk fun C a w ⟨m, g, hr⟩ => ?_
  obtain ⟨vs, h1, h2, h3, h4, h5⟩ := hx.ok hr.env (a := a) (fun x _ y hy => hr.ev hy)
  have hrun := built_run (P := P) hT w vs h3 (by omega) (Nat.lt_of_succ_le (Nat.le_of_ble_eq_true h0)) hsm
  refine wpList_step fun K hK => ?_
  rw [if_pos (hg.wanted (m := m) (g := g) fun j want e _ _ y hy => hr.tmps e y hy)]
  subst hlen
  refine wp_of_run (v := .slice (some ⟨w.heap.size, 0, none⟩) rows.length rows.length) (w' := w.alloc (.cells (vs.flatMap fun v => v.cells.toList).toArray e)) ?_ (hK _ _ ?_)
  · simp only [execOp, ho, List.map_toArray]
    rw [show (xs.map fun x => (x.1, a.eval x.2)) = (vs.zipIdx 0).map (fun x => (x.2, x.1)) from h1, Sem.run_bind, hrun]; rfl
  · rw [hd]
    exact k.go C a w m g hr _ (by rw [flatMap_cells_len h3, h2]) h4 h5
theorem sops_cb2 {t e d d2 : Nat} {rows : List (List T)} (hg : GuardIs ops ((d, .t (.sl 1 rows)) :: tm) o true) (ho : o.op = .convert t t (.tmp d)) (hd : o.dst = some d2) (hN : Nat.blt d N = true) (hN2 : Nat.blt d2 N = true) (hT : byE P t = some e) (hsm : Nat.ble rows.length (2 ^ 24) = true)
    (h : SOps P N ops Q rest ⟨(d2, .t (.sl 1 rows)) :: (d, .t (.sl 1 rows)) :: tm, bx, ow⟩) : SMk P N ops Q d e rows (o :: rest) ⟨tm, bx, ow⟩ := by
  refine .mk fun C a w m g hr vs hl h4 h5 => ?_
  obtain ⟨t1, t2⟩ := byE_spec hT
  have hle := Nat.le_of_ble_eq_true hsm
  have hrl : rows.length ≤ maxLen := by unfold maxLen; omega
  have hd1 : d < N := Nat.lt_of_succ_le (Nat.le_of_ble_eq_true hN)
  have hlo : Lo w (w.alloc (.cells vs.toArray e (vs.toArray.size, vs.toArray.size + 1))) := (Lo.refl w).alloc _
  have hs := upm_sub hr.env.sub hlo
  have he := ext_upm (w' := w.alloc (.cells vs.toArray e (vs.toArray.size, vs.toArray.size + 1))) hr.env.sub
  have hnew : (w.alloc (.cells vs.toArray e (vs.toArray.size, vs.toArray.size + 1))).heap[w.heap.size]? = some (.cells vs.toArray e (vs.toArray.size, vs.toArray.size + 1)) := heap_alloc_new w _
  have hTR : TR (upm m w (w.alloc (.cells vs.toArray e (vs.toArray.size, vs.toArray.size + 1)))) (.sl 1 rows) (.slice (some ⟨w.heap.size, 0, none⟩) rows.length rows.length) := by
    refine tr_owns (w := w.alloc (.cells vs.toArray e (vs.toArray.size, vs.toArray.size + 1))) (base := 0) (e := e) (vs := vs) ⟨hl, .inr ⟨w.heap.size, rows.length, vs.toArray, rfl, Nat.zero_le _, ⟨_, hnew, .inr (Nat.le_refl _)⟩, Nat.le_refl _, hrl, by simp [hl], ?_⟩⟩ h4 (h5.mono he.1) ?_
    · simp only; rw [← hl]; exact List.take_length
    · intro b hb k u hu
      injection hb with hb; subst hb
      unfold upm
      rw [if_neg (Nat.lt_irrefl _)]
      unfold World.cell?
      rw [hnew]
      simpa using hu
  have R1 := hr.put (x := .t (.sl 1 rows)) (v := .slice (some ⟨w.heap.size, 0, none⟩) rows.length rows.length) (hr.env.step hlo he hs) (fun x v h => h.mono he.1) hd1 hTR
  have R2 := R1.put (d := d2) (x := .t (.sl 1 rows)) (v := .slice (some ⟨w.heap.size, 0, none⟩) rows.length rows.length) R1.env (fun x v h => h) (Nat.lt_of_succ_le (Nat.le_of_ble_eq_true hN2)) hTR
  refine wpList_step fun K hK => ?_
  rw [if_pos (hg.wanted (m := upm m w (w.alloc (.cells vs.toArray e (vs.toArray.size, vs.toArray.size + 1)))) (g := g) fun j want e _ _ y hy => R1.tmps e y hy)]
  refine wp_of_run (v := .slice (some ⟨w.heap.size, 0, none⟩) rows.length rows.length) (w' := w.alloc (.cells vs.toArray e (vs.toArray.size, vs.toArray.size + 1))) ?_ (hK _ _ (h.go C _ _ ⟨_, _, by rw [hd]; exact R2⟩))
  have hev := eval_put_same (a := a) (.slice (some ⟨w.heap.size, 0, none⟩) rows.length rows.length) hr.size hd1
  have hc := Lib.run_convert_bytes_const (P := P) w t e vs.toArray rows.length rows.length t1 t2
  simp only [execOp, ho, hev, Sem.run_bind, hc]
  rfl
end
end Go.Proofs.Ytgbcmjcaggnobaa.Sim
