/- Merged by bundles.py: SimLb, SimLc. -/
import Derived.Test.YtgbcmjcaggnobaaQ23
/- The laws' parts that ask a net: row, rest, like, played. -/
namespace Go.Proofs.Ytgbcmjcaggnobaa.Sim
set_option linter.unusedVariables false
set_option linter.unusedSimpArgs false
open Go.RowKit Mem
def rowP (d : PNet) (x y : Int) : List (List UInt8) := bif isL d.n x y then d.row (kOf x y) else []
def msOf (d : PNet) (p : Nat × Nat) (l : List (List UInt8)) : List PMsg := l.map fun b => ⟨p.1, p.2, b⟩
def restA (d : PNet) (l : List (Nat × Nat)) : List PMsg := l.flatMap fun p => msOf d p (d.row (keyP p))
def restP (d : PNet) : List PMsg := restA d (linksP d)
theorem restA_s (d : PNet) (l : List (Nat × Nat)) (p : Nat × Nat) : restA d (l ++ [p]) = restA d l ++ msOf d p (d.row (keyP p)) := by unfold restA; rw [List.flatMap_append]; simp
theorem restA_len {d : PNet} (hd : NetOk d) (l : List (Nat × Nat)) : (restA d l).length ≤ 32 * l.length := by
  induction l with
  | nil => exact Nat.le_refl _
  | cons p l ih =>
    have h1 := hd.len (keyP p)
    have : restA d (p :: l) = msOf d p (d.row (keyP p)) ++ restA d l := rfl
    rw [this, List.length_append]
    unfold msOf
    rw [List.length_map, List.length_cons]; omega
def SR1 (d : PNet) (j : Nat) : St := ⟨[(0, .bp 3000 0), (3, .own 100 ((restA d ((linksP d).take j)).map msgC).length), (4, .t (.sl 3 ((linksP d).map (linkT d)))), (5, .t (.v (.int .i64 (j : Int))))], netN d, [(100, ⟨32, 3, (restA d ((linksP d).take j)).map msgC⟩)]⟩
def SR2 (d : PNet) (j : Nat) (p : Nat × Nat) (i : Nat) : St := ⟨[(0, .bp 3000 0), (3, .own 100 ((restA d ((linksP d).take j) ++ msOf d p ((d.row (keyP p)).take i)).map msgC).length), (4, .t (.sl 3 ((linksP d).map (linkT d)))), (5, .t (.v (.int .i64 (j : Int)))), (6, .t (.v (.int .i64 (i : Int))))], netN d, [(100, ⟨32, 3, (restA d ((linksP d).take j) ++ msOf d p ((d.row (keyP p)).take i)).map msgC⟩)]⟩
set_option maxRecDepth 100000 in
set_option maxHeartbeats 4000000 in
theorem rest_ (d : PNet) (hd : NetOk d) : LCalls Try.prog 16 [.bp 3000 0] (netN d) [] (.t (.sl 3 ((restP d).map msgC))) (netN d) [] := by
  have c1 := links_ d hd
  have hm : ((linksP d).map (linkT d)).length = (linksP d).length := List.length_map _
  have hl81 := links_len d hd.n
  refine lcalls_of Try.func16 rfl rfl Try.ntmps16 rfl ?_
  repeat' (first | (refine rg 0 ?_; refine oAs ?_; refine oN ?_) | (refine rg 1 ?_; refine oAs ?_; refine oN ?_) | (refine rg 2 ?_; refine oMv ?_; refine sops_lcall (c1) (fun i => i) (fun i => i) (fun _ => false) (.free rfl rfl) rfl rfl rfl (by ((repeat' (first | exact .nil | refine .cons rfl rfl rfl ?_)) <;> fail)) (.cons rfl rfl .nil) .nil rfl rfl (fun _ h => Bool.noConfusion h) ?_; refine oAs ?_; refine oN ?_) | (refine rg 3 ?_; refine oAs ?_; refine oN ?_) | refine gc ?_ | refine ct ?_ | refine cf ?_ | refine swp_cond rfl (fun hc => ?_) (fun hc => ?_) | refine rq rfl (rt .nil) ?_)
  refine swp_for (SR1 d) (fun _ => True) (linksP d).length ?_ trivial ?_
  · refine Weak.trans (weak_own0 (i := 100) 32 3 (s := 3) rfl rfl) ?_
    exact (weak_sub (.cons rfl rfl rfl (.cons rfl rfl rfl (.cons rfl rfl rfl (.cons rfl rfl rfl .nil)))) (.cons rfl rfl rfl .nil) (.cons rfl rfl .nil))
  intro j hj _
  unfold SR1
  by_cases hlt : j < (linksP d).length
  · have hlt' : (j : Int) < (linksP d).length := by omega
    have hat : ((linksP d).map (linkT d))[j]? = some (linkT d (linksP d)[j]) := by rw [List.getElem?_map, List.getElem?_eq_getElem hlt]; rfl
    have hmem := (mem_links.1 (List.getElem_mem hlt)).1
    have hle := lenP_link hmem
    have hs : restA d ((linksP d).take (j + 1)) = restA d ((linksP d).take j) ++ msOf d (linksP d)[j] (d.row (keyP (linksP d)[j])) := by rw [← List.take_append_getElem hlt, restA_s]
    have hrl := restA_len hd ((linksP d).take j)
    rw [List.length_take] at hrl
    unfold linkT at hat
    rw [hle] at hat
    repeat' (first | (refine rg 4 ?_; refine oMv ?_; refine oMv ?_; refine sp (pln rfl (tyS rfl)) ?_; refine oCm ?_; refine oN ?_) | (refine rg 6 ?_; refine oAs ?_; refine oN ?_) | refine gc ?_ | refine ct ?_ | refine cf ?_ | refine swp_cond rfl (fun hc => ?_) (fun hc => ?_) | refine rq rfl (rt .nil) ?_)
    generalize (linksP d)[j] = p at *
    have hp0 : restA d ((linksP d).take j) ++ msOf d p ((d.row (keyP p)).take 0) = restA d ((linksP d).take j) := by rw [List.take_zero]; show _ ++ [] = _; rw [List.append_nil]
    refine swp_for (SR2 d j p) (fun _ => True) (d.row (keyP p)).length ?_ trivial ?_
    · exact (weak_sub (.cons rfl (by first | rfl | ((rw [hp0]; try rfl))) rfl (.cons rfl (by first | rfl | ((rw [hp0]; try rfl))) rfl (.cons rfl (by first | rfl | ((rw [hp0]; try rfl))) rfl (.cons rfl (by first | rfl | ((rw [hp0]; try rfl))) rfl (.cons rfl (by first | rfl | ((rw [hp0]; try rfl))) rfl .nil))))) (.cons rfl (by first | rfl | ((rw [hp0]; try rfl))) rfl .nil) (.cons rfl (by first | rfl | ((rw [hp0]; try rfl))) .nil))
    intro i hi _
    unfold SR2
    by_cases hli : i < (d.row (keyP p)).length
    · have hli' : (i : Int) < (d.row (keyP p)).length := by omega
      have c3 := at_ok d hd p.1 p.2 i hmem hli
      have hlen := hd.len (keyP p)
      have hml : ((restA d ((linksP d).take j) ++ msOf d p ((d.row (keyP p)).take i)).map msgC).length ≤ 3000 := by
        rw [List.length_map, List.length_append]; unfold msOf; rw [List.length_map, List.length_take]; omega
      have e1 : (restA d ((linksP d).take j) ++ msOf d p ((d.row (keyP p)).take (i + 1))).map msgC = (restA d ((linksP d).take j) ++ msOf d p ((d.row (keyP p)).take i)).map msgC ++ [msgC ⟨p.1, p.2, (d.row (keyP p))[i]⟩] := by
        have e2 : msOf d p ((d.row (keyP p)).take (i + 1)) = msOf d p ((d.row (keyP p)).take i) ++ [⟨p.1, p.2, (d.row (keyP p))[i]⟩] := by unfold msOf; rw [← List.take_append_getElem hli, List.map_append]; rfl
        rw [e2, ← List.append_assoc, List.map_append]; rfl
      unfold msgT at c3
      repeat' (first | refine for_next hli (weak_sub (.cons rfl (by rfl) rfl (.cons rfl (by first | rfl | ((rw [e1]; try rfl))) rfl (.cons rfl (by rfl) rfl (.cons rfl (by rfl) rfl (.cons rfl (by rfl) rfl .nil))))) (.cons rfl (by rfl) rfl .nil) (.cons rfl (by first | rfl | ((rw [e1]; try rfl))) .nil)) trivial | (refine rg 7 ?_; refine oMv ?_; refine oMv ?_; refine oMv ?_; (first | refine sp (ixo rfl) ?_ | refine sp (po_index_arr rfl rfl rfl arr58 rfl (by first | omega | assumption)) ?_ | refine sp (pix rfl (tyS rfl)) ?_); (first | refine oFb ?_ | refine oFd ?_); (first | refine sp (po_load_ntn rfl rfl (tyT rfl) rfl) ?_ | refine sp (po_load_ntk rfl rfl (tyT rfl) rfl (by first | assumption | omega) (by assumption) rfl) ?_ | refine oLb ?_ | refine oLd ?_); refine oCm ?_; refine oN ?_) | ((refine swp_any (id := 9) [[], [], [], [], [], [], [], [], [], [], [], [], [3000], [], [], [], [7], [7], []] [[7], [7], [7], [7], [7], [7], [7], [7], [7], [7], [7], [7], [7], [7], [7], [7], [3000], [], []] mixed (by kernel_rfl) ?_) <;> refine yp (fun _ _ => po_move rfl rfl) ?_ <;> refine yp (fun _ _ => po_move rfl rfl) ?_ <;> refine yp (fun _ _ => po_move rfl rfl) ?_ <;> (first | refine yp (fun _ _ => po_index_own rfl rfl rfl (by rfl) rfl (tyS rfl) (by rfl) (by first | assumption | omega)) ?_ | refine yp (fun _ _ => po_index_arr rfl rfl rfl arr58 rfl (by first | omega | assumption)) ?_ | refine yp (fun _ _ => pix rfl (tyS rfl)) ?_) <;> (first | refine yp (fun _ _ => po_field_bx rfl rfl (tyF rfl)) ?_ | refine yp (fun _ _ => po_field rfl rfl (tyF rfl)) ?_) <;> (first | refine yp (fun _ _ => po_load_ntn rfl rfl (tyT rfl) rfl) ?_ | refine yp (fun _ _ => po_load_ntk rfl rfl (tyT rfl) rfl (by first | assumption | omega) (by assumption) rfl) ?_ | refine yp (fun _ _ => po_load_bx rfl rfl (tyT rfl) rfl rfl) ?_ | refine yp (fun _ _ => po_load rfl rfl (tyT rfl) rfl) ?_) <;> refine yp (fun _ _ => po_move rfl rfl) ?_ <;> refine yp (fun _ _ => po_move rfl rfl) ?_ <;> (first | refine yp (fun _ _ => po_index_own rfl rfl rfl (by rfl) rfl (tyS rfl) (by rfl) (by first | assumption | omega)) ?_ | refine yp (fun _ _ => po_index_arr rfl rfl rfl arr58 rfl (by first | omega | assumption)) ?_ | refine yp (fun _ _ => pix rfl (tyS rfl)) ?_) <;> (first | refine yp (fun _ _ => po_field_bx rfl rfl (tyF rfl)) ?_ | refine yp (fun _ _ => po_field rfl rfl (tyF rfl)) ?_) <;> (first | refine yp (fun _ _ => po_load_ntn rfl rfl (tyT rfl) rfl) ?_ | refine yp (fun _ _ => po_load_ntk rfl rfl (tyT rfl) rfl (by first | assumption | omega) (by assumption) rfl) ?_ | refine yp (fun _ _ => po_load_bx rfl rfl (tyT rfl) rfl rfl) ?_ | refine yp (fun _ _ => po_load rfl rfl (tyT rfl) rfl) ?_) <;> refine yp (fun _ _ => po_move rfl rfl) ?_ <;> (refine sany_eff [(3000, _)] [] (.free rfl rfl) rfl rfl (fun _ _ hb ho => e_lcall (c3) (fun i => i) (fun i => i) rfl (by ((repeat' (first | exact .nil | refine .cons rfl rfl rfl ?_)) <;> fail)) (.cons rfl rfl .nil) .nil rfl rfl (by ((repeat' (first | exact .nil | refine .old rfl ?_)) <;> fail)) (by ((repeat' (exact .nil)) <;> fail)) .nil) ?_) <;> refine yp (fun _ _ => po_move rfl rfl) ?_ <;> (first | refine yp (fun _ _ => po_extract rfl rfl rfl) ?_ | refine yp (fun _ _ => po_extract_tu rfl rfl rfl) ?_) <;> (first | refine yp (fun _ _ => po_extract rfl rfl rfl) ?_ | refine yp (fun _ _ => po_extract_tu rfl rfl rfl) ?_) <;> refine sany_eff [(7, _)] [] (.free rfl rfl) rfl rfl (fun _ _ hb _ => e_allocS str32 rfl (hb 7 rfl rfl)) ?_ <;> refine sany_eff [(7, _)] [] (.free rfl rfl) rfl rfl (fun _ _ _ _ => e_store rfl rfl rfl rfl rfl rfl (tyT rfl) rfl rfl) ?_ <;> refine yp (fun _ _ => po_assign rfl rfl) ?_ <;> refine sany_nil ?_) | (refine rg 10 ?_; refine oMv ?_; (refine sp (po_load_bx_agg rfl rfl (tyT rfl) rfl (vc (vc (vc .nil))) rfl) ?_); refine sp (po_buildSlice rfl (tyE rfl) (dc (.nil _)) rfl rfl rfl) ?_; refine sap rfl (tyE rfl) ?_; refine oAs ?_; refine oN ?_) | (refine rg 8 ?_; refine oMv ?_; refine sp (xinc rfl) ?_; refine oAs ?_; refine oN ?_) | refine gc ?_ | refine ct ?_)
    · obtain rfl : i = (d.row (keyP p)).length := by omega
      rw [List.take_length, ← hs]
      repeat' (first | refine for_next hlt (weak_sub (.cons rfl rfl rfl (.cons rfl rfl rfl (.cons rfl rfl rfl (.cons rfl rfl rfl .nil)))) (.cons rfl rfl rfl .nil) (.cons rfl rfl .nil)) trivial | (refine rg 7 ?_; refine oMv ?_; refine oMv ?_; refine oMv ?_; (first | refine sp (ixo rfl) ?_ | refine sp (po_index_arr rfl rfl rfl arr58 rfl (by first | omega | assumption)) ?_ | refine sp (pix rfl (tyS rfl)) ?_); (first | refine oFb ?_ | refine oFd ?_); (first | refine sp (po_load_ntn rfl rfl (tyT rfl) rfl) ?_ | refine sp (po_load_ntk rfl rfl (tyT rfl) rfl (by first | assumption | omega) (by assumption) rfl) ?_ | refine oLb ?_ | refine oLd ?_); refine oCm ?_; refine oN ?_) | (refine rg 5 ?_; refine oMv ?_; refine sp (xinc rfl) ?_; refine oAs ?_; refine oN ?_) | refine gc ?_ | refine ct ?_ | refine cf ?_)
  · obtain rfl : j = (linksP d).length := by omega
    rw [List.take_length]
    repeat' (first | (refine rg 4 ?_; refine oMv ?_; refine oMv ?_; refine sp (pln rfl (tyS rfl)) ?_; refine oCm ?_; refine oN ?_) | (refine rg 11 ?_; refine oMv ?_; refine oAs ?_; refine oN ?_) | refine gc ?_ | refine ct ?_ | refine cf ?_ | refine swp_cond rfl (fun hc => ?_) (fun hc => ?_) | refine retl (by exact .inr rfl) rfl (.tmpT rfl (by first | exact .t _ | exact .own rfl (by rfl) | exact .nil _ | exact .emp _ | exact .fn _) .nil) ?_ rfl (.cons rfl (by rfl) rfl .nil) .nil)
    rfl
end Go.Proofs.Ytgbcmjcaggnobaa.Sim

/- The laws' parts: like, played, three, awake. -/
namespace Go.Proofs.Ytgbcmjcaggnobaa.Sim
set_option linter.unusedVariables false
set_option linter.unusedSimpArgs false
open Go.RowKit Mem
theorem sameP_iff {a b : PMsg} : sameP a b = true ↔ a = b := by
  unfold sameP
  cases a; cases b
  simp
theorem restP_len {d : PNet} (hd : NetOk d) : (restP d).length ≤ 2592 := by
  have h1 := restA_len hd (linksP d)
  have h2 := links_len d hd.n
  unfold restP; omega
theorem restP_big {d : PNet} (hd : NetOk d) : ∀ x ∈ restP d, x.b.length ≤ 16384 := fun x hx => by
  unfold restP restA at hx
  obtain ⟨p, _, h⟩ := List.mem_flatMap.1 hx
  unfold msOf at h
  obtain ⟨b, hb, rfl⟩ := List.mem_map.1 h
  exact hd.big _ b hb
/-- a net behind calls -/
def playN (n : Nat) (l : List PHop) : PNet := l.foldl doesN (netE n)
theorem netE_ok {n : Nat} (h : n ≤ 9) : NetOk (netE n) := ⟨h, fun _ => Nat.zero_le _, fun _ x hx => (by cases hx), fun _ _ => rfl⟩
theorem doesN_n (d : PNet) (h : PHop) : (doesN d h).n = d.n := by
  unfold doesN sendP delP doubleP frontP
  cases isL d.n h.f h.t <;> (repeat' split) <;> first | rfl | (simp only [cond_true, cond_false]; repeat' split) <;> rfl
theorem foldl_ok {d : PNet} (hd : NetOk d) (l : List PHop) : NetOk (l.foldl doesN d) ∧ (l.foldl doesN d).n = d.n := by
  induction l generalizing d with
  | nil => exact ⟨hd, rfl⟩
  | cons h l ih =>
    obtain ⟨h1, h2⟩ := ih (does_okN hd h)
    exact ⟨h1, h2.trans (doesN_n d h)⟩
theorem play_ok {n : Nat} (h : n ≤ 9) (l : List PHop) : NetOk (playN n l) := (foldl_ok (netE_ok h) l).1
theorem play_s (n : Nat) (l : List PHop) (h : PHop) : playN n (l ++ [h]) = doesN (playN n l) h := by unfold playN; rw [List.foldl_append]; rfl
def SPl (n : Nat) (l : List PHop) (k : Nat) : St := ⟨[(1, .t (.sl 5 (l.map hopC))), (5, .bp 1100 0), (7, .t (.v (.int .i64 (k : Int))))], [(1100, [.rs (NetR (lnk (playN n (l.take k)).n) (playN n (l.take k)))])], []⟩
set_option maxRecDepth 100000 in
set_option maxHeartbeats 2000000 in
theorem played_ok (n : Nat) (h1 : 1 ≤ n) (h2 : n ≤ 9) (l : List PHop) (hl : heavyP l = false) : LCalls Try.prog 9 [.t (.v (.int .i64 (n : Int))), .t (.sl 5 (l.map hopC))] [] [] (.bp 1100 0) [(1100, [.rs (NetR (lnk (playN n l).n) (playN n l))])] [] := by
  obtain ⟨hl1, hl2, hl3⟩ := light hl
  have c1 := new_ok n h1 h2
  have c2 := heavy_ l (by omega) (fun x hx => by have := hl3 x hx; omega)
  rw [hl] at c2
  have hm : (l.map hopC).length = l.length := List.length_map _
  refine lcalls_of Try.func9 rfl rfl Try.ntmps9 rfl ?_
  repeat' (first | (refine rg 0 ?_; refine oAs ?_; refine oN ?_) | (refine rg 1 ?_; refine oMv ?_; (refine sops_lcall (c1) (fun i => i) (fun i => i) (fun _ => false) (.free rfl rfl) rfl rfl rfl (by ((repeat' (first | exact .nil | refine .cons rfl rfl rfl ?_)) <;> fail)) .nil .nil rfl rfl (fun _ h => Bool.noConfusion h) ?_); refine oMv ?_; (first | refine oEx ?_ | refine sp (po_extract_tu rfl rfl rfl) ?_); (first | refine oEx ?_ | refine sp (po_extract_tu rfl rfl rfl) ?_); refine oAs ?_; refine oAs ?_; refine oN ?_) | (refine rg 2 ?_; refine oMv ?_; refine oCm ?_; refine oMv ?_; refine oMv ?_ <;> refine sp (po_nil_bp rfl rfl (by kernel_rfl)) ?_ <;> (first | refine oPt ?_ | refine oPf ?_) <;> refine oMv ?_ <;> refine oMv ?_ <;> (first | refine sops_lcall (c1) (fun i => i) (fun i => i) (fun _ => false) gy rfl rfl rfl (by first | ((repeat' (first | exact .nil | refine .cons rfl rfl rfl ?_ | refine .vw rfl (by exact .t _) ?_)) <;> fail) | fail) .nil .nil rfl rfl (fun _ h => Bool.noConfusion h) ?_ | refine oC (c2) rfl (ac .nil) ?_) <;> (first | refine oPt ?_ | refine oPf ?_) <;> refine oN ?_) | (refine rg 4 ?_; refine oAs ?_; refine oN ?_) | refine gc ?_ | refine ct ?_ | refine cf ?_ | refine swp_cond rfl (fun hc => ?_) (fun hc => ?_) | refine rq rfl (rt .nil) ?_)
  refine swp_for (SPl n l) (fun _ => True) l.length ?_ trivial ?_
  · exact (weak_sub (.cons rfl rfl rfl (.cons rfl rfl rfl (.cons rfl rfl rfl .nil))) (.cons rfl rfl rfl .nil) .nil)
  intro k hk _
  unfold SPl
  by_cases hlt : k < l.length
  · have hlt' : (k : Int) < l.length := by omega
    have hat : (l.map hopC)[k]? = some (hopC l[k]) := by rw [List.getElem?_map, List.getElem?_eq_getElem hlt]; rfl
    have c3 := does_ (playN n (l.take k)) (play_ok h2 _) l[k] (hl3 _ (List.getElem_mem hlt))
    have e1 : playN n (l.take (k + 1)) = doesN (playN n (l.take k)) l[k] := by rw [← List.take_append_getElem hlt, play_s]
    unfold hopT at c3
    unfold hopC at hat
    unfold doesA at c3
    repeat' (first | refine for_next hlt (weak_sub (.cons rfl (by rfl) rfl (.cons rfl (by rfl) rfl (.cons rfl (by rfl) rfl .nil))) (.cons rfl (by first | rfl | ((rw [e1]; try rfl))) rfl .nil) .nil) trivial | (refine rg 5 ?_; refine oMv ?_; refine oMv ?_; (first | refine sp (po_len_own rfl rfl (tyS rfl)) ?_ | refine sp (pln rfl (tyS rfl)) ?_); refine oCm ?_; refine oN ?_) | (refine rg 7 ?_; refine oMv ?_; refine oMv ?_; refine oMv ?_; (first | refine sp (ixo rfl) ?_ | refine sp (po_index_arr rfl rfl rfl arr22 rfl (by first | omega | assumption)) ?_ | refine sp (pix rfl (tyS rfl)) ?_); (first | refine sp (po_load_bx_agg rfl rfl (tyT rfl) rfl (vc (vc (vc (vc (vc .nil))))) rfl) ?_ | refine sp (po_load_agg rfl rfl (tyT rfl) rfl rfl) ?_); refine sops_lcall (c3) (fun _ => 1100) (fun i => i) (fun _ => false) (.free rfl rfl) rfl rfl rfl (by ((repeat' (first | exact .nil | refine .cons rfl rfl rfl ?_)) <;> fail)) (.cons rfl rfl .nil) .nil rfl rfl (fun _ h => Bool.noConfusion h) ?_; refine oN ?_) | (refine rg 6 ?_; refine oMv ?_; refine sp (xinc rfl) ?_; refine oAs ?_; refine oN ?_) | refine gc ?_ | refine ct ?_)
  · obtain rfl : k = l.length := by omega
    rw [List.take_length]
    repeat' (first | (refine rg 5 ?_; refine oMv ?_; refine oMv ?_; (first | refine sp (po_len_own rfl rfl (tyS rfl)) ?_ | refine sp (pln rfl (tyS rfl)) ?_); refine oCm ?_; refine oN ?_) | (refine rg 8 ?_; refine oMv ?_; refine oAs ?_; refine oN ?_) | refine gc ?_ | refine ct ?_ | refine cf ?_ | refine swp_cond rfl (fun hc => ?_) (fun hc => ?_) | exact retl1 (by exact .inr rfl) rfl (.tmp rfl rfl .nil) rfl (.cons rfl (by rfl) rfl .nil) .nil)
set_option maxRecDepth 100000 in
theorem played_bad (n : Int) (h : n < 1 ∨ 9 < n) (l : List PHop) : LCalls Try.prog 9 [.t (.v (.int .i64 n)), .t (.sl 5 (l.map hopC))] [] [] (.t (.v (.pointer none))) [] [] := by
  have c1 := new_bad n h
  refine lcalls_of Try.func9 rfl rfl Try.ntmps9 rfl ?_
  repeat' (first | (refine rg 0 ?_; refine oAs ?_; refine oN ?_) | (refine rg 1 ?_; refine oMv ?_; refine sops_lcall (c1) (fun i => i) (fun i => i) (fun _ => false) (.free rfl rfl) rfl rfl rfl (by ((repeat' (first | exact .nil | refine .cons rfl rfl rfl ?_)) <;> fail)) .nil .nil rfl rfl (fun _ h => Bool.noConfusion h) ?_; refine oMv ?_; (first | refine oEx ?_ | refine sp (po_extract_tu rfl rfl rfl) ?_); (first | refine oEx ?_ | refine sp (po_extract_tu rfl rfl rfl) ?_); refine oAs ?_; refine oAs ?_; refine oN ?_) | (refine rg 2 ?_; refine oMv ?_; refine oCm ?_; refine oMv ?_; (first | refine oMv ?_ | refine oK ?_) <;> (first | refine sp (po_nil_bp rfl rfl (by kernel_rfl)) ?_ | refine sp (po_nil_p0 rfl rfl (by kernel_rfl)) ?_ | refine oK ?_) <;> refine oPt ?_ <;> refine oMv ?_ <;> (first | refine oMv ?_ | refine oK ?_) <;> (first | refine sops_lcall (c1) (fun i => i) (fun i => i) (fun _ => false) gy rfl rfl rfl (by first | ((repeat' (first | exact .nil | refine .cons rfl rfl rfl ?_ | refine .vw rfl (by first | exact .t _ | exact .own rfl (by first | rfl | assumption | (simp; done) | (simp; omega)) | exact .nil _ | exact .emp _ | exact .fn _) ?_)) <;> fail) | fail) .nil .nil rfl rfl (fun _ h => Bool.noConfusion h) ?_ | refine oK ?_) <;> refine oPt ?_ <;> refine oN ?_) | (refine rg 3 ?_; refine oAs ?_; refine oN ?_) | refine gc ?_ | refine ct ?_ | refine cf ?_ | refine swp_cond rfl (fun hc => ?_) (fun hc => ?_) | exact retl1 (by exact .inr rfl) rfl (.tmp rfl rfl .nil) rfl .nil .nil)
end Go.Proofs.Ytgbcmjcaggnobaa.Sim
