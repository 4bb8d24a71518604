/- Merged by bundles.py: SimLc. -/
import Derived.Test.YtgbcmjcaggnobaaO24
/- The laws' parts: like, played, three, awake. -/
namespace Go.Proofs.Ytgbcmjcaggnobaa.Sim
set_option linter.unusedVariables false
set_option linter.unusedSimpArgs false
open Go.RowKit Mem
theorem sameP_iff {a b : PMsg} : sameP a b = true ↔ a = b := by
  unfold sameP
  cases a; cases b
  simp
theorem restP_len {d : PNet} (hd : NetOk d) : (restP d).length ≤ 2592 := by
  have h1 := restA_len hd (linksP d)
  have h2 := links_len d hd.n
  unfold restP; omega
theorem restP_big {d : PNet} (hd : NetOk d) : ∀ x ∈ restP d, x.b.length ≤ 16384 := fun x hx => by
  unfold restP restA at hx
  obtain ⟨p, _, h⟩ := List.mem_flatMap.1 hx
  unfold msOf at h
  obtain ⟨b, hb, rfl⟩ := List.mem_map.1 h
  exact hd.big _ b hb
def SLk (d e : PNet) (k : Nat) : St := ⟨[(5, .t (.sl 3 ((restP d).map msgC))), (6, .t (.sl 3 ((restP e).map msgC))), (7, .t (.v (.int .i64 (k : Int))))], [], []⟩
def likeP (d e : PNet) : Bool := decide (restP d = restP e)
set_option maxRecDepth 100000 in
set_option maxHeartbeats 2000000 in
theorem like_ (d e : PNet) (hd : NetOk d) (he : NetOk e) : LCalls Try.prog 32 [.bp 3000 0, .bp 3001 0] [(3000, [.rs (NetR (lnk d.n) d)]), (3001, [.rs (NetR (lnk e.n) e)])] [] (.t (.v (.bool (likeP d e)))) [(3000, [.rs (NetR (lnk d.n) d)]), (3001, [.rs (NetR (lnk e.n) e)])] [] := by
  have c1 := rest_ d hd
  have c2 := rest_ e he
  have hm1 : ((restP d).map msgC).length = (restP d).length := List.length_map _
  have hm2 : ((restP e).map msgC).length = (restP e).length := List.length_map _
  have hl1 := restP_len hd
  have hl2 := restP_len he
  refine lcalls_of Try.func32 rfl rfl Try.ntmps32 rfl ?_
  by_cases hlen : (restP d).length = (restP e).length
  · have hlen' : ((restP d).length : Int) = (restP e).length := by omega
    repeat' (first | (refine rg 0 ?_; refine oAs ?_; refine oN ?_) | (refine rg 1 ?_; refine oMv ?_; (first | refine sops_lcall (c2) (fun _ => 3001) (fun i => i) (fun _ => false) (.free rfl rfl) rfl rfl rfl (by first | ((repeat' (first | exact .nil | refine .cons rfl rfl rfl ?_ | refine .vw rfl (by first | exact .t _ | exact .own rfl (by rfl) | exact .nil _ | exact .emp _ | exact .fn _) ?_)) <;> fail) | fail) (.cons rfl rfl .nil) .nil rfl rfl (fun _ h => Bool.noConfusion h) ?_ | refine sops_lcall (c1) (fun i => i) (fun i => i) (fun _ => false) (.free rfl rfl) rfl rfl rfl (by ((repeat' (first | exact .nil | refine .cons rfl rfl rfl ?_)) <;> fail)) (.cons rfl rfl .nil) .nil rfl rfl (fun _ h => Bool.noConfusion h) ?_); refine oMv ?_; (refine sops_lcall (c2) (fun _ => 3001) (fun i => i) (fun _ => false) (.free rfl rfl) rfl rfl rfl (by ((repeat' (first | exact .nil | refine .cons rfl rfl rfl ?_)) <;> fail)) (.cons rfl rfl .nil) .nil rfl rfl (fun _ h => Bool.noConfusion h) ?_); refine oAs ?_; refine oAs ?_; refine oN ?_) | (refine rg 2 ?_; refine oMv ?_; refine sp (pln rfl (tyS rfl)) ?_; refine oMv ?_; refine sp (pln rfl (tyS rfl)) ?_; refine oCm ?_; refine oN ?_) | (refine rg 4 ?_; refine oAs ?_; refine oN ?_) | refine gc ?_ | refine ct ?_ | refine cf ?_ | refine swp_cond rfl (fun hc => ?_) (fun hc => ?_) | refine rq rfl (rt .nil) ?_)
    refine swp_for (fun k => ⟨(SLk d e k).tm, [(3000, [.rs (NetR (lnk d.n) d)]), (3001, [.rs (NetR (lnk e.n) e)])], []⟩) (fun k => (restP d).take k = (restP e).take k) (restP d).length ?_ rfl ?_
    · exact (weak_sub (.cons rfl rfl rfl (.cons rfl rfl rfl (.cons rfl rfl rfl .nil))) (.cons rfl rfl rfl (.cons rfl rfl rfl .nil)) .nil)
    intro k hk hI
    unfold SLk
    by_cases hlt : k < (restP d).length
    · have hlt2 : k < (restP e).length := by omega
      have hat : ((restP d).map msgC)[k]? = some (msgC (restP d)[k]) := by rw [List.getElem?_map, List.getElem?_eq_getElem hlt]; rfl
      have hat2 : ((restP e).map msgC)[k]? = some (msgC (restP e)[k]) := by rw [List.getElem?_map, List.getElem?_eq_getElem hlt2]; rfl
      have hb1 := restP_big hd _ (List.getElem_mem hlt)
      have hb2 := restP_big he _ (List.getElem_mem hlt2)
      have c3 := same_ (restP d)[k] (restP e)[k] (by omega) (by omega)
      unfold msgA msgT at c3
      unfold msgC at hat hat2
      cases hs : sameP (restP d)[k] (restP e)[k] with
      | true =>
        have hn : (restP d).take (k + 1) = (restP e).take (k + 1) := by rw [← List.take_append_getElem hlt, ← List.take_append_getElem hlt2, hI, sameP_iff.1 hs]
        rw [hs] at c3
        repeat' (first | refine for_next hlt (weak_sub (.cons rfl rfl rfl (.cons rfl rfl rfl (.cons rfl rfl rfl .nil))) (.cons rfl rfl rfl (.cons rfl rfl rfl .nil)) .nil) hn | (refine rg 5 ?_; refine oMv ?_; refine oMv ?_; refine sp (pln rfl (tyS rfl)) ?_; refine oCm ?_; refine oN ?_) | (refine rd 7 ?_; refine dMv ?_; refine dMv ?_; (first | refine dp (po_index_arr rfl rfl rfl arr27 rfl (by first | omega | assumption)) ?_ | refine dp (pix rfl (tyS rfl)) ?_); (first | refine dp (po_load_bx_agg rfl rfl (tyT rfl) rfl (vc (vc (vc .nil))) rfl) ?_ | refine dp (po_load_agg rfl rfl (tyT rfl) rfl rfl) ?_); refine dMv ?_; refine dMv ?_; (first | refine dp (po_index_arr rfl rfl rfl arr27 rfl (by first | omega | assumption)) ?_ | refine dp (pix rfl (tyS rfl)) ?_); (first | refine dp (po_load_bx_agg rfl rfl (tyT rfl) rfl (vc (vc (vc .nil))) rfl) ?_ | refine dp (po_load_agg rfl rfl (tyT rfl) rfl rfl) ?_); refine dC (c3) rfl (ac (ac .nil)) ?_; refine dp (po_not rfl rfl) ?_; refine dN ?_; refine oN ?_) | (refine rg 6 ?_; refine oMv ?_; refine sp (xinc rfl) ?_; refine oAs ?_; refine oN ?_) | refine gc ?_ | refine ct ?_ | refine cf ?_)
      | false =>
        have hf : likeP d e = false := decide_eq_false fun h => by
          have : (restP d)[k] = (restP e)[k] := by simp only [h]
          rw [sameP_iff.2 this] at hs; cases hs
        rw [hs] at c3
        rw [hf]
        repeat' (first | (refine rg 5 ?_; refine oMv ?_; refine oMv ?_; refine sp (pln rfl (tyS rfl)) ?_; refine oCm ?_; refine oN ?_) | (refine rd 7 ?_; refine dMv ?_; refine dMv ?_; (first | refine dp (po_index_arr rfl rfl rfl arr27 rfl (by first | omega | assumption)) ?_ | refine dp (pix rfl (tyS rfl)) ?_); (first | refine dp (po_load_bx_agg rfl rfl (tyT rfl) rfl (vc (vc (vc .nil))) rfl) ?_ | refine dp (po_load_agg rfl rfl (tyT rfl) rfl rfl) ?_); refine dMv ?_; refine dMv ?_; (first | refine dp (po_index_arr rfl rfl rfl arr27 rfl (by first | omega | assumption)) ?_ | refine dp (pix rfl (tyS rfl)) ?_); (first | refine dp (po_load_bx_agg rfl rfl (tyT rfl) rfl (vc (vc (vc .nil))) rfl) ?_ | refine dp (po_load_agg rfl rfl (tyT rfl) rfl rfl) ?_); refine dC (c3) rfl (ac (ac .nil)) ?_; refine dp (po_not rfl rfl) ?_; refine dN ?_; refine oN ?_) | (refine rg 8 ?_; refine oAs ?_; refine oN ?_) | refine gc ?_ | refine ct ?_ | refine cf ?_ | refine swp_cond rfl (fun hc => ?_) (fun hc => ?_) | exact retl1 (by exact .inr rfl) rfl (.tmp rfl rfl .nil) rfl (.cons rfl (by rfl) rfl (.cons rfl (by rfl) rfl .nil)) .nil)
    · obtain rfl : k = (restP d).length := by omega
      have hf : likeP d e = true := decide_eq_true (by rw [List.take_length, hlen, List.take_length] at hI; exact hI)
      rw [hf]
      repeat' (first | (refine rg 5 ?_; refine oMv ?_; refine oMv ?_; refine sp (pln rfl (tyS rfl)) ?_; refine oCm ?_; refine oN ?_) | (refine rg 9 ?_; refine oAs ?_; refine oN ?_) | refine gc ?_ | refine ct ?_ | refine cf ?_ | refine swp_cond rfl (fun hc => ?_) (fun hc => ?_) | exact retl1 (by exact .inr rfl) rfl (.tmp rfl rfl .nil) rfl (.cons rfl (by rfl) rfl (.cons rfl (by rfl) rfl .nil)) .nil)
  · have hlen' : ¬ (((restP d).length : Int) = (restP e).length) := by omega
    have hf : likeP d e = false := decide_eq_false fun h => hlen (by rw [h])
    rw [hf]
    repeat' (first | (refine rg 0 ?_; refine oAs ?_; refine oN ?_) | (refine rg 1 ?_; refine oMv ?_; (first | refine sops_lcall (c2) (fun _ => 3001) (fun i => i) (fun _ => false) (.free rfl rfl) rfl rfl rfl (by first | ((repeat' (first | exact .nil | refine .cons rfl rfl rfl ?_ | refine .vw rfl (by first | exact .t _ | exact .own rfl (by rfl) | exact .nil _ | exact .emp _ | exact .fn _) ?_)) <;> fail) | fail) (.cons rfl rfl .nil) .nil rfl rfl (fun _ h => Bool.noConfusion h) ?_ | refine sops_lcall (c1) (fun i => i) (fun i => i) (fun _ => false) (.free rfl rfl) rfl rfl rfl (by ((repeat' (first | exact .nil | refine .cons rfl rfl rfl ?_)) <;> fail)) (.cons rfl rfl .nil) .nil rfl rfl (fun _ h => Bool.noConfusion h) ?_); refine oMv ?_; (refine sops_lcall (c2) (fun _ => 3001) (fun i => i) (fun _ => false) (.free rfl rfl) rfl rfl rfl (by ((repeat' (first | exact .nil | refine .cons rfl rfl rfl ?_)) <;> fail)) (.cons rfl rfl .nil) .nil rfl rfl (fun _ h => Bool.noConfusion h) ?_); refine oAs ?_; refine oAs ?_; refine oN ?_) | (refine rg 2 ?_; refine oMv ?_; refine sp (pln rfl (tyS rfl)) ?_; refine oMv ?_; refine sp (pln rfl (tyS rfl)) ?_; refine oCm ?_; refine oN ?_) | (refine rg 3 ?_; refine oAs ?_; refine oN ?_) | refine gc ?_ | refine ct ?_ | refine cf ?_ | refine swp_cond rfl (fun hc => ?_) (fun hc => ?_) | exact retl1 (by exact .inr rfl) rfl (.tmp rfl rfl .nil) rfl (.cons rfl (by rfl) rfl (.cons rfl (by rfl) rfl .nil)) .nil)
/-- a net behind calls -/
def playN (n : Nat) (l : List PHop) : PNet := l.foldl doesN (netE n)
theorem netE_ok {n : Nat} (h : n ≤ 9) : NetOk (netE n) := ⟨h, fun _ => Nat.zero_le _, fun _ x hx => (by cases hx), fun _ _ => rfl⟩
theorem doesN_n (d : PNet) (h : PHop) : (doesN d h).n = d.n := by
  unfold doesN sendP delP doubleP frontP
  cases isL d.n h.f h.t <;> (repeat' split) <;> first | rfl | (simp only [cond_true, cond_false]; repeat' split) <;> rfl
theorem foldl_ok {d : PNet} (hd : NetOk d) (l : List PHop) : NetOk (l.foldl doesN d) ∧ (l.foldl doesN d).n = d.n := by
  induction l generalizing d with
  | nil => exact ⟨hd, rfl⟩
  | cons h l ih =>
    obtain ⟨h1, h2⟩ := ih (does_okN hd h)
    exact ⟨h1, h2.trans (doesN_n d h)⟩
theorem play_ok {n : Nat} (h : n ≤ 9) (l : List PHop) : NetOk (playN n l) := (foldl_ok (netE_ok h) l).1
theorem play_n {n : Nat} (h : n ≤ 9) (l : List PHop) : (playN n l).n = n := (foldl_ok (netE_ok h) l).2
theorem play_s (n : Nat) (l : List PHop) (h : PHop) : playN n (l ++ [h]) = doesN (playN n l) h := by unfold playN; rw [List.foldl_append]; rfl
def SPl (n : Nat) (l : List PHop) (k : Nat) : St := ⟨[(1, .t (.sl 5 (l.map hopC))), (5, .bp 1100 0), (7, .t (.v (.int .i64 (k : Int))))], [(1100, [.rs (NetR (lnk (playN n (l.take k)).n) (playN n (l.take k)))])], []⟩
set_option maxRecDepth 100000 in
set_option maxHeartbeats 2000000 in
theorem played_ok (n : Nat) (h1 : 1 ≤ n) (h2 : n ≤ 9) (l : List PHop) (hl : heavyP l = false) : LCalls Try.prog 9 [.t (.v (.int .i64 (n : Int))), .t (.sl 5 (l.map hopC))] [] [] (.bp 1100 0) [(1100, [.rs (NetR (lnk (playN n l).n) (playN n l))])] [] := by
  obtain ⟨hl1, hl2, hl3⟩ := light hl
  have c1 := new_ok n h1 h2
  have c2 := heavy_ l (by omega) (fun x hx => by have := hl3 x hx; omega)
  rw [hl] at c2
  have hm : (l.map hopC).length = l.length := List.length_map _
  refine lcalls_of Try.func9 rfl rfl Try.ntmps9 rfl ?_
  repeat' (first | (refine rg 0 ?_; refine oAs ?_; refine oN ?_) | (refine rg 1 ?_; refine oMv ?_; (refine sops_lcall (c1) (fun i => i) (fun i => i) (fun _ => false) (.free rfl rfl) rfl rfl rfl (by ((repeat' (first | exact .nil | refine .cons rfl rfl rfl ?_)) <;> fail)) .nil .nil rfl rfl (fun _ h => Bool.noConfusion h) ?_); refine oMv ?_; (first | refine oEx ?_ | refine sp (po_extract_tu rfl rfl rfl) ?_); (first | refine oEx ?_ | refine sp (po_extract_tu rfl rfl rfl) ?_); refine oAs ?_; refine oAs ?_; refine oN ?_) | (refine rg 2 ?_; refine oMv ?_; refine oCm ?_; refine oMv ?_; refine oMv ?_ <;> refine sp (po_nil_bp rfl rfl (by kernel_rfl)) ?_ <;> (first | refine oPt ?_ | refine oPf ?_) <;> refine oMv ?_ <;> refine oMv ?_ <;> (first | refine sops_lcall (c1) (fun i => i) (fun i => i) (fun _ => false) gy rfl rfl rfl (by first | ((repeat' (first | exact .nil | refine .cons rfl rfl rfl ?_ | refine .vw rfl (by exact .t _) ?_)) <;> fail) | fail) .nil .nil rfl rfl (fun _ h => Bool.noConfusion h) ?_ | refine oC (c2) rfl (ac .nil) ?_) <;> (first | refine oPt ?_ | refine oPf ?_) <;> refine oN ?_) | (refine rg 4 ?_; refine oAs ?_; refine oN ?_) | refine gc ?_ | refine ct ?_ | refine cf ?_ | refine swp_cond rfl (fun hc => ?_) (fun hc => ?_) | refine rq rfl (rt .nil) ?_)
  refine swp_for (SPl n l) (fun _ => True) l.length ?_ trivial ?_
  · exact (weak_sub (.cons rfl rfl rfl (.cons rfl rfl rfl (.cons rfl rfl rfl .nil))) (.cons rfl rfl rfl .nil) .nil)
  intro k hk _
  unfold SPl
  by_cases hlt : k < l.length
  · have hlt' : (k : Int) < l.length := by omega
    have hat : (l.map hopC)[k]? = some (hopC l[k]) := by rw [List.getElem?_map, List.getElem?_eq_getElem hlt]; rfl
    have c3 := does_ (playN n (l.take k)) (play_ok h2 _) l[k] (hl3 _ (List.getElem_mem hlt))
    have e1 : playN n (l.take (k + 1)) = doesN (playN n (l.take k)) l[k] := by rw [← List.take_append_getElem hlt, play_s]
    unfold hopT at c3
    unfold hopC at hat
    unfold doesA at c3
    repeat' (first | refine for_next hlt (weak_sub (.cons rfl (by rfl) rfl (.cons rfl (by rfl) rfl (.cons rfl (by rfl) rfl .nil))) (.cons rfl (by first | rfl | ((rw [e1]; try rfl))) rfl .nil) .nil) trivial | (refine rg 5 ?_; refine oMv ?_; refine oMv ?_; (first | refine sp (po_len_own rfl rfl (tyS rfl)) ?_ | refine sp (pln rfl (tyS rfl)) ?_); refine oCm ?_; refine oN ?_) | (refine rg 7 ?_; refine oMv ?_; refine oMv ?_; refine oMv ?_; (first | refine sp (ixo rfl) ?_ | refine sp (po_index_arr rfl rfl rfl arr22 rfl (by first | omega | assumption)) ?_ | refine sp (pix rfl (tyS rfl)) ?_); (first | refine sp (po_load_bx_agg rfl rfl (tyT rfl) rfl (vc (vc (vc (vc (vc .nil))))) rfl) ?_ | refine sp (po_load_agg rfl rfl (tyT rfl) rfl rfl) ?_); refine sops_lcall (c3) (fun _ => 1100) (fun i => i) (fun _ => false) (.free rfl rfl) rfl rfl rfl (by ((repeat' (first | exact .nil | refine .cons rfl rfl rfl ?_)) <;> fail)) (.cons rfl rfl .nil) .nil rfl rfl (fun _ h => Bool.noConfusion h) ?_; refine oN ?_) | (refine rg 6 ?_; refine oMv ?_; refine sp (xinc rfl) ?_; refine oAs ?_; refine oN ?_) | refine gc ?_ | refine ct ?_)
  · obtain rfl : k = l.length := by omega
    rw [List.take_length]
    repeat' (first | (refine rg 5 ?_; refine oMv ?_; refine oMv ?_; (first | refine sp (po_len_own rfl rfl (tyS rfl)) ?_ | refine sp (pln rfl (tyS rfl)) ?_); refine oCm ?_; refine oN ?_) | (refine rg 8 ?_; refine oMv ?_; refine oAs ?_; refine oN ?_) | refine gc ?_ | refine ct ?_ | refine cf ?_ | refine swp_cond rfl (fun hc => ?_) (fun hc => ?_) | exact retl1 (by exact .inr rfl) rfl (.tmp rfl rfl .nil) rfl (.cons rfl (by rfl) rfl .nil) .nil)
set_option maxRecDepth 100000 in
theorem played_bad (n : Int) (h : n < 1 ∨ 9 < n) (l : List PHop) : LCalls Try.prog 9 [.t (.v (.int .i64 n)), .t (.sl 5 (l.map hopC))] [] [] (.t (.v (.pointer none))) [] [] := by
  have c1 := new_bad n h
  refine lcalls_of Try.func9 rfl rfl Try.ntmps9 rfl ?_
  repeat' (first | (refine rg 0 ?_; refine oAs ?_; refine oN ?_) | (refine rg 1 ?_; refine oMv ?_; refine sops_lcall (c1) (fun i => i) (fun i => i) (fun _ => false) (.free rfl rfl) rfl rfl rfl (by ((repeat' (first | exact .nil | refine .cons rfl rfl rfl ?_)) <;> fail)) .nil .nil rfl rfl (fun _ h => Bool.noConfusion h) ?_; refine oMv ?_; (first | refine oEx ?_ | refine sp (po_extract_tu rfl rfl rfl) ?_); (first | refine oEx ?_ | refine sp (po_extract_tu rfl rfl rfl) ?_); refine oAs ?_; refine oAs ?_; refine oN ?_) | (refine rg 2 ?_; refine oMv ?_; refine oCm ?_; refine oMv ?_; (first | refine oMv ?_ | refine oK ?_) <;> (first | refine sp (po_nil_bp rfl rfl (by kernel_rfl)) ?_ | refine sp (po_nil_p0 rfl rfl (by kernel_rfl)) ?_ | refine oK ?_) <;> refine oPt ?_ <;> refine oMv ?_ <;> (first | refine oMv ?_ | refine oK ?_) <;> (first | refine sops_lcall (c1) (fun i => i) (fun i => i) (fun _ => false) gy rfl rfl rfl (by first | ((repeat' (first | exact .nil | refine .cons rfl rfl rfl ?_ | refine .vw rfl (by first | exact .t _ | exact .own rfl (by first | rfl | assumption | (simp; done) | (simp; omega)) | exact .nil _ | exact .emp _ | exact .fn _) ?_)) <;> fail) | fail) .nil .nil rfl rfl (fun _ h => Bool.noConfusion h) ?_ | refine oK ?_) <;> refine oPt ?_ <;> refine oN ?_) | (refine rg 3 ?_; refine oAs ?_; refine oN ?_) | refine gc ?_ | refine ct ?_ | refine cf ?_ | refine swp_cond rfl (fun hc => ?_) (fun hc => ?_) | exact retl1 (by exact .inr rfl) rfl (.tmp rfl rfl .nil) rfl .nil .nil)
set_option maxRecDepth 100000 in
theorem played_heavy (n : Nat) (h1 : 1 ≤ n) (h2 : n ≤ 9) (l : List PHop) (hl : heavyP l = true) (hb : l.length ≤ 9223372036854775807) (hb2 : ∀ h ∈ l, h.load.length ≤ 9223372036854775807) : LCalls Try.prog 9 [.t (.v (.int .i64 (n : Int))), .t (.sl 5 (l.map hopC))] [] [] (.t (.v (.pointer none))) [] [] := by
  have c1 := new_ok n h1 h2
  have c2 := heavy_ l hb hb2
  rw [hl] at c2
  refine lcalls_of Try.func9 rfl rfl Try.ntmps9 rfl ?_
  repeat' (first | (refine rg 0 ?_; refine oAs ?_; refine oN ?_) | (refine rg 1 ?_; refine oMv ?_; (refine sops_lcall (c1) (fun i => i) (fun i => i) (fun _ => false) (.free rfl rfl) rfl rfl rfl (by ((repeat' (first | exact .nil | refine .cons rfl rfl rfl ?_)) <;> fail)) .nil .nil rfl rfl (fun _ h => Bool.noConfusion h) ?_); refine oMv ?_; (first | refine oEx ?_ | refine sp (po_extract_tu rfl rfl rfl) ?_); (first | refine oEx ?_ | refine sp (po_extract_tu rfl rfl rfl) ?_); refine oAs ?_; refine oAs ?_; refine oN ?_) | (refine rg 2 ?_; refine oMv ?_; refine oCm ?_; refine oMv ?_; refine oMv ?_ <;> refine sp (po_nil_bp rfl rfl (by kernel_rfl)) ?_ <;> (first | refine oPt ?_ | refine oPf ?_) <;> refine oMv ?_ <;> refine oMv ?_ <;> (first | refine sops_lcall (c1) (fun i => i) (fun i => i) (fun _ => false) gy rfl rfl rfl (by first | ((repeat' (first | exact .nil | refine .cons rfl rfl rfl ?_ | refine .vw rfl (by exact .t _) ?_)) <;> fail) | fail) .nil .nil rfl rfl (fun _ h => Bool.noConfusion h) ?_ | refine oC (c2) rfl (ac .nil) ?_) <;> (first | refine oPt ?_ | refine oPf ?_) <;> refine oN ?_) | (refine rg 3 ?_; refine oAs ?_; refine oN ?_) | refine gc ?_ | refine ct ?_ | refine cf ?_ | refine swp_cond rfl (fun hc => ?_) (fun hc => ?_) | exact retl1 (by exact .inr rfl) rfl (.tmp rfl rfl .nil) rfl .nil .nil)
end Go.Proofs.Ytgbcmjcaggnobaa.Sim
