/- Merged by bundles.py: PlNet2, SimNuc, SimNud, SimCb, SimLa. -/
import Derived.Test.YtgbcmjcaggnobaaQ20
import Derived.Test.YtgbcmjcaggnobaaQ22
import Derived.Test.YtgbcmjcaggnobaaQ12
import Derived.Test.YtgbcmjcaggnobaaQ4
import Derived.Lib.SlBytesConst
/- A net's links, in plain Lean. -/
namespace Go.Proofs.Ytgbcmjcaggnobaa.Sim
set_option linter.unusedVariables false
set_option linter.unusedSimpArgs false
def keyP (p : Nat × Nat) : Nat := p.1 * 10 + p.2
def lkP (d : PNet) (p : Nat × Nat) : Bool := decide (0 < lenP d p.1 p.2)
def inL (d : PNet) (a b : Nat) : List (Nat × Nat) := ((List.range b).map fun b => (a + 1, b + 1)).filter (lkP d)
def outL (d : PNet) (a : Nat) : List (Nat × Nat) := (List.range a).flatMap fun a => inL d a d.n
def linksP (d : PNet) : List (Nat × Nat) := outL d d.n
theorem inL_s (d : PNet) (a b : Nat) : inL d a (b + 1) = inL d a b ++ (if lkP d (a + 1, b + 1) = true then [(a + 1, b + 1)] else []) := by
  unfold inL
  rw [List.range_succ, List.map_append, List.filter_append]
  congr 1
  show List.filter (lkP d) [(a + 1, b + 1)] = _
  rw [List.filter_cons]; rfl
theorem outL_s (d : PNet) (a : Nat) : outL d (a + 1) = outL d a ++ inL d a d.n := by
  unfold outL
  rw [List.range_succ, List.flatMap_append]; simp
theorem lkP_spec {d : PNet} {p : Nat × Nat} (h : lkP d p = true) : IsL d.n p.1 p.2 ∧ d.row (keyP p) ≠ [] := by
  unfold lkP lenP at h
  rw [decide_eq_true_eq] at h
  cases hl : isL d.n p.1 p.2 with
  | false => rw [hl] at h; simp at h
  | true =>
    rw [hl] at h
    obtain ⟨a, b, e1, e2, e3, e4⟩ := isL_spec hl
    have e1 : p.1 = a := by omega
    have e2 : p.2 = b := by omega
    refine ⟨by rw [e1, e2]; exact e4, fun e => ?_⟩
    have hk : kOf p.1 p.2 = keyP p := by rw [e3]; unfold keyP; rw [e1, e2]
    rw [hk, e] at h; simp at h
theorem isL_of {n a b : Nat} (h : IsL n a b) : isL n a b = true ∧ kOf a b = a * 10 + b := by
  obtain ⟨h1, h2, h3, h4, h5⟩ := h
  exact ⟨by unfold isL; rw [decide_eq_true_eq]; omega, rfl⟩
theorem lkP_of {d : PNet} {p : Nat × Nat} (h : IsL d.n p.1 p.2) (hr : d.row (keyP p) ≠ []) : lkP d p = true := by
  unfold lkP lenP
  obtain ⟨e1, e2⟩ := isL_of h
  rw [e1, decide_eq_true_eq, e2]
  have := List.length_pos_iff.2 hr
  show (0 : Int) < ((d.row (keyP p)).length : Int)
  omega
theorem mem_inL {d : PNet} {a b : Nat} {p : Nat × Nat} : p ∈ inL d a b ↔ lkP d p = true ∧ p.1 = a + 1 ∧ 1 ≤ p.2 ∧ p.2 ≤ b := by
  unfold inL
  rw [List.mem_filter, List.mem_map]
  constructor
  · rintro ⟨⟨c, hc, rfl⟩, h⟩
    rw [List.mem_range] at hc
    exact ⟨h, rfl, by dsimp only; omega, by dsimp only; omega⟩
  · rintro ⟨h, h1, h2, h3⟩
    refine ⟨⟨p.2 - 1, by rw [List.mem_range]; omega, ?_⟩, h⟩
    obtain ⟨x, y⟩ := p
    dsimp only at h1 h2 h3 ⊢
    rw [h1, show y - 1 + 1 = y by omega]
theorem mem_outL {d : PNet} {a : Nat} {p : Nat × Nat} : p ∈ outL d a ↔ lkP d p = true ∧ 1 ≤ p.1 ∧ p.1 ≤ a := by
  unfold outL
  rw [List.mem_flatMap]
  constructor
  · rintro ⟨c, hc, h⟩
    rw [List.mem_range] at hc
    obtain ⟨h1, h2, _⟩ := mem_inL.1 h
    exact ⟨h1, by omega, by omega⟩
  · rintro ⟨h, h1, h2⟩
    refine ⟨p.1 - 1, by rw [List.mem_range]; omega, mem_inL.2 ⟨h, by omega, ?_, ?_⟩⟩
    · exact (lkP_spec h).1.hy
    · exact (lkP_spec h).1.hy2
theorem mem_links {d : PNet} {p : Nat × Nat} : p ∈ linksP d ↔ IsL d.n p.1 p.2 ∧ d.row (keyP p) ≠ [] := by
  unfold linksP
  rw [mem_outL]
  constructor
  · exact fun h => lkP_spec h.1
  · exact fun h => ⟨lkP_of h.1 h.2, h.1.hx, h.1.hx2⟩
end Go.Proofs.Ytgbcmjcaggnobaa.Sim

/- A net's links, counted; a copy; any call. -/
namespace Go.Proofs.Ytgbcmjcaggnobaa.Sim
set_option linter.unusedVariables false
set_option linter.unusedSimpArgs false
open Go.RowKit Mem
theorem does_ (d : PNet) (hd : NetOk d) (h : PHop) (hl : h.load.length ≤ 4000000) : LCalls Try.prog 14 [.bp 3000 0, .t (hopT h)] (netN d) [] (doesA d h) (netN (doesN d h)) [] := by
  by_cases h0 : knd h.kind = 0
  · exact does_send d hd h hl (.inl h0)
  by_cases h1 : knd h.kind = 1
  · exact does_send d hd h hl (.inr h1)
  by_cases h2 : knd h.kind = 2
  · exact does_deliver d hd h h2
  by_cases h3 : knd h.kind = 3
  · exact does_drop d hd h h3
  by_cases h4 : knd h.kind = 4
  · exact does_double d hd h h4
  by_cases h5 : knd h.kind = 5
  · exact does_front d hd h h5
  by_cases h6 : knd h.kind = 6
  · exact does_at d hd h h6
  exact does_len d hd h h0 h1 h2 h3 h4 h5 h6
def linkT (d : PNet) (p : Nat × Nat) : List T := [.v (.int .i64 (p.1 : Int)), .v (.int .i64 (p.2 : Int)), .v (.int .i64 (lenP d p.1 p.2))]
def SL1 (d : PNet) (a : Nat) : St := ⟨[(0, .bp 3000 0), (3, .own 100 ((outL d a).map (linkT d)).length), (8, .t (.v (.int .i64 (d.n : Int)))), (9, .t (.v (.int .i64 (a : Int))))], netN d, [(100, ⟨61, 3, (outL d a).map (linkT d)⟩)]⟩
def SL2 (d : PNet) (a b : Nat) : St := ⟨[(0, .bp 3000 0), (3, .own 100 ((outL d a ++ inL d a b).map (linkT d)).length), (4, .t (.v (.int .i64 (a : Int)))), (8, .t (.v (.int .i64 (d.n : Int)))), (9, .t (.v (.int .i64 (a : Int)))), (13, .t (.v (.int .i64 (d.n : Int)))), (14, .t (.v (.int .i64 (b : Int))))], netN d, [(100, ⟨61, 3, (outL d a ++ inL d a b).map (linkT d)⟩)]⟩
theorem inL_len (d : PNet) (a b : Nat) : (inL d a b).length ≤ b := by
  unfold inL
  refine Nat.le_trans (List.length_filter_le _ _) ?_
  rw [List.length_map, List.length_range]; exact Nat.le_refl _
theorem outL_len (d : PNet) (hn : d.n ≤ 9) (a : Nat) : (outL d a).length ≤ 9 * a := by
  induction a with
  | zero => exact Nat.le_refl _
  | succ a ih =>
    rw [outL_s, List.length_append]
    have := inL_len d a d.n
    omega
set_option maxRecDepth 100000 in
set_option maxHeartbeats 2000000 in
theorem links_ (d : PNet) (hd : NetOk d) : LCalls Try.prog 26 [.bp 3000 0] (netN d) [] (.t (.sl 3 ((linksP d).map (linkT d)))) (netN d) [] := by
  have hn := hd.n
  have c1 := nodes_ (lnk d.n) d
  refine lcalls_of Try.func26 rfl rfl Try.ntmps26 rfl ?_
  repeat' (first | (refine rg 0 ?_; refine oAs ?_; refine oN ?_) | (refine rg 1 ?_; refine oAs ?_; refine oN ?_) | (refine rg 2 ?_; refine oMv ?_; refine sops_lcall (c1) (fun i => i) (fun i => i) (fun _ => false) (.free rfl rfl) rfl rfl rfl (by ((repeat' (first | exact .nil | refine .cons rfl rfl rfl ?_)) <;> fail)) (.cons rfl rfl .nil) .nil rfl rfl (fun _ h => Bool.noConfusion h) ?_; refine oMv ?_; refine oN ?_) | refine gc ?_ | refine ct ?_ | refine cf ?_ | refine swp_cond rfl (fun hc => ?_) (fun hc => ?_) | refine rq rfl (rt .nil) ?_)
  refine swp_for (SL1 d) (fun _ => True) d.n ?_ trivial ?_
  · refine Weak.trans (weak_own0 (i := 100) 61 3 (s := 3) rfl rfl) ?_
    exact (weak_sub (.cons rfl rfl rfl (.cons rfl rfl rfl (.cons rfl rfl rfl (.cons rfl rfl rfl .nil)))) (.cons rfl rfl rfl .nil) (.cons rfl rfl .nil))
  intro a ha _
  unfold SL1
  by_cases hlt : a < d.n
  · have hlt' : (a : Int) < d.n := by omega
    repeat' (first | (refine rg 3 ?_; refine oCm ?_; refine oN ?_) | (refine rg 4 ?_; refine oMv ?_; refine oAs ?_; refine oN ?_) | (refine rg 5 ?_; refine oMv ?_; refine sops_lcall (c1) (fun i => i) (fun i => i) (fun _ => false) (.free rfl rfl) rfl rfl rfl (by ((repeat' (first | exact .nil | refine .cons rfl rfl rfl ?_)) <;> fail)) (.cons rfl rfl .nil) .nil rfl rfl (fun _ h => Bool.noConfusion h) ?_; refine oMv ?_; refine oN ?_) | refine gc ?_ | refine ct ?_ | refine cf ?_ | refine swp_cond rfl (fun hc => ?_) (fun hc => ?_) | refine rq rfl (rt .nil) ?_)
    refine swp_for (SL2 d a) (fun _ => True) d.n ?_ trivial ?_
    · have e0 : outL d a ++ inL d a 0 = outL d a := by unfold inL; simp
      exact (weak_sub (.cons rfl (by first | rfl | ((rw [e0]; try rfl))) rfl (.cons rfl (by first | rfl | ((rw [e0]; try rfl))) rfl (.cons rfl (by first | rfl | ((rw [e0]; try rfl))) rfl (.cons rfl (by first | rfl | ((rw [e0]; try rfl))) rfl (.cons rfl (by first | rfl | ((rw [e0]; try rfl))) rfl (.cons rfl (by first | rfl | ((rw [e0]; try rfl))) rfl (.cons rfl (by first | rfl | ((rw [e0]; try rfl))) rfl .nil))))))) (.cons rfl (by first | rfl | ((rw [e0]; try rfl))) rfl .nil) (.cons rfl (by first | rfl | ((rw [e0]; try rfl))) .nil))
    intro b hb _
    unfold SL2
    by_cases hlb : b < d.n
    · have hlb' : (b : Int) < d.n := by omega
      have q1 : IntKind.i64.wrap ((a : Int) + 1) = (a : Int) + 1 := wrap1 (by unfold maxLen; omega)
      have c2 := len_ d hd ((a + 1 : Nat) : Int) ((b + 1 : Nat) : Int)
      have hlen : ((outL d a ++ inL d a b).map (linkT d)).length ≤ 200 := by
        rw [List.length_map, List.length_append]
        have h1 := outL_len d hn a
        have h2 := inL_len d a b
        omega
      have hs := inL_s d a b
      by_cases hp : 0 < lenP d ((a + 1 : Nat) : Int) ((b + 1 : Nat) : Int)
      · rw [if_pos (show lkP d (a + 1, b + 1) = true from decide_eq_true hp)] at hs
        have hs' : (outL d a ++ inL d a (b + 1)).map (linkT d) = (outL d a ++ inL d a b).map (linkT d) ++ [linkT d (a + 1, b + 1)] := by rw [hs, ← List.append_assoc, List.map_append]; rfl
        repeat' (first | refine for_next hlb (weak_sub (.cons rfl (by rfl) rfl (.cons rfl (by first | rfl | ((rw [hs']; try rfl))) rfl (.cons rfl (by rfl) rfl (.cons rfl (by rfl) rfl (.cons rfl (by rfl) rfl (.cons rfl (by rfl) rfl (.cons rfl (by rfl) rfl .nil))))))) (.cons rfl (by rfl) rfl .nil) (.cons rfl (by first | rfl | ((rw [hs']; try rfl))) .nil)) trivial | (refine rg 6 ?_; refine oCm ?_; refine oN ?_) | (refine rg 7 ?_; refine oMv ?_; refine oAs ?_; refine oN ?_) | (refine rg 8 ?_; refine oMv ?_; refine oMv ?_; refine sp (xinc rfl) ?_; refine oMv ?_; refine sp (xinc rfl) ?_; refine sops_lcall (c2) (fun i => i) (fun i => i) (fun _ => false) (.free rfl rfl) rfl rfl rfl (by ((repeat' (first | exact .nil | refine .cons rfl rfl rfl ?_)) <;> fail)) (.cons rfl rfl .nil) .nil rfl rfl (fun _ h => Bool.noConfusion h) ?_; refine oAs ?_; refine oN ?_) | (refine rg 9 ?_; refine oMv ?_; refine oCm ?_; refine oN ?_) | (refine rg 10 ?_; refine oMv ?_; refine oMv ?_; refine sp (xinc rfl) ?_; refine oMv ?_; refine sp (xinc rfl) ?_; refine oMv ?_; refine sp (po_buildS str61 rfl (pc (pc (pc .nil))) rfl) ?_; refine sp (po_buildSlice rfl (tyE rfl) (dc (.nil _)) rfl rfl rfl) ?_; refine sap rfl (tyE rfl) ?_; refine oAs ?_; refine oN ?_) | (refine rg 11 ?_; refine sp (xinc rfl) ?_; refine oMv ?_; refine oN ?_) | refine gc ?_ | refine ct ?_)
      · rw [if_neg (show ¬ lkP d (a + 1, b + 1) = true by unfold lkP; simpa using hp), List.append_nil] at hs
        repeat' (first | refine for_next hlb (weak_sub (.cons rfl (by rfl) rfl (.cons rfl (by first | rfl | ((rw [hs]; try rfl))) rfl (.cons rfl (by rfl) rfl (.cons rfl (by rfl) rfl (.cons rfl (by rfl) rfl (.cons rfl (by rfl) rfl (.cons rfl (by rfl) rfl .nil))))))) (.cons rfl (by rfl) rfl .nil) (.cons rfl (by first | rfl | ((rw [hs]; try rfl))) .nil)) trivial | (refine rg 6 ?_; refine oCm ?_; refine oN ?_) | (refine rg 7 ?_; refine oMv ?_; refine oAs ?_; refine oN ?_) | (refine rg 8 ?_; refine oMv ?_; refine oMv ?_; refine sp (xinc rfl) ?_; refine oMv ?_; refine sp (xinc rfl) ?_; refine sops_lcall (c2) (fun i => i) (fun i => i) (fun _ => false) (.free rfl rfl) rfl rfl rfl (by ((repeat' (first | exact .nil | refine .cons rfl rfl rfl ?_)) <;> fail)) (.cons rfl rfl .nil) .nil rfl rfl (fun _ h => Bool.noConfusion h) ?_; refine oAs ?_; refine oN ?_) | (refine rg 9 ?_; refine oMv ?_; refine oCm ?_; refine oN ?_) | (refine rg 11 ?_; refine sp (xinc rfl) ?_; refine oMv ?_; refine oN ?_) | refine gc ?_ | refine ct ?_ | refine cf ?_)
    · obtain rfl : b = d.n := by omega
      have hs := outL_s d a
      repeat' (first | refine for_next hlt (weak_sub (.cons rfl (by rfl) rfl (.cons rfl (by first | rfl | ((rw [hs]; try rfl))) rfl (.cons rfl (by rfl) rfl (.cons rfl (by rfl) rfl .nil)))) (.cons rfl (by rfl) rfl .nil) (.cons rfl (by first | rfl | ((rw [hs]; try rfl))) .nil)) trivial | (refine rg 6 ?_; refine oCm ?_; refine oN ?_) | (refine rg 12 ?_; refine sp (xinc rfl) ?_; refine oMv ?_; refine oN ?_) | refine gc ?_ | refine ct ?_ | refine cf ?_)
  · obtain rfl : a = d.n := by omega
    repeat' (first | (refine rg 3 ?_; refine oCm ?_; refine oN ?_) | (refine rg 13 ?_; refine oMv ?_; refine oAs ?_; refine oN ?_) | refine gc ?_ | refine ct ?_ | refine cf ?_ | refine swp_cond rfl (fun hc => ?_) (fun hc => ?_) | refine retl (by exact .inr rfl) rfl (.tmpT rfl (by first | exact .t _ | exact .own rfl (by rfl) | exact .nil _ | exact .emp _ | exact .fn _) .nil) ?_ rfl (.cons rfl (by rfl) rfl .nil) .nil)
    rfl
end Go.Proofs.Ytgbcmjcaggnobaa.Sim

/- A net counted; copied. -/
namespace Go.Proofs.Ytgbcmjcaggnobaa.Sim
set_option linter.unusedVariables false
set_option linter.unusedSimpArgs false
open Go.RowKit Mem
def cntA (d : PNet) (l : List (Nat × Nat)) : Int := l.foldl (fun s p => s + lenP d p.1 p.2) 0
def cntP (d : PNet) : Int := cntA d (linksP d)
theorem cntA_s (d : PNet) (l : List (Nat × Nat)) (p : Nat × Nat) : cntA d (l ++ [p]) = cntA d l + lenP d p.1 p.2 := by unfold cntA; rw [List.foldl_append]; rfl
theorem lenP_link {d : PNet} {p : Nat × Nat} (h : IsL d.n p.1 p.2) : lenP d p.1 p.2 = ((d.row (keyP p)).length : Int) := by
  unfold lenP
  obtain ⟨e1, e2⟩ := isL_of h
  rw [e1, e2]; rfl
theorem lenP_le {d : PNet} (hd : NetOk d) (x y : Int) : 0 ≤ lenP d x y ∧ lenP d x y ≤ 32 := by
  unfold lenP
  cases isL d.n x y with
  | false => exact ⟨Int.le_refl _, by show (0 : Int) ≤ 32; omega⟩
  | true =>
    have := hd.len (kOf x y)
    show 0 ≤ ((d.row (kOf x y)).length : Int) ∧ ((d.row (kOf x y)).length : Int) ≤ 32
    omega
theorem cntA_le {d : PNet} (hd : NetOk d) (l : List (Nat × Nat)) : 0 ≤ cntA d l ∧ cntA d l ≤ 32 * l.length := by
  have key : ∀ (l : List (Nat × Nat)) (s : Int), 0 ≤ s → s ≤ l.foldl (fun s p => s + lenP d p.1 p.2) s ∧ l.foldl (fun s p => s + lenP d p.1 p.2) s ≤ s + 32 * l.length := by
    intro l
    induction l with
    | nil => intro s hs; simp
    | cons p l ih =>
      intro s hs
      have h1 := lenP_le hd p.1 p.2
      have h2 := ih (s + lenP d p.1 p.2) (by omega)
      simp only [List.foldl_cons, List.length_cons]
      omega
  have := key l 0 (Int.le_refl _)
  unfold cntA; omega
theorem links_len (d : PNet) (hn : d.n ≤ 9) : (linksP d).length ≤ 81 := by
  have := outL_len d hn d.n
  unfold linksP; omega
def SC (d : PNet) (k : Nat) : St := ⟨[(3, .t (.v (.int .i64 (cntA d ((linksP d).take k))))), (7, .t (.sl 3 ((linksP d).map (linkT d)))), (8, .t (.v (.int .i64 ((linksP d).length : Int)))), (9, .t (.v (.int .i64 (k : Int))))], netN d, []⟩
set_option maxRecDepth 100000 in
set_option maxHeartbeats 2000000 in
theorem count_ (d : PNet) (hd : NetOk d) : LCalls Try.prog 13 [.bp 3000 0] (netN d) [] (.t (.v (.int .i64 (cntP d)))) (netN d) [] := by
  have c1 := links_ d hd
  have hm : ((linksP d).map (linkT d)).length = (linksP d).length := List.length_map _
  refine lcalls_of Try.func13 rfl rfl Try.ntmps13 rfl ?_
  repeat' (first | (refine rg 0 ?_; refine oAs ?_; refine oN ?_) | (refine rg 1 ?_; refine oAs ?_; refine oN ?_) | (refine rg 2 ?_; refine oMv ?_; refine sops_lcall (c1) (fun i => i) (fun i => i) (fun _ => false) (.free rfl rfl) rfl rfl rfl (by ((repeat' (first | exact .nil | refine .cons rfl rfl rfl ?_)) <;> fail)) (.cons rfl rfl .nil) .nil rfl rfl (fun _ h => Bool.noConfusion h) ?_; refine sp (pln rfl (tyS rfl)) ?_; refine oMv ?_; refine oN ?_) | refine gc ?_ | refine ct ?_ | refine cf ?_ | refine swp_cond rfl (fun hc => ?_) (fun hc => ?_) | refine rq rfl (rt .nil) ?_)
  refine swp_for (SC d) (fun _ => True) (linksP d).length ?_ trivial ?_
  · exact (weak_sub (.cons rfl (by first | rfl | ((rw [hm]; try rfl))) rfl (.cons rfl (by first | rfl | ((rw [hm]; try rfl))) rfl (.cons rfl (by first | rfl | ((rw [hm]; try rfl))) rfl (.cons rfl (by first | rfl | ((rw [hm]; try rfl))) rfl .nil)))) (.cons rfl (by first | rfl | ((rw [hm]; try rfl))) rfl .nil) .nil)
  intro k hk _
  unfold SC
  by_cases hlt : k < (linksP d).length
  · have hlt' : (k : Int) < (linksP d).length := by omega
    have hat : ((linksP d).map (linkT d))[k]? = some (linkT d (linksP d)[k]) := by rw [List.getElem?_map, List.getElem?_eq_getElem hlt]; rfl
    have h1 := cntA_le hd ((linksP d).take k)
    have h2 := links_len d hd.n
    have h3 := lenP_le hd (linksP d)[k].1 (linksP d)[k].2
    have h4 : ((linksP d).take k).length ≤ 81 := by rw [List.length_take]; omega
    have e1 : cntA d ((linksP d).take (k + 1)) = cntA d ((linksP d).take k) + lenP d (linksP d)[k].1 (linksP d)[k].2 := by rw [← List.take_append_getElem hlt, cntA_s]
    repeat' (first | refine for_next hlt (weak_sub (.cons rfl (by first | rfl | ((rw [e1]; try rfl))) rfl (.cons rfl (by rfl) rfl (.cons rfl (by rfl) rfl (.cons rfl (by rfl) rfl .nil)))) (.cons rfl (by rfl) rfl .nil) .nil) trivial | (refine rg 3 ?_; refine oCm ?_; refine oN ?_) | (refine rg 4 ?_; (first | refine sp (po_index_arr rfl rfl rfl arr58 rfl (by first | omega | assumption)) ?_ | refine sp (pix rfl (tyS rfl)) ?_); (first | refine sp (po_load_bx_agg rfl rfl (tyT rfl) rfl (vc (vc (vc .nil))) rfl) ?_ | refine sp (po_load_agg rfl rfl (tyT rfl) rfl rfl) ?_); refine sal str61 ?_; refine oS ?_; refine oN ?_) | (refine rg 5 ?_; refine oMv ?_; refine oFb ?_; (first | refine sp (po_load_ntn rfl rfl (tyT rfl) rfl) ?_ | refine sp (po_load_ntk rfl rfl (tyT rfl) rfl (by first | assumption | omega) (by assumption) rfl) ?_ | refine oLb ?_); (first | refine sp (xinc rfl) ?_ | refine sp (xadd rfl) ?_); refine oAs ?_; refine oN ?_) | (refine rg 6 ?_; refine sp (xinc rfl) ?_; refine oMv ?_; refine oN ?_) | refine gc ?_ | refine ct ?_)
  · obtain rfl : k = (linksP d).length := by omega
    rw [List.take_length]
    repeat' (first | (refine rg 3 ?_; refine oCm ?_; refine oN ?_) | (refine rg 7 ?_; refine oMv ?_; refine oAs ?_; refine oN ?_) | refine gc ?_ | refine ct ?_ | refine cf ?_ | refine swp_cond rfl (fun hc => ?_) (fun hc => ?_) | exact retl1 (by exact .inr rfl) rfl (.tmp rfl rfl .nil) rfl (.cons rfl (by rfl) rfl .nil) .nil)
end Go.Proofs.Ytgbcmjcaggnobaa.Sim

/- A logic of states: a constant text's bytes. -/
namespace Go.Proofs.Ytgbcmjcaggnobaa.Sim
set_option linter.unusedVariables false
set_option linter.unusedSimpArgs false
open Go.RowKit Mem
section
variable {P : Program} {N : Nat} {Q : Exit → St → Prop} {ops : Array Oper} {rest : List Oper} {o : Oper} {tm : List (Nat × A)} {bx : List (Nat × List A)} {ow : List (Nat × Own)}
/-- behind a constant's row: its conversion comes next -/
structure SMk (P : Program) (N : Nat) (ops : Array Oper) (Q : Exit → St → Prop) (d e : Nat) (rows : List (List T)) (l : List Oper) (st : St) : Prop where
  go : ∀ C a w m g, RelG C N st a w m g → ∀ vs : List Value, vs.length = rows.length * 1 → (∀ r ∈ rows, r.length = 1) → CellsAre m rows.flatten vs → wpList P ops (Good C N Q) l (a.put (some d) (.slice (some ⟨w.heap.size, 0, none⟩) rows.length rows.length)) (w.alloc (.cells vs.toArray e))
theorem sops_cb1 {t e by_ len d : Nat} {xs : List (Nat × Operand)} {rows : List (List T)} (hg : GuardIs ops tm o true) (ho : o.op = .buildSlice t len xs.toArray) (hd : o.dst = some d) (hT : sliceE P t = some (e, 1, by_)) (hx : DParts ow (evA tm) 1 0 xs rows) (hlen : rows.length = len) (h0 : Nat.blt 0 len = true) (hsm : Nat.ble (len * 1) (2 ^ 24) = true)
    (k : SMk P N ops Q d e rows rest ⟨tm, bx, ow⟩) : SOps P N ops Q (o :: rest) ⟨tm, bx, ow⟩ := by
  refine .mk fun C a w ⟨m, g, hr⟩ => ?_
  obtain ⟨vs, h1, h2, h3, h4, h5⟩ := hx.ok hr.env (a := a) (fun x _ y hy => hr.ev hy)
  have hrun := built_run (P := P) hT w vs h3 (by omega) (Nat.lt_of_succ_le (Nat.le_of_ble_eq_true h0)) hsm
  refine wpList_step fun K hK => ?_
  rw [if_pos (hg.wanted (m := m) (g := g) fun j want e _ _ y hy => hr.tmps e y hy)]
  subst hlen
  refine wp_of_run (v := .slice (some ⟨w.heap.size, 0, none⟩) rows.length rows.length) (w' := w.alloc (.cells (vs.flatMap fun v => v.cells.toList).toArray e)) ?_ (hK _ _ ?_)
  · simp only [execOp, ho, List.map_toArray]
    rw [show (xs.map fun x => (x.1, a.eval x.2)) = (vs.zipIdx 0).map (fun x => (x.2, x.1)) from h1, Sem.run_bind, hrun]; rfl
  · rw [hd]
    exact k.go C a w m g hr _ (by rw [flatMap_cells_len h3, h2]) h4 h5
theorem sops_cb2 {t e d d2 : Nat} {rows : List (List T)} (hg : GuardIs ops ((d, .t (.sl 1 rows)) :: tm) o true) (ho : o.op = .convert t t (.tmp d)) (hd : o.dst = some d2) (hN : Nat.blt d N = true) (hN2 : Nat.blt d2 N = true) (hT : byE P t = some e) (hsm : Nat.ble rows.length (2 ^ 24) = true)
    (h : SOps P N ops Q rest ⟨(d2, .t (.sl 1 rows)) :: (d, .t (.sl 1 rows)) :: tm, bx, ow⟩) : SMk P N ops Q d e rows (o :: rest) ⟨tm, bx, ow⟩ := by
  refine .mk fun C a w m g hr vs hl h4 h5 => ?_
  obtain ⟨t1, t2⟩ := byE_spec hT
  have hle := Nat.le_of_ble_eq_true hsm
  have hrl : rows.length ≤ maxLen := by unfold maxLen; omega
  have hd1 : d < N := Nat.lt_of_succ_le (Nat.le_of_ble_eq_true hN)
  have hlo : Lo w (w.alloc (.cells vs.toArray e (vs.toArray.size, vs.toArray.size + 1))) := (Lo.refl w).alloc _
  have hs := upm_sub hr.env.sub hlo
  have he := ext_upm (w' := w.alloc (.cells vs.toArray e (vs.toArray.size, vs.toArray.size + 1))) hr.env.sub
  have hnew : (w.alloc (.cells vs.toArray e (vs.toArray.size, vs.toArray.size + 1))).heap[w.heap.size]? = some (.cells vs.toArray e (vs.toArray.size, vs.toArray.size + 1)) := heap_alloc_new w _
  have hTR : TR (upm m w (w.alloc (.cells vs.toArray e (vs.toArray.size, vs.toArray.size + 1)))) (.sl 1 rows) (.slice (some ⟨w.heap.size, 0, none⟩) rows.length rows.length) := by
    refine tr_owns (w := w.alloc (.cells vs.toArray e (vs.toArray.size, vs.toArray.size + 1))) (base := 0) (e := e) (vs := vs) ⟨hl, .inr ⟨w.heap.size, rows.length, vs.toArray, rfl, Nat.zero_le _, ⟨_, hnew, .inr (Nat.le_refl _)⟩, Nat.le_refl _, hrl, by simp [hl], ?_⟩⟩ h4 (h5.mono he.1) ?_
    · simp only; rw [← hl]; exact List.take_length
    · intro b hb k u hu
      injection hb with hb; subst hb
      unfold upm
      rw [if_neg (Nat.lt_irrefl _)]
      unfold World.cell?
      rw [hnew]
      simpa using hu
  have R1 := hr.put (x := .t (.sl 1 rows)) (v := .slice (some ⟨w.heap.size, 0, none⟩) rows.length rows.length) (hr.env.step hlo he hs) (fun x v h => h.mono he.1) hd1 hTR
  have R2 := R1.put (d := d2) (x := .t (.sl 1 rows)) (v := .slice (some ⟨w.heap.size, 0, none⟩) rows.length rows.length) R1.env (fun x v h => h) (Nat.lt_of_succ_le (Nat.le_of_ble_eq_true hN2)) hTR
  refine wpList_step fun K hK => ?_
  rw [if_pos (hg.wanted (m := upm m w (w.alloc (.cells vs.toArray e (vs.toArray.size, vs.toArray.size + 1)))) (g := g) fun j want e _ _ y hy => R1.tmps e y hy)]
  refine wp_of_run (v := .slice (some ⟨w.heap.size, 0, none⟩) rows.length rows.length) (w' := w.alloc (.cells vs.toArray e (vs.toArray.size, vs.toArray.size + 1))) ?_ (hK _ _ (h.go C _ _ ⟨_, _, by rw [hd]; exact R2⟩))
  have hev := eval_put_same (a := a) (.slice (some ⟨w.heap.size, 0, none⟩) rows.length rows.length) hr.size hd1
  have hc := Lib.run_convert_bytes_const (P := P) w t e vs.toArray rows.length rows.length t1 t2
  simp only [execOp, ho, hev, Sem.run_bind, hc]
  rfl
end
end Go.Proofs.Ytgbcmjcaggnobaa.Sim

/- The laws' pure parts: Same, many, texts, heavy. -/
namespace Go.Proofs.Ytgbcmjcaggnobaa.Sim
set_option linter.unusedVariables false
set_option linter.unusedSimpArgs false
open Go.RowKit Mem
theorem byt28 : byE Try.prog 28 = some 5 := by kernel_rfl
def sameP (a b : PMsg) : Bool := decide (a.f = b.f) && (decide (a.t = b.t) && decide (a.b = b.b))
theorem bs_eq {a b : List UInt8} : (bs a = bs b) ↔ a = b := ⟨fun h => by rw [← bs_toList a, ← bs_toList b, h], fun h => by rw [h]⟩
set_option maxRecDepth 100000 in
theorem same_ (a b : PMsg) (ha : a.b.length ≤ 140737488355328) (hb : b.b.length ≤ 140737488355328) : PCalls Try.prog 18 [msgA a, msgA b] (.v (.bool (sameP a b))) := by
  have hm1 : (a.b.map byteT).length = a.b.length := List.length_map _
  have hm2 : (b.b.map byteT).length = b.b.length := List.length_map _
  have hmx1 : a.b.length ≤ maxLen := by unfold maxLen; omega
  have hmx2 : b.b.length ≤ maxLen := by unfold maxLen; omega
  unfold msgA msgT bysT
  refine pcalls_of Try.func18 rfl rfl Try.ntmps18 rfl ?_
  by_cases h1 : a.f = b.f
  · by_cases h2 : a.t = b.t
    · have e : sameP a b = decide (bs a.b = bs b.b) := by unfold sameP; rw [decide_eq_true h1, decide_eq_true h2, Bool.true_and, Bool.true_and, decide_eq_decide]; exact bs_eq.symm
      rw [e]
      repeat' (first | (refine rg 0 ?_; refine sbx ?_; refine sbx ?_; refine oAs ?_; refine oN ?_) | (refine rg 1 ?_; refine oFb ?_; (first | refine sp (po_load_ntn rfl rfl (tyT rfl) rfl) ?_ | refine sp (po_load_ntk rfl rfl (tyT rfl) rfl (by first | assumption | omega) (by assumption) rfl) ?_ | refine oLb ?_); refine oFb ?_; (first | refine sp (po_load_ntn rfl rfl (tyT rfl) rfl) ?_ | refine sp (po_load_ntk rfl rfl (tyT rfl) rfl (by first | assumption | omega) (by assumption) rfl) ?_ | refine oLb ?_); refine oCm ?_; refine oMv ?_; refine oFb ?_ <;> (first | refine sp (po_load_ntn rfl rfl (tyT rfl) rfl) ?_ | refine sp (po_load_ntk rfl rfl (tyT rfl) rfl (by first | assumption | omega) (by assumption) rfl) ?_ | refine oLb ?_) <;> refine oFb ?_ <;> (first | refine sp (po_load_ntn rfl rfl (tyT rfl) rfl) ?_ | refine sp (po_load_ntk rfl rfl (tyT rfl) rfl (by first | assumption | omega) (by assumption) rfl) ?_ | refine oLb ?_) <;> refine oCm ?_ <;> refine oPt ?_ <;> refine oMv ?_ <;> refine oFb ?_ <;> (first | refine sp (po_load_ntn rfl rfl (tyT rfl) rfl) ?_ | refine sp (po_load_ntk rfl rfl (tyT rfl) rfl (by first | assumption | omega) (by assumption) rfl) ?_ | refine oLb ?_) <;> refine sp (po_bytes_str rfl rfl (by exact .t _) byt28 (tyR rfl)) ?_ <;> refine oFb ?_ <;> (first | refine sp (po_load_ntn rfl rfl (tyT rfl) rfl) ?_ | refine sp (po_load_ntk rfl rfl (tyT rfl) rfl (by first | assumption | omega) (by assumption) rfl) ?_ | refine oLb ?_) <;> refine sp (po_bytes_str rfl rfl (by exact .t _) byt28 (tyR rfl)) ?_ <;> refine sp (po_str rfl rfl rfl rfl) ?_ <;> refine oPt ?_ <;> refine oAs ?_ <;> refine oN ?_) | refine gc ?_ | refine ct ?_ | refine cf ?_ | refine swp_cond rfl (fun hc => ?_) (fun hc => ?_) | refine rq rfl (rt .nil) ?_)
      rfl
    · have e : sameP a b = false := by unfold sameP; rw [decide_eq_false h2]; simp
      rw [e]
      repeat' (first | (refine rg 0 ?_; refine sbx ?_; refine sbx ?_; refine oAs ?_; refine oN ?_) | (refine rg 1 ?_; refine oFb ?_; (first | refine sp (po_load_ntn rfl rfl (tyT rfl) rfl) ?_ | refine sp (po_load_ntk rfl rfl (tyT rfl) rfl (by first | assumption | omega) (by assumption) rfl) ?_ | refine oLb ?_); refine oFb ?_; (first | refine sp (po_load_ntn rfl rfl (tyT rfl) rfl) ?_ | refine sp (po_load_ntk rfl rfl (tyT rfl) rfl (by first | assumption | omega) (by assumption) rfl) ?_ | refine oLb ?_); refine oCm ?_; refine oMv ?_; refine oFb ?_ <;> (first | refine sp (po_load_ntn rfl rfl (tyT rfl) rfl) ?_ | refine sp (po_load_ntk rfl rfl (tyT rfl) rfl (by first | assumption | omega) (by assumption) rfl) ?_ | refine oLb ?_) <;> refine oFb ?_ <;> (first | refine sp (po_load_ntn rfl rfl (tyT rfl) rfl) ?_ | refine sp (po_load_ntk rfl rfl (tyT rfl) rfl (by first | assumption | omega) (by assumption) rfl) ?_ | refine oLb ?_) <;> refine oCm ?_ <;> refine oPt ?_ <;> refine oMv ?_ <;> (first | refine oFb ?_ | refine oFd ?_ | refine oK ?_) <;> (first | refine sp (po_load_ntn rfl rfl (tyT rfl) rfl) ?_ | refine sp (po_load_ntk rfl rfl (tyT rfl) rfl (by first | assumption | omega) (by assumption) rfl) ?_ | refine oLb ?_ | refine oLd ?_ | refine oK ?_) <;> (first | refine sp (po_bytes_str rfl rfl (by first | exact .t _ | exact .own rfl (by rfl) | exact .nil _ | exact .emp _) byt28 (tyR rfl)) ?_ | refine oK ?_) <;> (first | refine oFb ?_ | refine oFd ?_ | refine oK ?_) <;> (first | refine sp (po_load_ntn rfl rfl (tyT rfl) rfl) ?_ | refine sp (po_load_ntk rfl rfl (tyT rfl) rfl (by first | assumption | omega) (by assumption) rfl) ?_ | refine oLb ?_ | refine oLd ?_ | refine oK ?_) <;> (first | refine sp (po_bytes_str rfl rfl (by first | exact .t _ | exact .own rfl (by rfl) | exact .nil _ | exact .emp _) byt28 (tyR rfl)) ?_ | refine oK ?_) <;> (first | refine sp (po_str rfl rfl rfl rfl) ?_ | refine oK ?_) <;> (first | refine oPt ?_ | refine oPf ?_) <;> refine oAs ?_ <;> refine oN ?_) | refine gc ?_ | refine ct ?_ | refine cf ?_ | refine swp_cond rfl (fun hc => ?_) (fun hc => ?_) | refine rq rfl (rt .nil) ?_)
      rfl
  · have e : sameP a b = false := by unfold sameP; rw [decide_eq_false h1]; rfl
    rw [e]
    repeat' (first | (refine rg 0 ?_; refine sbx ?_; refine sbx ?_; refine oAs ?_; refine oN ?_) | (refine rg 1 ?_; refine oFb ?_; (first | refine sp (po_load_ntn rfl rfl (tyT rfl) rfl) ?_ | refine sp (po_load_ntk rfl rfl (tyT rfl) rfl (by first | assumption | omega) (by assumption) rfl) ?_ | refine oLb ?_); refine oFb ?_; (first | refine sp (po_load_ntn rfl rfl (tyT rfl) rfl) ?_ | refine sp (po_load_ntk rfl rfl (tyT rfl) rfl (by first | assumption | omega) (by assumption) rfl) ?_ | refine oLb ?_); refine oCm ?_; refine oMv ?_; (first | refine oFb ?_ | refine oFd ?_ | refine oK ?_) <;> (first | refine sp (po_load_ntn rfl rfl (tyT rfl) rfl) ?_ | refine sp (po_load_ntk rfl rfl (tyT rfl) rfl (by first | assumption | omega) (by assumption) rfl) ?_ | refine oLb ?_ | refine oLd ?_ | refine oK ?_) <;> (first | refine oFb ?_ | refine oFd ?_ | refine oK ?_) <;> (first | refine sp (po_load_ntn rfl rfl (tyT rfl) rfl) ?_ | refine sp (po_load_ntk rfl rfl (tyT rfl) rfl (by first | assumption | omega) (by assumption) rfl) ?_ | refine oLb ?_ | refine oLd ?_ | refine oK ?_) <;> (first | refine oCm ?_ | refine oK ?_) <;> (first | refine oPt ?_ | refine oPf ?_) <;> refine oMv ?_ <;> (first | refine oFb ?_ | refine oFd ?_ | refine oK ?_) <;> (first | refine sp (po_load_ntn rfl rfl (tyT rfl) rfl) ?_ | refine sp (po_load_ntk rfl rfl (tyT rfl) rfl (by first | assumption | omega) (by assumption) rfl) ?_ | refine oLb ?_ | refine oLd ?_ | refine oK ?_) <;> (first | refine sp (po_bytes_str rfl rfl (by first | exact .t _ | exact .own rfl (by rfl) | exact .nil _ | exact .emp _) byt28 (tyR rfl)) ?_ | refine oK ?_) <;> (first | refine oFb ?_ | refine oFd ?_ | refine oK ?_) <;> (first | refine sp (po_load_ntn rfl rfl (tyT rfl) rfl) ?_ | refine sp (po_load_ntk rfl rfl (tyT rfl) rfl (by first | assumption | omega) (by assumption) rfl) ?_ | refine oLb ?_ | refine oLd ?_ | refine oK ?_) <;> (first | refine sp (po_bytes_str rfl rfl (by first | exact .t _ | exact .own rfl (by rfl) | exact .nil _ | exact .emp _) byt28 (tyR rfl)) ?_ | refine oK ?_) <;> (first | refine sp (po_str rfl rfl rfl rfl) ?_ | refine oK ?_) <;> (first | refine oPt ?_ | refine oPf ?_) <;> refine oAs ?_ <;> refine oN ?_) | refine gc ?_ | refine ct ?_ | refine cf ?_ | refine swp_cond rfl (fun hc => ?_) (fun hc => ?_) | refine rq rfl (rt .nil) ?_)
    rfl
def msgC (m : PMsg) : List T := [.v (.int .i64 m.f), .v (.int .i64 m.t), bysT m.b]
def manyP (l : List PMsg) (m : PMsg) : Nat := (l.filter fun x => sameP x m).length
def SMn (l : List PMsg) (m : PMsg) (k : Nat) : St := ⟨[(0, .t (.sl 3 (l.map msgC))), (3, .bp 3 0), (5, .t (.v (.int .i64 (manyP (l.take k) m : Nat)))), (6, .t (.v (.int .i64 (k : Int))))], [(3, (msgC m).map .t)], []⟩
set_option maxRecDepth 100000 in
set_option maxHeartbeats 2000000 in
theorem many_ (l : List PMsg) (m : PMsg) (hl : l.length ≤ 1000000) (hb : ∀ x ∈ l, x.b.length ≤ 140737488355328) (hm : m.b.length ≤ 140737488355328) : PCalls Try.prog 17 [.sl 3 (l.map msgC), msgA m] (.v (.int .i64 (manyP l m : Nat))) := by
  have hlm : (l.map msgC).length = l.length := List.length_map _
  unfold msgA msgT
  refine pcalls_of Try.func17 rfl rfl Try.ntmps17 rfl ?_
  repeat' (first | (refine rg 0 ?_; refine sbx ?_; refine oAs ?_; refine oN ?_) | (refine rg 1 ?_; refine oAs ?_; refine oN ?_) | (refine rg 2 ?_; refine oAs ?_; refine oN ?_) | refine gc ?_ | refine ct ?_ | refine cf ?_ | refine swp_cond rfl (fun hc => ?_) (fun hc => ?_) | refine rq rfl (rt .nil) ?_)
  refine swp_for (SMn l m) (fun _ => True) l.length ?_ trivial ?_
  · exact (weak_sub (.cons rfl rfl rfl (.cons rfl rfl rfl (.cons rfl rfl rfl (.cons rfl rfl rfl .nil)))) (.cons rfl rfl rfl .nil) .nil)
  intro k hk _
  unfold SMn
  by_cases hlt : k < l.length
  · have hat : (l.map msgC)[k]? = some (msgC l[k]) := by rw [List.getElem?_map, List.getElem?_eq_getElem hlt]; rfl
    have c1 := same_ l[k] m (hb _ (List.getElem_mem hlt)) hm
    have hle : manyP (l.take k) m ≤ 1000000 := Nat.le_trans (List.length_filter_le _ _) (by rw [List.length_take]; omega)
    unfold msgA msgT at c1
    unfold msgC at hat
    cases hs : sameP l[k] m with
    | true =>
      have e1 : manyP (l.take (k + 1)) m = manyP (l.take k) m + 1 := by unfold manyP; rw [← List.take_append_getElem hlt, List.filter_append, List.length_append]; simp [List.filter_cons, hs]
      rw [hs] at c1
      repeat' (first | refine for_next hlt (weak_sub (.cons rfl (by rfl) rfl (.cons rfl (by rfl) rfl (.cons rfl (by first | rfl | ((rw [e1]; try rfl))) rfl (.cons rfl (by rfl) rfl .nil)))) (.cons rfl (by rfl) rfl .nil) .nil) trivial | (refine rg 3 ?_; refine oMv ?_; refine oMv ?_; refine sp (pln rfl (tyS rfl)) ?_; refine oCm ?_; refine oN ?_) | (refine rd 5 ?_; refine dMv ?_; refine dMv ?_; (first | refine dp (po_index_arr rfl rfl rfl arr27 rfl (by first | omega | assumption)) ?_ | refine dp (pix rfl (tyS rfl)) ?_); (first | refine dp (po_load_bx_agg rfl rfl (tyT rfl) rfl (vc (vc (vc .nil))) rfl) ?_ | refine dp (po_load_agg rfl rfl (tyT rfl) rfl rfl) ?_); (refine dp (po_load_bx_agg rfl rfl (tyT rfl) rfl (vc (vc (vc .nil))) rfl) ?_); refine dC (c1) rfl (ac (ac .nil)) ?_; refine dN ?_; refine oN ?_) | (refine rg 6 ?_; refine oMv ?_; refine sp (xinc rfl) ?_; refine oAs ?_; refine oN ?_) | (refine rg 4 ?_; refine oMv ?_; refine sp (xinc rfl) ?_; refine oAs ?_; refine oN ?_) | refine gc ?_ | refine ct ?_)
    | false =>
      have e1 : manyP (l.take (k + 1)) m = manyP (l.take k) m := by unfold manyP; rw [← List.take_append_getElem hlt, List.filter_append, List.length_append]; simp [List.filter_cons, hs]
      rw [hs] at c1
      repeat' (first | refine for_next hlt (weak_sub (.cons rfl (by rfl) rfl (.cons rfl (by rfl) rfl (.cons rfl (by first | rfl | ((rw [e1]; try rfl))) rfl (.cons rfl (by rfl) rfl .nil)))) (.cons rfl (by rfl) rfl .nil) .nil) trivial | (refine rg 3 ?_; refine oMv ?_; refine oMv ?_; refine sp (pln rfl (tyS rfl)) ?_; refine oCm ?_; refine oN ?_) | (refine rd 5 ?_; refine dMv ?_; refine dMv ?_; (first | refine dp (po_index_arr rfl rfl rfl arr27 rfl (by first | omega | assumption)) ?_ | refine dp (pix rfl (tyS rfl)) ?_); (first | refine dp (po_load_bx_agg rfl rfl (tyT rfl) rfl (vc (vc (vc .nil))) rfl) ?_ | refine dp (po_load_agg rfl rfl (tyT rfl) rfl rfl) ?_); (refine dp (po_load_bx_agg rfl rfl (tyT rfl) rfl (vc (vc (vc .nil))) rfl) ?_); refine dC (c1) rfl (ac (ac .nil)) ?_; refine dN ?_; refine oN ?_) | (refine rg 4 ?_; refine oMv ?_; refine sp (xinc rfl) ?_; refine oAs ?_; refine oN ?_) | refine gc ?_ | refine ct ?_ | refine cf ?_)
  · obtain rfl : k = l.length := by omega
    rw [List.take_length]
    repeat' (first | (refine rg 3 ?_; refine oMv ?_; refine oMv ?_; refine sp (pln rfl (tyS rfl)) ?_; refine oCm ?_; refine oN ?_) | (refine rg 7 ?_; refine oMv ?_; refine oAs ?_; refine oN ?_) | refine gc ?_ | refine ct ?_ | refine cf ?_ | refine swp_cond rfl (fun hc => ?_) (fun hc => ?_) | refine rq rfl (rt .nil) ?_)
    rfl
def lsum (l : List PHop) : Nat := (l.map fun h => h.load.length).sum
def heavyP (l : List PHop) : Bool := decide (300 < l.length) || decide (4000000 < lsum l)
theorem lsum_take (l : List PHop) (k : Nat) (h : k < l.length) : lsum (l.take (k + 1)) = lsum (l.take k) + l[k].load.length := by
  unfold lsum
  rw [← List.take_append_getElem h, List.map_append, List.sum_append]; simp
theorem lsum_le (l : List PHop) (k : Nat) : lsum (l.take k) ≤ lsum l := by
  unfold lsum
  conv => rhs; rw [← List.take_append_drop k l, List.map_append, List.sum_append]
  omega
def hopC (h : PHop) : List T := [.v (.int .i64 h.kind), .v (.int .i64 h.f), .v (.int .i64 h.t), .v (.int .i64 h.no), bysT h.load]
def SHv (l : List PHop) (k : Nat) : St := ⟨[(0, .t (.sl 5 (l.map hopC))), (3, .t (.v (.int .i64 (4000000 - (lsum (l.take k) : Int))))), (4, .t (.v (.int .i64 (k : Int))))], [], []⟩
set_option maxRecDepth 100000 in
set_option maxHeartbeats 2000000 in
theorem heavy_ (l : List PHop) (hl : l.length ≤ 9223372036854775807) (hb : ∀ h ∈ l, h.load.length ≤ 9223372036854775807) : PCalls Try.prog 10 [.sl 5 (l.map hopC)] (.v (.bool (heavyP l))) := by
  have hlm : (l.map hopC).length = l.length := List.length_map _
  refine pcalls_of Try.func10 rfl rfl Try.ntmps10 rfl ?_
  repeat' (first | (refine rg 0 ?_; refine oAs ?_; refine oN ?_) | (refine rg 1 ?_; refine oAs ?_; refine oN ?_) | (refine rg 2 ?_; refine oAs ?_; refine oN ?_) | refine gc ?_ | refine ct ?_ | refine cf ?_ | refine swp_cond rfl (fun hc => ?_) (fun hc => ?_) | refine rq rfl (rt .nil) ?_)
  refine swp_for (SHv l) (fun k => lsum (l.take k) ≤ 9223372036858775807) l.length ?_ (by show lsum [] ≤ _; unfold lsum; simp) ?_
  · exact (weak_sub (.cons rfl rfl rfl (.cons rfl rfl rfl (.cons rfl rfl rfl .nil))) .nil .nil)
  intro k hk hI
  unfold SHv
  by_cases hlt : k < l.length
  · by_cases hle : lsum (l.take k) ≤ 4000000
    · have hle' : (0 : Int) ≤ 4000000 - (lsum (l.take k) : Int) := by omega
      have hat : (l.map hopC)[k]? = some (hopC l[k]) := by rw [List.getElem?_map, List.getElem?_eq_getElem hlt]; rfl
      have hbk := hb _ (List.getElem_mem hlt)
      have hmk : (l[k].load.map byteT).length = l[k].load.length := List.length_map _
      have e0 := lsum_take l k hlt
      have e1 : 4000000 - (lsum (l.take (k + 1)) : Int) = 4000000 - (lsum (l.take k) : Int) - ((l[k].load.map byteT).length : Int) := by rw [e0, hmk]; omega
      unfold hopC bysT at hat
      repeat' (first | refine for_next hlt (weak_sub (.cons rfl (by rfl) rfl (.cons rfl (by first | rfl | ((rw [e1]; try rfl))) rfl (.cons rfl (by rfl) rfl .nil))) .nil .nil) (by rw [e0]; omega) | (refine rg 3 ?_; refine oMv ?_; refine oMv ?_; refine sp (pln rfl (tyS rfl)) ?_; refine oCm ?_; refine oMv ?_; refine oMv ?_ <;> refine oCm ?_ <;> refine oPt ?_ <;> refine oN ?_) | (refine rg 5 ?_; refine oMv ?_; refine oMv ?_; refine oMv ?_; (first | refine sp (po_index_arr rfl rfl rfl arr22 rfl (by first | omega | assumption)) ?_ | refine sp (pix rfl (tyS rfl)) ?_); (first | refine oFb ?_ | refine oFd ?_); (first | refine sp (po_load_ntn rfl rfl (tyT rfl) rfl) ?_ | refine sp (po_load_ntk rfl rfl (tyT rfl) rfl (by first | assumption | omega) (by assumption) rfl) ?_ | refine oLb ?_ | refine oLd ?_); refine sp (pln rfl (tyS rfl)) ?_; (first | refine sp (po_dec rfl rfl rfl (by omega)) ?_ | refine sp (po_arith rfl rfl rfl (ar_sub (by first | rfl | (refine wrap_i64 ?_; omega)) rfl)) ?_); refine oAs ?_; refine oN ?_) | (refine rg 4 ?_; refine oMv ?_; refine sp (xinc rfl) ?_; refine oAs ?_; refine oN ?_) | refine gc ?_ | refine ct ?_)
    · have hlt0 : (4000000 - (lsum (l.take k) : Int)) < 0 := by omega
      have hh : heavyP l = true := by
        unfold heavyP
        have := lsum_le l k
        rw [decide_eq_true (show 4000000 < lsum l by omega), Bool.or_true]
      rw [hh]
      by_cases h300 : 300 < l.length
      · repeat' (first | (refine rg 3 ?_; refine oMv ?_; refine oMv ?_; refine sp (pln rfl (tyS rfl)) ?_; refine oCm ?_; refine oMv ?_; refine oMv ?_ <;> refine oCm ?_ <;> refine oPt ?_ <;> refine oN ?_) | (refine rg 6 ?_; refine oMv ?_; refine sp (pln rfl (tyS rfl)) ?_; refine oCm ?_; refine oMv ?_; (first | refine oMv ?_ | refine oK ?_) <;> (first | refine oCm ?_ | refine oK ?_) <;> refine oPt ?_ <;> refine oAs ?_ <;> refine oN ?_) | refine gc ?_ | refine ct ?_ | refine cf ?_ | refine swp_cond rfl (fun hc => ?_) (fun hc => ?_) | refine rq rfl (rt .nil) ?_)
        rfl
      · repeat' (first | (refine rg 3 ?_; refine oMv ?_; refine oMv ?_; refine sp (pln rfl (tyS rfl)) ?_; refine oCm ?_; refine oMv ?_; refine oMv ?_ <;> refine oCm ?_ <;> refine oPt ?_ <;> refine oN ?_) | (refine rg 6 ?_; refine oMv ?_; refine sp (pln rfl (tyS rfl)) ?_; refine oCm ?_; refine oMv ?_; refine oMv ?_ <;> refine oCm ?_ <;> (first | refine oPt ?_ | refine oPf ?_) <;> refine oAs ?_ <;> refine oN ?_) | refine gc ?_ | refine ct ?_ | refine cf ?_ | refine swp_cond rfl (fun hc => ?_) (fun hc => ?_) | refine rq rfl (rt .nil) ?_)
        exact eq_b (decide_eq_true hlt0).symm
  · obtain rfl : k = l.length := by omega
    rw [List.take_length]
    by_cases h300 : 300 < l.length
    · have hh : heavyP l = true := by unfold heavyP; rw [decide_eq_true h300, Bool.true_or]
      rw [hh]
      repeat' (first | (refine rg 3 ?_; refine oMv ?_; refine oMv ?_; refine sp (pln rfl (tyS rfl)) ?_; refine oCm ?_; refine oMv ?_; (first | refine oMv ?_ | refine oK ?_) <;> (first | refine oCm ?_ | refine oK ?_) <;> (first | refine oPt ?_ | refine oPf ?_) <;> refine oN ?_) | (refine rg 6 ?_; refine oMv ?_; refine sp (pln rfl (tyS rfl)) ?_; refine oCm ?_; refine oMv ?_; (first | refine oMv ?_ | refine oK ?_) <;> (first | refine oCm ?_ | refine oK ?_) <;> refine oPt ?_ <;> refine oAs ?_ <;> refine oN ?_) | refine gc ?_ | refine ct ?_ | refine cf ?_ | refine swp_cond rfl (fun hc => ?_) (fun hc => ?_) | refine rq rfl (rt .nil) ?_)
      rfl
    · by_cases hs : 4000000 < lsum l
      · have hh : heavyP l = true := by unfold heavyP; rw [decide_eq_true hs, Bool.or_true]
        have hs' : (4000000 - (lsum l : Int)) < 0 := by omega
        rw [hh]
        repeat' (first | (refine rg 3 ?_; refine oMv ?_; refine oMv ?_; refine sp (pln rfl (tyS rfl)) ?_; refine oCm ?_; refine oMv ?_; (first | refine oMv ?_ | refine oK ?_) <;> (first | refine oCm ?_ | refine oK ?_) <;> (first | refine oPt ?_ | refine oPf ?_) <;> refine oN ?_) | (refine rg 6 ?_; refine oMv ?_; refine sp (pln rfl (tyS rfl)) ?_; refine oCm ?_; refine oMv ?_; refine oMv ?_ <;> refine oCm ?_ <;> (first | refine oPt ?_ | refine oPf ?_) <;> refine oAs ?_ <;> refine oN ?_) | refine gc ?_ | refine ct ?_ | refine cf ?_ | refine swp_cond rfl (fun hc => ?_) (fun hc => ?_) | refine rq rfl (rt .nil) ?_)
        exact eq_b (decide_eq_true hs').symm
      · have hh : heavyP l = false := by unfold heavyP; rw [decide_eq_false h300, decide_eq_false hs]; rfl
        have hs' : ¬ ((4000000 - (lsum l : Int)) < 0) := by omega
        rw [hh]
        repeat' (first | (refine rg 3 ?_; refine oMv ?_; refine oMv ?_; refine sp (pln rfl (tyS rfl)) ?_; refine oCm ?_; refine oMv ?_; (first | refine oMv ?_ | refine oK ?_) <;> (first | refine oCm ?_ | refine oK ?_) <;> (first | refine oPt ?_ | refine oPf ?_) <;> refine oN ?_) | (refine rg 6 ?_; refine oMv ?_; refine sp (pln rfl (tyS rfl)) ?_; refine oCm ?_; refine oMv ?_; refine oMv ?_ <;> refine oCm ?_ <;> (first | refine oPt ?_ | refine oPf ?_) <;> refine oAs ?_ <;> refine oN ?_) | refine gc ?_ | refine ct ?_ | refine cf ?_ | refine swp_cond rfl (fun hc => ?_) (fun hc => ?_) | refine rq rfl (rt .nil) ?_)
        exact eq_b (decide_eq_false hs').symm
theorem light {l : List PHop} (h : heavyP l = false) : l.length ≤ 300 ∧ lsum l ≤ 4000000 ∧ ∀ x ∈ l, x.load.length ≤ 4000000 := by
  unfold heavyP at h
  rw [Bool.or_eq_false_iff, decide_eq_false_iff_not, decide_eq_false_iff_not] at h
  refine ⟨by omega, by omega, fun x hx => ?_⟩
  obtain ⟨k, hk, rfl⟩ := List.getElem_of_mem hx
  have h1 := lsum_take l k hk
  have h2 := lsum_le l (k + 1)
  omega
end Go.Proofs.Ytgbcmjcaggnobaa.Sim
