/- Merged by bundles.py: SimNl4, SimNl5, SimNl6. -/
import Derived.Test.YtabejnjnkpdjbaaU26
import Derived.Test.YtabejnjnkpdjbaaU15
/- Sorting: cmp.Compare, insertionSortCmpFunc. -/
namespace Go.Proofs.Ytabejnjnkpdjbaa.Sim
set_option linter.unusedVariables false
set_option linter.unusedSimpArgs false
open Go.RowKit Mem
def cmpU (a b : Int) : Int := if a < b then -1 else if b < a then 1 else 0
set_option maxRecDepth 100000 in
theorem isNaN_ (a : Int) : PCalls Try.prog 112 [u64T a] (.v (.bool false)) := by
  refine pcalls_of Try.func112 rfl rfl Try.ntmps112 rfl ?_
  repeat' (first | refine rg 0 (aq0 ?_) | (refine rg 1 ?_; refine oMv ?_; refine oMv ?_; refine oCm ?_; refine oAs ?_; refine oN ?_) | refine gc ?_ | refine ct ?_ | refine cf ?_ | refine sc ?_ ?_ <;> intro hc | refine rq rfl (rt .nil) ?_)
  all_goals (try simp) <;> rfl
set_option maxRecDepth 100000 in
theorem cmp_ (a b : Int) : PCalls Try.prog 58 [u64T a, u64T b] (i64T (cmpU a b)) := by
  have c1 := isNaN_ a
  have c2 := isNaN_ b
  unfold cmpU
  refine pcalls_of Try.func58 rfl rfl Try.ntmps58 rfl ?_
  by_cases h1 : a < b
  · rw [if_pos h1]
    repeat' (first | refine rg 0 (aq0 ?_) | (refine rg 1 ?_; refine oMv ?_; refine oC (c1) rfl (ac .nil) ?_; refine aq0 ?_) | (refine rg 2 ?_; refine oMv ?_; (first | refine oC (c1) rfl (ac .nil) ?_ | refine oC (c2) rfl (ac .nil) ?_); refine aq0 ?_) | (refine rg 3 ?_; refine oMv ?_; refine oN ?_) | (refine rg 4 ?_; refine oMv ?_; refine oN ?_) | refine rg 5 (aq0 ?_) | refine rg 6 (aq0 ?_) | (refine rg 7 ?_; refine oMv ?_; refine oN ?_) | refine rg 8 (aq0 ?_) | refine rg 9 (aq42 ?_) | refine rg 10 (aq0 ?_) | refine rg 11 (aq42 ?_) | refine rg 12 (aq0 ?_) | refine rg 13 (aq0 ?_) | refine gc ?_ | refine ct ?_ | refine cf ?_ | refine sc ?_ ?_ <;> intro hc | refine rq rfl (rt .nil) ?_)
    all_goals rfl
  · rw [if_neg h1]
    by_cases h2 : b < a
    · rw [if_pos h2]
      repeat' (first | refine rg 0 (aq0 ?_) | (refine rg 1 ?_; refine oMv ?_; refine oC (c1) rfl (ac .nil) ?_; refine aq0 ?_) | (refine rg 2 ?_; refine oMv ?_; (first | refine oC (c1) rfl (ac .nil) ?_ | refine oC (c2) rfl (ac .nil) ?_); refine aq0 ?_) | (refine rg 3 ?_; refine oMv ?_; refine oN ?_) | (refine rg 4 ?_; refine oMv ?_; refine oN ?_) | refine rg 5 (aq0 ?_) | refine rg 6 (aq0 ?_) | (refine rg 7 ?_; refine oMv ?_; refine oN ?_) | refine rg 8 (aq0 ?_) | refine rg 9 (aq42 ?_) | refine rg 10 (aq0 ?_) | refine rg 11 (aq42 ?_) | refine rg 12 (aq0 ?_) | refine rg 13 (aq0 ?_) | refine gc ?_ | refine ct ?_ | refine cf ?_ | refine sc ?_ ?_ <;> intro hc | refine rq rfl (rt .nil) ?_)
      all_goals rfl
    · rw [if_neg h2]
      repeat' (first | refine rg 0 (aq0 ?_) | (refine rg 1 ?_; refine oMv ?_; refine oC (c1) rfl (ac .nil) ?_; refine aq0 ?_) | (refine rg 2 ?_; refine oMv ?_; (first | refine oC (c1) rfl (ac .nil) ?_ | refine oC (c2) rfl (ac .nil) ?_); refine aq0 ?_) | (refine rg 3 ?_; refine oMv ?_; refine oN ?_) | (refine rg 4 ?_; refine oMv ?_; refine oN ?_) | refine rg 5 (aq0 ?_) | refine rg 6 (aq0 ?_) | (refine rg 7 ?_; refine oMv ?_; refine oN ?_) | refine rg 8 (aq0 ?_) | refine rg 9 (aq42 ?_) | refine rg 10 (aq0 ?_) | refine rg 11 (aq42 ?_) | refine rg 12 (aq0 ?_) | refine rg 13 (aq0 ?_) | refine gc ?_ | refine ct ?_ | refine cf ?_ | refine sc ?_ ?_ <;> intro hc | refine rq rfl (rt .nil) ?_)
      all_goals rfl
set_option maxRecDepth 100000 in
theorem tk2_ (x y : PTk) : PCalls Try.prog 57 [.agg (takR x), .agg (takR y)] (i64T (cmpU x.n y.n)) := by
  have c1 := cmp_ x.n y.n
  refine pcalls_of Try.func57 rfl rfl Try.ntmps57 rfl ?_
  unfold takR
  repeat' (first | refine rg 0 (aq26 ?_) | (refine rg 1 ?_; refine oFb ?_; refine oLb ?_; refine oFb ?_; refine oLb ?_; refine oC (c1) rfl (ac (ac .nil)) ?_; refine aq0 ?_) | refine gc ?_ | refine ct ?_ | refine cf ?_ | refine sc ?_ ?_ <;> intro hc | refine rq rfl (rt .nil) ?_)
  all_goals rfl
set_option maxRecDepth 100000 in
theorem lst1_ (x y : PTk) : PCalls Try.prog 110 [.agg (takR x), .agg (takR y)] (i64T (cmpU x.n y.n)) := by
  have c1 := cmp_ x.n y.n
  refine pcalls_of Try.func110 rfl rfl Try.ntmps110 rfl ?_
  unfold takR
  repeat' (first | refine rg 0 (aq26 ?_) | (refine rg 1 ?_; refine oFb ?_; refine oLb ?_; refine oFb ?_; refine oLb ?_; refine oC (c1) rfl (ac (ac .nil)) ?_; refine aq0 ?_) | refine gc ?_ | refine ct ?_ | refine cf ?_ | refine sc ?_ ?_ <;> intro hc | refine rq rfl (rt .nil) ?_)
  all_goals rfl
def insV (x : PTk) : List PTk → List PTk
  | [] => [x]
  | y :: l => if x.n < y.n then y :: insV x l else x :: y :: l
def isV (l : List PTk) : List PTk := l.foldl (fun acc x => insV x acc) []
def isort (l : List PTk) : List PTk := (isV l).reverse
theorem isV_snoc (l : List PTk) (x : PTk) : isV (l ++ [x]) = insV x (isV l) := by unfold isV; rw [List.foldl_append]; rfl
theorem insV_len (x : PTk) : ∀ l, (insV x l).length = l.length + 1
  | [] => rfl
  | y :: l => by
    show (if x.n < y.n then _ else _ : List PTk).length = _
    split
    · rw [List.length_cons, insV_len x l]; rfl
    · rfl
theorem isV_len (l : List PTk) : (isV l).length = l.length := by
  have key : ∀ (l acc : List PTk), (l.foldl (fun acc x => insV x acc) acc).length = acc.length + l.length := by
    intro l
    induction l with
    | nil => intro acc; rfl
    | cons x l ih => intro acc; rw [List.foldl_cons, ih, insV_len, List.length_cons]; omega
  unfold isV; rw [key]; simp
theorem isort_len (l : List PTk) : (isort l).length = l.length := by unfold isort; rw [List.length_reverse, isV_len]
theorem swapK {P S : List PTk} {x y : PTk} : ((((P ++ y :: x :: S).map takR).set (P.length + 1) (takR y)).set P.length (takR x)) = (P ++ x :: y :: S).map takR := by
  rw [List.map_append, List.map_cons, List.map_cons, List.set_append_right _ _ (by rw [List.length_map]; omega), List.length_map, show P.length + 1 - P.length = 1 from by omega, List.set_cons_succ, List.set_cons_zero,
    List.set_append_right _ _ (by rw [List.length_map]; exact Nat.le_refl _), List.length_map, Nat.sub_self, List.set_cons_zero, List.map_append]; rfl
theorem at1K {P S : List PTk} {x y : PTk} : ((P ++ y :: x :: S).map takR)[P.length + 1]? = some (takR x) := by
  rw [List.map_append, List.getElem?_append_right (by rw [List.length_map]; omega), List.length_map, show P.length + 1 - P.length = 1 from by omega]; rfl
theorem at0K {P S : List PTk} {x y : PTk} : (((P ++ y :: x :: S).map takR).set (P.length + 1) (takR y))[P.length]? = some (takR y) := by
  rw [List.getElem?_set_ne (by omega)]; exact mid_at
def SI1 (N : Nat) (a b i : Int) (l : List PTk) : St := ⟨[(0, .own 2000 N), (1, .t (i64T a)), (2, .t (i64T b)), (3, .t (.clo 57 [])), (8, .t (i64T i))], [], [(2000, ⟨46, 4, l.map takR⟩)]⟩
def SI2 (N : Nat) (a b i j : Int) (l : List PTk) : St := ⟨[(0, .own 2000 N), (1, .t (i64T a)), (2, .t (i64T b)), (3, .t (.clo 57 [])), (8, .t (i64T i)), (9, .t (i64T j))], [], [(2000, ⟨46, 4, l.map takR⟩)]⟩
theorem cmpU_lt {a b : Int} (h : a < b) : cmpU a b < 0 := by unfold cmpU; rw [if_pos h]; decide
theorem cmpU_ge {a b : Int} (h : ¬ a < b) : ¬ cmpU a b < 0 := by unfold cmpU; rw [if_neg h]; split <;> decide
set_option maxRecDepth 100000 in
set_option maxHeartbeats 4000000 in
theorem insS_ (N : Nat) (pre seg post : List PTk) (hN : N = (pre ++ (seg ++ post)).length) (hb : N ≤ 2000) : LCalls Try.prog 123 [.own 2000 N, .t (i64T ((pre.length : Nat) : Int)), .t (i64T ((pre.length + seg.length : Nat) : Int)), .t (.clo 57 [])] [] [(2000, ⟨46, 4, (pre ++ (seg ++ post)).map takR⟩)] (resA []) [] [(2000, ⟨46, 4, (pre ++ (isort seg ++ post)).map takR⟩)] := by
  refine lcalls_of Try.func123 rfl rfl Try.ntmps123 rfl ?_
  have hNl : N = pre.length + seg.length + post.length := by rw [hN, List.length_append, List.length_append]; omega
  repeat' (first | refine rg 0 (aq18 ?_) | refine gc ?_ | refine ct ?_ | refine cf ?_ | refine sc ?_ ?_ <;> intro hc | refine rq rfl .nil ?_)
  refine swp_for (fun k => SI1 N pre.length (pre.length + seg.length : Nat) ((pre.length + 1 + k : Nat) : Int) (pre ++ (isort (seg.take (k + 1)) ++ (seg.drop (k + 1) ++ post)))) (fun _ => True) (seg.length - 1) ?_ trivial ?_
  · unfold SI1
    have h0 : (pre ++ (isort (seg.take (0 + 1)) ++ (seg.drop (0 + 1) ++ post))) = pre ++ (seg ++ post) := by
      cases seg with
      | nil => rfl
      | cons x l => rfl
    rw [h0]
    exact (weak_sub (.cons rfl rfl rfl (.cons rfl rfl rfl (.cons rfl rfl rfl (.cons rfl rfl rfl (.cons rfl rfl rfl .nil))))) .nil (.cons rfl rfl .nil))
  intro k hk _
  unfold SI1
  by_cases hlt : k < seg.length - 1
  · have hltI : ((pre.length + 1 + k : Nat) : Int) < ((pre.length + seg.length : Nat) : Int) := by omega
    repeat' (first | refine rg 1 (aq42 ?_) | refine rg 3 (aq8 ?_) | refine gc ?_ | refine ct ?_ | refine cf ?_ | refine sc ?_ ?_ <;> intro hc | refine rq rfl .nil ?_)
    have hk1 : k + 1 < seg.length := by omega
    have hnext : isort (seg.take (k + 1 + 1)) = (insV seg[k + 1] (isV (seg.take (k + 1)))).reverse := by
      unfold isort
      rw [List.take_succ_eq_append_getElem hk1, isV_snoc]
    have hdrop : seg.drop (k + 1) = seg[k + 1] :: seg.drop (k + 1 + 1) := List.drop_eq_getElem_cons hk1
    have hLl : (isort (seg.take (k + 1))).length = k + 1 := by rw [isort_len, List.length_take]; omega
    have hLr : (isort (seg.take (k + 1))).reverse = isV (seg.take (k + 1)) := by unfold isort; rw [List.reverse_reverse]
    rw [hdrop]
    generalize hx : seg[k + 1] = x at *
    generalize hrest : seg.drop (k + 1 + 1) ++ post = rest
    have hlen : N = pre.length + (k + 1) + 1 + rest.length := by rw [hNl, ← hrest, List.length_append, List.length_drop]; omega
    refine swp_fam (fun z : List PTk × List PTk => SI2 N pre.length (pre.length + seg.length : Nat) ((pre.length + 1 + k : Nat) : Int) ((pre ++ z.1).length : Nat) ((pre ++ z.1) ++ x :: (z.2 ++ rest))) (fun z => (insV x z.1.reverse).reverse ++ z.2 = (insV x (isV (seg.take (k + 1)))).reverse ∧ z.1.length + z.2.length = k + 1) (fun z => z.1.length) (isort (seg.take (k + 1)), []) ?_ ⟨by rw [hLr, List.append_nil], by rw [hLl]; rfl⟩ ?_
    · unfold SI2
      dsimp only
      have h1 : (pre ++ isort (seg.take (k + 1))).length = pre.length + 1 + k := by rw [List.length_append, hLl]; omega
      rw [h1]
      have h2 : pre ++ (isort (seg.take (k + 1)) ++ (x :: seg.drop (k + 1 + 1) ++ post)) = (pre ++ isort (seg.take (k + 1))) ++ x :: ([] ++ rest) := by rw [← hrest, List.append_assoc]; rfl
      rw [h2]
      exact (weak_sub (.cons rfl rfl rfl (.cons rfl rfl rfl (.cons rfl rfl rfl (.cons rfl rfl rfl (.cons rfl rfl rfl (.cons rfl rfl rfl .nil)))))) .nil (.cons rfl rfl .nil))
    rintro ⟨L, R⟩ ⟨hI, hl⟩
    dsimp only at hI hl
    unfold SI2
    dsimp only
    rcases List.eq_nil_or_concat L with rfl | ⟨L', y, rfl⟩
    · rw [List.append_nil]
      have hja : ¬ ((pre.length : Nat) : Int) < ((pre.length : Nat) : Int) := by omega
      have hrow : pre ++ x :: (R ++ rest) = pre ++ (isort (seg.take (k + 1 + 1)) ++ (seg.drop (k + 1 + 1) ++ post)) := by rw [hnext, ← hI, hrest]; simp [insV]
      have hrow' := congrArg (fun l => (⟨46, 4, l.map takR⟩ : Own)) hrow
      repeat' (first | refine fam_exit ?_ | refine for_next hlt (weak_sub (.cons rfl (by rfl) rfl (.cons rfl (by rfl) rfl (.cons rfl (by rfl) rfl (.cons rfl (by rfl) rfl (.cons rfl (by rfl) rfl .nil))))) .nil (.cons rfl (by first | rfl | ((exact hrow'))) .nil)) trivial | (refine rd 4 ?_; refine dMv ?_; refine dMv ?_; refine dCm ?_; refine dMv ?_; (first | refine dMv ?_ | refine dK ?_) <;> (first | refine dMv ?_ | refine dK ?_) <;> (first | refine dMv ?_ | refine dK ?_) <;> (first | refine dp (ixo rfl) ?_ | refine dp (pix rfl (tyS rfl)) ?_ | refine dK ?_) <;> (first | refine dp (po_load_bx_agg rfl rfl (tyT rfl) rfl (vc (vc (vc (vc .nil)))) rfl) ?_ | refine dp (po_load_agg rfl rfl (tyT rfl) rfl rfl) ?_ | refine dp (lda rfl) ?_ | refine dp (po_load_bx_ag rfl rfl (tyT rfl) rfl rfl rfl rfl) ?_ | refine dK ?_) <;> (first | refine dMv ?_ | refine dK ?_) <;> (first | refine dMv ?_ | refine dK ?_) <;> (first | refine dp (po_dec rfl rfl rfl (by omega)) ?_ | refine dp (po_arith rfl rfl rfl (ar_sub (by first | rfl | (refine wrap_i64 ?_; omega)) rfl)) ?_ | refine dK ?_) <;> (first | refine dp (ixo rfl) ?_ | refine dp (pix rfl (tyS rfl)) ?_ | refine dK ?_) <;> (first | refine dp (po_load_bx_agg rfl rfl (tyT rfl) rfl (vc (vc (vc (vc .nil)))) rfl) ?_ | refine dp (po_load_agg rfl rfl (tyT rfl) rfl rfl) ?_ | refine dp (lda rfl) ?_ | refine dp (po_load_bx_ag rfl rfl (tyT rfl) rfl rfl rfl rfl) ?_ | refine dK ?_) <;> refine dK ?_ <;> (first | refine dCm ?_ | refine dK ?_) <;> (first | refine dPt ?_ | refine dPf ?_) <;> refine dN ?_ <;> refine oN ?_) | refine rg 2 (aq18 ?_) | refine gc ?_ | refine ct ?_ | refine cf ?_)
    · rw [List.concat_eq_append] at hI hl ⊢
      rw [List.length_append, List.length_singleton] at hl
      generalize hP : pre ++ L' = P
      have hPl : P.length = pre.length + L'.length := by rw [← hP, List.length_append]
      have h1 : (pre ++ (L' ++ [y])).length = P.length + 1 := by rw [← List.append_assoc, hP, List.length_append]; rfl
      have h2 : (pre ++ (L' ++ [y])) ++ x :: (R ++ rest) = P ++ y :: x :: (R ++ rest) := by rw [← List.append_assoc, hP, List.append_assoc]; rfl
      rw [h1, h2]
      have hja : ((pre.length : Nat) : Int) < ((P.length + 1 : Nat) : Int) := by omega
      have hNr : N = ((P ++ y :: x :: (R ++ rest)).map takR).length := by rw [List.length_map, List.length_append, List.length_cons, List.length_cons, List.length_append]; omega
      have hNr2 : N = (((P ++ y :: x :: (R ++ rest)).map takR).set (P.length + 1) (takR y)).length := by rw [List.length_set]; exact hNr
      have hk0 : P.length < N := by omega
      have hk1' : P.length + 1 < N := by omega
      have hat0 : ((P ++ y :: x :: (R ++ rest)).map takR)[P.length]? = some (takR y) := mid_at
      have hat1 : ((P ++ y :: x :: (R ++ rest)).map takR)[P.length + 1]? = some (takR x) := at1K
      have c1 := tk2_ x y
      have hrev : (L' ++ [y]).reverse = y :: L'.reverse := by simp
      rw [hrev] at hI
      by_cases hxy : x.n < y.n
      · have hd : decide (cmpU x.n y.n < 0) = true := decide_eq_true (cmpU_lt hxy)
        have hI2 : (insV x L'.reverse).reverse ++ y :: R = (insV x (isV (seg.take (k + 1)))).reverse := by
          rw [← hI]
          show _ = (if x.n < y.n then y :: insV x L'.reverse else x :: y :: L'.reverse).reverse ++ R
          rw [if_pos hxy, List.reverse_cons, List.append_assoc]; rfl
        repeat' (first | (refine aq43 ?_ <;> (first | refine dp (po_index_own (k := P.length) rfl rfl rfl hNr rfl (tyS rfl) rfl hk0) ?_ | refine dp (po_index_own (k := P.length + 1) rfl rfl rfl hNr rfl (tyS rfl) rfl hk1') ?_) <;> (first | refine dp (po_load_own_agg (ts := takR y) rfl rfl rfl hNr (tyT rfl) hat0 rfl rfl) ?_ | refine dp (po_load_own_agg (ts := takR x) rfl rfl rfl hNr (tyT rfl) hat1 rfl rfl) ?_) <;> refine dMv ?_ <;> refine dMv ?_ <;> refine dp (po_dec rfl rfl rfl (by omega)) ?_ <;> refine dp (po_index_own (k := P.length) rfl rfl rfl hNr rfl (tyS rfl) rfl hk0) ?_ <;> refine dp (po_load_own_agg (ts := takR y) rfl rfl rfl hNr (tyT rfl) hat0 rfl rfl) ?_ <;> refine dp (po_call_clo rfl rfl (ac (ac .nil)) (c1)) ?_ <;> refine dCm ?_ <;> refine dPt ?_ <;> refine dN ?_ <;> refine oN ?_) | refine gc ?_ | refine ct ?_ | refine cf ?_ | refine sc ?_ ?_ <;> intro hc | refine rq rfl .nil ?_)
        refine swp_any (id := 6) [[], [], [], [], [], [], [], [], [], [], [], [], [], [], [], [2000], [], [2000]] [[], [], [2000], [2000], [2000], [], [], [], [], [], [], [], [], [], [], [], [], []] mixed (by kernel_rfl) ?_
        refine yp (fun _ _ => po_move rfl rfl) ?_
        refine yp (fun _ _ => po_move rfl rfl) ?_
        refine yp (fun _ _ => po_move rfl rfl) ?_
        refine yp (fun _ _ => po_move rfl rfl) ?_
        refine yp (fun _ _ => po_dec rfl rfl rfl (by omega)) ?_
        refine yp (fun _ _ => po_move rfl rfl) ?_
        refine yp (fun _ _ => po_move rfl rfl) ?_
        refine yp (fun _ _ => po_dec rfl rfl rfl (by omega)) ?_
        refine yp (fun _ _ => po_index_own (k := P.length) rfl rfl rfl hNr rfl (tyS rfl) rfl hk0) ?_
        refine yp (fun _ _ => po_load_own_agg (ts := takR y) rfl rfl rfl hNr (tyT rfl) hat0 rfl rfl) ?_
        refine yp (fun _ _ => po_move rfl rfl) ?_
        refine yp (fun _ _ => po_move rfl rfl) ?_
        refine yp (fun _ _ => po_index_own (k := P.length + 1) rfl rfl rfl hNr rfl (tyS rfl) rfl hk1') ?_
        refine yp (fun _ _ => po_load_own_agg (ts := takR x) rfl rfl rfl hNr (tyT rfl) at1K rfl rfl) ?_
        refine yp (fun _ _ => po_index_own (k := P.length + 1) rfl rfl rfl hNr rfl (tyS rfl) rfl hk1') ?_
        refine sany_eff [] [(2000, _)] (.free rfl rfl) rfl rfl (fun _ _ _ _ => e_store_own (ts := takR y) (by rfl) rfl rfl rfl rfl hNr rfl (.t _) rfl rfl (tyT rfl) rfl at1K rfl) ?_
        refine yp (fun _ _ => po_index_own (k := P.length) rfl rfl rfl hNr2 rfl (tyS rfl) rfl hk0) ?_
        refine sany_eff [] [(2000, _)] (.free rfl rfl) rfl rfl (fun _ _ _ _ => e_store_own (ts := takR x) (by rfl) rfl rfl rfl rfl hNr2 rfl (.t _) rfl rfl (tyT rfl) rfl at0K rfl) ?_
        refine sany_nil ?_
        refine gc ?_
        have hsw := congrArg (fun l => (⟨46, 4, l⟩ : Own)) (swapK (P := P) (S := R ++ rest) (x := x) (y := y))
        repeat' (first | refine rg 5 (aq44 ?_) | refine gc ?_ | refine ct ?_ | refine cf ?_ | refine sc ?_ ?_ <;> intro hc | refine rq rfl .nil ?_)
        refine fam_next (L', y :: R) (by show L'.length < (L' ++ [y]).length; simp) ?_ ⟨hI2, by show L'.length + (y :: R).length = k + 1; rw [List.length_cons]; omega⟩
        rw [hP]
        exact (weak_sub (.cons rfl (by first | rfl | (first | (exact hsw))) rfl (.cons rfl (by first | rfl | (first | (exact hsw))) rfl (.cons rfl (by first | rfl | (first | (exact hsw))) rfl (.cons rfl (by first | rfl | (first | (exact hsw))) rfl (.cons rfl (by first | rfl | (first | (exact hsw))) rfl (.cons rfl (by first | rfl | (first | (exact hsw))) rfl .nil)))))) .nil (.cons rfl (by first | rfl | (first | (exact hsw))) .nil))
      · have hd : decide (cmpU x.n y.n < 0) = false := decide_eq_false (cmpU_ge hxy)
        have hrow : P ++ y :: x :: (R ++ rest) = pre ++ (isort (seg.take (k + 1 + 1)) ++ (seg.drop (k + 1 + 1) ++ post)) := by
          rw [hnext, ← hI, hrest, ← hP]
          show _ = pre ++ ((if x.n < y.n then y :: insV x L'.reverse else x :: y :: L'.reverse).reverse ++ R ++ rest)
          rw [if_neg hxy]; simp
        have hrow' := congrArg (fun l => (⟨46, 4, l.map takR⟩ : Own)) hrow
        repeat' (first | refine fam_exit ?_ | refine for_next hlt (weak_sub (.cons rfl (by rfl) rfl (.cons rfl (by rfl) rfl (.cons rfl (by rfl) rfl (.cons rfl (by rfl) rfl (.cons rfl (by rfl) rfl .nil))))) .nil (.cons rfl (by first | rfl | ((exact hrow'))) .nil)) trivial | (refine aq43 ?_ <;> (first | refine dp (po_index_own (k := P.length) rfl rfl rfl hNr rfl (tyS rfl) rfl hk0) ?_ | refine dp (po_index_own (k := P.length + 1) rfl rfl rfl hNr rfl (tyS rfl) rfl hk1') ?_) <;> (first | refine dp (po_load_own_agg (ts := takR y) rfl rfl rfl hNr (tyT rfl) hat0 rfl rfl) ?_ | refine dp (po_load_own_agg (ts := takR x) rfl rfl rfl hNr (tyT rfl) hat1 rfl rfl) ?_) <;> refine dMv ?_ <;> refine dMv ?_ <;> refine dp (po_dec rfl rfl rfl (by omega)) ?_ <;> refine dp (po_index_own (k := P.length) rfl rfl rfl hNr rfl (tyS rfl) rfl hk0) ?_ <;> refine dp (po_load_own_agg (ts := takR y) rfl rfl rfl hNr (tyT rfl) hat0 rfl rfl) ?_ <;> refine dp (po_call_clo rfl rfl (ac (ac .nil)) (c1)) ?_ <;> refine dCm ?_ <;> refine dPt ?_ <;> refine dN ?_ <;> refine oN ?_) | refine rg 2 (aq18 ?_) | refine gc ?_ | refine ct ?_ | refine cf ?_)
  · have hltI : ¬ ((pre.length + 1 + k : Nat) : Int) < ((pre.length + seg.length : Nat) : Int) := by omega
    have hfin : pre ++ (isort (seg.take (k + 1)) ++ (seg.drop (k + 1) ++ post)) = pre ++ (isort seg ++ post) := by rw [List.take_of_length_le (by omega), List.drop_of_length_le (by omega)]; rfl
    rw [hfin]
    repeat' (first | refine rg 1 (aq42 ?_) | refine gc ?_ | refine ct ?_ | refine cf ?_ | refine sc ?_ ?_ <;> intro hc | refine retl (by first | exact .inr rfl | exact .inl rfl) rfl .nil ?_ rfl .nil (.cons rfl (by rfl) .nil))
    all_goals rfl
end Go.Proofs.Ytabejnjnkpdjbaa.Sim

/- MinFunc, least. -/
namespace Go.Proofs.Ytabejnjnkpdjbaa.Sim
set_option linter.unusedVariables false
set_option linter.unusedSimpArgs false
open Go.RowKit Mem
def minK (m : PTk) : List PTk → PTk
  | [] => m
  | y :: l => if y.n < m.n then minK y l else minK m l
def minN : List PTk → Int
  | [] => 0
  | x :: l => (minK x l).n
def foldK (m : PTk) (l : List PTk) : PTk := l.foldl (fun m y => if y.n < m.n then y else m) m
theorem minK_fold : ∀ (l : List PTk) (m : PTk), foldK m l = minK m l
  | [], m => rfl
  | y :: l, m => by
    show foldK (if y.n < m.n then y else m) l = if y.n < m.n then minK y l else minK m l
    split <;> exact minK_fold l _
theorem foldK_snoc (m : PTk) (l : List PTk) (y : PTk) : foldK m (l ++ [y]) = if y.n < (foldK m l).n then y else foldK m l := by unfold foldK; rw [List.foldl_append]; rfl
set_option maxRecDepth 100000 in
set_option maxHeartbeats 2000000 in
theorem minF_ (x : PTk) (l : List PTk) (hn : l.length ≤ 1000) : PCalls Try.prog 109 [.sl 4 ((x :: l).map takR), .clo 110 []] (.agg (takR (minK x l))) := by
  have hml : ((x :: l).map takR).length = l.length + 1 := by rw [List.length_map]; rfl
  have hI : ¬ (((x :: l).map takR).length : Int) < 1 := by rw [hml]; omega
  have hk0 : 0 < ((x :: l).map takR).length := by omega
  have hat0 : ((x :: l).map takR)[0]? = some (takR x) := rfl
  refine pcalls_of Try.func109 rfl rfl Try.ntmps109 rfl ?_
  repeat' (first | (refine rg 0 ?_; refine sal str46 ?_; refine oN ?_) | (refine rg 1 ?_; refine oMv ?_; refine sp (pln rfl (tyS rfl)) ?_; refine oCm ?_; refine oN ?_) | (refine rg 3 ?_; refine oMv ?_; refine sp (pix rfl (tyS rfl)) ?_; (first | refine sp (po_load_bx_agg rfl rfl (tyT rfl) rfl (vc (vc (vc (vc .nil)))) rfl) ?_ | refine sp (po_load_agg rfl rfl (tyT rfl) rfl rfl) ?_); refine sal str46 ?_; refine aq12 ?_) | refine rg 4 (aq0 ?_) | refine gc ?_ | refine ct ?_ | refine cf ?_ | refine sc ?_ ?_ <;> intro hc | refine rq rfl (.cell rfl rfl (tyT rfl) (vc (vc (vc (vc .nil)))) rfl .nil) ?_)
  refine swp_for (fun k => ⟨[(0, .t (.sl 4 ((x :: l).map takR))), (1, .t (.clo 110 [])), (4, .bp 4 0), (5, .bp 5 0), (6, .t (i64T ((k + 1 : Nat) : Int)))], [(4, [.t (u64T 0), .t (i64T 0), .t (i64T 0), .t (.v (.slice none 0 0))]), (5, (takR (foldK x (l.take k))).map .t)], []⟩) (fun _ => True) l.length ?_ trivial ?_
  · exact (weak_sub (.cons rfl rfl rfl (.cons rfl rfl rfl (.cons rfl rfl rfl (.cons rfl rfl rfl (.cons rfl rfl rfl .nil))))) (.cons rfl rfl rfl (.cons rfl rfl rfl .nil)) .nil)
  intro k hk _
  by_cases hlt : k < l.length
  · have hltI : ((k + 1 : Nat) : Int) < (((x :: l).map takR).length : Int) := by rw [hml]; omega
    have hk1 : k + 1 < ((x :: l).map takR).length := by omega
    have hat : ((x :: l).map takR)[k + 1]? = some (takR l[k]) := by
      show (l.map takR)[k]? = _
      exact map_at_some hlt
    have hst : foldK x (l.take (k + 1)) = if (l[k]).n < (foldK x (l.take k)).n then l[k] else foldK x (l.take k) := by rw [List.take_succ_eq_append_getElem hlt, foldK_snoc]
    generalize l[k] = y at *
    generalize foldK x (l.take k) = m at *
    have c1 := lst1_ y m
    by_cases hym : y.n < m.n
    · have hd : decide (cmpU y.n m.n < 0) = true := decide_eq_true (cmpU_lt hym)
      rw [if_pos hym] at hst
      have hst' := congrArg (fun z => (takR z).map Sim.A.t) hst.symm
      repeat' (first | refine for_next hlt (weak_sub (.cons rfl (by rfl) rfl (.cons rfl (by rfl) rfl (.cons rfl (by rfl) rfl (.cons rfl (by rfl) rfl (.cons rfl (by rfl) rfl .nil))))) (.cons rfl (by rfl) rfl (.cons rfl (by first | rfl | ((exact hst'))) rfl .nil)) .nil) trivial | refine rg 5 (aq45 ?_) | (refine aq46 ?_; refine dp (po_call_clo rfl rfl (ac (ac .nil)) (c1)) ?_; refine dCm ?_; refine dN ?_; refine oN ?_) | (refine rg 8 ?_; refine oMv ?_; refine oMv ?_; refine sp (pix rfl (tyS rfl)) ?_; (first | refine sp (po_load_bx_agg rfl rfl (tyT rfl) rfl (vc (vc (vc (vc .nil)))) rfl) ?_ | refine sp (po_load_agg rfl rfl (tyT rfl) rfl rfl) ?_); refine oS ?_; refine oN ?_) | refine rg 6 (aq18 ?_) | refine gc ?_ | refine ct ?_)
    · have hd : decide (cmpU y.n m.n < 0) = false := decide_eq_false (cmpU_ge hym)
      rw [if_neg hym] at hst
      have hst' := congrArg (fun z => (takR z).map Sim.A.t) hst.symm
      repeat' (first | refine for_next hlt (weak_sub (.cons rfl (by rfl) rfl (.cons rfl (by rfl) rfl (.cons rfl (by rfl) rfl (.cons rfl (by rfl) rfl (.cons rfl (by rfl) rfl .nil))))) (.cons rfl (by rfl) rfl (.cons rfl (by first | rfl | ((exact hst'))) rfl .nil)) .nil) trivial | refine rg 5 (aq45 ?_) | (refine aq46 ?_; refine dp (po_call_clo rfl rfl (ac (ac .nil)) (c1)) ?_; refine dCm ?_; refine dN ?_; refine oN ?_) | refine rg 6 (aq18 ?_) | refine gc ?_ | refine ct ?_ | refine cf ?_)
  · obtain rfl : k = l.length := by omega
    have hltI : ¬ ((l.length + 1 : Nat) : Int) < (((x :: l).map takR).length : Int) := by rw [hml]; omega
    rw [List.take_length, minK_fold]
    repeat' (first | refine rg 5 (aq45 ?_) | (refine rg 9 ?_; (refine sp (po_load_bx_agg rfl rfl (tyT rfl) rfl (vc (vc (vc (vc .nil)))) rfl) ?_); refine oS ?_; refine oN ?_) | refine gc ?_ | refine ct ?_ | refine cf ?_ | refine sc ?_ ?_ <;> intro hc | refine rq rfl (.cell rfl rfl (tyT rfl) (vc (vc (vc (vc .nil)))) rfl .nil) ?_)
    all_goals rfl
set_option maxRecDepth 100000 in
theorem least_ (l : List PTk) (h0 : 0 < l.length) (hn : l.length ≤ 1000) : PCalls Try.prog 55 [.sl 4 (l.map takR)] (u64T (minN l)) := by
  cases l with
  | nil => simp at h0
  | cons x l =>
    have c1 := minF_ x l (by rw [List.length_cons] at hn; omega)
    refine pcalls_of Try.func55 rfl rfl Try.ntmps55 rfl ?_
    rw [show minN (x :: l) = (minK x l).n from rfl]
    generalize minK x l = m at *
    rw [show takR m = [u64T m.n, i64T m.done, i64T m.code, bysT m.bytes] from rfl] at c1
    repeat' (first | refine rg 0 (aq0 ?_) | refine gc ?_ | refine ct ?_ | refine cf ?_ | refine sc ?_ ?_ <;> intro hc | refine rq rfl (rt .nil) ?_)
    refine rg 1 ?_
    refine oMv ?_
    refine oC c1 rfl (.cons rfl (.t _) (.cons rfl (.fn _) .nil)) ?_
    refine sp (po_fieldv (k := 0) rfl rfl (by kernel_rfl) rfl) ?_
    refine oAs ?_
    refine oN ?_
    repeat' (first | refine gc ?_ | refine ct ?_ | refine cf ?_ | refine sc ?_ ?_ <;> intro hc | refine rq rfl (rt .nil) ?_)
    all_goals rfl
end Go.Proofs.Ytabejnjnkpdjbaa.Sim

/- Done. (Printed by mk_nl6.py.) -/
namespace Go.Proofs.Ytabejnjnkpdjbaa.Sim
set_option linter.unusedVariables false
set_option linter.unusedSimpArgs false
open Go.RowKit Mem
def answered (d : PTk) : PTk := ⟨d.n, 1, d.code, d.bytes⟩
def doneK (d : PTk) (t : PIn) : PIn := match cutL (fun q : PTk => decide (q.n = d.n)) t.taken with
  | none => t
  | some (C, q, D) => if q.done = 1 then t else { t with taken := C ++ answered d :: D }
def doneP (l : List PIn) (a b c : Int) (d : PTk) : List PIn := match cutL (pIn a b c) l with
  | none => l
  | some (A, x, B) => A ++ doneK d x :: B
def SDn (a b c : Int) (d : PTk) (n : Nat) (rows : List (List T)) (F : List (Value × Own)) (tm : List (Nat × A)) : St := ⟨(3, .bp 3 0) :: (4, .bp 4 0) :: (5, .bp 5 0) :: (6, .bp 6 0) :: tm, [(3, [.own 1001 n]), (4, [.t (i64T a), .t (u64T b), .t (u64T c)]), (5, (takR d).map .t), (6, [.t (.v (.slice none 0 0))]), (1100, [.rs (FamR F)])], [(1001, ⟨42, 14, rows⟩)]⟩
def SDf (n : Nat) (rows : List (List T)) (F : List (Value × Own)) (tm : List (Nat × A)) : St := ⟨(3, .bp 3 0) :: (6, .bp 6 0) :: tm, [(3, [.own 1001 n]), (6, [.t (.v (.slice none 0 0))]), (1100, [.rs (FamR F)])], [(1001, ⟨42, 14, rows⟩)]⟩
theorem famI_set {A B : List AIn} {x : AIn} {t : PIn} {l : List (List T)} (h : t.taken.map takR = l) : famI A ++ (x.u, (⟨46, 4, l⟩ : Own)) :: famI B = famI (A ++ ⟨t, x.u⟩ :: B) := by subst h; rw [famI_split]; rfl
theorem setK {C D : List PTk} {q d : PTk} : ((C ++ q :: D).map takR).set C.length (takR d) = (C ++ d :: D).map takR := by
  rw [List.map_append, List.map_cons, List.set_append_right _ _ (by rw [List.length_map]; exact Nat.le_refl _), List.length_map, Nat.sub_self, List.set_cons_zero, List.map_append]; rfl
set_option maxRecDepth 100000 in
set_option maxHeartbeats 4000000 in
theorem done_ (l : List PIn) (a b c : Int) (d : PTk) (hn : l.length ≤ 500) (hq : ∀ t ∈ l, FewIn t) (hd : FewK d) : LCalls Try.prog 13 [.t (.agg (inlT l)), .t (idT a b c), .t (.agg (takR d))] [] [] (.t (.agg (inlT (doneP l a b c d)))) [] [] := by
  have c1 := ownInlet_ l (by omega) hq
  have c4 := clone_ d.bytes (by have := hd.bytes; omega)
  refine lcalls_of Try.func13 rfl rfl Try.ntmps13 rfl ?_
  unfold inlT idT takR
  repeat' (first | (refine rg 0 ?_; refine sbx ?_; refine sbx ?_; refine sbx ?_; refine sal str29 ?_; refine oN ?_) | refine gc ?_ | refine ct ?_ | refine cf ?_ | refine sc ?_ ?_ <;> intro hc | refine rq rfl (.cell rfl rfl (tyT rfl) (vc .nil) rfl .nil) ?_)
  refine rg 1 ?_
  refine sp (po_load_bx_agg rfl rfl (tyT rfl) rfl (vc .nil) rfl) ?_
  refine sops_ecall c1 (fun i => i) (fun i => i) (.free rfl rfl) rfl rfl rfl (.cons rfl rfl rfl .nil) .nil .nil rfl (fun _ => rfl) fun L => ?_
  obtain ⟨L, hl⟩ := L
  have hll : L.length = l.length := by have := congrArg List.length hl; rw [List.length_map] at this; exact this
  dsimp only
  refine oS ?_
  refine oN ?_
  have c2 := inbound_ L a b c (by omega)
  unfold idT at c2
  rw [← hll]
  repeat' (first | (refine rg 2 ?_; (first | refine sp (po_load_bx_agg rfl rfl (tyT rfl) rfl (vc .nil) rfl) ?_ | refine sp (po_load_agg rfl rfl (tyT rfl) rfl rfl) ?_ | refine sp (lda rfl) ?_ | refine sp (po_load_bx_ag rfl rfl (tyT rfl) rfl rfl rfl rfl) ?_); refine sp (po_load_bx_agg rfl rfl (tyT rfl) rfl (vc (vc (vc .nil))) rfl) ?_; refine sops_lcall (c2) (fun i => i) (fun i => bif Nat.beq i 2001 then 1001 else i) (fun i => Nat.beq i 2001) (.free rfl rfl) rfl rfl rfl (by ((repeat' (first | exact .nil | refine .cons rfl rfl rfl ?_)) <;> fail)) .nil (.cons rfl rfl .nil) rfl rfl (kp_id 2001 rfl rfl rfl (by rfl)) ?_; refine aq0 ?_) | refine gc ?_ | refine ct ?_ | refine cf ?_ | refine sc ?_ ?_ <;> intro hc | refine rq rfl (.cell rfl rfl (tyT rfl) (vc .nil) rfl .nil) ?_)
  rcases idxP_split (fun x : AIn => pIn a b c x.t) L with ⟨h1, h2⟩ | ⟨A, x, B, rfl, h1, h2, h3⟩
  · rw [h1]
    refine swp_weak (st' := SDn a b c d L.length (L.map inR) (famI L) [(7, .t (i64T (-1)))]) (weak_sub (.cons rfl rfl rfl (.cons rfl rfl rfl (.cons rfl rfl rfl (.cons rfl rfl rfl (.cons rfl rfl rfl .nil))))) (.cons rfl rfl rfl (.cons rfl rfl rfl (.cons rfl rfl rfl (.cons rfl rfl rfl (.cons rfl rfl rfl .nil))))) (.cons rfl rfl .nil)) ?_
    have hr : doneP l a b c d = l := by unfold doneP; rw [in_miss hl h2]
    rw [hr]
    unfold SDn
    repeat' (first | refine rg 3 (aq32 ?_) | refine gc ?_ | refine ct ?_ | refine cf ?_ | refine sc ?_ ?_ <;> intro hc | refine rq rfl (.cell rfl rfl (tyT rfl) (vc .nil) rfl .nil) ?_)
    have hK : L.map (fun a => inT' a.t) = l.map inT' := by rw [← hl, List.map_map]; rfl
    have hKl : L.length = (l.map inT').length := by rw [← hK, List.length_map]
    refine swp_weak (weak_famshow 1100 1001 ((L).map fun a : AIn => inT' a.t) (fs := famI (L)) (o := inO (L)) rfl rfl (by show (List.map _ _).length = (List.map _ _).length; rw [List.length_map, List.length_map]) (by intro r hr; obtain ⟨a, _, rfl⟩ := List.mem_map.1 hr; rfl) (upl_in (L))) ?_
    rw [hK]
    refine swp_weak (weak_show 1001 101 rfl rfl rfl rfl) ?_
    repeat' (first | refine rg 8 (aq47 ?_) | refine gc ?_ | refine ct ?_ | refine cf ?_ | refine sc ?_ ?_ <;> intro hc | refine rq rfl (.cell rfl rfl (tyT rfl) (vc .nil) rfl .nil) ?_)
    exact retl1 (.inr rfl) rfl (.cellT rfl rfl (tyT rfl) (vc .nil) rfl .nil) rfl .nil .nil
  · rw [h1]
    refine swp_weak (st' := SDn a b c d (A ++ x :: B).length ((A ++ x :: B).map inR) (famI A ++ (x.u, takO x.t) :: famI B) [(7, .t (i64T ((A.length : Nat) : Int)))]) (by rw [← famI_split]; exact (weak_sub (.cons rfl rfl rfl (.cons rfl rfl rfl (.cons rfl rfl rfl (.cons rfl rfl rfl (.cons rfl rfl rfl .nil))))) (.cons rfl rfl rfl (.cons rfl rfl rfl (.cons rfl rfl rfl (.cons rfl rfl rfl (.cons rfl rfl rfl .nil))))) (.cons rfl rfl .nil))) ?_
    have hr : doneP l a b c d = A.map AIn.t ++ doneK d x.t :: B.map AIn.t := by unfold doneP; rw [in_split hl rfl h2 h3]
    rw [hr]
    have hge : (0 : Int) ≤ ((A.length : Nat) : Int) := by omega
    have hat : ((A ++ x :: B).map inR)[A.length]? = some (inR x) := inO_at
    have hlt : A.length < (A ++ x :: B).length := by rw [List.length_append, List.length_cons]; omega
    have hml : (A ++ x :: B).length = ((A ++ x :: B).map inR).length := (List.length_map _).symm
    have hfx := hq x.t (by rw [← hl]; exact List.mem_map_of_mem (by simp))
    have c3 := idxDn d x.t.taken hfx.taken
    unfold SDn
    repeat' (first | refine rg 3 (aq32 ?_) | refine rg 4 (aq40 ?_) | refine gc ?_ | refine ct ?_ | refine cf ?_ | refine sc ?_ ?_ <;> intro hc | refine rq rfl (.cell rfl rfl (tyT rfl) (vc .nil) rfl .nil) ?_)
    refine rg 5 ?_
    refine oMv ?_
    refine sp (po_nilcheck_oe rfl rfl rfl hml) ?_
    refine sp (fdo rfl) ?_
    refine sp (ldo rfl) ?_
    refine sops_weak (weak_openF 24 1100 1005 90000 (a := famI A) (b := famI B) (o := takO x.t) rfl rfl rfl) ?_
    refine sp (po_func_cl rfl (.cons rfl rfl .nil)) ?_
    refine sops_lcall c3 (fun i => bif Nat.beq i 2000 then 5 else i) (fun i => bif Nat.beq i 2000 then 1005 else i) (fun i => Nat.beq i 2000) (.free rfl rfl) rfl rfl rfl (.cons rfl rfl rfl (.cons rfl rfl rfl .nil)) (.cons rfl rfl .nil) (.cons rfl rfl .nil) rfl rfl (kp_id 2000 rfl rfl rfl rfl) ?_
    refine oAs ?_
    refine sops_weak (weak_closeV 24 1100 1005 90000 (famI A) (famI B) rfl rfl rfl rfl rfl rfl) ?_
    refine oN ?_
    refine then_go ?_
    have hKx : (A ++ x :: B).map (fun a => inT' a.t) = (A.map AIn.t ++ x.t :: B.map AIn.t).map inT' := by simp; rfl
    have hKxl : (A ++ x :: B).length = ((A.map AIn.t ++ x.t :: B.map AIn.t).map inT').length := by simp
    rcases idxP_split (fun q : PTk => decide (q.n = d.n)) x.t.taken with ⟨g1, g2⟩ | ⟨C, q, D, he, g1, g2, g3⟩
    · rw [g1]
      have hr2 : doneK d x.t = x.t := by unfold doneK; rw [cutL_miss g2]
      rw [hr2]
      refine swp_weak (st' := SDf (A ++ x :: B).length ((A ++ x :: B).map inR) (famI (A ++ x :: B)) [(9, .t (i64T (-1)))]) (by rw [famI_split]; exact (weak_sub (.cons rfl rfl rfl (.cons rfl rfl rfl (.cons rfl rfl rfl .nil))) (.cons rfl rfl rfl (.cons rfl rfl rfl (.cons rfl rfl rfl .nil))) (.cons rfl rfl .nil))) ?_
      unfold SDf
      repeat' (first | (refine rg 6 (aq33 ?_) <;> (first | refine sp (po_nilcheck rfl rfl) ?_ | refine sp (po_nilcheck_oe rfl rfl rfl (by rfl)) ?_ | refine oK ?_) <;> (first | refine oFb ?_ | refine oFd ?_ | refine sp (fdo rfl) ?_ | refine oK ?_) <;> (first | refine oLb ?_ | refine oLd ?_ | refine sp (ldo rfl) ?_ | refine oK ?_) <;> (first | refine oMv ?_ | refine oK ?_) <;> (first | refine sp (ixo rfl) ?_ | refine sp (pix rfl (tyS rfl)) ?_ | refine oK ?_) <;> (first | refine oFb ?_ | refine oFd ?_ | refine sp (fdo rfl) ?_ | refine oK ?_) <;> (first | refine oLb ?_ | refine oLd ?_ | refine sp (ldo rfl) ?_ | refine oK ?_) <;> (first | refine oCm ?_ | refine oK ?_) <;> (first | refine oPt ?_ | refine oPf ?_) <;> refine oN ?_) | refine gc ?_ | refine ct ?_ | refine cf ?_ | refine sc ?_ ?_ <;> intro hc | refine rq rfl (.cell rfl rfl (tyT rfl) (vc .nil) rfl .nil) ?_)
      have hK := hKx
      have hKl := hKxl
      refine swp_weak (weak_famshow 1100 1001 ((A ++ x :: B).map fun a : AIn => inT' a.t) (fs := famI (A ++ x :: B)) (o := inO (A ++ x :: B)) rfl rfl (by show (List.map _ _).length = (List.map _ _).length; rw [List.length_map, List.length_map]) (by intro r hr; obtain ⟨a, _, rfl⟩ := List.mem_map.1 hr; rfl) (upl_in (A ++ x :: B))) ?_
      rw [hK]
      refine swp_weak (weak_show 1001 101 rfl rfl rfl rfl) ?_
      repeat' (first | refine rg 8 (aq47 ?_) | refine gc ?_ | refine ct ?_ | refine cf ?_ | refine sc ?_ ?_ <;> intro hc | refine rq rfl (.cell rfl rfl (tyT rfl) (vc .nil) rfl .nil) ?_)
      exact retl1 (.inr rfl) rfl (.cellT rfl rfl (tyT rfl) (vc .nil) rfl .nil) rfl .nil .nil
    · rw [g1]
      have hgq : (0 : Int) ≤ ((C.length : Nat) : Int) := by omega
      have hatq : (x.t.taken.map takR)[C.length]? = some (takR q) := by rw [he]; exact mid_at
      have hltq : C.length < (x.t.taken.map takR).length := by rw [he, List.length_map, List.length_append, List.length_cons]; omega
      have hmq : (x.t.taken.map takR).length = x.t.taken.length := List.length_map _
      refine swp_weak (st' := SDn a b c d (A ++ x :: B).length ((A ++ x :: B).map inR) (famI A ++ (x.u, takO x.t) :: famI B) [(8, .oe 1001 (A ++ x :: B).length 14 A.length 0), (9, .t (i64T ((C.length : Nat) : Int)))]) (weak_sub (.cons rfl rfl rfl (.cons rfl rfl rfl (.cons rfl rfl rfl (.cons rfl rfl rfl (.cons rfl rfl rfl (.cons rfl rfl rfl .nil)))))) (.cons rfl rfl rfl (.cons rfl rfl rfl (.cons rfl rfl rfl (.cons rfl rfl rfl (.cons rfl rfl rfl .nil))))) (.cons rfl rfl .nil)) ?_
      unfold SDn
      refine gc ?_
      refine rg 6 ?_
      refine oMv ?_
      refine oCm ?_
      refine oMv ?_
      refine oMv ?_
      refine sp (po_nilcheck_oe rfl rfl rfl hml) ?_
      refine sp (fdo rfl) ?_
      refine sp (ldo rfl) ?_
      refine sops_weak (weak_openF 33 1100 1005 90000 (a := famI A) (b := famI B) (o := takO x.t) rfl rfl rfl) ?_
      refine oMv ?_
      refine sp (po_index_own (k := C.length) rfl rfl rfl rfl rfl (tyS rfl) rfl hltq) ?_
      refine sp (fdo rfl) ?_
      refine sp (ldo rfl) ?_
      refine oCm ?_
      refine oPt ?_
      refine sops_weak (weak_closeV 33 1100 1005 90000 (famI A) (famI B) rfl rfl rfl rfl rfl rfl) ?_
      refine oN ?_
      refine then_go ?_
      by_cases hq1 : q.done = 1
      · have hr2 : doneK d x.t = x.t := by unfold doneK; rw [he, cutL_hit g3 g2]; dsimp only; rw [if_pos hq1]
        rw [hr2]
        have hdd : (!decide (q.done = 1)) = false := by rw [decide_eq_true hq1]; rfl
        refine cf ?_
        refine swp_weak (st' := SDf (A ++ x :: B).length ((A ++ x :: B).map inR) (famI (A ++ x :: B)) []) (by rw [famI_split]; exact (weak_sub (.cons rfl rfl rfl (.cons rfl rfl rfl .nil)) (.cons rfl rfl rfl (.cons rfl rfl rfl (.cons rfl rfl rfl .nil))) (.cons rfl rfl .nil))) ?_
        unfold SDf
        refine gc ?_
        have hK := hKx
        have hKl := hKxl
        refine swp_weak (weak_famshow 1100 1001 ((A ++ x :: B).map fun a : AIn => inT' a.t) (fs := famI (A ++ x :: B)) (o := inO (A ++ x :: B)) rfl rfl (by show (List.map _ _).length = (List.map _ _).length; rw [List.length_map, List.length_map]) (by intro r hr; obtain ⟨a, _, rfl⟩ := List.mem_map.1 hr; rfl) (upl_in (A ++ x :: B))) ?_
        rw [hK]
        refine swp_weak (weak_show 1001 101 rfl rfl rfl rfl) ?_
        repeat' (first | refine rg 8 (aq47 ?_) | refine gc ?_ | refine ct ?_ | refine cf ?_ | refine sc ?_ ?_ <;> intro hc | refine rq rfl (.cell rfl rfl (tyT rfl) (vc .nil) rfl .nil) ?_)
        exact retl1 (.inr rfl) rfl (.cellT rfl rfl (tyT rfl) (vc .nil) rfl .nil) rfl .nil .nil
      · have hr2 : doneK d x.t = { x.t with taken := C ++ answered d :: D } := by unfold doneK; rw [he, cutL_hit g3 g2]; dsimp only; rw [if_neg hq1]
        rw [hr2]
        have hdd : (!decide (q.done = 1)) = true := by rw [decide_eq_false hq1]; rfl
        refine ct ?_
        refine swp_weak (st' := SDn a b c d (A ++ x :: B).length ((A ++ x :: B).map inR) (famI A ++ (x.u, takO x.t) :: famI B) [(8, .oe 1001 (A ++ x :: B).length 14 A.length 0), (9, .t (i64T ((C.length : Nat) : Int)))]) (weak_sub (.cons rfl rfl rfl (.cons rfl rfl rfl (.cons rfl rfl rfl (.cons rfl rfl rfl (.cons rfl rfl rfl (.cons rfl rfl rfl .nil)))))) (.cons rfl rfl rfl (.cons rfl rfl rfl (.cons rfl rfl rfl (.cons rfl rfl rfl (.cons rfl rfl rfl .nil))))) (.cons rfl rfl .nil)) ?_
        unfold SDn
        refine swp_weak (weak_openN 1100 1005 90000 (a := famI A) (b := famI B) (u := x.u) (o := takO x.t) rfl rfl) ?_
        refine swp_weak (weak_evbx 90000 4 0 rfl rfl) ?_
        dsimp only
        refine swp_any (id := 7) [[], [], [], [], [], [], [], [], [], [], [], [], [], [], [1005]] [[], [], [], [], [], [], [], [], [], [], [], [], [], [], []] mixed (by kernel_rfl) ?_
        refine yp (fun _ _ => po_move rfl rfl) ?_
        refine yp (fun _ _ => po_nilcheck_oe rfl rfl rfl hml) ?_
        refine yp (fun _ _ => po_field_own rfl rfl rfl hml (tyF rfl)) ?_
        refine yp (fun _ _ => po_load_ev (B := 4) (q := 0) rfl rfl rfl hml (tyT rfl) hat rfl rfl rfl rfl rfl) ?_
        refine yp (fun _ _ => po_move rfl rfl) ?_
        refine yp (fun _ _ => po_field_bx rfl rfl (tyF rfl)) ?_
        refine yp (fun _ _ => po_load_bx rfl rfl (tyT rfl) rfl rfl) ?_
        refine yp (fun _ _ => po_field_bx rfl rfl (tyF rfl)) ?_
        refine yp (fun _ _ => po_load_bx rfl rfl (tyT rfl) rfl rfl) ?_
        refine yp (fun _ _ => po_field_bx rfl rfl (tyF rfl)) ?_
        refine yp (fun _ _ => po_load_bx rfl rfl (tyT rfl) rfl rfl) ?_
        refine yp (fun _ _ => po_call c4 rfl (.cons rfl (.t _) .nil)) ?_
        refine yp (fun _ _ => po_buildS str46 rfl (pc (pc (pc (pc .nil)))) rfl) ?_
        refine yp (fun _ _ => po_index_own (k := C.length) rfl rfl rfl rfl rfl (tyS rfl) rfl hltq) ?_
        refine sany_eff [] [(1005, _)] (.free rfl rfl) rfl rfl (fun _ _ _ _ => e_store_own (ts := takR (answered d)) (by rfl) rfl rfl rfl rfl rfl rfl (.t _) rfl rfl (tyT rfl) rfl hatq rfl) ?_
        refine sany_nil ?_
        refine then_go ?_
        have hset : (x.t.taken.map takR).set C.length (takR (answered d)) = (C ++ answered d :: D).map takR := by rw [he]; exact setK
        have hsl : (x.t.taken.map takR).length = ((x.t.taken.map takR).set C.length (takR (answered d))).length := (List.length_set).symm
        refine swp_weak (weak_closeV 43 1100 1005 90000 (famI A) (famI B) rfl rfl rfl rfl hsl hsl) ?_
        have hfs := famI_set (A := A) (B := B) (x := x) (t := { x.t with taken := C ++ answered d :: D }) hset.symm
        have hfg := congrArg (fun f => [Sim.A.rs (FamR f)]) hfs
        have hrw : (⟨42, 14, (A ++ x :: B).map inR⟩ : Own) = ⟨42, 14, (A ++ (⟨{ x.t with taken := C ++ answered d :: D }, x.u⟩ : AIn) :: B).map inR⟩ := by rw [List.map_append, List.map_append]; rfl
        refine swp_weak (st' := SDf (A ++ x :: B).length ((A ++ ⟨{ x.t with taken := C ++ answered d :: D }, x.u⟩ :: B).map inR) (famI (A ++ ⟨{ x.t with taken := C ++ answered d :: D }, x.u⟩ :: B)) []) (weak_sub (.cons rfl (by first | rfl | (first | (exact hfg) | (exact hrw))) rfl (.cons rfl (by first | rfl | (first | (exact hfg) | (exact hrw))) rfl .nil)) (.cons rfl (by first | rfl | (first | (exact hfg) | (exact hrw))) rfl (.cons rfl (by first | rfl | (first | (exact hfg) | (exact hrw))) rfl (.cons rfl (by first | rfl | (first | (exact hfg) | (exact hrw))) rfl .nil))) (.cons rfl (by first | rfl | (first | (exact hfg) | (exact hrw))) .nil)) ?_
        unfold SDf
        refine gc ?_
        have hK : (A ++ (⟨{ x.t with taken := C ++ answered d :: D }, x.u⟩ : AIn) :: B).map (fun a => inT' a.t) = (A.map AIn.t ++ { x.t with taken := C ++ answered d :: D } :: B.map AIn.t).map inT' := by simp; rfl
        have hKl : (A ++ x :: B).length = ((A.map AIn.t ++ { x.t with taken := C ++ answered d :: D } :: B.map AIn.t).map inT').length := by simp
        refine swp_weak (weak_famshow 1100 1001 ((A ++ (⟨{ x.t with taken := C ++ answered d :: D }, x.u⟩ : AIn) :: B).map fun a : AIn => inT' a.t) (fs := famI (A ++ (⟨{ x.t with taken := C ++ answered d :: D }, x.u⟩ : AIn) :: B)) (o := inO (A ++ (⟨{ x.t with taken := C ++ answered d :: D }, x.u⟩ : AIn) :: B)) rfl rfl (by show (List.map _ _).length = (List.map _ _).length; rw [List.length_map, List.length_map]) (by intro r hr; obtain ⟨a, _, rfl⟩ := List.mem_map.1 hr; rfl) (upl_in (A ++ (⟨{ x.t with taken := C ++ answered d :: D }, x.u⟩ : AIn) :: B))) ?_
        rw [hK]
        refine swp_weak (weak_show 1001 101 rfl rfl rfl rfl) ?_
        repeat' (first | refine rg 8 (aq47 ?_) | refine gc ?_ | refine ct ?_ | refine cf ?_ | refine sc ?_ ?_ <;> intro hc | refine rq rfl (.cell rfl rfl (tyT rfl) (vc .nil) rfl .nil) ?_)
        exact retl1 (.inr rfl) rfl (.cellT rfl rfl (tyT rfl) (vc .nil) rfl .nil) rfl .nil .nil
end Go.Proofs.Ytabejnjnkpdjbaa.Sim
