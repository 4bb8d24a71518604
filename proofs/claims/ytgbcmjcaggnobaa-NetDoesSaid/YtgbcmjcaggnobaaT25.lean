/- Merged by bundles.py: SimDo1, SimDo2. -/
import Derived.Test.YtgbcmjcaggnobaaT24
/- The document's net: a box of a number and 100 rows; New, node, none, without. -/
namespace Go.Proofs.Ytgbcmjcaggnobaa.Sim
set_option linter.unusedVariables false
set_option linter.unusedSimpArgs false
open Go.RowKit Mem
def rowT (l : List (List UInt8)) : A := .t (.sl 1 (l.map txtC))
def refB (d : PNet) : List A := .t (.v (.int .i64 (d.n : Int))) :: (List.range 100).map fun k => rowT (d.row k)
abbrev refN (d : PNet) : List (Nat × List A) := [(2000, refB d)]
theorem ref_len (d : PNet) : (refB d).length = 101 := by unfold refB; simp
theorem ref_get (d : PNet) {k off : Nat} (ho : off = 1 + k) (hk : k < 100) : (refB d)[off]? = some (rowT (d.row k)) := by
  subst ho
  unfold refB
  rw [Nat.add_comm, List.getElem?_cons_succ, List.getElem?_map, List.getElem?_range hk]; rfl
theorem ref_set (d : PNet) {k off : Nat} (l : List (List UInt8)) (ho : off = 1 + k) (hk : k < 100) : spl (refB d) off [rowT l] = refB (d.put k l) := by
  subst ho
  refine List.ext_getElem? fun j => ?_
  unfold spl
  have h101 := ref_len d
  have h102 := ref_len (d.put k l)
  rcases Nat.lt_trichotomy j (1 + k) with h | h | h
  · rw [List.getElem?_append_left (by rw [List.length_take]; omega), List.getElem?_take_of_lt h]
    match j, h with
    | 0, _ => rfl
    | j + 1, h =>
      rw [ref_get d (k := j) (by omega) (by omega), ref_get _ (k := j) (by omega) (by omega)]
      show _ = some (rowT (if j = k then l else d.row j))
      rw [if_neg (by omega)]
  · subst h
    rw [List.getElem?_append_right (by rw [List.length_take]; omega), List.length_take, show 1 + k - min (1 + k) (refB d).length = 0 by omega, ref_get _ rfl hk]
    show _ = some (rowT (if k = k then l else d.row k))
    rw [if_pos rfl]; rfl
  · rw [List.getElem?_append_right (by rw [List.length_take]; omega), List.length_take, show j - min (1 + k) (refB d).length = (j - (1 + k) - 1) + 1 by omega]
    show (refB d |>.drop (1 + k + 1))[j - (1 + k) - 1]? = _
    rw [List.getElem?_drop, show 1 + k + 1 + (j - (1 + k) - 1) = j by omega]
    by_cases hj : j < 101
    · rw [ref_get d (k := j - 1) (by omega) (by omega), ref_get _ (k := j - 1) (by omega) (by omega)]
      show _ = some (rowT (if j - 1 = k then l else d.row (j - 1)))
      rw [if_neg (by omega)]
    · rw [List.getElem?_eq_none (by omega), List.getElem?_eq_none (by omega)]
section
variable {P : Program} {bx : List (Nat × List A)} {ow : List (Nat × Own)} {o : Oper} {ρ : Operand → Option A}
theorem po_load_ref {ty : TypeId} {x : Operand} {i off n : Nat} {d : PNet} (k : Nat) (ho : o.op = .load ty x) (hx : ρ x = some (.bp i off)) (hT : tyI P ty = some (false, n)) (hb : get bx i = some (refB d)) (hoff : off = 1 + k) (hk : k < 100) (hq : cellB i = true := by rfl) : PureOp P bx ow o ρ (rowT (d.row k)) :=
  po_load_bx ho hx hT hb (ref_get d hoff hk) hq
end
/-- a row but for one -/
def wthP (i : Int) : Nat → List (List UInt8) → List (List UInt8)
  | _, [] => []
  | k, x :: l => if (k : Int) = i then wthP i (k + 1) l else x :: wthP i (k + 1) l
theorem wthP_s (i : Int) (x : List UInt8) : ∀ (k : Nat) (l : List (List UInt8)), wthP i k (l ++ [x]) = wthP i k l ++ (if ((k + l.length : Nat) : Int) = i then [] else [x])
  | k, [] => by
    show (if (k : Int) = i then wthP i (k + 1) [] else x :: wthP i (k + 1) []) = [] ++ _
    rw [List.length_nil, List.nil_append, show k + 0 = k from rfl]
    by_cases h : (k : Int) = i
    · rw [if_pos h, if_pos h]; rfl
    · rw [if_neg h, if_neg h]; rfl
  | k, y :: l => by
    have ih := wthP_s i x (k + 1) l
    have e : k + 1 + l.length = k + (y :: l).length := by rw [List.length_cons]; omega
    rw [e] at ih
    show (if (k : Int) = i then wthP i (k + 1) (l ++ [x]) else y :: wthP i (k + 1) (l ++ [x])) = (if (k : Int) = i then wthP i (k + 1) l else y :: wthP i (k + 1) l) ++ _
    rw [ih]
    split <;> rfl
theorem wthP_none (i : Int) : ∀ (k : Nat) (l : List (List UInt8)), i < k → wthP i k l = l
  | _, [], _ => rfl
  | k, x :: l, h => by
    show (if (k : Int) = i then wthP i (k + 1) l else x :: wthP i (k + 1) l) = x :: l
    rw [if_neg (by omega), wthP_none i (k + 1) l (by omega)]
theorem wthP_erase (j : Nat) : ∀ (k : Nat) (l : List (List UInt8)), wthP ((k + j : Nat) : Int) k l = l.eraseIdx j
  | _, [] => by cases j <;> rfl
  | k, x :: l => by
    show (if (k : Int) = ((k + j : Nat) : Int) then wthP ((k + j : Nat) : Int) (k + 1) l else x :: wthP ((k + j : Nat) : Int) (k + 1) l) = _
    cases j with
    | zero => rw [Nat.add_zero, if_pos rfl, wthP_none _ _ _ (by omega)]; rfl
    | succ j =>
      rw [if_neg (by omega), show k + (j + 1) = (k + 1) + j by omega, wthP_erase j (k + 1) l]; rfl
theorem wth_len (i : Int) : ∀ (k : Nat) (l : List (List UInt8)), (wthP i k l).length ≤ l.length
  | _, [] => Nat.le_refl _
  | k, x :: l => by
    have := wth_len i (k + 1) l
    show (if (k : Int) = i then wthP i (k + 1) l else x :: wthP i (k + 1) l).length ≤ _
    split <;> simp <;> omega
def SW0 (l : List (List UInt8)) (i : Int) (q k : Nat) : St := ⟨[(0, .t (.sl 1 (l.map txtC))), (1, .t (.v (.int .i64 i))), (5, .own q ((wthP i 0 (l.take k)).map txtC).length), (6, .t (.v (.int .i64 (k : Int))))], [], [(q, ⟨9, 1, (wthP i 0 (l.take k)).map txtC⟩)]⟩
set_option maxRecDepth 100000 in
set_option maxHeartbeats 2000000 in
theorem withoutL_ (l : List (List UInt8)) (i : Int) (hl : l.length ≤ 1000) : LCalls Try.prog 52 [.t (.sl 1 (l.map txtC)), .t (.v (.int .i64 i))] [] [] (.own 1003 ((wthP i 0 l).map txtC).length) [] [(1003, ⟨9, 1, (wthP i 0 l).map txtC⟩)] := by
  have hm : (l.map txtC).length = l.length := List.length_map _
  refine lcalls_of Try.func52 rfl rfl Try.ntmps52 rfl ?_
  repeat' (first | (refine rg 0 ?_; refine oAs ?_; refine oN ?_) | (refine rg 1 ?_; refine oAs ?_; refine oN ?_) | (refine rg 2 ?_; refine oAs ?_; refine oN ?_) | refine gc ?_ | refine ct ?_ | refine cf ?_ | refine swp_cond rfl (fun hc => ?_) (fun hc => ?_) | refine rq rfl (rt .nil) ?_)
  refine swp_for (SW0 l i 1003) (fun _ => True) l.length ?_ trivial ?_
  · refine Weak.trans (weak_own0 (i := 1003) 9 1 (s := 5) rfl rfl) ?_
    exact (weak_sub (.cons rfl rfl rfl (.cons rfl rfl rfl (.cons rfl rfl rfl (.cons rfl rfl rfl .nil)))) .nil (.cons rfl rfl .nil))
  intro k hk _
  unfold SW0
  have hw := wth_len i 0 (l.take k)
  rw [List.length_take] at hw
  have hml : ((wthP i 0 (l.take k)).map txtC).length ≤ 1000 := by rw [List.length_map]; omega
  by_cases hlt : k < l.length
  · have hlt' : (k : Int) < l.length := by omega
    have hat : (l.map txtC)[k]? = some (txtC l[k]) := by rw [List.getElem?_map, List.getElem?_eq_getElem hlt]; rfl
    unfold txtC at hat
    have hs := wthP_s i l[k] 0 (l.take k)
    rw [List.take_append_getElem hlt, List.length_take, show 0 + min k l.length = k by omega] at hs
    by_cases hki : (k : Int) = i
    · rw [if_pos hki, List.append_nil] at hs
      repeat' (first | refine for_next hlt (weak_sub (.cons rfl (by rfl) rfl (.cons rfl (by rfl) rfl (.cons rfl (by first | rfl | ((rw [hs]; try rfl))) rfl (.cons rfl (by rfl) rfl .nil)))) .nil (.cons rfl (by first | rfl | ((rw [hs]; try rfl))) .nil)) trivial | (refine rg 3 ?_; refine oMv ?_; refine oMv ?_; (first | refine sp (po_len_own rfl rfl (tyS rfl)) ?_ | refine sp (pln rfl (tyS rfl)) ?_); (first | refine sp (po_neh hki rfl rfl rfl) ?_ | refine oCm ?_); refine oN ?_) | (refine rg 5 ?_; refine oMv ?_; refine oMv ?_; refine sp (po_neh hki rfl rfl rfl) ?_; refine oN ?_) | (refine rg 4 ?_; refine oMv ?_; refine sp (xinc rfl) ?_; refine oAs ?_; refine oN ?_) | refine gc ?_ | refine ct ?_ | refine cf ?_)
    · rw [if_neg hki] at hs
      have e1 : (wthP i 0 (l.take (k + 1))).map txtC = (wthP i 0 (l.take k)).map txtC ++ [[.v (.string (bs l[k]))]] := by rw [hs, List.map_append]; rfl
      repeat' (first | refine for_next hlt (weak_sub (.cons rfl (by rfl) rfl (.cons rfl (by rfl) rfl (.cons rfl (by first | rfl | ((rw [e1]; try rfl))) rfl (.cons rfl (by rfl) rfl .nil)))) .nil (.cons rfl (by first | rfl | ((rw [e1]; try rfl))) .nil)) trivial | (refine rg 3 ?_; refine oMv ?_; refine oMv ?_; (first | refine sp (po_len_own rfl rfl (tyS rfl)) ?_ | refine sp (pln rfl (tyS rfl)) ?_); (first | refine sp (po_nef hki rfl rfl rfl) ?_ | refine oCm ?_); refine oN ?_) | (refine rg 5 ?_; refine oMv ?_; refine oMv ?_; refine sp (po_nef hki rfl rfl rfl) ?_; refine oN ?_) | (refine rg 6 ?_; refine oMv ?_; refine oMv ?_; refine oMv ?_; (first | refine sp (ixo rfl) ?_ | refine sp (po_index_arr rfl rfl rfl arr45 rfl (by first | omega | assumption)) ?_ | refine sp (pix rfl (tyS rfl)) ?_); (first | refine sp (po_load_ntn rfl rfl (tyT rfl) rfl) ?_ | refine sp (po_load_ntk rfl rfl (tyT rfl) rfl (by first | assumption | omega) (by assumption) rfl) ?_ | refine oLb ?_ | refine oLd ?_); refine sp (po_buildSlice rfl (tyE rfl) (dc (.nil _)) rfl rfl rfl) ?_; refine sap rfl (tyE rfl) ?_; refine oAs ?_; refine oN ?_) | (refine rg 4 ?_; refine oMv ?_; refine sp (xinc rfl) ?_; refine oAs ?_; refine oN ?_) | refine gc ?_ | refine ct ?_)
  · obtain rfl : k = l.length := by omega
    rw [List.take_length]
    repeat' (first | (refine rg 3 ?_; refine oMv ?_; refine oMv ?_; (first | refine sp (po_len_own rfl rfl (tyS rfl)) ?_ | refine sp (pln rfl (tyS rfl)) ?_); refine oCm ?_; refine oN ?_) | (refine rg 7 ?_; refine oMv ?_; refine oAs ?_; refine oN ?_) | refine gc ?_ | refine ct ?_ | refine cf ?_ | refine swp_cond rfl (fun hc => ?_) (fun hc => ?_) | refine retl (by exact .inr rfl) rfl (.tmp rfl rfl .nil) ?_ rfl .nil (.cons rfl (by rfl) .nil))
    all_goals rfl
set_option maxRecDepth 100000 in
set_option maxHeartbeats 2000000 in
theorem without_ (l : List (List UInt8)) (i : Int) (hl : l.length ≤ 1000) : PCalls Try.prog 52 [.sl 1 (l.map txtC), .v (.int .i64 i)] (.sl 1 ((wthP i 0 l).map txtC)) := by
  have hm : (l.map txtC).length = l.length := List.length_map _
  refine pcalls_of Try.func52 rfl rfl Try.ntmps52 rfl ?_
  repeat' (first | (refine rg 0 ?_; refine oAs ?_; refine oN ?_) | (refine rg 1 ?_; refine oAs ?_; refine oN ?_) | (refine rg 2 ?_; refine oAs ?_; refine oN ?_) | refine gc ?_ | refine ct ?_ | refine cf ?_ | refine swp_cond rfl (fun hc => ?_) (fun hc => ?_) | refine rq rfl (rt .nil) ?_)
  refine swp_for (SW0 l i 100) (fun _ => True) l.length ?_ trivial ?_
  · refine Weak.trans (weak_own0 (i := 100) 9 1 (s := 5) rfl rfl) ?_
    exact (weak_sub (.cons rfl rfl rfl (.cons rfl rfl rfl (.cons rfl rfl rfl (.cons rfl rfl rfl .nil)))) .nil (.cons rfl rfl .nil))
  intro k hk _
  unfold SW0
  have hw := wth_len i 0 (l.take k)
  rw [List.length_take] at hw
  have hml : ((wthP i 0 (l.take k)).map txtC).length ≤ 1000 := by rw [List.length_map]; omega
  by_cases hlt : k < l.length
  · have hlt' : (k : Int) < l.length := by omega
    have hat : (l.map txtC)[k]? = some (txtC l[k]) := by rw [List.getElem?_map, List.getElem?_eq_getElem hlt]; rfl
    unfold txtC at hat
    have hs := wthP_s i l[k] 0 (l.take k)
    rw [List.take_append_getElem hlt, List.length_take, show 0 + min k l.length = k by omega] at hs
    by_cases hki : (k : Int) = i
    · rw [if_pos hki, List.append_nil] at hs
      repeat' (first | refine for_next hlt (weak_sub (.cons rfl (by rfl) rfl (.cons rfl (by rfl) rfl (.cons rfl (by first | rfl | ((rw [hs]; try rfl))) rfl (.cons rfl (by rfl) rfl .nil)))) .nil (.cons rfl (by first | rfl | ((rw [hs]; try rfl))) .nil)) trivial | (refine rg 3 ?_; refine oMv ?_; refine oMv ?_; refine sp (pln rfl (tyS rfl)) ?_; (first | refine sp (po_neh hki rfl rfl rfl) ?_ | refine oCm ?_); refine oN ?_) | (refine rg 5 ?_; refine oMv ?_; refine oMv ?_; refine sp (po_neh hki rfl rfl rfl) ?_; refine oN ?_) | (refine rg 4 ?_; refine oMv ?_; refine sp (xinc rfl) ?_; refine oAs ?_; refine oN ?_) | refine gc ?_ | refine ct ?_ | refine cf ?_)
    · rw [if_neg hki] at hs
      have e1 : (wthP i 0 (l.take (k + 1))).map txtC = (wthP i 0 (l.take k)).map txtC ++ [[.v (.string (bs l[k]))]] := by rw [hs, List.map_append]; rfl
      repeat' (first | refine for_next hlt (weak_sub (.cons rfl (by rfl) rfl (.cons rfl (by rfl) rfl (.cons rfl (by first | rfl | ((rw [e1]; try rfl))) rfl (.cons rfl (by rfl) rfl .nil)))) .nil (.cons rfl (by first | rfl | ((rw [e1]; try rfl))) .nil)) trivial | (refine rg 3 ?_; refine oMv ?_; refine oMv ?_; refine sp (pln rfl (tyS rfl)) ?_; (first | refine sp (po_nef hki rfl rfl rfl) ?_ | refine oCm ?_); refine oN ?_) | (refine rg 5 ?_; refine oMv ?_; refine oMv ?_; refine sp (po_nef hki rfl rfl rfl) ?_; refine oN ?_) | (refine rg 6 ?_; refine oMv ?_; refine oMv ?_; refine oMv ?_; (first | refine sp (po_index_arr rfl rfl rfl arr45 rfl (by first | omega | assumption)) ?_ | refine sp (pix rfl (tyS rfl)) ?_); (first | refine sp (po_load_ntn rfl rfl (tyT rfl) rfl) ?_ | refine sp (po_load_ntk rfl rfl (tyT rfl) rfl (by first | assumption | omega) (by assumption) rfl) ?_ | refine oLb ?_ | refine oLd ?_); refine sp (po_buildSlice rfl (tyE rfl) (dc (.nil _)) rfl rfl rfl) ?_; refine sap rfl (tyE rfl) ?_; refine oAs ?_; refine oN ?_) | (refine rg 4 ?_; refine oMv ?_; refine sp (xinc rfl) ?_; refine oAs ?_; refine oN ?_) | refine gc ?_ | refine ct ?_)
  · obtain rfl : k = l.length := by omega
    rw [List.take_length]
    repeat' (first | (refine rg 3 ?_; refine oMv ?_; refine oMv ?_; refine sp (pln rfl (tyS rfl)) ?_; refine oCm ?_; refine oN ?_) | (refine rg 7 ?_; refine oMv ?_; refine oAs ?_; refine oN ?_) | refine gc ?_ | refine ct ?_ | refine cf ?_ | refine swp_cond rfl (fun hc => ?_) (fun hc => ?_) | refine rq rfl (rt .nil) ?_)
    all_goals rfl
end Go.Proofs.Ytgbcmjcaggnobaa.Sim

/- The document's net: New, node, none, At, Deliver, Send, Double, Front. -/
namespace Go.Proofs.Ytgbcmjcaggnobaa.Sim
set_option linter.unusedVariables false
set_option linter.unusedSimpArgs false
open Go.RowKit Mem
theorem arr54 : arrI Try.prog 54 = some (10, 10) := by kernel_rfl
theorem arr53 : arrI Try.prog 53 = some (10, 1) := by kernel_rfl
theorem str56 : strI Try.prog 56 = some ([(0, 1), (1, 100)], .int .i64 0 :: List.replicate 100 (.slice none 0 0)) := by kernel_rfl
/-- a box's cells, seen as data -/
theorem weak_bxT {N : Nat} {tm : List (Nat × A)} {bx : List (Nat × List A)} {ow : List (Nat × Own)} {i : Nat} {cs : List A} {ts : List T} (hi : get bx i = some cs) (hv : VwL ow cs ts) (hw : wnB i = false := by rfl) (hch : chB i = false := by rfl) : Weak N ⟨tm, bx, ow⟩ ⟨tm, (i, ts.map .t) :: bx, ow⟩ := .mk fun C a w ⟨m, g, hr⟩ => by
  obtain ⟨vs, ty, h1, h2, h3, h4, h5⟩ := hr.env.boxes i cs hi
  obtain ⟨hlen, hat⟩ := hv.at
  refine ⟨m, g, hr.env.setAtW hi (grown_of_lo (Lo.refl w)) h1 (by rw [List.length_map, ← hlen]; exact h2) (fun k x v hx hvk => ?_) hch, hr.size, hr.defers, hr.tmps⟩
  rw [List.getElem?_map] at hx
  cases ht : ts[k]? with
  | none => rw [ht] at hx; cases hx
  | some t =>
    rw [ht] at hx; injection hx with hx; subst hx
    obtain ⟨y, hy, hvy⟩ := hat k t ht
    obtain ⟨h6, h7⟩ := h3 k y v hy hvk
    exact ⟨hvy.ok hr.env h6, h7⟩
def rowT' (l : List (List UInt8)) : T := .sl 1 (l.map txtC)
def refT (d : PNet) : List T := .v (.int .i64 (d.n : Int)) :: (List.range 100).map fun k => rowT' (d.row k)
theorem refT_map (d : PNet) : (refT d).map A.t = refB d := by
  unfold refT refB rowT' rowT
  rw [List.map_cons, List.map_map]; rfl
theorem vwl_of {ow : List (Nat × Own)} : ∀ {cs : List A} {ts : List T}, cs.length = ts.length → (∀ (j : Nat) x t, cs[j]? = some x → ts[j]? = some t → Vw ow x t) → VwL ow cs ts
  | [], [], _, _ => .nil
  | x :: cs, t :: ts, h, hx => .cons (hx 0 x t rfl rfl) (vwl_of (by simpa using h) fun j x t h1 h2 => hx (j + 1) x t h1 h2)
theorem spl_ne (cs : List A) {off j : Nat} (y z : A) (ho : off ≤ cs.length) (hj : j ≠ off) : (spl cs off [y])[j]? = (spl cs off [z])[j]? := by
  have key : ∀ x : A, (spl cs off [x])[j]? = if j < off then cs[j]? else (cs.drop (off + 1))[j - off - 1]? := fun x => by
    unfold spl
    by_cases h : j < off
    · rw [if_pos h, List.getElem?_append_left (by rw [List.length_take]; omega), List.getElem?_take_of_lt h]
    · rw [if_neg h, List.getElem?_append_right (by rw [List.length_take]; omega), List.length_take, Nat.min_eq_left ho, show j - off = (j - off - 1) + 1 by omega]; rfl
  rw [key y, key z]
theorem vw_ref {ow : List (Nat × Own)} {d : PNet} {k off : Nat} {y : A} {l : List (List UInt8)} (hy : Vw ow y (.sl 1 (l.map txtC))) (ho : off = 1 + k) (hk : k < 100) : VwL ow (spl (refB d) off [y]) (refT (d.put k l)) := by
  subst ho
  have h101 := ref_len d
  have hT : (refT (d.put k l)).length = 101 := by unfold refT; simp
  refine vwl_of ?_ fun j x t hx ht => ?_
  · unfold spl
    rw [hT, List.length_append, List.length_take, List.length_append, List.length_drop, h101]; simp; omega
  · have hmap : ((refT (d.put k l)).map A.t)[j]? = some (.t t) := by rw [List.getElem?_map, ht]; rfl
    rw [refT_map] at hmap
    by_cases hj : j = 1 + k
    · subst hj
      rw [ref_get _ rfl hk, PNet.put_row] at hmap
      unfold spl at hx
      rw [List.getElem?_append_right (by rw [List.length_take]; omega), List.length_take, show 1 + k - min (1 + k) (refB d).length = 0 by omega] at hx
      injection hx with hx; subst hx
      unfold rowT at hmap
      injection hmap with hmap; injection hmap with hmap; subst hmap
      exact hy
    · have := spl_ne (refB d) y (rowT l) (show 1 + k ≤ (refB d).length by rw [h101]; omega) hj
      rw [this, ref_set d l rfl hk, hmap] at hx
      injection hx with hx; subst hx
      exact .t t
theorem ref_fit (d : PNet) {k off : Nat} (ho : off = 1 + k) (hk : k < 100) : Nat.ble (off + 1) (refB d).length = true := by
  rw [ref_len]; exact Nat.ble_eq_true_of_le (by omega)
set_option maxRecDepth 100000 in
theorem rnode_ (d : PNet) (x : Int) : LCalls Try.prog 53 [.bp 2000 0, .t (.v (.int .i64 x))] (refN d) [] (.t (.v (.bool (decide (0 < x ∧ x ≤ d.n))))) (refN d) [] := by
  by_cases h1 : 0 < x
  · by_cases h2 : x ≤ d.n
    · rw [show decide (0 < x ∧ x ≤ d.n) = true from decide_eq_true ⟨h1, h2⟩]
      refine lcalls_of Try.func53 rfl rfl Try.ntmps53 rfl ?_
      repeat' (first | (refine rg 0 ?_; refine oAs ?_; refine oN ?_) | (refine rg 1 ?_; refine oMv ?_; refine oCm ?_; refine oMv ?_; refine oMv ?_ <;> refine oMv ?_ <;> refine sp (po_nilcheck rfl rfl) ?_ <;> refine oFb ?_ <;> (first | refine sp (po_load_ntn rfl rfl (tyT rfl) rfl) ?_ | refine sp (po_load_ntk rfl rfl (tyT rfl) rfl (by first | assumption | omega) (by assumption) rfl) ?_ | refine oLb ?_) <;> refine oCm ?_ <;> refine oPt ?_ <;> refine oAs ?_ <;> refine oN ?_) | refine gc ?_ | refine ct ?_ | refine cf ?_ | refine swp_cond rfl (fun hc => ?_) (fun hc => ?_) | refine retl (by exact .inr rfl) rfl (.tmp rfl rfl .nil) ?_ rfl (.cons rfl (by rfl) rfl .nil) .nil)
      all_goals (first | rfl | (rw [decide_eq_true h2]; rfl))
    · rw [show decide (0 < x ∧ x ≤ d.n) = false from decide_eq_false fun h => h2 h.2]
      refine lcalls_of Try.func53 rfl rfl Try.ntmps53 rfl ?_
      repeat' (first | (refine rg 0 ?_; refine oAs ?_; refine oN ?_) | (refine rg 1 ?_; refine oMv ?_; refine oCm ?_; refine oMv ?_; refine oMv ?_ <;> refine oMv ?_ <;> refine sp (po_nilcheck rfl rfl) ?_ <;> refine oFb ?_ <;> (first | refine sp (po_load_ntn rfl rfl (tyT rfl) rfl) ?_ | refine sp (po_load_ntk rfl rfl (tyT rfl) rfl (by first | assumption | omega) (by assumption) rfl) ?_ | refine oLb ?_) <;> refine oCm ?_ <;> refine oPt ?_ <;> refine oAs ?_ <;> refine oN ?_) | refine gc ?_ | refine ct ?_ | refine cf ?_ | refine swp_cond rfl (fun hc => ?_) (fun hc => ?_) | refine retl (by exact .inr rfl) rfl (.tmp rfl rfl .nil) ?_ rfl (.cons rfl (by rfl) rfl .nil) .nil)
      all_goals (first | rfl | (rw [decide_eq_false h2]; rfl))
  · rw [show decide (0 < x ∧ x ≤ d.n) = false from decide_eq_false fun h => h1 h.1]
    refine lcalls_of Try.func53 rfl rfl Try.ntmps53 rfl ?_
    repeat' (first | (refine rg 0 ?_; refine oAs ?_; refine oN ?_) | (refine rg 1 ?_; refine oMv ?_; refine oCm ?_; refine oMv ?_; (first | refine oMv ?_ | refine oK ?_) <;> (first | refine oMv ?_ | refine oK ?_) <;> (first | refine sp (po_nilcheck rfl rfl) ?_ | refine oK ?_) <;> (first | refine oFb ?_ | refine oFd ?_ | refine oK ?_) <;> (first | refine sp (po_load_ntn rfl rfl (tyT rfl) rfl) ?_ | refine sp (po_load_ntk rfl rfl (tyT rfl) rfl (by first | assumption | omega) (by assumption) rfl) ?_ | refine oLb ?_ | refine oLd ?_ | refine oK ?_) <;> (first | refine oCm ?_ | refine oK ?_) <;> (first | refine oPt ?_ | refine oPf ?_) <;> refine oAs ?_ <;> refine oN ?_) | refine gc ?_ | refine ct ?_ | refine cf ?_ | refine swp_cond rfl (fun hc => ?_) (fun hc => ?_) | refine retl (by exact .inr rfl) rfl (.tmp rfl rfl .nil) ?_ rfl (.cons rfl (by rfl) rfl .nil) .nil)
    all_goals rfl
set_option maxRecDepth 100000 in
set_option maxHeartbeats 2000000 in
theorem none_no (d : PNet) (x y i : Int) (h : x = y ∨ ¬ (0 < x ∧ x ≤ d.n) ∨ ¬ (0 < y ∧ y ≤ d.n)) : LCalls Try.prog 43 [.bp 2000 0, .t (.v (.int .i64 x)), .t (.v (.int .i64 y)), .t (.v (.int .i64 i))] (refN d) [] (.t (.v (.int .i64 1))) (refN d) [] := by
  have c1 := rnode_ d x
  have c2 := rnode_ d y
  refine lcalls_of Try.func43 rfl rfl Try.ntmps43 rfl ?_
  by_cases h0 : x = y
  · repeat' (first | (refine rg 0 ?_; refine oAs ?_; refine oN ?_) | (refine rg 1 ?_; refine oMv ?_; refine oMv ?_; refine oCm ?_; refine oMv ?_; (first | refine oMv ?_ | refine oK ?_) <;> (first | refine oMv ?_ | refine oK ?_) <;> refine oK ?_ <;> (first | refine sp (po_not rfl rfl) ?_ | refine oK ?_) <;> refine oPt ?_ <;> refine oMv ?_ <;> (first | refine oMv ?_ | refine oK ?_) <;> (first | refine oMv ?_ | refine oK ?_) <;> refine oK ?_ <;> (first | refine sp (po_not rfl rfl) ?_ | refine oK ?_) <;> refine oPt ?_ <;> refine oN ?_) | (refine rg 2 ?_; refine oAs ?_; refine oN ?_) | refine gc ?_ | refine ct ?_ | refine cf ?_ | refine swp_cond rfl (fun hc => ?_) (fun hc => ?_) | refine retl (by exact .inr rfl) rfl (.tmp rfl rfl .nil) ?_ rfl (.cons rfl (by rfl) rfl .nil) .nil)
    all_goals rfl
  by_cases h1 : 0 < x ∧ x ≤ d.n
  · have h2 : ¬ (0 < y ∧ y ≤ d.n) := by omega
    rw [decide_eq_true h1] at c1
    rw [decide_eq_false h2] at c2
    repeat' (first | (refine rg 0 ?_; refine oAs ?_; refine oN ?_) | (refine rg 1 ?_; refine oMv ?_; refine oMv ?_; refine oCm ?_; refine oMv ?_; refine oMv ?_ <;> refine oMv ?_ <;> (first | refine sops_lcall (c2) (fun i => i) (fun i => i) (fun _ => false) gy rfl rfl rfl (by first | ((repeat' (first | exact .nil | refine .cons rfl rfl rfl ?_ | refine .vw rfl (by first | exact .t _ | exact .own rfl (by rfl) | exact .nil _ | exact .emp _ | exact .fn _) ?_)) <;> fail) | fail) (.cons rfl rfl .nil) .nil rfl rfl (fun _ h => Bool.noConfusion h) ?_ | refine sops_lcall (c1) (fun i => i) (fun i => i) (fun _ => false) gy rfl rfl rfl (by ((repeat' (first | exact .nil | refine .cons rfl rfl rfl ?_)) <;> fail)) (.cons rfl rfl .nil) .nil rfl rfl (fun _ h => Bool.noConfusion h) ?_) <;> refine sp (po_not rfl rfl) ?_ <;> (first | refine oPt ?_ | refine oPf ?_) <;> refine oMv ?_ <;> refine oMv ?_ <;> refine oMv ?_ <;> (refine sops_lcall (c2) (fun i => i) (fun i => i) (fun _ => false) gy rfl rfl rfl (by ((repeat' (first | exact .nil | refine .cons rfl rfl rfl ?_)) <;> fail)) (.cons rfl rfl .nil) .nil rfl rfl (fun _ h => Bool.noConfusion h) ?_) <;> refine sp (po_not rfl rfl) ?_ <;> (first | refine oPt ?_ | refine oPf ?_) <;> refine oN ?_) | (refine rg 2 ?_; refine oAs ?_; refine oN ?_) | refine gc ?_ | refine ct ?_ | refine cf ?_ | refine swp_cond rfl (fun hc => ?_) (fun hc => ?_) | refine retl (by exact .inr rfl) rfl (.tmp rfl rfl .nil) ?_ rfl (.cons rfl (by rfl) rfl .nil) .nil)
    all_goals rfl
  · rw [decide_eq_false h1] at c1
    repeat' (first | (refine rg 0 ?_; refine oAs ?_; refine oN ?_) | (refine rg 1 ?_; refine oMv ?_; refine oMv ?_; refine oCm ?_; refine oMv ?_; refine oMv ?_ <;> refine oMv ?_ <;> (refine sops_lcall (c1) (fun i => i) (fun i => i) (fun _ => false) gy rfl rfl rfl (by ((repeat' (first | exact .nil | refine .cons rfl rfl rfl ?_)) <;> fail)) (.cons rfl rfl .nil) .nil rfl rfl (fun _ h => Bool.noConfusion h) ?_) <;> refine sp (po_not rfl rfl) ?_ <;> (first | refine oPt ?_ | refine oPf ?_) <;> refine oMv ?_ <;> (first | refine oMv ?_ | refine oK ?_) <;> (first | refine oMv ?_ | refine oK ?_) <;> (first | refine sops_lcall (c1) (fun i => i) (fun i => i) (fun _ => false) gy rfl rfl rfl (by first | ((repeat' (first | exact .nil | refine .cons rfl rfl rfl ?_ | refine .vw rfl (by first | exact .t _ | exact .own rfl (by first | rfl | assumption | (simp; done) | (simp; omega)) | exact .nil _ | exact .emp _ | exact .fn _) ?_)) <;> fail) | fail) (.cons rfl rfl .nil) .nil rfl rfl (fun _ h => Bool.noConfusion h) ?_ | refine oK ?_) <;> (first | refine sp (po_not rfl rfl) ?_ | refine oK ?_) <;> refine oPt ?_ <;> refine oN ?_) | (refine rg 2 ?_; refine oAs ?_; refine oN ?_) | refine gc ?_ | refine ct ?_ | refine cf ?_ | refine swp_cond rfl (fun hc => ?_) (fun hc => ?_) | refine retl (by exact .inr rfl) rfl (.tmp rfl rfl .nil) ?_ rfl (.cons rfl (by rfl) rfl .nil) .nil)
    all_goals rfl
set_option maxRecDepth 100000 in
set_option maxHeartbeats 2000000 in
theorem none_is (d : PNet) (hn : d.n ≤ 9) (a b : Nat) (i : Int) (hL : IsL d.n a b) : LCalls Try.prog 43 [.bp 2000 0, .t (.v (.int .i64 (a : Int))), .t (.v (.int .i64 (b : Int))), .t (.v (.int .i64 i))] (refN d) [] (.t (.v (.int .i64 (match getP (d.row (a * 10 + b)) i with | some _ => 0 | none => 4)))) (refN d) [] := by
  have c1 := rnode_ d a
  have c2 := rnode_ d b
  obtain ⟨g1, g2, g3, g4, g5⟩ := hL
  have h1 : (0 : Int) < a ∧ (a : Int) ≤ d.n := by omega
  have h2 : (0 : Int) < b ∧ (b : Int) ≤ d.n := by omega
  have h0 : ¬ ((a : Int) = b) := by omega
  have hk : a * 10 + b < 100 := by omega
  have hm : ((d.row (a * 10 + b)).map txtC).length = (d.row (a * 10 + b)).length := List.length_map _
  rw [decide_eq_true h1] at c1
  rw [decide_eq_true h2] at c2
  by_cases hi : i < 0
  · have hg : getP (d.row (a * 10 + b)) i = none := by unfold getP; rw [if_neg (by omega)]
    rw [hg]
    refine lcalls_of Try.func43 rfl rfl Try.ntmps43 rfl ?_
    repeat' (first | (refine rg 0 ?_; refine oAs ?_; refine oN ?_) | (refine rg 1 ?_; refine oMv ?_; refine oMv ?_; refine oCm ?_; refine oMv ?_; refine oMv ?_ <;> refine oMv ?_ <;> (first | refine sops_lcall (c2) (fun i => i) (fun i => i) (fun _ => false) gy rfl rfl rfl (by first | ((repeat' (first | exact .nil | refine .cons rfl rfl rfl ?_ | refine .vw rfl (by first | exact .t _ | exact .own rfl (by rfl) | exact .nil _ | exact .emp _ | exact .fn _) ?_)) <;> fail) | fail) (.cons rfl rfl .nil) .nil rfl rfl (fun _ h => Bool.noConfusion h) ?_ | refine sops_lcall (c1) (fun i => i) (fun i => i) (fun _ => false) gy rfl rfl rfl (by ((repeat' (first | exact .nil | refine .cons rfl rfl rfl ?_)) <;> fail)) (.cons rfl rfl .nil) .nil rfl rfl (fun _ h => Bool.noConfusion h) ?_) <;> refine sp (po_not rfl rfl) ?_ <;> (first | refine oPt ?_ | refine oPf ?_) <;> refine oMv ?_ <;> refine oMv ?_ <;> refine oMv ?_ <;> (refine sops_lcall (c2) (fun i => i) (fun i => i) (fun _ => false) gy rfl rfl rfl (by ((repeat' (first | exact .nil | refine .cons rfl rfl rfl ?_)) <;> fail)) (.cons rfl rfl .nil) .nil rfl rfl (fun _ h => Bool.noConfusion h) ?_) <;> refine sp (po_not rfl rfl) ?_ <;> (first | refine oPt ?_ | refine oPf ?_) <;> refine oN ?_) | (refine rg 3 ?_; refine oMv ?_; refine oCm ?_; refine oMv ?_; (first | refine oMv ?_ | refine oK ?_) <;> (first | refine oMv ?_ | refine oK ?_) <;> (first | refine oMv ?_ | refine oK ?_) <;> (first | refine oMv ?_ | refine oK ?_) <;> (first | refine sp (po_nilcheck rfl rfl) ?_ | refine oK ?_) <;> (first | refine oFb ?_ | refine oFd ?_ | refine oK ?_) <;> (first | refine sp (po_index_arr rfl rfl rfl arr54 rfl (by first | omega | assumption)) ?_ | refine sp (pix rfl (tyS rfl)) ?_ | refine oK ?_) <;> (first | refine sp (po_index_arr rfl rfl rfl arr53 rfl (by first | omega | assumption)) ?_ | refine sp (pix rfl (tyS rfl)) ?_ | refine oK ?_) <;> (first | refine sp (po_load_ntn rfl rfl (tyT rfl) rfl) ?_ | refine sp (po_load_ntk rfl rfl (tyT rfl) rfl (by assumption) (by assumption) rfl) ?_ | refine oLb ?_ | refine oLd ?_ | refine oK ?_) <;> (first | refine sp (pln rfl (tyS rfl)) ?_ | refine sp (po_len_nt rfl rfl (by kernel_rfl) (by assumption) (by assumption) rfl) ?_ | refine sp (po_len_nil rfl rfl (by kernel_rfl)) ?_ | refine oK ?_) <;> (first | refine oCm ?_ | refine oK ?_) <;> refine oPt ?_ <;> refine oN ?_) | (refine rg 4 ?_; refine oAs ?_; refine oN ?_) | refine gc ?_ | refine ct ?_ | refine cf ?_ | refine swp_cond rfl (fun hc => ?_) (fun hc => ?_) | refine retl (by exact .inr rfl) rfl (.tmp rfl rfl .nil) ?_ rfl (.cons rfl (by rfl) rfl .nil) .nil)
    all_goals rfl
  by_cases hi2 : ((d.row (a * 10 + b)).length : Int) ≤ i
  · have hg : getP (d.row (a * 10 + b)) i = none := by unfold getP; rw [if_pos (by omega), List.getElem?_eq_none (by omega)]
    rw [hg]
    refine lcalls_of Try.func43 rfl rfl Try.ntmps43 rfl ?_
    repeat' (first | (refine rg 0 ?_; refine oAs ?_; refine oN ?_) | (refine rg 1 ?_; refine oMv ?_; refine oMv ?_; refine oCm ?_; refine oMv ?_; refine oMv ?_ <;> refine oMv ?_ <;> (first | refine sops_lcall (c2) (fun i => i) (fun i => i) (fun _ => false) gy rfl rfl rfl (by first | ((repeat' (first | exact .nil | refine .cons rfl rfl rfl ?_ | refine .vw rfl (by first | exact .t _ | exact .own rfl (by rfl) | exact .nil _ | exact .emp _ | exact .fn _) ?_)) <;> fail) | fail) (.cons rfl rfl .nil) .nil rfl rfl (fun _ h => Bool.noConfusion h) ?_ | refine sops_lcall (c1) (fun i => i) (fun i => i) (fun _ => false) gy rfl rfl rfl (by ((repeat' (first | exact .nil | refine .cons rfl rfl rfl ?_)) <;> fail)) (.cons rfl rfl .nil) .nil rfl rfl (fun _ h => Bool.noConfusion h) ?_) <;> refine sp (po_not rfl rfl) ?_ <;> (first | refine oPt ?_ | refine oPf ?_) <;> refine oMv ?_ <;> refine oMv ?_ <;> refine oMv ?_ <;> (refine sops_lcall (c2) (fun i => i) (fun i => i) (fun _ => false) gy rfl rfl rfl (by ((repeat' (first | exact .nil | refine .cons rfl rfl rfl ?_)) <;> fail)) (.cons rfl rfl .nil) .nil rfl rfl (fun _ h => Bool.noConfusion h) ?_) <;> refine sp (po_not rfl rfl) ?_ <;> (first | refine oPt ?_ | refine oPf ?_) <;> refine oN ?_) | (refine rg 3 ?_; refine oMv ?_; refine oCm ?_; refine oMv ?_; refine oMv ?_ <;> refine oMv ?_ <;> refine oMv ?_ <;> refine oMv ?_ <;> refine sp (po_nilcheck rfl rfl) ?_ <;> refine oFb ?_ <;> refine sp (po_index_arr rfl rfl rfl arr54 rfl (by omega)) ?_ <;> (first | refine sp (po_index_arr rfl rfl rfl arr54 rfl (by omega)) ?_ | refine sp (po_index_arr rfl rfl rfl arr53 rfl (by omega)) ?_) <;> refine sp (po_load_ref (a * 10 + b) rfl rfl (tyT rfl) rfl (by first | rfl | omega) (by assumption)) ?_ <;> refine sp (pln rfl (tyS rfl)) ?_ <;> refine oCm ?_ <;> (first | refine oPt ?_ | refine oPf ?_) <;> refine oN ?_) | (refine rg 4 ?_; refine oAs ?_; refine oN ?_) | refine gc ?_ | refine ct ?_ | refine cf ?_ | refine swp_cond rfl (fun hc => ?_) (fun hc => ?_) | refine retl (by exact .inr rfl) rfl (.tmp rfl rfl .nil) ?_ rfl (.cons rfl (by rfl) rfl .nil) .nil)
    all_goals rfl
  · have hg : getP (d.row (a * 10 + b)) i = some (d.row (a * 10 + b))[i.toNat] := by unfold getP; rw [if_pos (by omega), List.getElem?_eq_getElem]
    rw [hg]
    refine lcalls_of Try.func43 rfl rfl Try.ntmps43 rfl ?_
    repeat' (first | (refine rg 0 ?_; refine oAs ?_; refine oN ?_) | (refine rg 1 ?_; refine oMv ?_; refine oMv ?_; refine oCm ?_; refine oMv ?_; refine oMv ?_ <;> refine oMv ?_ <;> (first | refine sops_lcall (c2) (fun i => i) (fun i => i) (fun _ => false) gy rfl rfl rfl (by first | ((repeat' (first | exact .nil | refine .cons rfl rfl rfl ?_ | refine .vw rfl (by first | exact .t _ | exact .own rfl (by rfl) | exact .nil _ | exact .emp _ | exact .fn _) ?_)) <;> fail) | fail) (.cons rfl rfl .nil) .nil rfl rfl (fun _ h => Bool.noConfusion h) ?_ | refine sops_lcall (c1) (fun i => i) (fun i => i) (fun _ => false) gy rfl rfl rfl (by ((repeat' (first | exact .nil | refine .cons rfl rfl rfl ?_)) <;> fail)) (.cons rfl rfl .nil) .nil rfl rfl (fun _ h => Bool.noConfusion h) ?_) <;> refine sp (po_not rfl rfl) ?_ <;> (first | refine oPt ?_ | refine oPf ?_) <;> refine oMv ?_ <;> refine oMv ?_ <;> refine oMv ?_ <;> (refine sops_lcall (c2) (fun i => i) (fun i => i) (fun _ => false) gy rfl rfl rfl (by ((repeat' (first | exact .nil | refine .cons rfl rfl rfl ?_)) <;> fail)) (.cons rfl rfl .nil) .nil rfl rfl (fun _ h => Bool.noConfusion h) ?_) <;> refine sp (po_not rfl rfl) ?_ <;> (first | refine oPt ?_ | refine oPf ?_) <;> refine oN ?_) | (refine rg 3 ?_; refine oMv ?_; refine oCm ?_; refine oMv ?_; refine oMv ?_ <;> refine oMv ?_ <;> refine oMv ?_ <;> refine oMv ?_ <;> refine sp (po_nilcheck rfl rfl) ?_ <;> refine oFb ?_ <;> refine sp (po_index_arr rfl rfl rfl arr54 rfl (by omega)) ?_ <;> (first | refine sp (po_index_arr rfl rfl rfl arr54 rfl (by omega)) ?_ | refine sp (po_index_arr rfl rfl rfl arr53 rfl (by omega)) ?_) <;> refine sp (po_load_ref (a * 10 + b) rfl rfl (tyT rfl) rfl (by first | rfl | omega) (by assumption)) ?_ <;> refine sp (pln rfl (tyS rfl)) ?_ <;> refine oCm ?_ <;> (first | refine oPt ?_ | refine oPf ?_) <;> refine oN ?_) | (refine rg 5 ?_; refine oAs ?_; refine oN ?_) | refine gc ?_ | refine ct ?_ | refine cf ?_ | refine swp_cond rfl (fun hc => ?_) (fun hc => ?_) | refine retl (by exact .inr rfl) rfl (.tmp rfl rfl .nil) ?_ rfl (.cons rfl (by rfl) rfl .nil) .nil)
    all_goals rfl
theorem none_ (d : PNet) (hd : NetOk d) (x y i : Int) : LCalls Try.prog 43 [.bp 2000 0, .t (.v (.int .i64 x)), .t (.v (.int .i64 y)), .t (.v (.int .i64 i))] (refN d) [] (.t (.v (.int .i64 (atP d x y i).2))) (refN d) [] := by
  unfold atP
  cases hl : isL d.n x y with
  | false =>
    refine none_no d x y i ?_
    have := isL_no hl
    unfold noL at this; omega
  | true =>
    obtain ⟨a, b, rfl, rfl, hk, hL⟩ := isL_spec hl
    have := none_is d hd.n a b i hL
    simp only [hk]
    revert this
    cases getP (d.row (a * 10 + b)) i <;> exact id
end Go.Proofs.Ytgbcmjcaggnobaa.Sim
