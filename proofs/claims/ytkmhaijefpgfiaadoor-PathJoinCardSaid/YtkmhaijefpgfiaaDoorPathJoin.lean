/- The law PathJoin: a walk. -/
import Derived.Test.YtkmhaijefpgfiaaDoorQ20
namespace Go.Proofs.YtkmhaijefpgfiaaDoor.PathJoin
set_option linter.unusedVariables false
set_option linter.unusedSimpArgs false
open Go.RowKit Mem Sim Opn Str Pth
theorem segs_G (s : L8) : segsL s = (keptG [] (splL (s.drop 1))).getD [] := by
  unfold segsL
  rw [keptL_G]
  cases keptG [] (splL (s.drop 1)) <;> rfl
def longB (l : List L8) : Bool := decide (60 < l.length) || l.any fun s => decide (1000 < s.length)
theorem any_take {l : List L8} {k : Nat} (h : (l.take k).any (fun s => decide (1000 < s.length)) = false) (hk : k < l.length) (hs : ¬ 1000 < l[k].length) : (l.take (k + 1)).any (fun s => decide (1000 < s.length)) = false := by
  rw [List.take_succ_eq_append_getElem hk, List.any_append, h]; simp; omega
set_option maxRecDepth 100000 in
theorem long_ (l : List L8) : PCalls Tryd.prog 16 [.sl 1 (l.map strT)] (.v (.bool (longB l))) := by
  have hm : (l.map strT).length = l.length := List.length_map _
  refine pcalls_of Tryd.func16 rfl rfl Tryd.ntmps16 rfl ?_
  unfold longB
  by_cases h : 60 < l.length
  · rw [decide_eq_true h]
    repeat' (first | (refine rg 0 ?_; refine oAs ?_; refine oN ?_) | (refine rg 1 ?_; refine oMv ?_; refine sp (pln rfl (tyS rfl)) ?_; refine oCm ?_; refine oN ?_) | (refine rg 2 ?_; refine oAs ?_; refine oN ?_) | refine gc ?_ | refine ct ?_ | refine cf ?_ | refine swp_cond rfl (fun hc => ?_) (fun hc => ?_) | refine rq rfl (rt .nil) ?_)
    rfl
  · rw [decide_eq_false h]
    repeat' (first | (refine rg 0 ?_; refine oAs ?_; refine oN ?_) | (refine rg 1 ?_; refine oMv ?_; refine sp (pln rfl (tyS rfl)) ?_; refine oCm ?_; refine oN ?_) | (refine rg 3 ?_; refine oAs ?_; refine oN ?_) | refine gc ?_ | refine ct ?_ | refine cf ?_ | refine swp_cond rfl (fun hc => ?_) (fun hc => ?_) | refine rq rfl (rt .nil) ?_)
    refine swp_for (fun k => ⟨[(0, .t (.sl 1 (l.map strT))), (3, .t (.v (.int .i64 (k : Int))))], [], []⟩) (fun k => (l.take k).any (fun s => decide (1000 < s.length)) = false) l.length (weak_sub (.cons rfl rfl rfl (.cons rfl rfl rfl .nil)) .nil .nil) rfl ?_
    intro k hk hI
    by_cases hlt : k < l.length
    · have hrow := strs_at hlt
      have hsz := bs_size l[k]
      by_cases hb : 1000 < l[k].length
      · rw [show l.any (fun s => decide (1000 < s.length)) = true from List.any_eq_true.2 ⟨l[k], List.getElem_mem hlt, decide_eq_true hb⟩]
        repeat' (first | (refine rg 4 ?_; refine oMv ?_; refine oMv ?_; refine sp (pln rfl (tyS rfl)) ?_; refine oCm ?_; refine oN ?_) | (refine rg 6 ?_; refine oMv ?_; refine oMv ?_; refine sp (pix rfl (tyS rfl)) ?_; (first | refine oLb ?_ | refine oLd ?_); refine sp (po_len_str rfl rfl (tyR rfl)) ?_; refine oCm ?_; refine oN ?_) | (refine rg 7 ?_; refine oAs ?_; refine oN ?_) | refine gc ?_ | refine ct ?_ | refine cf ?_ | refine swp_cond rfl (fun hc => ?_) (fun hc => ?_) | refine rq rfl (rt .nil) ?_)
        rfl
      · repeat' (first | refine for_next hlt (weak_sub (.cons rfl rfl rfl (.cons rfl rfl rfl .nil)) .nil .nil) (any_take hI hlt hb) | (refine rg 4 ?_; refine oMv ?_; refine oMv ?_; refine sp (pln rfl (tyS rfl)) ?_; refine oCm ?_; refine oN ?_) | (refine rg 6 ?_; refine oMv ?_; refine oMv ?_; refine sp (pix rfl (tyS rfl)) ?_; (first | refine oLb ?_ | refine oLd ?_); refine sp (po_len_str rfl rfl (tyR rfl)) ?_; refine oCm ?_; refine oN ?_) | (refine rg 5 ?_; refine oMv ?_; (first | refine sp (xinc rfl) ?_ | refine sp (xadd rfl) ?_); refine oAs ?_; refine oN ?_) | refine gc ?_ | refine ct ?_ | refine cf ?_ | refine swp_cond rfl (fun hc => ?_) (fun hc => ?_) | refine rq rfl (rt .nil) ?_)
    · obtain rfl : k = l.length := by omega
      rw [List.take_length] at hI
      rw [hI]
      repeat' (first | (refine rg 4 ?_; refine oMv ?_; refine oMv ?_; refine sp (pln rfl (tyS rfl)) ?_; refine oCm ?_; refine oN ?_) | (refine rg 8 ?_; refine oAs ?_; refine oN ?_) | refine gc ?_ | refine ct ?_ | refine cf ?_ | refine swp_cond rfl (fun hc => ?_) (fun hc => ?_) | refine rq rfl (rt .nil) ?_)
      rfl
theorem long_tot {l : List L8} (h : longB l = false) : tot l ≤ 60060 := by
  unfold longB at h
  rw [Bool.or_eq_false_iff, decide_eq_false_iff_not, List.any_eq_false] at h
  have key : ∀ l : List L8, (∀ s ∈ l, s.length ≤ 1000) → tot l ≤ 1001 * l.length := by
    intro l
    induction l with
    | nil => intro _; simp [tot]
    | cons s l ih =>
      intro h
      have h1 := h s (by simp)
      have h2 := ih fun s hs => h s (by simp [hs])
      rw [tot_cons, List.length_cons]; omega
  have := key l fun s hs => by have := h.2 s hs; simpa using this
  omega
set_option maxRecDepth 100000 in
set_option maxHeartbeats 8000000 in
theorem lawL (dir : Bool) (l : List L8) : PCalls Tryd.prog 6 [.v (.bool dir), .sl 1 (l.map strT)] (.v (.bool true)) := by
  have c0 := awake_
  have cl := long_ l
  refine pcalls_of Tryd.func6 rfl rfl Tryd.ntmps6 rfl ?_
  cases hlg : longB l with
  | true =>
    rw [hlg] at cl
    repeat' (first | (refine rg 0 ?_; refine oAs ?_; refine oN ?_) | (refine rg 1 ?_; refine oMv ?_; (first | refine oC (cl) rfl (ac .nil) ?_ | refine oC (c0) rfl (ac .nil) ?_); refine oN ?_) | (refine rg 2 ?_; (first | refine oC (cl) rfl .nil ?_ | refine oC (c0) rfl .nil ?_); refine oAs ?_; refine oN ?_) | refine gc ?_ | refine ct ?_ | refine cf ?_ | refine swp_cond rfl (fun hc => ?_) (fun hc => ?_) | refine rq rfl (rt .nil) ?_)
    rfl
  | false =>
    rw [hlg] at cl
    have ht := long_tot hlg
    have hm : (l.map strT).length = l.length := List.length_map _
    have hll : l.length ≤ 60060 := by unfold tot at ht; omega
    have hb1 : (l.map strT).length ≤ 100000 := by omega
    have hb2 : (l.map strT).length * 64 ≤ 140737488355328 := by omega
    have hb3 : (l.map strT).length ≤ maxLen := by unfold maxLen; omega
    have c1 := Join_ dir l (by omega)
    have c2 := refJoin_ dir l (by omega)
    have hlen := joinL_len dir l
    have hj1 : 1 ≤ (joinL dir l).length := by unfold joinL; simp
    have c3 := refSplit_ (bs (joinL dir l)) (by rw [bs_size]; exact hj1) (by rw [bs_size]; omega)
    have c4 := refCanon_ (bs (joinL dir l)) (by rw [bs_size]; omega)
    rw [bs_toList] at c3 c4
    have htot := tot_splL ((joinL dir l).drop 1)
    rw [List.length_drop] at htot
    have c5 := refKept_ (splL ((joinL dir l).drop 1)) (by unfold tot at htot; omega)
    have hsl := segs_len (joinL dir l) hj1
    have c6 := refSame_ (segsL (joinL dir l)) l (by omega)
    have c7 := refSame_ l l (by omega)
    rw [decide_eq_true rfl] at c7
    unfold joinT joinB at c1
    have hsg := segs_G (joinL dir l)
    generalize joinL dir l = s at *
    generalize segsL s = sg at *
    generalize splL (s.drop 1) = sp1 at *
    have ec : decide (bs s = bs s) = true := decide_eq_true rfl
    have c5' : PCalls Tryd.prog 13 [.sl 1 (sp1.map strT)] (.tup [.sl 1 (sg.map strT), .v (.bool (keptG [] sp1).isSome)]) := by
      subst hsg
      cases hk : keptG [] sp1 with
      | none => rw [hk] at c5; exact c5
      | some out => rw [hk] at c5; exact c5
    clear c5
    generalize (keptG [] sp1).isSome = isb at *
    cases hc : canonL s with
    | false =>
      rw [hc] at c1 c4
      rw [if_neg (by simp)] at c1
      repeat' (first | (refine rg 0 ?_; refine oAs ?_; refine oN ?_) | (refine rg 1 ?_; refine oMv ?_; (first | refine oC (cl) rfl (ac .nil) ?_ | refine oC (c0) rfl (ac .nil) ?_ | refine oC (c1) rfl (ac .nil) ?_ | refine oC (c2) rfl (ac .nil) ?_ | refine oC (c3) rfl (ac .nil) ?_ | refine oC (c4) rfl (ac .nil) ?_ | refine oC (c5') rfl (ac .nil) ?_ | refine oC (c6) rfl (ac .nil) ?_ | refine oC (c7) rfl (ac .nil) ?_); refine oN ?_) | (refine rg 3 ?_; refine sops_build0 (.free rfl rfl) rfl rfl rfl (tyE rfl) rfl ?_; refine oMv ?_; (first | refine sap rfl (tyE rfl) ?_ | refine san rfl (tyE rfl) ?_); refine oAs ?_; refine oN ?_) | (refine rg 4 ?_; refine oMv ?_; refine oMv ?_; (first | refine oC (cl) rfl (ac (ac .nil)) ?_ | refine oC (c0) rfl (ac (ac .nil)) ?_ | refine oC (c1) rfl (ac (ac .nil)) ?_ | refine oC (c2) rfl (ac (ac .nil)) ?_ | refine oC (c3) rfl (ac (ac .nil)) ?_ | refine oC (c4) rfl (ac (ac .nil)) ?_ | refine oC (c5') rfl (ac (ac .nil)) ?_ | refine oC (c6) rfl (ac (ac .nil)) ?_ | refine oC (c7) rfl (ac (ac .nil)) ?_); refine oMv ?_; refine oEx ?_; refine oEx ?_; refine oAs ?_; refine oAs ?_; refine oN ?_) | (refine rg 5 ?_; refine oMv ?_; refine oMv ?_; (first | refine oC (cl) rfl (ac (ac .nil)) ?_ | refine oC (c0) rfl (ac (ac .nil)) ?_ | refine oC (c1) rfl (ac (ac .nil)) ?_ | refine oC (c2) rfl (ac (ac .nil)) ?_ | refine oC (c3) rfl (ac (ac .nil)) ?_ | refine oC (c4) rfl (ac (ac .nil)) ?_ | refine oC (c5') rfl (ac (ac .nil)) ?_ | refine oC (c6) rfl (ac (ac .nil)) ?_ | refine oC (c7) rfl (ac (ac .nil)) ?_); refine oAs ?_; refine oN ?_) | (refine rg 6 ?_; refine oMv ?_; (first | refine oC (cl) rfl (ac .nil) ?_ | refine oC (c0) rfl (ac .nil) ?_ | refine oC (c1) rfl (ac .nil) ?_ | refine oC (c2) rfl (ac .nil) ?_ | refine oC (c3) rfl (ac .nil) ?_ | refine oC (c4) rfl (ac .nil) ?_ | refine oC (c5') rfl (ac .nil) ?_ | refine oC (c6) rfl (ac .nil) ?_ | refine oC (c7) rfl (ac .nil) ?_); (first | refine oC (cl) rfl (ac .nil) ?_ | refine oC (c0) rfl (ac .nil) ?_ | refine oC (c1) rfl (ac .nil) ?_ | refine oC (c2) rfl (ac .nil) ?_ | refine oC (c3) rfl (ac .nil) ?_ | refine oC (c4) rfl (ac .nil) ?_ | refine oC (c5') rfl (ac .nil) ?_ | refine oC (c6) rfl (ac .nil) ?_ | refine oC (c7) rfl (ac .nil) ?_); refine oMv ?_; refine oEx ?_; refine oEx ?_; refine oAs ?_; refine oAs ?_; refine oN ?_) | (refine rg 7 ?_; refine oMv ?_; (first | refine oC (cl) rfl (ac .nil) ?_ | refine oC (c0) rfl (ac .nil) ?_ | refine oC (c1) rfl (ac .nil) ?_ | refine oC (c2) rfl (ac .nil) ?_ | refine oC (c3) rfl (ac .nil) ?_ | refine oC (c4) rfl (ac .nil) ?_ | refine oC (c5') rfl (ac .nil) ?_ | refine oC (c6) rfl (ac .nil) ?_ | refine oC (c7) rfl (ac .nil) ?_); refine oMv ?_; (first | refine oMv ?_ | refine oK ?_ | ((refine ssp (fun hc => ?_) (fun hc => ?_)) <;> first | refine oMv ?_ | refine oK ?_)) <;> (first | refine oMv ?_ | refine oK ?_) <;> (first | refine oC (cl) rfl (ac (ac .nil)) ?_ | refine oC (c0) rfl (ac (ac .nil)) ?_ | refine oC (c1) rfl (ac (ac .nil)) ?_ | refine oC (c2) rfl (ac (ac .nil)) ?_ | refine oC (c3) rfl (ac (ac .nil)) ?_ | refine oC (c4) rfl (ac (ac .nil)) ?_ | refine oC (c5') rfl (ac (ac .nil)) ?_ | refine oC (c6) rfl (ac (ac .nil)) ?_ | refine oC (c7) rfl (ac (ac .nil)) ?_ | refine oK ?_) <;> (first | refine oPt ?_ | refine oPf ?_) <;> (refine oAs ?_) <;> (refine oN ?_)) | (refine rg 8 ?_; refine oMv ?_; refine oMv ?_; (first | refine oC (cl) rfl (ac (ac .nil)) ?_ | refine oC (c0) rfl (ac (ac .nil)) ?_ | refine oC (c1) rfl (ac (ac .nil)) ?_ | refine oC (c2) rfl (ac (ac .nil)) ?_ | refine oC (c3) rfl (ac (ac .nil)) ?_ | refine oC (c4) rfl (ac (ac .nil)) ?_ | refine oC (c5') rfl (ac (ac .nil)) ?_ | refine oC (c6) rfl (ac (ac .nil)) ?_ | refine oC (c7) rfl (ac (ac .nil)) ?_); refine sp (po_not rfl rfl) ?_; refine oN ?_) | (refine rg 10 ?_; refine oMv ?_; refine sp (po_not rfl rfl) ?_; refine oN ?_) | (refine rg 11 ?_; refine oMv ?_; refine oCm ?_; refine oMv ?_; (first | refine oMv ?_ | refine oK ?_ | ((refine ssp (fun hc => ?_) (fun hc => ?_)) <;> first | refine oMv ?_ | refine oK ?_)) <;> (first | refine sp (po_str rfl rfl rfl rfl) ?_ | refine oK ?_) <;> (first | refine oPt ?_ | refine oPf ?_) <;> (refine oMv ?_) <;> (first | refine oC (cl) rfl .nil ?_ | refine oC (c0) rfl .nil ?_ | refine oC (c1) rfl .nil ?_ | refine oC (c2) rfl .nil ?_ | refine oC (c3) rfl .nil ?_ | refine oC (c4) rfl .nil ?_ | refine oC (c5') rfl .nil ?_ | refine oC (c6) rfl .nil ?_ | refine oC (c7) rfl .nil ?_ | refine oK ?_ | ((refine ssp (fun hc => ?_) (fun hc => ?_)) <;> first | refine oC (cl) rfl .nil ?_ | refine oC (c0) rfl .nil ?_ | refine oC (c1) rfl .nil ?_ | refine oC (c2) rfl .nil ?_ | refine oC (c3) rfl .nil ?_ | refine oC (c4) rfl .nil ?_ | refine oC (c5') rfl .nil ?_ | refine oC (c6) rfl .nil ?_ | refine oC (c7) rfl .nil ?_ | refine oK ?_)) <;> (first | refine oPt ?_ | refine oPf ?_) <;> (refine oAs ?_) <;> (refine oN ?_)) | refine gc ?_ | refine ct ?_ | refine cf ?_ | refine swp_cond rfl (fun hc => ?_) (fun hc => ?_) | refine rq rfl (rt .nil) ?_)
      rfl
    | true =>
      rw [hc] at c1 c4
      by_cases he : sg = l
      · rw [decide_eq_true he] at c1 c6
        rw [Bool.and_true, if_pos rfl] at c1
        repeat' (first | (refine rg 0 ?_; refine oAs ?_; refine oN ?_) | (refine rg 1 ?_; refine oMv ?_; (first | refine oC (cl) rfl (ac .nil) ?_ | refine oC (c0) rfl (ac .nil) ?_ | refine oC (c1) rfl (ac .nil) ?_ | refine oC (c2) rfl (ac .nil) ?_ | refine oC (c3) rfl (ac .nil) ?_ | refine oC (c4) rfl (ac .nil) ?_ | refine oC (c5') rfl (ac .nil) ?_ | refine oC (c6) rfl (ac .nil) ?_ | refine oC (c7) rfl (ac .nil) ?_); refine oN ?_) | (refine rg 3 ?_; refine sops_build0 (.free rfl rfl) rfl rfl rfl (tyE rfl) rfl ?_; refine oMv ?_; (first | refine sap rfl (tyE rfl) ?_ | refine san rfl (tyE rfl) ?_); refine oAs ?_; refine oN ?_) | (refine rg 4 ?_; refine oMv ?_; refine oMv ?_; (first | refine oC (cl) rfl (ac (ac .nil)) ?_ | refine oC (c0) rfl (ac (ac .nil)) ?_ | refine oC (c1) rfl (ac (ac .nil)) ?_ | refine oC (c2) rfl (ac (ac .nil)) ?_ | refine oC (c3) rfl (ac (ac .nil)) ?_ | refine oC (c4) rfl (ac (ac .nil)) ?_ | refine oC (c5') rfl (ac (ac .nil)) ?_ | refine oC (c6) rfl (ac (ac .nil)) ?_ | refine oC (c7) rfl (ac (ac .nil)) ?_); refine oMv ?_; refine oEx ?_; refine oEx ?_; refine oAs ?_; refine oAs ?_; refine oN ?_) | (refine rg 5 ?_; refine oMv ?_; refine oMv ?_; (first | refine oC (cl) rfl (ac (ac .nil)) ?_ | refine oC (c0) rfl (ac (ac .nil)) ?_ | refine oC (c1) rfl (ac (ac .nil)) ?_ | refine oC (c2) rfl (ac (ac .nil)) ?_ | refine oC (c3) rfl (ac (ac .nil)) ?_ | refine oC (c4) rfl (ac (ac .nil)) ?_ | refine oC (c5') rfl (ac (ac .nil)) ?_ | refine oC (c6) rfl (ac (ac .nil)) ?_ | refine oC (c7) rfl (ac (ac .nil)) ?_); refine oAs ?_; refine oN ?_) | (refine rg 6 ?_; refine oMv ?_; (first | refine oC (cl) rfl (ac .nil) ?_ | refine oC (c0) rfl (ac .nil) ?_ | refine oC (c1) rfl (ac .nil) ?_ | refine oC (c2) rfl (ac .nil) ?_ | refine oC (c3) rfl (ac .nil) ?_ | refine oC (c4) rfl (ac .nil) ?_ | refine oC (c5') rfl (ac .nil) ?_ | refine oC (c6) rfl (ac .nil) ?_ | refine oC (c7) rfl (ac .nil) ?_); (first | refine oC (cl) rfl (ac .nil) ?_ | refine oC (c0) rfl (ac .nil) ?_ | refine oC (c1) rfl (ac .nil) ?_ | refine oC (c2) rfl (ac .nil) ?_ | refine oC (c3) rfl (ac .nil) ?_ | refine oC (c4) rfl (ac .nil) ?_ | refine oC (c5') rfl (ac .nil) ?_ | refine oC (c6) rfl (ac .nil) ?_ | refine oC (c7) rfl (ac .nil) ?_); refine oMv ?_; refine oEx ?_; refine oEx ?_; refine oAs ?_; refine oAs ?_; refine oN ?_) | (refine rg 7 ?_; refine oMv ?_; (first | refine oC (cl) rfl (ac .nil) ?_ | refine oC (c0) rfl (ac .nil) ?_ | refine oC (c1) rfl (ac .nil) ?_ | refine oC (c2) rfl (ac .nil) ?_ | refine oC (c3) rfl (ac .nil) ?_ | refine oC (c4) rfl (ac .nil) ?_ | refine oC (c5') rfl (ac .nil) ?_ | refine oC (c6) rfl (ac .nil) ?_ | refine oC (c7) rfl (ac .nil) ?_); refine oMv ?_; (first | refine oMv ?_ | refine oK ?_ | ((refine ssp (fun hc => ?_) (fun hc => ?_)) <;> first | refine oMv ?_ | refine oK ?_)) <;> (first | refine oMv ?_ | refine oK ?_) <;> (first | refine oC (cl) rfl (ac (ac .nil)) ?_ | refine oC (c0) rfl (ac (ac .nil)) ?_ | refine oC (c1) rfl (ac (ac .nil)) ?_ | refine oC (c2) rfl (ac (ac .nil)) ?_ | refine oC (c3) rfl (ac (ac .nil)) ?_ | refine oC (c4) rfl (ac (ac .nil)) ?_ | refine oC (c5') rfl (ac (ac .nil)) ?_ | refine oC (c6) rfl (ac (ac .nil)) ?_ | refine oC (c7) rfl (ac (ac .nil)) ?_ | refine oK ?_) <;> (first | refine oPt ?_ | refine oPf ?_) <;> (refine oAs ?_) <;> (refine oN ?_)) | (refine rg 8 ?_; refine oMv ?_; refine oMv ?_; (first | refine oC (cl) rfl (ac (ac .nil)) ?_ | refine oC (c0) rfl (ac (ac .nil)) ?_ | refine oC (c1) rfl (ac (ac .nil)) ?_ | refine oC (c2) rfl (ac (ac .nil)) ?_ | refine oC (c3) rfl (ac (ac .nil)) ?_ | refine oC (c4) rfl (ac (ac .nil)) ?_ | refine oC (c5') rfl (ac (ac .nil)) ?_ | refine oC (c6) rfl (ac (ac .nil)) ?_ | refine oC (c7) rfl (ac (ac .nil)) ?_); refine sp (po_not rfl rfl) ?_; refine oN ?_) | (refine rg 10 ?_; refine oMv ?_; refine sp (po_not rfl rfl) ?_; refine oN ?_) | (refine rg 12 ?_; refine oMv ?_; refine oCm ?_; refine oMv ?_; (first | refine oMv ?_ | refine oK ?_ | ((refine ssp (fun hc => ?_) (fun hc => ?_)) <;> first | refine oMv ?_ | refine oK ?_)) <;> (first | refine oMv ?_ | refine oK ?_) <;> (first | refine sp (po_str rfl rfl rfl rfl) ?_ | refine oK ?_) <;> (first | refine oPt ?_ | refine oPf ?_) <;> (refine oMv ?_) <;> (first | refine oC (cl) rfl .nil ?_ | refine oC (c0) rfl .nil ?_ | refine oC (c1) rfl .nil ?_ | refine oC (c2) rfl .nil ?_ | refine oC (c3) rfl .nil ?_ | refine oC (c4) rfl .nil ?_ | refine oC (c5') rfl .nil ?_ | refine oC (c6) rfl .nil ?_ | refine oC (c7) rfl .nil ?_ | refine oK ?_ | ((refine ssp (fun hc => ?_) (fun hc => ?_)) <;> first | refine oC (cl) rfl .nil ?_ | refine oC (c0) rfl .nil ?_ | refine oC (c1) rfl .nil ?_ | refine oC (c2) rfl .nil ?_ | refine oC (c3) rfl .nil ?_ | refine oC (c4) rfl .nil ?_ | refine oC (c5') rfl .nil ?_ | refine oC (c6) rfl .nil ?_ | refine oC (c7) rfl .nil ?_ | refine oK ?_)) <;> (first | refine oPt ?_ | refine oPf ?_) <;> (refine oAs ?_) <;> (refine oN ?_)) | refine gc ?_ | refine ct ?_ | refine cf ?_ | refine swp_cond rfl (fun hc => ?_) (fun hc => ?_) | refine rq rfl (rt .nil) ?_)
        rfl
      · rw [decide_eq_false he] at c1 c6
        rw [if_neg (by simp)] at c1
        repeat' (first | (refine rg 0 ?_; refine oAs ?_; refine oN ?_) | (refine rg 1 ?_; refine oMv ?_; (first | refine oC (cl) rfl (ac .nil) ?_ | refine oC (c0) rfl (ac .nil) ?_ | refine oC (c1) rfl (ac .nil) ?_ | refine oC (c2) rfl (ac .nil) ?_ | refine oC (c3) rfl (ac .nil) ?_ | refine oC (c4) rfl (ac .nil) ?_ | refine oC (c5') rfl (ac .nil) ?_ | refine oC (c6) rfl (ac .nil) ?_ | refine oC (c7) rfl (ac .nil) ?_); refine oN ?_) | (refine rg 3 ?_; refine sops_build0 (.free rfl rfl) rfl rfl rfl (tyE rfl) rfl ?_; refine oMv ?_; (first | refine sap rfl (tyE rfl) ?_ | refine san rfl (tyE rfl) ?_); refine oAs ?_; refine oN ?_) | (refine rg 4 ?_; refine oMv ?_; refine oMv ?_; (first | refine oC (cl) rfl (ac (ac .nil)) ?_ | refine oC (c0) rfl (ac (ac .nil)) ?_ | refine oC (c1) rfl (ac (ac .nil)) ?_ | refine oC (c2) rfl (ac (ac .nil)) ?_ | refine oC (c3) rfl (ac (ac .nil)) ?_ | refine oC (c4) rfl (ac (ac .nil)) ?_ | refine oC (c5') rfl (ac (ac .nil)) ?_ | refine oC (c6) rfl (ac (ac .nil)) ?_ | refine oC (c7) rfl (ac (ac .nil)) ?_); refine oMv ?_; refine oEx ?_; refine oEx ?_; refine oAs ?_; refine oAs ?_; refine oN ?_) | (refine rg 5 ?_; refine oMv ?_; refine oMv ?_; (first | refine oC (cl) rfl (ac (ac .nil)) ?_ | refine oC (c0) rfl (ac (ac .nil)) ?_ | refine oC (c1) rfl (ac (ac .nil)) ?_ | refine oC (c2) rfl (ac (ac .nil)) ?_ | refine oC (c3) rfl (ac (ac .nil)) ?_ | refine oC (c4) rfl (ac (ac .nil)) ?_ | refine oC (c5') rfl (ac (ac .nil)) ?_ | refine oC (c6) rfl (ac (ac .nil)) ?_ | refine oC (c7) rfl (ac (ac .nil)) ?_); refine oAs ?_; refine oN ?_) | (refine rg 6 ?_; refine oMv ?_; (first | refine oC (cl) rfl (ac .nil) ?_ | refine oC (c0) rfl (ac .nil) ?_ | refine oC (c1) rfl (ac .nil) ?_ | refine oC (c2) rfl (ac .nil) ?_ | refine oC (c3) rfl (ac .nil) ?_ | refine oC (c4) rfl (ac .nil) ?_ | refine oC (c5') rfl (ac .nil) ?_ | refine oC (c6) rfl (ac .nil) ?_ | refine oC (c7) rfl (ac .nil) ?_); (first | refine oC (cl) rfl (ac .nil) ?_ | refine oC (c0) rfl (ac .nil) ?_ | refine oC (c1) rfl (ac .nil) ?_ | refine oC (c2) rfl (ac .nil) ?_ | refine oC (c3) rfl (ac .nil) ?_ | refine oC (c4) rfl (ac .nil) ?_ | refine oC (c5') rfl (ac .nil) ?_ | refine oC (c6) rfl (ac .nil) ?_ | refine oC (c7) rfl (ac .nil) ?_); refine oMv ?_; refine oEx ?_; refine oEx ?_; refine oAs ?_; refine oAs ?_; refine oN ?_) | (refine rg 7 ?_; refine oMv ?_; (first | refine oC (cl) rfl (ac .nil) ?_ | refine oC (c0) rfl (ac .nil) ?_ | refine oC (c1) rfl (ac .nil) ?_ | refine oC (c2) rfl (ac .nil) ?_ | refine oC (c3) rfl (ac .nil) ?_ | refine oC (c4) rfl (ac .nil) ?_ | refine oC (c5') rfl (ac .nil) ?_ | refine oC (c6) rfl (ac .nil) ?_ | refine oC (c7) rfl (ac .nil) ?_); refine oMv ?_; (first | refine oMv ?_ | refine oK ?_ | ((refine ssp (fun hc => ?_) (fun hc => ?_)) <;> first | refine oMv ?_ | refine oK ?_)) <;> (first | refine oMv ?_ | refine oK ?_) <;> (first | refine oC (cl) rfl (ac (ac .nil)) ?_ | refine oC (c0) rfl (ac (ac .nil)) ?_ | refine oC (c1) rfl (ac (ac .nil)) ?_ | refine oC (c2) rfl (ac (ac .nil)) ?_ | refine oC (c3) rfl (ac (ac .nil)) ?_ | refine oC (c4) rfl (ac (ac .nil)) ?_ | refine oC (c5') rfl (ac (ac .nil)) ?_ | refine oC (c6) rfl (ac (ac .nil)) ?_ | refine oC (c7) rfl (ac (ac .nil)) ?_ | refine oK ?_) <;> (first | refine oPt ?_ | refine oPf ?_) <;> (refine oAs ?_) <;> (refine oN ?_)) | (refine rg 8 ?_; refine oMv ?_; refine oMv ?_; (first | refine oC (cl) rfl (ac (ac .nil)) ?_ | refine oC (c0) rfl (ac (ac .nil)) ?_ | refine oC (c1) rfl (ac (ac .nil)) ?_ | refine oC (c2) rfl (ac (ac .nil)) ?_ | refine oC (c3) rfl (ac (ac .nil)) ?_ | refine oC (c4) rfl (ac (ac .nil)) ?_ | refine oC (c5') rfl (ac (ac .nil)) ?_ | refine oC (c6) rfl (ac (ac .nil)) ?_ | refine oC (c7) rfl (ac (ac .nil)) ?_); refine sp (po_not rfl rfl) ?_; refine oN ?_) | (refine rg 10 ?_; refine oMv ?_; refine sp (po_not rfl rfl) ?_; refine oN ?_) | (refine rg 11 ?_; refine oMv ?_; refine oCm ?_; refine oMv ?_; (first | refine oMv ?_ | refine oK ?_ | ((refine ssp (fun hc => ?_) (fun hc => ?_)) <;> first | refine oMv ?_ | refine oK ?_)) <;> (first | refine sp (po_str rfl rfl rfl rfl) ?_ | refine oK ?_) <;> (first | refine oPt ?_ | refine oPf ?_) <;> (refine oMv ?_) <;> (first | refine oC (cl) rfl .nil ?_ | refine oC (c0) rfl .nil ?_ | refine oC (c1) rfl .nil ?_ | refine oC (c2) rfl .nil ?_ | refine oC (c3) rfl .nil ?_ | refine oC (c4) rfl .nil ?_ | refine oC (c5') rfl .nil ?_ | refine oC (c6) rfl .nil ?_ | refine oC (c7) rfl .nil ?_ | refine oK ?_ | ((refine ssp (fun hc => ?_) (fun hc => ?_)) <;> first | refine oC (cl) rfl .nil ?_ | refine oC (c0) rfl .nil ?_ | refine oC (c1) rfl .nil ?_ | refine oC (c2) rfl .nil ?_ | refine oC (c3) rfl .nil ?_ | refine oC (c4) rfl .nil ?_ | refine oC (c5') rfl .nil ?_ | refine oC (c6) rfl .nil ?_ | refine oC (c7) rfl .nil ?_ | refine oK ?_)) <;> (first | refine oPt ?_ | refine oPf ?_) <;> (refine oAs ?_) <;> (refine oN ?_)) | refine gc ?_ | refine ct ?_ | refine cf ?_ | refine swp_cond rfl (fun hc => ?_) (fun hc => ?_) | refine rq rfl (rt .nil) ?_)
        rfl
theorem law_ (dir : Bool) (x : List ByteArray) (_h : x.length ≤ maxLen ∧ ∀ s ∈ x, s.size ≤ maxLen) : PCalls Tryd.prog 6 [.v (.bool dir), .sl 1 (x.map Rq.strTb)] (.v (.bool true)) := by
  have := lawL dir (x.map (·.toList))
  rw [List.map_map] at this
  rw [show x.map Rq.strTb = x.map (strT ∘ fun s => s.toList) from List.map_congr_left fun s _ => by unfold Rq.strTb strT; simp [toList_bs]]
  exact this
end Go.Proofs.YtkmhaijefpgfiaaDoor.PathJoin
