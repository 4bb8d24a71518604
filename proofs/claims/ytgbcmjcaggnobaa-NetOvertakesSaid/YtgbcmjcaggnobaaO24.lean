/- Merged by bundles.py: SimLa, SimLb. -/
import Derived.Test.YtgbcmjcaggnobaaO23
/- The laws' pure parts: Same, many, texts, heavy. -/
namespace Go.Proofs.Ytgbcmjcaggnobaa.Sim
set_option linter.unusedVariables false
set_option linter.unusedSimpArgs false
open Go.RowKit Mem
theorem byt28 : byE Try.prog 28 = some 5 := by kernel_rfl
def sameP (a b : PMsg) : Bool := decide (a.f = b.f) && (decide (a.t = b.t) && decide (a.b = b.b))
theorem bs_eq {a b : List UInt8} : (bs a = bs b) ↔ a = b := ⟨fun h => by rw [← bs_toList a, ← bs_toList b, h], fun h => by rw [h]⟩
set_option maxRecDepth 100000 in
theorem same_ (a b : PMsg) (ha : a.b.length ≤ 140737488355328) (hb : b.b.length ≤ 140737488355328) : PCalls Try.prog 18 [msgA a, msgA b] (.v (.bool (sameP a b))) := by
  have hm1 : (a.b.map byteT).length = a.b.length := List.length_map _
  have hm2 : (b.b.map byteT).length = b.b.length := List.length_map _
  have hmx1 : a.b.length ≤ maxLen := by unfold maxLen; omega
  have hmx2 : b.b.length ≤ maxLen := by unfold maxLen; omega
  unfold msgA msgT bysT
  refine pcalls_of Try.func18 rfl rfl Try.ntmps18 rfl ?_
  by_cases h1 : a.f = b.f
  · by_cases h2 : a.t = b.t
    · have e : sameP a b = decide (bs a.b = bs b.b) := by unfold sameP; rw [decide_eq_true h1, decide_eq_true h2, Bool.true_and, Bool.true_and, decide_eq_decide]; exact bs_eq.symm
      rw [e]
      repeat' (first | (refine rg 0 ?_; refine sbx ?_; refine sbx ?_; refine oAs ?_; refine oN ?_) | (refine rg 1 ?_; refine oFb ?_; (first | refine sp (po_load_ntn rfl rfl (tyT rfl) rfl) ?_ | refine sp (po_load_ntk rfl rfl (tyT rfl) rfl (by first | assumption | omega) (by assumption) rfl) ?_ | refine oLb ?_); refine oFb ?_; (first | refine sp (po_load_ntn rfl rfl (tyT rfl) rfl) ?_ | refine sp (po_load_ntk rfl rfl (tyT rfl) rfl (by first | assumption | omega) (by assumption) rfl) ?_ | refine oLb ?_); refine oCm ?_; refine oMv ?_; refine oFb ?_ <;> (first | refine sp (po_load_ntn rfl rfl (tyT rfl) rfl) ?_ | refine sp (po_load_ntk rfl rfl (tyT rfl) rfl (by first | assumption | omega) (by assumption) rfl) ?_ | refine oLb ?_) <;> refine oFb ?_ <;> (first | refine sp (po_load_ntn rfl rfl (tyT rfl) rfl) ?_ | refine sp (po_load_ntk rfl rfl (tyT rfl) rfl (by first | assumption | omega) (by assumption) rfl) ?_ | refine oLb ?_) <;> refine oCm ?_ <;> refine oPt ?_ <;> refine oMv ?_ <;> refine oFb ?_ <;> (first | refine sp (po_load_ntn rfl rfl (tyT rfl) rfl) ?_ | refine sp (po_load_ntk rfl rfl (tyT rfl) rfl (by first | assumption | omega) (by assumption) rfl) ?_ | refine oLb ?_) <;> refine sp (po_bytes_str rfl rfl (by exact .t _) byt28 (tyR rfl)) ?_ <;> refine oFb ?_ <;> (first | refine sp (po_load_ntn rfl rfl (tyT rfl) rfl) ?_ | refine sp (po_load_ntk rfl rfl (tyT rfl) rfl (by first | assumption | omega) (by assumption) rfl) ?_ | refine oLb ?_) <;> refine sp (po_bytes_str rfl rfl (by exact .t _) byt28 (tyR rfl)) ?_ <;> refine sp (po_str rfl rfl rfl rfl) ?_ <;> refine oPt ?_ <;> refine oAs ?_ <;> refine oN ?_) | refine gc ?_ | refine ct ?_ | refine cf ?_ | refine swp_cond rfl (fun hc => ?_) (fun hc => ?_) | refine rq rfl (rt .nil) ?_)
      rfl
    · have e : sameP a b = false := by unfold sameP; rw [decide_eq_false h2]; simp
      rw [e]
      repeat' (first | (refine rg 0 ?_; refine sbx ?_; refine sbx ?_; refine oAs ?_; refine oN ?_) | (refine rg 1 ?_; refine oFb ?_; (first | refine sp (po_load_ntn rfl rfl (tyT rfl) rfl) ?_ | refine sp (po_load_ntk rfl rfl (tyT rfl) rfl (by first | assumption | omega) (by assumption) rfl) ?_ | refine oLb ?_); refine oFb ?_; (first | refine sp (po_load_ntn rfl rfl (tyT rfl) rfl) ?_ | refine sp (po_load_ntk rfl rfl (tyT rfl) rfl (by first | assumption | omega) (by assumption) rfl) ?_ | refine oLb ?_); refine oCm ?_; refine oMv ?_; refine oFb ?_ <;> (first | refine sp (po_load_ntn rfl rfl (tyT rfl) rfl) ?_ | refine sp (po_load_ntk rfl rfl (tyT rfl) rfl (by first | assumption | omega) (by assumption) rfl) ?_ | refine oLb ?_) <;> refine oFb ?_ <;> (first | refine sp (po_load_ntn rfl rfl (tyT rfl) rfl) ?_ | refine sp (po_load_ntk rfl rfl (tyT rfl) rfl (by first | assumption | omega) (by assumption) rfl) ?_ | refine oLb ?_) <;> refine oCm ?_ <;> refine oPt ?_ <;> refine oMv ?_ <;> (first | refine oFb ?_ | refine oFd ?_ | refine oK ?_) <;> (first | refine sp (po_load_ntn rfl rfl (tyT rfl) rfl) ?_ | refine sp (po_load_ntk rfl rfl (tyT rfl) rfl (by first | assumption | omega) (by assumption) rfl) ?_ | refine oLb ?_ | refine oLd ?_ | refine oK ?_) <;> (first | refine sp (po_bytes_str rfl rfl (by first | exact .t _ | exact .own rfl (by rfl) | exact .nil _ | exact .emp _) byt28 (tyR rfl)) ?_ | refine oK ?_) <;> (first | refine oFb ?_ | refine oFd ?_ | refine oK ?_) <;> (first | refine sp (po_load_ntn rfl rfl (tyT rfl) rfl) ?_ | refine sp (po_load_ntk rfl rfl (tyT rfl) rfl (by first | assumption | omega) (by assumption) rfl) ?_ | refine oLb ?_ | refine oLd ?_ | refine oK ?_) <;> (first | refine sp (po_bytes_str rfl rfl (by first | exact .t _ | exact .own rfl (by rfl) | exact .nil _ | exact .emp _) byt28 (tyR rfl)) ?_ | refine oK ?_) <;> (first | refine sp (po_str rfl rfl rfl rfl) ?_ | refine oK ?_) <;> (first | refine oPt ?_ | refine oPf ?_) <;> refine oAs ?_ <;> refine oN ?_) | refine gc ?_ | refine ct ?_ | refine cf ?_ | refine swp_cond rfl (fun hc => ?_) (fun hc => ?_) | refine rq rfl (rt .nil) ?_)
      rfl
  · have e : sameP a b = false := by unfold sameP; rw [decide_eq_false h1]; rfl
    rw [e]
    repeat' (first | (refine rg 0 ?_; refine sbx ?_; refine sbx ?_; refine oAs ?_; refine oN ?_) | (refine rg 1 ?_; refine oFb ?_; (first | refine sp (po_load_ntn rfl rfl (tyT rfl) rfl) ?_ | refine sp (po_load_ntk rfl rfl (tyT rfl) rfl (by first | assumption | omega) (by assumption) rfl) ?_ | refine oLb ?_); refine oFb ?_; (first | refine sp (po_load_ntn rfl rfl (tyT rfl) rfl) ?_ | refine sp (po_load_ntk rfl rfl (tyT rfl) rfl (by first | assumption | omega) (by assumption) rfl) ?_ | refine oLb ?_); refine oCm ?_; refine oMv ?_; (first | refine oFb ?_ | refine oFd ?_ | refine oK ?_) <;> (first | refine sp (po_load_ntn rfl rfl (tyT rfl) rfl) ?_ | refine sp (po_load_ntk rfl rfl (tyT rfl) rfl (by first | assumption | omega) (by assumption) rfl) ?_ | refine oLb ?_ | refine oLd ?_ | refine oK ?_) <;> (first | refine oFb ?_ | refine oFd ?_ | refine oK ?_) <;> (first | refine sp (po_load_ntn rfl rfl (tyT rfl) rfl) ?_ | refine sp (po_load_ntk rfl rfl (tyT rfl) rfl (by first | assumption | omega) (by assumption) rfl) ?_ | refine oLb ?_ | refine oLd ?_ | refine oK ?_) <;> (first | refine oCm ?_ | refine oK ?_) <;> (first | refine oPt ?_ | refine oPf ?_) <;> refine oMv ?_ <;> (first | refine oFb ?_ | refine oFd ?_ | refine oK ?_) <;> (first | refine sp (po_load_ntn rfl rfl (tyT rfl) rfl) ?_ | refine sp (po_load_ntk rfl rfl (tyT rfl) rfl (by first | assumption | omega) (by assumption) rfl) ?_ | refine oLb ?_ | refine oLd ?_ | refine oK ?_) <;> (first | refine sp (po_bytes_str rfl rfl (by first | exact .t _ | exact .own rfl (by rfl) | exact .nil _ | exact .emp _) byt28 (tyR rfl)) ?_ | refine oK ?_) <;> (first | refine oFb ?_ | refine oFd ?_ | refine oK ?_) <;> (first | refine sp (po_load_ntn rfl rfl (tyT rfl) rfl) ?_ | refine sp (po_load_ntk rfl rfl (tyT rfl) rfl (by first | assumption | omega) (by assumption) rfl) ?_ | refine oLb ?_ | refine oLd ?_ | refine oK ?_) <;> (first | refine sp (po_bytes_str rfl rfl (by first | exact .t _ | exact .own rfl (by rfl) | exact .nil _ | exact .emp _) byt28 (tyR rfl)) ?_ | refine oK ?_) <;> (first | refine sp (po_str rfl rfl rfl rfl) ?_ | refine oK ?_) <;> (first | refine oPt ?_ | refine oPf ?_) <;> refine oAs ?_ <;> refine oN ?_) | refine gc ?_ | refine ct ?_ | refine cf ?_ | refine swp_cond rfl (fun hc => ?_) (fun hc => ?_) | refine rq rfl (rt .nil) ?_)
    rfl
def msgC (m : PMsg) : List T := [.v (.int .i64 m.f), .v (.int .i64 m.t), bysT m.b]
def lsum (l : List PHop) : Nat := (l.map fun h => h.load.length).sum
def heavyP (l : List PHop) : Bool := decide (300 < l.length) || decide (4000000 < lsum l)
theorem lsum_take (l : List PHop) (k : Nat) (h : k < l.length) : lsum (l.take (k + 1)) = lsum (l.take k) + l[k].load.length := by
  unfold lsum
  rw [← List.take_append_getElem h, List.map_append, List.sum_append]; simp
theorem lsum_le (l : List PHop) (k : Nat) : lsum (l.take k) ≤ lsum l := by
  unfold lsum
  conv => rhs; rw [← List.take_append_drop k l, List.map_append, List.sum_append]
  omega
def hopC (h : PHop) : List T := [.v (.int .i64 h.kind), .v (.int .i64 h.f), .v (.int .i64 h.t), .v (.int .i64 h.no), bysT h.load]
def SHv (l : List PHop) (k : Nat) : St := ⟨[(0, .t (.sl 5 (l.map hopC))), (3, .t (.v (.int .i64 (4000000 - (lsum (l.take k) : Int))))), (4, .t (.v (.int .i64 (k : Int))))], [], []⟩
set_option maxRecDepth 100000 in
set_option maxHeartbeats 2000000 in
theorem heavy_ (l : List PHop) (hl : l.length ≤ 9223372036854775807) (hb : ∀ h ∈ l, h.load.length ≤ 9223372036854775807) : PCalls Try.prog 10 [.sl 5 (l.map hopC)] (.v (.bool (heavyP l))) := by
  have hlm : (l.map hopC).length = l.length := List.length_map _
  refine pcalls_of Try.func10 rfl rfl Try.ntmps10 rfl ?_
  repeat' (first | (refine rg 0 ?_; refine oAs ?_; refine oN ?_) | (refine rg 1 ?_; refine oAs ?_; refine oN ?_) | (refine rg 2 ?_; refine oAs ?_; refine oN ?_) | refine gc ?_ | refine ct ?_ | refine cf ?_ | refine swp_cond rfl (fun hc => ?_) (fun hc => ?_) | refine rq rfl (rt .nil) ?_)
  refine swp_for (SHv l) (fun k => lsum (l.take k) ≤ 9223372036858775807) l.length ?_ (by show lsum [] ≤ _; unfold lsum; simp) ?_
  · exact (weak_sub (.cons rfl rfl rfl (.cons rfl rfl rfl (.cons rfl rfl rfl .nil))) .nil .nil)
  intro k hk hI
  unfold SHv
  by_cases hlt : k < l.length
  · by_cases hle : lsum (l.take k) ≤ 4000000
    · have hle' : (0 : Int) ≤ 4000000 - (lsum (l.take k) : Int) := by omega
      have hat : (l.map hopC)[k]? = some (hopC l[k]) := by rw [List.getElem?_map, List.getElem?_eq_getElem hlt]; rfl
      have hbk := hb _ (List.getElem_mem hlt)
      have hmk : (l[k].load.map byteT).length = l[k].load.length := List.length_map _
      have e0 := lsum_take l k hlt
      have e1 : 4000000 - (lsum (l.take (k + 1)) : Int) = 4000000 - (lsum (l.take k) : Int) - ((l[k].load.map byteT).length : Int) := by rw [e0, hmk]; omega
      unfold hopC bysT at hat
      repeat' (first | refine for_next hlt (weak_sub (.cons rfl (by rfl) rfl (.cons rfl (by first | rfl | ((rw [e1]; try rfl))) rfl (.cons rfl (by rfl) rfl .nil))) .nil .nil) (by rw [e0]; omega) | (refine rg 3 ?_; refine oMv ?_; refine oMv ?_; refine sp (pln rfl (tyS rfl)) ?_; refine oCm ?_; refine oMv ?_; refine oMv ?_ <;> refine oCm ?_ <;> refine oPt ?_ <;> refine oN ?_) | (refine rg 5 ?_; refine oMv ?_; refine oMv ?_; refine oMv ?_; (first | refine sp (po_index_arr rfl rfl rfl arr22 rfl (by first | omega | assumption)) ?_ | refine sp (pix rfl (tyS rfl)) ?_); (first | refine oFb ?_ | refine oFd ?_); (first | refine sp (po_load_ntn rfl rfl (tyT rfl) rfl) ?_ | refine sp (po_load_ntk rfl rfl (tyT rfl) rfl (by first | assumption | omega) (by assumption) rfl) ?_ | refine oLb ?_ | refine oLd ?_); refine sp (pln rfl (tyS rfl)) ?_; (first | refine sp (po_dec rfl rfl rfl (by omega)) ?_ | refine sp (po_arith rfl rfl rfl (ar_sub (by first | rfl | (refine wrap_i64 ?_; omega)) rfl)) ?_); refine oAs ?_; refine oN ?_) | (refine rg 4 ?_; refine oMv ?_; refine sp (xinc rfl) ?_; refine oAs ?_; refine oN ?_) | refine gc ?_ | refine ct ?_)
    · have hlt0 : (4000000 - (lsum (l.take k) : Int)) < 0 := by omega
      have hh : heavyP l = true := by
        unfold heavyP
        have := lsum_le l k
        rw [decide_eq_true (show 4000000 < lsum l by omega), Bool.or_true]
      rw [hh]
      by_cases h300 : 300 < l.length
      · repeat' (first | (refine rg 3 ?_; refine oMv ?_; refine oMv ?_; refine sp (pln rfl (tyS rfl)) ?_; refine oCm ?_; refine oMv ?_; refine oMv ?_ <;> refine oCm ?_ <;> refine oPt ?_ <;> refine oN ?_) | (refine rg 6 ?_; refine oMv ?_; refine sp (pln rfl (tyS rfl)) ?_; refine oCm ?_; refine oMv ?_; (first | refine oMv ?_ | refine oK ?_) <;> (first | refine oCm ?_ | refine oK ?_) <;> refine oPt ?_ <;> refine oAs ?_ <;> refine oN ?_) | refine gc ?_ | refine ct ?_ | refine cf ?_ | refine swp_cond rfl (fun hc => ?_) (fun hc => ?_) | refine rq rfl (rt .nil) ?_)
        rfl
      · repeat' (first | (refine rg 3 ?_; refine oMv ?_; refine oMv ?_; refine sp (pln rfl (tyS rfl)) ?_; refine oCm ?_; refine oMv ?_; refine oMv ?_ <;> refine oCm ?_ <;> refine oPt ?_ <;> refine oN ?_) | (refine rg 6 ?_; refine oMv ?_; refine sp (pln rfl (tyS rfl)) ?_; refine oCm ?_; refine oMv ?_; refine oMv ?_ <;> refine oCm ?_ <;> (first | refine oPt ?_ | refine oPf ?_) <;> refine oAs ?_ <;> refine oN ?_) | refine gc ?_ | refine ct ?_ | refine cf ?_ | refine swp_cond rfl (fun hc => ?_) (fun hc => ?_) | refine rq rfl (rt .nil) ?_)
        exact eq_b (decide_eq_true hlt0).symm
  · obtain rfl : k = l.length := by omega
    rw [List.take_length]
    by_cases h300 : 300 < l.length
    · have hh : heavyP l = true := by unfold heavyP; rw [decide_eq_true h300, Bool.true_or]
      rw [hh]
      repeat' (first | (refine rg 3 ?_; refine oMv ?_; refine oMv ?_; refine sp (pln rfl (tyS rfl)) ?_; refine oCm ?_; refine oMv ?_; (first | refine oMv ?_ | refine oK ?_) <;> (first | refine oCm ?_ | refine oK ?_) <;> (first | refine oPt ?_ | refine oPf ?_) <;> refine oN ?_) | (refine rg 6 ?_; refine oMv ?_; refine sp (pln rfl (tyS rfl)) ?_; refine oCm ?_; refine oMv ?_; (first | refine oMv ?_ | refine oK ?_) <;> (first | refine oCm ?_ | refine oK ?_) <;> refine oPt ?_ <;> refine oAs ?_ <;> refine oN ?_) | refine gc ?_ | refine ct ?_ | refine cf ?_ | refine swp_cond rfl (fun hc => ?_) (fun hc => ?_) | refine rq rfl (rt .nil) ?_)
      rfl
    · by_cases hs : 4000000 < lsum l
      · have hh : heavyP l = true := by unfold heavyP; rw [decide_eq_true hs, Bool.or_true]
        have hs' : (4000000 - (lsum l : Int)) < 0 := by omega
        rw [hh]
        repeat' (first | (refine rg 3 ?_; refine oMv ?_; refine oMv ?_; refine sp (pln rfl (tyS rfl)) ?_; refine oCm ?_; refine oMv ?_; (first | refine oMv ?_ | refine oK ?_) <;> (first | refine oCm ?_ | refine oK ?_) <;> (first | refine oPt ?_ | refine oPf ?_) <;> refine oN ?_) | (refine rg 6 ?_; refine oMv ?_; refine sp (pln rfl (tyS rfl)) ?_; refine oCm ?_; refine oMv ?_; refine oMv ?_ <;> refine oCm ?_ <;> (first | refine oPt ?_ | refine oPf ?_) <;> refine oAs ?_ <;> refine oN ?_) | refine gc ?_ | refine ct ?_ | refine cf ?_ | refine swp_cond rfl (fun hc => ?_) (fun hc => ?_) | refine rq rfl (rt .nil) ?_)
        exact eq_b (decide_eq_true hs').symm
      · have hh : heavyP l = false := by unfold heavyP; rw [decide_eq_false h300, decide_eq_false hs]; rfl
        have hs' : ¬ ((4000000 - (lsum l : Int)) < 0) := by omega
        rw [hh]
        repeat' (first | (refine rg 3 ?_; refine oMv ?_; refine oMv ?_; refine sp (pln rfl (tyS rfl)) ?_; refine oCm ?_; refine oMv ?_; (first | refine oMv ?_ | refine oK ?_) <;> (first | refine oCm ?_ | refine oK ?_) <;> (first | refine oPt ?_ | refine oPf ?_) <;> refine oN ?_) | (refine rg 6 ?_; refine oMv ?_; refine sp (pln rfl (tyS rfl)) ?_; refine oCm ?_; refine oMv ?_; refine oMv ?_ <;> refine oCm ?_ <;> (first | refine oPt ?_ | refine oPf ?_) <;> refine oAs ?_ <;> refine oN ?_) | refine gc ?_ | refine ct ?_ | refine cf ?_ | refine swp_cond rfl (fun hc => ?_) (fun hc => ?_) | refine rq rfl (rt .nil) ?_)
        exact eq_b (decide_eq_false hs').symm
theorem light {l : List PHop} (h : heavyP l = false) : l.length ≤ 300 ∧ lsum l ≤ 4000000 ∧ ∀ x ∈ l, x.load.length ≤ 4000000 := by
  unfold heavyP at h
  rw [Bool.or_eq_false_iff, decide_eq_false_iff_not, decide_eq_false_iff_not] at h
  refine ⟨by omega, by omega, fun x hx => ?_⟩
  obtain ⟨k, hk, rfl⟩ := List.getElem_of_mem hx
  have h1 := lsum_take l k hk
  have h2 := lsum_le l (k + 1)
  omega
end Go.Proofs.Ytgbcmjcaggnobaa.Sim

/- The laws' parts that ask a net: row, rest, like, played. -/
namespace Go.Proofs.Ytgbcmjcaggnobaa.Sim
set_option linter.unusedVariables false
set_option linter.unusedSimpArgs false
open Go.RowKit Mem
def msOf (d : PNet) (p : Nat × Nat) (l : List (List UInt8)) : List PMsg := l.map fun b => ⟨p.1, p.2, b⟩
def restA (d : PNet) (l : List (Nat × Nat)) : List PMsg := l.flatMap fun p => msOf d p (d.row (keyP p))
def restP (d : PNet) : List PMsg := restA d (linksP d)
theorem restA_s (d : PNet) (l : List (Nat × Nat)) (p : Nat × Nat) : restA d (l ++ [p]) = restA d l ++ msOf d p (d.row (keyP p)) := by unfold restA; rw [List.flatMap_append]; simp
theorem restA_len {d : PNet} (hd : NetOk d) (l : List (Nat × Nat)) : (restA d l).length ≤ 32 * l.length := by
  induction l with
  | nil => exact Nat.le_refl _
  | cons p l ih =>
    have h1 := hd.len (keyP p)
    have : restA d (p :: l) = msOf d p (d.row (keyP p)) ++ restA d l := rfl
    rw [this, List.length_append]
    unfold msOf
    rw [List.length_map, List.length_cons]; omega
def SR1 (d : PNet) (j : Nat) : St := ⟨[(0, .bp 3000 0), (3, .own 100 ((restA d ((linksP d).take j)).map msgC).length), (4, .t (.sl 3 ((linksP d).map (linkT d)))), (5, .t (.v (.int .i64 (j : Int))))], netN d, [(100, ⟨32, 3, (restA d ((linksP d).take j)).map msgC⟩)]⟩
def SR2 (d : PNet) (j : Nat) (p : Nat × Nat) (i : Nat) : St := ⟨[(0, .bp 3000 0), (3, .own 100 ((restA d ((linksP d).take j) ++ msOf d p ((d.row (keyP p)).take i)).map msgC).length), (4, .t (.sl 3 ((linksP d).map (linkT d)))), (5, .t (.v (.int .i64 (j : Int)))), (6, .t (.v (.int .i64 (i : Int))))], netN d, [(100, ⟨32, 3, (restA d ((linksP d).take j) ++ msOf d p ((d.row (keyP p)).take i)).map msgC⟩)]⟩
set_option maxRecDepth 100000 in
set_option maxHeartbeats 4000000 in
theorem rest_ (d : PNet) (hd : NetOk d) : LCalls Try.prog 16 [.bp 3000 0] (netN d) [] (.t (.sl 3 ((restP d).map msgC))) (netN d) [] := by
  have c1 := links_ d hd
  have hm : ((linksP d).map (linkT d)).length = (linksP d).length := List.length_map _
  have hl81 := links_len d hd.n
  refine lcalls_of Try.func16 rfl rfl Try.ntmps16 rfl ?_
  repeat' (first | (refine rg 0 ?_; refine oAs ?_; refine oN ?_) | (refine rg 1 ?_; refine oAs ?_; refine oN ?_) | (refine rg 2 ?_; refine oMv ?_; refine sops_lcall (c1) (fun i => i) (fun i => i) (fun _ => false) (.free rfl rfl) rfl rfl rfl (by ((repeat' (first | exact .nil | refine .cons rfl rfl rfl ?_)) <;> fail)) (.cons rfl rfl .nil) .nil rfl rfl (fun _ h => Bool.noConfusion h) ?_; refine oAs ?_; refine oN ?_) | (refine rg 3 ?_; refine oAs ?_; refine oN ?_) | refine gc ?_ | refine ct ?_ | refine cf ?_ | refine swp_cond rfl (fun hc => ?_) (fun hc => ?_) | refine rq rfl (rt .nil) ?_)
  refine swp_for (SR1 d) (fun _ => True) (linksP d).length ?_ trivial ?_
  · refine Weak.trans (weak_own0 (i := 100) 32 3 (s := 3) rfl rfl) ?_
    exact (weak_sub (.cons rfl rfl rfl (.cons rfl rfl rfl (.cons rfl rfl rfl (.cons rfl rfl rfl .nil)))) (.cons rfl rfl rfl .nil) (.cons rfl rfl .nil))
  intro j hj _
  unfold SR1
  by_cases hlt : j < (linksP d).length
  · have hlt' : (j : Int) < (linksP d).length := by omega
    have hat : ((linksP d).map (linkT d))[j]? = some (linkT d (linksP d)[j]) := by rw [List.getElem?_map, List.getElem?_eq_getElem hlt]; rfl
    have hmem := (mem_links.1 (List.getElem_mem hlt)).1
    have hle := lenP_link hmem
    have hs : restA d ((linksP d).take (j + 1)) = restA d ((linksP d).take j) ++ msOf d (linksP d)[j] (d.row (keyP (linksP d)[j])) := by rw [← List.take_append_getElem hlt, restA_s]
    have hrl := restA_len hd ((linksP d).take j)
    rw [List.length_take] at hrl
    unfold linkT at hat
    rw [hle] at hat
    repeat' (first | (refine rg 4 ?_; refine oMv ?_; refine oMv ?_; refine sp (pln rfl (tyS rfl)) ?_; refine oCm ?_; refine oN ?_) | (refine rg 6 ?_; refine oAs ?_; refine oN ?_) | refine gc ?_ | refine ct ?_ | refine cf ?_ | refine swp_cond rfl (fun hc => ?_) (fun hc => ?_) | refine rq rfl (rt .nil) ?_)
    generalize (linksP d)[j] = p at *
    have hp0 : restA d ((linksP d).take j) ++ msOf d p ((d.row (keyP p)).take 0) = restA d ((linksP d).take j) := by rw [List.take_zero]; show _ ++ [] = _; rw [List.append_nil]
    refine swp_for (SR2 d j p) (fun _ => True) (d.row (keyP p)).length ?_ trivial ?_
    · exact (weak_sub (.cons rfl (by first | rfl | ((rw [hp0]; try rfl))) rfl (.cons rfl (by first | rfl | ((rw [hp0]; try rfl))) rfl (.cons rfl (by first | rfl | ((rw [hp0]; try rfl))) rfl (.cons rfl (by first | rfl | ((rw [hp0]; try rfl))) rfl (.cons rfl (by first | rfl | ((rw [hp0]; try rfl))) rfl .nil))))) (.cons rfl (by first | rfl | ((rw [hp0]; try rfl))) rfl .nil) (.cons rfl (by first | rfl | ((rw [hp0]; try rfl))) .nil))
    intro i hi _
    unfold SR2
    by_cases hli : i < (d.row (keyP p)).length
    · have hli' : (i : Int) < (d.row (keyP p)).length := by omega
      have c3 := at_ok d hd p.1 p.2 i hmem hli
      have hlen := hd.len (keyP p)
      have hml : ((restA d ((linksP d).take j) ++ msOf d p ((d.row (keyP p)).take i)).map msgC).length ≤ 3000 := by
        rw [List.length_map, List.length_append]; unfold msOf; rw [List.length_map, List.length_take]; omega
      have e1 : (restA d ((linksP d).take j) ++ msOf d p ((d.row (keyP p)).take (i + 1))).map msgC = (restA d ((linksP d).take j) ++ msOf d p ((d.row (keyP p)).take i)).map msgC ++ [msgC ⟨p.1, p.2, (d.row (keyP p))[i]⟩] := by
        have e2 : msOf d p ((d.row (keyP p)).take (i + 1)) = msOf d p ((d.row (keyP p)).take i) ++ [⟨p.1, p.2, (d.row (keyP p))[i]⟩] := by unfold msOf; rw [← List.take_append_getElem hli, List.map_append]; rfl
        rw [e2, ← List.append_assoc, List.map_append]; rfl
      unfold msgT at c3
      repeat' (first | refine for_next hli (weak_sub (.cons rfl (by rfl) rfl (.cons rfl (by first | rfl | ((rw [e1]; try rfl))) rfl (.cons rfl (by rfl) rfl (.cons rfl (by rfl) rfl (.cons rfl (by rfl) rfl .nil))))) (.cons rfl (by rfl) rfl .nil) (.cons rfl (by first | rfl | ((rw [e1]; try rfl))) .nil)) trivial | (refine rg 7 ?_; refine oMv ?_; refine oMv ?_; refine oMv ?_; (first | refine sp (ixo rfl) ?_ | refine sp (po_index_arr rfl rfl rfl arr58 rfl (by first | omega | assumption)) ?_ | refine sp (pix rfl (tyS rfl)) ?_); (first | refine oFb ?_ | refine oFd ?_); (first | refine sp (po_load_ntn rfl rfl (tyT rfl) rfl) ?_ | refine sp (po_load_ntk rfl rfl (tyT rfl) rfl (by first | assumption | omega) (by assumption) rfl) ?_ | refine oLb ?_ | refine oLd ?_); refine oCm ?_; refine oN ?_) | ((refine swp_any (id := 9) [[], [], [], [], [], [], [], [], [], [], [], [], [3000], [], [], [], [7], [7], []] [[7], [7], [7], [7], [7], [7], [7], [7], [7], [7], [7], [7], [7], [7], [7], [7], [3000], [], []] mixed (by kernel_rfl) ?_) <;> refine yp (fun _ _ => po_move rfl rfl) ?_ <;> refine yp (fun _ _ => po_move rfl rfl) ?_ <;> refine yp (fun _ _ => po_move rfl rfl) ?_ <;> (first | refine yp (fun _ _ => po_index_own rfl rfl rfl (by rfl) rfl (tyS rfl) (by rfl) (by first | assumption | omega)) ?_ | refine yp (fun _ _ => po_index_arr rfl rfl rfl arr58 rfl (by first | omega | assumption)) ?_ | refine yp (fun _ _ => pix rfl (tyS rfl)) ?_) <;> (first | refine yp (fun _ _ => po_field_bx rfl rfl (tyF rfl)) ?_ | refine yp (fun _ _ => po_field rfl rfl (tyF rfl)) ?_) <;> (first | refine yp (fun _ _ => po_load_ntn rfl rfl (tyT rfl) rfl) ?_ | refine yp (fun _ _ => po_load_ntk rfl rfl (tyT rfl) rfl (by first | assumption | omega) (by assumption) rfl) ?_ | refine yp (fun _ _ => po_load_bx rfl rfl (tyT rfl) rfl rfl) ?_ | refine yp (fun _ _ => po_load rfl rfl (tyT rfl) rfl) ?_) <;> refine yp (fun _ _ => po_move rfl rfl) ?_ <;> refine yp (fun _ _ => po_move rfl rfl) ?_ <;> (first | refine yp (fun _ _ => po_index_own rfl rfl rfl (by rfl) rfl (tyS rfl) (by rfl) (by first | assumption | omega)) ?_ | refine yp (fun _ _ => po_index_arr rfl rfl rfl arr58 rfl (by first | omega | assumption)) ?_ | refine yp (fun _ _ => pix rfl (tyS rfl)) ?_) <;> (first | refine yp (fun _ _ => po_field_bx rfl rfl (tyF rfl)) ?_ | refine yp (fun _ _ => po_field rfl rfl (tyF rfl)) ?_) <;> (first | refine yp (fun _ _ => po_load_ntn rfl rfl (tyT rfl) rfl) ?_ | refine yp (fun _ _ => po_load_ntk rfl rfl (tyT rfl) rfl (by first | assumption | omega) (by assumption) rfl) ?_ | refine yp (fun _ _ => po_load_bx rfl rfl (tyT rfl) rfl rfl) ?_ | refine yp (fun _ _ => po_load rfl rfl (tyT rfl) rfl) ?_) <;> refine yp (fun _ _ => po_move rfl rfl) ?_ <;> (refine sany_eff [(3000, _)] [] (.free rfl rfl) rfl rfl (fun _ _ hb ho => e_lcall (c3) (fun i => i) (fun i => i) rfl (by ((repeat' (first | exact .nil | refine .cons rfl rfl rfl ?_)) <;> fail)) (.cons rfl rfl .nil) .nil rfl rfl (by ((repeat' (first | exact .nil | refine .old rfl ?_)) <;> fail)) (by ((repeat' (exact .nil)) <;> fail)) .nil) ?_) <;> refine yp (fun _ _ => po_move rfl rfl) ?_ <;> (first | refine yp (fun _ _ => po_extract rfl rfl rfl) ?_ | refine yp (fun _ _ => po_extract_tu rfl rfl rfl) ?_) <;> (first | refine yp (fun _ _ => po_extract rfl rfl rfl) ?_ | refine yp (fun _ _ => po_extract_tu rfl rfl rfl) ?_) <;> refine sany_eff [(7, _)] [] (.free rfl rfl) rfl rfl (fun _ _ hb _ => e_allocS str32 rfl (hb 7 rfl rfl)) ?_ <;> refine sany_eff [(7, _)] [] (.free rfl rfl) rfl rfl (fun _ _ _ _ => e_store rfl rfl rfl rfl rfl rfl (tyT rfl) rfl rfl) ?_ <;> refine yp (fun _ _ => po_assign rfl rfl) ?_ <;> refine sany_nil ?_) | (refine rg 10 ?_; refine oMv ?_; (refine sp (po_load_bx_agg rfl rfl (tyT rfl) rfl (vc (vc (vc .nil))) rfl) ?_); refine sp (po_buildSlice rfl (tyE rfl) (dc (.nil _)) rfl rfl rfl) ?_; refine sap rfl (tyE rfl) ?_; refine oAs ?_; refine oN ?_) | (refine rg 8 ?_; refine oMv ?_; refine sp (xinc rfl) ?_; refine oAs ?_; refine oN ?_) | refine gc ?_ | refine ct ?_)
    · obtain rfl : i = (d.row (keyP p)).length := by omega
      rw [List.take_length, ← hs]
      repeat' (first | refine for_next hlt (weak_sub (.cons rfl rfl rfl (.cons rfl rfl rfl (.cons rfl rfl rfl (.cons rfl rfl rfl .nil)))) (.cons rfl rfl rfl .nil) (.cons rfl rfl .nil)) trivial | (refine rg 7 ?_; refine oMv ?_; refine oMv ?_; refine oMv ?_; (first | refine sp (ixo rfl) ?_ | refine sp (po_index_arr rfl rfl rfl arr58 rfl (by first | omega | assumption)) ?_ | refine sp (pix rfl (tyS rfl)) ?_); (first | refine oFb ?_ | refine oFd ?_); (first | refine sp (po_load_ntn rfl rfl (tyT rfl) rfl) ?_ | refine sp (po_load_ntk rfl rfl (tyT rfl) rfl (by first | assumption | omega) (by assumption) rfl) ?_ | refine oLb ?_ | refine oLd ?_); refine oCm ?_; refine oN ?_) | (refine rg 5 ?_; refine oMv ?_; refine sp (xinc rfl) ?_; refine oAs ?_; refine oN ?_) | refine gc ?_ | refine ct ?_ | refine cf ?_)
  · obtain rfl : j = (linksP d).length := by omega
    rw [List.take_length]
    repeat' (first | (refine rg 4 ?_; refine oMv ?_; refine oMv ?_; refine sp (pln rfl (tyS rfl)) ?_; refine oCm ?_; refine oN ?_) | (refine rg 11 ?_; refine oMv ?_; refine oAs ?_; refine oN ?_) | refine gc ?_ | refine ct ?_ | refine cf ?_ | refine swp_cond rfl (fun hc => ?_) (fun hc => ?_) | refine retl (by exact .inr rfl) rfl (.tmpT rfl (by first | exact .t _ | exact .own rfl (by rfl) | exact .nil _ | exact .emp _ | exact .fn _) .nil) ?_ rfl (.cons rfl (by rfl) rfl .nil) .nil)
    rfl
end Go.Proofs.Ytgbcmjcaggnobaa.Sim
