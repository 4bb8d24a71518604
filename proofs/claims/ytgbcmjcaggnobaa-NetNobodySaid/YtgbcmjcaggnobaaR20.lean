/- Merged by bundles.py: SimLa, SimLc. -/
import Derived.Test.YtgbcmjcaggnobaaR19
/- The laws' pure parts: Same, many, texts, heavy. -/
namespace Go.Proofs.Ytgbcmjcaggnobaa.Sim
set_option linter.unusedVariables false
set_option linter.unusedSimpArgs false
open Go.RowKit Mem
theorem byt28 : byE Try.prog 28 = some 5 := by kernel_rfl
def sameP (a b : PMsg) : Bool := decide (a.f = b.f) && (decide (a.t = b.t) && decide (a.b = b.b))
theorem bs_eq {a b : List UInt8} : (bs a = bs b) ↔ a = b := ⟨fun h => by rw [← bs_toList a, ← bs_toList b, h], fun h => by rw [h]⟩
set_option maxRecDepth 100000 in
theorem same_ (a b : PMsg) (ha : a.b.length ≤ 140737488355328) (hb : b.b.length ≤ 140737488355328) : PCalls Try.prog 18 [msgA a, msgA b] (.v (.bool (sameP a b))) := by
  have hm1 : (a.b.map byteT).length = a.b.length := List.length_map _
  have hm2 : (b.b.map byteT).length = b.b.length := List.length_map _
  have hmx1 : a.b.length ≤ maxLen := by unfold maxLen; omega
  have hmx2 : b.b.length ≤ maxLen := by unfold maxLen; omega
  unfold msgA msgT bysT
  refine pcalls_of Try.func18 rfl rfl Try.ntmps18 rfl ?_
  by_cases h1 : a.f = b.f
  · by_cases h2 : a.t = b.t
    · have e : sameP a b = decide (bs a.b = bs b.b) := by unfold sameP; rw [decide_eq_true h1, decide_eq_true h2, Bool.true_and, Bool.true_and, decide_eq_decide]; exact bs_eq.symm
      rw [e]
      repeat' (first | (refine rg 0 ?_; refine sbx ?_; refine sbx ?_; refine oAs ?_; refine oN ?_) | (refine rg 1 ?_; refine oFb ?_; (first | refine sp (po_load_ntn rfl rfl (tyT rfl) rfl) ?_ | refine sp (po_load_ntk rfl rfl (tyT rfl) rfl (by first | assumption | omega) (by assumption) rfl) ?_ | refine oLb ?_); refine oFb ?_; (first | refine sp (po_load_ntn rfl rfl (tyT rfl) rfl) ?_ | refine sp (po_load_ntk rfl rfl (tyT rfl) rfl (by first | assumption | omega) (by assumption) rfl) ?_ | refine oLb ?_); refine oCm ?_; refine oMv ?_; refine oFb ?_ <;> (first | refine sp (po_load_ntn rfl rfl (tyT rfl) rfl) ?_ | refine sp (po_load_ntk rfl rfl (tyT rfl) rfl (by first | assumption | omega) (by assumption) rfl) ?_ | refine oLb ?_) <;> refine oFb ?_ <;> (first | refine sp (po_load_ntn rfl rfl (tyT rfl) rfl) ?_ | refine sp (po_load_ntk rfl rfl (tyT rfl) rfl (by first | assumption | omega) (by assumption) rfl) ?_ | refine oLb ?_) <;> refine oCm ?_ <;> refine oPt ?_ <;> refine oMv ?_ <;> refine oFb ?_ <;> (first | refine sp (po_load_ntn rfl rfl (tyT rfl) rfl) ?_ | refine sp (po_load_ntk rfl rfl (tyT rfl) rfl (by first | assumption | omega) (by assumption) rfl) ?_ | refine oLb ?_) <;> refine sp (po_bytes_str rfl rfl (by exact .t _) byt28 (tyR rfl)) ?_ <;> refine oFb ?_ <;> (first | refine sp (po_load_ntn rfl rfl (tyT rfl) rfl) ?_ | refine sp (po_load_ntk rfl rfl (tyT rfl) rfl (by first | assumption | omega) (by assumption) rfl) ?_ | refine oLb ?_) <;> refine sp (po_bytes_str rfl rfl (by exact .t _) byt28 (tyR rfl)) ?_ <;> refine sp (po_str rfl rfl rfl rfl) ?_ <;> refine oPt ?_ <;> refine oAs ?_ <;> refine oN ?_) | refine gc ?_ | refine ct ?_ | refine cf ?_ | refine swp_cond rfl (fun hc => ?_) (fun hc => ?_) | refine rq rfl (rt .nil) ?_)
      rfl
    · have e : sameP a b = false := by unfold sameP; rw [decide_eq_false h2]; simp
      rw [e]
      repeat' (first | (refine rg 0 ?_; refine sbx ?_; refine sbx ?_; refine oAs ?_; refine oN ?_) | (refine rg 1 ?_; refine oFb ?_; (first | refine sp (po_load_ntn rfl rfl (tyT rfl) rfl) ?_ | refine sp (po_load_ntk rfl rfl (tyT rfl) rfl (by first | assumption | omega) (by assumption) rfl) ?_ | refine oLb ?_); refine oFb ?_; (first | refine sp (po_load_ntn rfl rfl (tyT rfl) rfl) ?_ | refine sp (po_load_ntk rfl rfl (tyT rfl) rfl (by first | assumption | omega) (by assumption) rfl) ?_ | refine oLb ?_); refine oCm ?_; refine oMv ?_; refine oFb ?_ <;> (first | refine sp (po_load_ntn rfl rfl (tyT rfl) rfl) ?_ | refine sp (po_load_ntk rfl rfl (tyT rfl) rfl (by first | assumption | omega) (by assumption) rfl) ?_ | refine oLb ?_) <;> refine oFb ?_ <;> (first | refine sp (po_load_ntn rfl rfl (tyT rfl) rfl) ?_ | refine sp (po_load_ntk rfl rfl (tyT rfl) rfl (by first | assumption | omega) (by assumption) rfl) ?_ | refine oLb ?_) <;> refine oCm ?_ <;> refine oPt ?_ <;> refine oMv ?_ <;> (first | refine oFb ?_ | refine oFd ?_ | refine oK ?_) <;> (first | refine sp (po_load_ntn rfl rfl (tyT rfl) rfl) ?_ | refine sp (po_load_ntk rfl rfl (tyT rfl) rfl (by first | assumption | omega) (by assumption) rfl) ?_ | refine oLb ?_ | refine oLd ?_ | refine oK ?_) <;> (first | refine sp (po_bytes_str rfl rfl (by first | exact .t _ | exact .own rfl (by rfl) | exact .nil _ | exact .emp _) byt28 (tyR rfl)) ?_ | refine oK ?_) <;> (first | refine oFb ?_ | refine oFd ?_ | refine oK ?_) <;> (first | refine sp (po_load_ntn rfl rfl (tyT rfl) rfl) ?_ | refine sp (po_load_ntk rfl rfl (tyT rfl) rfl (by first | assumption | omega) (by assumption) rfl) ?_ | refine oLb ?_ | refine oLd ?_ | refine oK ?_) <;> (first | refine sp (po_bytes_str rfl rfl (by first | exact .t _ | exact .own rfl (by rfl) | exact .nil _ | exact .emp _) byt28 (tyR rfl)) ?_ | refine oK ?_) <;> (first | refine sp (po_str rfl rfl rfl rfl) ?_ | refine oK ?_) <;> (first | refine oPt ?_ | refine oPf ?_) <;> refine oAs ?_ <;> refine oN ?_) | refine gc ?_ | refine ct ?_ | refine cf ?_ | refine swp_cond rfl (fun hc => ?_) (fun hc => ?_) | refine rq rfl (rt .nil) ?_)
      rfl
  · have e : sameP a b = false := by unfold sameP; rw [decide_eq_false h1]; rfl
    rw [e]
    repeat' (first | (refine rg 0 ?_; refine sbx ?_; refine sbx ?_; refine oAs ?_; refine oN ?_) | (refine rg 1 ?_; refine oFb ?_; (first | refine sp (po_load_ntn rfl rfl (tyT rfl) rfl) ?_ | refine sp (po_load_ntk rfl rfl (tyT rfl) rfl (by first | assumption | omega) (by assumption) rfl) ?_ | refine oLb ?_); refine oFb ?_; (first | refine sp (po_load_ntn rfl rfl (tyT rfl) rfl) ?_ | refine sp (po_load_ntk rfl rfl (tyT rfl) rfl (by first | assumption | omega) (by assumption) rfl) ?_ | refine oLb ?_); refine oCm ?_; refine oMv ?_; (first | refine oFb ?_ | refine oFd ?_ | refine oK ?_) <;> (first | refine sp (po_load_ntn rfl rfl (tyT rfl) rfl) ?_ | refine sp (po_load_ntk rfl rfl (tyT rfl) rfl (by first | assumption | omega) (by assumption) rfl) ?_ | refine oLb ?_ | refine oLd ?_ | refine oK ?_) <;> (first | refine oFb ?_ | refine oFd ?_ | refine oK ?_) <;> (first | refine sp (po_load_ntn rfl rfl (tyT rfl) rfl) ?_ | refine sp (po_load_ntk rfl rfl (tyT rfl) rfl (by first | assumption | omega) (by assumption) rfl) ?_ | refine oLb ?_ | refine oLd ?_ | refine oK ?_) <;> (first | refine oCm ?_ | refine oK ?_) <;> (first | refine oPt ?_ | refine oPf ?_) <;> refine oMv ?_ <;> (first | refine oFb ?_ | refine oFd ?_ | refine oK ?_) <;> (first | refine sp (po_load_ntn rfl rfl (tyT rfl) rfl) ?_ | refine sp (po_load_ntk rfl rfl (tyT rfl) rfl (by first | assumption | omega) (by assumption) rfl) ?_ | refine oLb ?_ | refine oLd ?_ | refine oK ?_) <;> (first | refine sp (po_bytes_str rfl rfl (by first | exact .t _ | exact .own rfl (by rfl) | exact .nil _ | exact .emp _) byt28 (tyR rfl)) ?_ | refine oK ?_) <;> (first | refine oFb ?_ | refine oFd ?_ | refine oK ?_) <;> (first | refine sp (po_load_ntn rfl rfl (tyT rfl) rfl) ?_ | refine sp (po_load_ntk rfl rfl (tyT rfl) rfl (by first | assumption | omega) (by assumption) rfl) ?_ | refine oLb ?_ | refine oLd ?_ | refine oK ?_) <;> (first | refine sp (po_bytes_str rfl rfl (by first | exact .t _ | exact .own rfl (by rfl) | exact .nil _ | exact .emp _) byt28 (tyR rfl)) ?_ | refine oK ?_) <;> (first | refine sp (po_str rfl rfl rfl rfl) ?_ | refine oK ?_) <;> (first | refine oPt ?_ | refine oPf ?_) <;> refine oAs ?_ <;> refine oN ?_) | refine gc ?_ | refine ct ?_ | refine cf ?_ | refine swp_cond rfl (fun hc => ?_) (fun hc => ?_) | refine rq rfl (rt .nil) ?_)
    rfl
def lsum (l : List PHop) : Nat := (l.map fun h => h.load.length).sum
def heavyP (l : List PHop) : Bool := decide (300 < l.length) || decide (4000000 < lsum l)
theorem lsum_take (l : List PHop) (k : Nat) (h : k < l.length) : lsum (l.take (k + 1)) = lsum (l.take k) + l[k].load.length := by
  unfold lsum
  rw [← List.take_append_getElem h, List.map_append, List.sum_append]; simp
theorem lsum_le (l : List PHop) (k : Nat) : lsum (l.take k) ≤ lsum l := by
  unfold lsum
  conv => rhs; rw [← List.take_append_drop k l, List.map_append, List.sum_append]
  omega
def hopC (h : PHop) : List T := [.v (.int .i64 h.kind), .v (.int .i64 h.f), .v (.int .i64 h.t), .v (.int .i64 h.no), bysT h.load]
def SHv (l : List PHop) (k : Nat) : St := ⟨[(0, .t (.sl 5 (l.map hopC))), (3, .t (.v (.int .i64 (4000000 - (lsum (l.take k) : Int))))), (4, .t (.v (.int .i64 (k : Int))))], [], []⟩
set_option maxRecDepth 100000 in
set_option maxHeartbeats 2000000 in
theorem heavy_ (l : List PHop) (hl : l.length ≤ 9223372036854775807) (hb : ∀ h ∈ l, h.load.length ≤ 9223372036854775807) : PCalls Try.prog 10 [.sl 5 (l.map hopC)] (.v (.bool (heavyP l))) := by
  have hlm : (l.map hopC).length = l.length := List.length_map _
  refine pcalls_of Try.func10 rfl rfl Try.ntmps10 rfl ?_
  repeat' (first | (refine rg 0 ?_; refine oAs ?_; refine oN ?_) | (refine rg 1 ?_; refine oAs ?_; refine oN ?_) | (refine rg 2 ?_; refine oAs ?_; refine oN ?_) | refine gc ?_ | refine ct ?_ | refine cf ?_ | refine swp_cond rfl (fun hc => ?_) (fun hc => ?_) | refine rq rfl (rt .nil) ?_)
  refine swp_for (SHv l) (fun k => lsum (l.take k) ≤ 9223372036858775807) l.length ?_ (by show lsum [] ≤ _; unfold lsum; simp) ?_
  · exact (weak_sub (.cons rfl rfl rfl (.cons rfl rfl rfl (.cons rfl rfl rfl .nil))) .nil .nil)
  intro k hk hI
  unfold SHv
  by_cases hlt : k < l.length
  · by_cases hle : lsum (l.take k) ≤ 4000000
    · have hle' : (0 : Int) ≤ 4000000 - (lsum (l.take k) : Int) := by omega
      have hat : (l.map hopC)[k]? = some (hopC l[k]) := by rw [List.getElem?_map, List.getElem?_eq_getElem hlt]; rfl
      have hbk := hb _ (List.getElem_mem hlt)
      have hmk : (l[k].load.map byteT).length = l[k].load.length := List.length_map _
      have e0 := lsum_take l k hlt
      have e1 : 4000000 - (lsum (l.take (k + 1)) : Int) = 4000000 - (lsum (l.take k) : Int) - ((l[k].load.map byteT).length : Int) := by rw [e0, hmk]; omega
      unfold hopC bysT at hat
      repeat' (first | refine for_next hlt (weak_sub (.cons rfl (by rfl) rfl (.cons rfl (by first | rfl | ((rw [e1]; try rfl))) rfl (.cons rfl (by rfl) rfl .nil))) .nil .nil) (by rw [e0]; omega) | (refine rg 3 ?_; refine oMv ?_; refine oMv ?_; refine sp (pln rfl (tyS rfl)) ?_; refine oCm ?_; refine oMv ?_; refine oMv ?_ <;> refine oCm ?_ <;> refine oPt ?_ <;> refine oN ?_) | (refine rg 5 ?_; refine oMv ?_; refine oMv ?_; refine oMv ?_; (first | refine sp (po_index_arr rfl rfl rfl arr22 rfl (by first | omega | assumption)) ?_ | refine sp (pix rfl (tyS rfl)) ?_); (first | refine oFb ?_ | refine oFd ?_); (first | refine sp (po_load_ntn rfl rfl (tyT rfl) rfl) ?_ | refine sp (po_load_ntk rfl rfl (tyT rfl) rfl (by first | assumption | omega) (by assumption) rfl) ?_ | refine oLb ?_ | refine oLd ?_); refine sp (pln rfl (tyS rfl)) ?_; (first | refine sp (po_dec rfl rfl rfl (by omega)) ?_ | refine sp (po_arith rfl rfl rfl (ar_sub (by first | rfl | (refine wrap_i64 ?_; omega)) rfl)) ?_); refine oAs ?_; refine oN ?_) | (refine rg 4 ?_; refine oMv ?_; refine sp (xinc rfl) ?_; refine oAs ?_; refine oN ?_) | refine gc ?_ | refine ct ?_)
    · have hlt0 : (4000000 - (lsum (l.take k) : Int)) < 0 := by omega
      have hh : heavyP l = true := by
        unfold heavyP
        have := lsum_le l k
        rw [decide_eq_true (show 4000000 < lsum l by omega), Bool.or_true]
      rw [hh]
      by_cases h300 : 300 < l.length
      · repeat' (first | (refine rg 3 ?_; refine oMv ?_; refine oMv ?_; refine sp (pln rfl (tyS rfl)) ?_; refine oCm ?_; refine oMv ?_; refine oMv ?_ <;> refine oCm ?_ <;> refine oPt ?_ <;> refine oN ?_) | (refine rg 6 ?_; refine oMv ?_; refine sp (pln rfl (tyS rfl)) ?_; refine oCm ?_; refine oMv ?_; (first | refine oMv ?_ | refine oK ?_) <;> (first | refine oCm ?_ | refine oK ?_) <;> refine oPt ?_ <;> refine oAs ?_ <;> refine oN ?_) | refine gc ?_ | refine ct ?_ | refine cf ?_ | refine swp_cond rfl (fun hc => ?_) (fun hc => ?_) | refine rq rfl (rt .nil) ?_)
        rfl
      · repeat' (first | (refine rg 3 ?_; refine oMv ?_; refine oMv ?_; refine sp (pln rfl (tyS rfl)) ?_; refine oCm ?_; refine oMv ?_; refine oMv ?_ <;> refine oCm ?_ <;> refine oPt ?_ <;> refine oN ?_) | (refine rg 6 ?_; refine oMv ?_; refine sp (pln rfl (tyS rfl)) ?_; refine oCm ?_; refine oMv ?_; refine oMv ?_ <;> refine oCm ?_ <;> (first | refine oPt ?_ | refine oPf ?_) <;> refine oAs ?_ <;> refine oN ?_) | refine gc ?_ | refine ct ?_ | refine cf ?_ | refine swp_cond rfl (fun hc => ?_) (fun hc => ?_) | refine rq rfl (rt .nil) ?_)
        exact eq_b (decide_eq_true hlt0).symm
  · obtain rfl : k = l.length := by omega
    rw [List.take_length]
    by_cases h300 : 300 < l.length
    · have hh : heavyP l = true := by unfold heavyP; rw [decide_eq_true h300, Bool.true_or]
      rw [hh]
      repeat' (first | (refine rg 3 ?_; refine oMv ?_; refine oMv ?_; refine sp (pln rfl (tyS rfl)) ?_; refine oCm ?_; refine oMv ?_; (first | refine oMv ?_ | refine oK ?_) <;> (first | refine oCm ?_ | refine oK ?_) <;> (first | refine oPt ?_ | refine oPf ?_) <;> refine oN ?_) | (refine rg 6 ?_; refine oMv ?_; refine sp (pln rfl (tyS rfl)) ?_; refine oCm ?_; refine oMv ?_; (first | refine oMv ?_ | refine oK ?_) <;> (first | refine oCm ?_ | refine oK ?_) <;> refine oPt ?_ <;> refine oAs ?_ <;> refine oN ?_) | refine gc ?_ | refine ct ?_ | refine cf ?_ | refine swp_cond rfl (fun hc => ?_) (fun hc => ?_) | refine rq rfl (rt .nil) ?_)
      rfl
    · by_cases hs : 4000000 < lsum l
      · have hh : heavyP l = true := by unfold heavyP; rw [decide_eq_true hs, Bool.or_true]
        have hs' : (4000000 - (lsum l : Int)) < 0 := by omega
        rw [hh]
        repeat' (first | (refine rg 3 ?_; refine oMv ?_; refine oMv ?_; refine sp (pln rfl (tyS rfl)) ?_; refine oCm ?_; refine oMv ?_; (first | refine oMv ?_ | refine oK ?_) <;> (first | refine oCm ?_ | refine oK ?_) <;> (first | refine oPt ?_ | refine oPf ?_) <;> refine oN ?_) | (refine rg 6 ?_; refine oMv ?_; refine sp (pln rfl (tyS rfl)) ?_; refine oCm ?_; refine oMv ?_; refine oMv ?_ <;> refine oCm ?_ <;> (first | refine oPt ?_ | refine oPf ?_) <;> refine oAs ?_ <;> refine oN ?_) | refine gc ?_ | refine ct ?_ | refine cf ?_ | refine swp_cond rfl (fun hc => ?_) (fun hc => ?_) | refine rq rfl (rt .nil) ?_)
        exact eq_b (decide_eq_true hs').symm
      · have hh : heavyP l = false := by unfold heavyP; rw [decide_eq_false h300, decide_eq_false hs]; rfl
        have hs' : ¬ ((4000000 - (lsum l : Int)) < 0) := by omega
        rw [hh]
        repeat' (first | (refine rg 3 ?_; refine oMv ?_; refine oMv ?_; refine sp (pln rfl (tyS rfl)) ?_; refine oCm ?_; refine oMv ?_; (first | refine oMv ?_ | refine oK ?_) <;> (first | refine oCm ?_ | refine oK ?_) <;> (first | refine oPt ?_ | refine oPf ?_) <;> refine oN ?_) | (refine rg 6 ?_; refine oMv ?_; refine sp (pln rfl (tyS rfl)) ?_; refine oCm ?_; refine oMv ?_; refine oMv ?_ <;> refine oCm ?_ <;> (first | refine oPt ?_ | refine oPf ?_) <;> refine oAs ?_ <;> refine oN ?_) | refine gc ?_ | refine ct ?_ | refine cf ?_ | refine swp_cond rfl (fun hc => ?_) (fun hc => ?_) | refine rq rfl (rt .nil) ?_)
        exact eq_b (decide_eq_false hs').symm
theorem light {l : List PHop} (h : heavyP l = false) : l.length ≤ 300 ∧ lsum l ≤ 4000000 ∧ ∀ x ∈ l, x.load.length ≤ 4000000 := by
  unfold heavyP at h
  rw [Bool.or_eq_false_iff, decide_eq_false_iff_not, decide_eq_false_iff_not] at h
  refine ⟨by omega, by omega, fun x hx => ?_⟩
  obtain ⟨k, hk, rfl⟩ := List.getElem_of_mem hx
  have h1 := lsum_take l k hk
  have h2 := lsum_le l (k + 1)
  omega
end Go.Proofs.Ytgbcmjcaggnobaa.Sim

/- The laws' parts: like, played, three, awake. -/
namespace Go.Proofs.Ytgbcmjcaggnobaa.Sim
set_option linter.unusedVariables false
set_option linter.unusedSimpArgs false
open Go.RowKit Mem
theorem sameP_iff {a b : PMsg} : sameP a b = true ↔ a = b := by
  unfold sameP
  cases a; cases b
  simp
theorem netE_ok {n : Nat} (h : n ≤ 9) : NetOk (netE n) := ⟨h, fun _ => Nat.zero_le _, fun _ x hx => (by cases hx), fun _ _ => rfl⟩
end Go.Proofs.Ytgbcmjcaggnobaa.Sim
