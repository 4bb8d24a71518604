/- Merged by bundles.py: SimLa, SimLb, SimLc. -/
import Derived.Test.YtgbcmjcaggnobaaT22
/- The laws' pure parts: Same, many, texts, heavy. -/
namespace Go.Proofs.Ytgbcmjcaggnobaa.Sim
set_option linter.unusedVariables false
set_option linter.unusedSimpArgs false
open Go.RowKit Mem
theorem byt28 : byE Try.prog 28 = some 5 := by kernel_rfl
def sameP (a b : PMsg) : Bool := decide (a.f = b.f) && (decide (a.t = b.t) && decide (a.b = b.b))
theorem bs_eq {a b : List UInt8} : (bs a = bs b) ↔ a = b := ⟨fun h => by rw [← bs_toList a, ← bs_toList b, h], fun h => by rw [h]⟩
set_option maxRecDepth 100000 in
theorem same_ (a b : PMsg) (ha : a.b.length ≤ 140737488355328) (hb : b.b.length ≤ 140737488355328) : PCalls Try.prog 18 [msgA a, msgA b] (.v (.bool (sameP a b))) := by
  have hm1 : (a.b.map byteT).length = a.b.length := List.length_map _
  have hm2 : (b.b.map byteT).length = b.b.length := List.length_map _
  have hmx1 : a.b.length ≤ maxLen := by unfold maxLen; omega
  have hmx2 : b.b.length ≤ maxLen := by unfold maxLen; omega
  unfold msgA msgT bysT
  refine pcalls_of Try.func18 rfl rfl Try.ntmps18 rfl ?_
  by_cases h1 : a.f = b.f
  · by_cases h2 : a.t = b.t
    · have e : sameP a b = decide (bs a.b = bs b.b) := by unfold sameP; rw [decide_eq_true h1, decide_eq_true h2, Bool.true_and, Bool.true_and, decide_eq_decide]; exact bs_eq.symm
      rw [e]
      repeat' (first | (refine rg 0 ?_; refine sbx ?_; refine sbx ?_; refine oAs ?_; refine oN ?_) | (refine rg 1 ?_; refine oFb ?_; (first | refine sp (po_load_ntn rfl rfl (tyT rfl) rfl) ?_ | refine sp (po_load_ntk rfl rfl (tyT rfl) rfl (by first | assumption | omega) (by assumption) rfl) ?_ | refine oLb ?_); refine oFb ?_; (first | refine sp (po_load_ntn rfl rfl (tyT rfl) rfl) ?_ | refine sp (po_load_ntk rfl rfl (tyT rfl) rfl (by first | assumption | omega) (by assumption) rfl) ?_ | refine oLb ?_); refine oCm ?_; refine oMv ?_; refine oFb ?_ <;> (first | refine sp (po_load_ntn rfl rfl (tyT rfl) rfl) ?_ | refine sp (po_load_ntk rfl rfl (tyT rfl) rfl (by first | assumption | omega) (by assumption) rfl) ?_ | refine oLb ?_) <;> refine oFb ?_ <;> (first | refine sp (po_load_ntn rfl rfl (tyT rfl) rfl) ?_ | refine sp (po_load_ntk rfl rfl (tyT rfl) rfl (by first | assumption | omega) (by assumption) rfl) ?_ | refine oLb ?_) <;> refine oCm ?_ <;> refine oPt ?_ <;> refine oMv ?_ <;> refine oFb ?_ <;> (first | refine sp (po_load_ntn rfl rfl (tyT rfl) rfl) ?_ | refine sp (po_load_ntk rfl rfl (tyT rfl) rfl (by first | assumption | omega) (by assumption) rfl) ?_ | refine oLb ?_) <;> refine sp (po_bytes_str rfl rfl (by exact .t _) byt28 (tyR rfl)) ?_ <;> refine oFb ?_ <;> (first | refine sp (po_load_ntn rfl rfl (tyT rfl) rfl) ?_ | refine sp (po_load_ntk rfl rfl (tyT rfl) rfl (by first | assumption | omega) (by assumption) rfl) ?_ | refine oLb ?_) <;> refine sp (po_bytes_str rfl rfl (by exact .t _) byt28 (tyR rfl)) ?_ <;> refine sp (po_str rfl rfl rfl rfl) ?_ <;> refine oPt ?_ <;> refine oAs ?_ <;> refine oN ?_) | refine gc ?_ | refine ct ?_ | refine cf ?_ | refine swp_cond rfl (fun hc => ?_) (fun hc => ?_) | refine rq rfl (rt .nil) ?_)
      rfl
    · have e : sameP a b = false := by unfold sameP; rw [decide_eq_false h2]; simp
      rw [e]
      repeat' (first | (refine rg 0 ?_; refine sbx ?_; refine sbx ?_; refine oAs ?_; refine oN ?_) | (refine rg 1 ?_; refine oFb ?_; (first | refine sp (po_load_ntn rfl rfl (tyT rfl) rfl) ?_ | refine sp (po_load_ntk rfl rfl (tyT rfl) rfl (by first | assumption | omega) (by assumption) rfl) ?_ | refine oLb ?_); refine oFb ?_; (first | refine sp (po_load_ntn rfl rfl (tyT rfl) rfl) ?_ | refine sp (po_load_ntk rfl rfl (tyT rfl) rfl (by first | assumption | omega) (by assumption) rfl) ?_ | refine oLb ?_); refine oCm ?_; refine oMv ?_; refine oFb ?_ <;> (first | refine sp (po_load_ntn rfl rfl (tyT rfl) rfl) ?_ | refine sp (po_load_ntk rfl rfl (tyT rfl) rfl (by first | assumption | omega) (by assumption) rfl) ?_ | refine oLb ?_) <;> refine oFb ?_ <;> (first | refine sp (po_load_ntn rfl rfl (tyT rfl) rfl) ?_ | refine sp (po_load_ntk rfl rfl (tyT rfl) rfl (by first | assumption | omega) (by assumption) rfl) ?_ | refine oLb ?_) <;> refine oCm ?_ <;> refine oPt ?_ <;> refine oMv ?_ <;> (first | refine oFb ?_ | refine oFd ?_ | refine oK ?_) <;> (first | refine sp (po_load_ntn rfl rfl (tyT rfl) rfl) ?_ | refine sp (po_load_ntk rfl rfl (tyT rfl) rfl (by first | assumption | omega) (by assumption) rfl) ?_ | refine oLb ?_ | refine oLd ?_ | refine oK ?_) <;> (first | refine sp (po_bytes_str rfl rfl (by first | exact .t _ | exact .own rfl (by rfl) | exact .nil _ | exact .emp _) byt28 (tyR rfl)) ?_ | refine oK ?_) <;> (first | refine oFb ?_ | refine oFd ?_ | refine oK ?_) <;> (first | refine sp (po_load_ntn rfl rfl (tyT rfl) rfl) ?_ | refine sp (po_load_ntk rfl rfl (tyT rfl) rfl (by first | assumption | omega) (by assumption) rfl) ?_ | refine oLb ?_ | refine oLd ?_ | refine oK ?_) <;> (first | refine sp (po_bytes_str rfl rfl (by first | exact .t _ | exact .own rfl (by rfl) | exact .nil _ | exact .emp _) byt28 (tyR rfl)) ?_ | refine oK ?_) <;> (first | refine sp (po_str rfl rfl rfl rfl) ?_ | refine oK ?_) <;> (first | refine oPt ?_ | refine oPf ?_) <;> refine oAs ?_ <;> refine oN ?_) | refine gc ?_ | refine ct ?_ | refine cf ?_ | refine swp_cond rfl (fun hc => ?_) (fun hc => ?_) | refine rq rfl (rt .nil) ?_)
      rfl
  · have e : sameP a b = false := by unfold sameP; rw [decide_eq_false h1]; rfl
    rw [e]
    repeat' (first | (refine rg 0 ?_; refine sbx ?_; refine sbx ?_; refine oAs ?_; refine oN ?_) | (refine rg 1 ?_; refine oFb ?_; (first | refine sp (po_load_ntn rfl rfl (tyT rfl) rfl) ?_ | refine sp (po_load_ntk rfl rfl (tyT rfl) rfl (by first | assumption | omega) (by assumption) rfl) ?_ | refine oLb ?_); refine oFb ?_; (first | refine sp (po_load_ntn rfl rfl (tyT rfl) rfl) ?_ | refine sp (po_load_ntk rfl rfl (tyT rfl) rfl (by first | assumption | omega) (by assumption) rfl) ?_ | refine oLb ?_); refine oCm ?_; refine oMv ?_; (first | refine oFb ?_ | refine oFd ?_ | refine oK ?_) <;> (first | refine sp (po_load_ntn rfl rfl (tyT rfl) rfl) ?_ | refine sp (po_load_ntk rfl rfl (tyT rfl) rfl (by first | assumption | omega) (by assumption) rfl) ?_ | refine oLb ?_ | refine oLd ?_ | refine oK ?_) <;> (first | refine oFb ?_ | refine oFd ?_ | refine oK ?_) <;> (first | refine sp (po_load_ntn rfl rfl (tyT rfl) rfl) ?_ | refine sp (po_load_ntk rfl rfl (tyT rfl) rfl (by first | assumption | omega) (by assumption) rfl) ?_ | refine oLb ?_ | refine oLd ?_ | refine oK ?_) <;> (first | refine oCm ?_ | refine oK ?_) <;> (first | refine oPt ?_ | refine oPf ?_) <;> refine oMv ?_ <;> (first | refine oFb ?_ | refine oFd ?_ | refine oK ?_) <;> (first | refine sp (po_load_ntn rfl rfl (tyT rfl) rfl) ?_ | refine sp (po_load_ntk rfl rfl (tyT rfl) rfl (by first | assumption | omega) (by assumption) rfl) ?_ | refine oLb ?_ | refine oLd ?_ | refine oK ?_) <;> (first | refine sp (po_bytes_str rfl rfl (by first | exact .t _ | exact .own rfl (by rfl) | exact .nil _ | exact .emp _) byt28 (tyR rfl)) ?_ | refine oK ?_) <;> (first | refine oFb ?_ | refine oFd ?_ | refine oK ?_) <;> (first | refine sp (po_load_ntn rfl rfl (tyT rfl) rfl) ?_ | refine sp (po_load_ntk rfl rfl (tyT rfl) rfl (by first | assumption | omega) (by assumption) rfl) ?_ | refine oLb ?_ | refine oLd ?_ | refine oK ?_) <;> (first | refine sp (po_bytes_str rfl rfl (by first | exact .t _ | exact .own rfl (by rfl) | exact .nil _ | exact .emp _) byt28 (tyR rfl)) ?_ | refine oK ?_) <;> (first | refine sp (po_str rfl rfl rfl rfl) ?_ | refine oK ?_) <;> (first | refine oPt ?_ | refine oPf ?_) <;> refine oAs ?_ <;> refine oN ?_) | refine gc ?_ | refine ct ?_ | refine cf ?_ | refine swp_cond rfl (fun hc => ?_) (fun hc => ?_) | refine rq rfl (rt .nil) ?_)
    rfl
def txtC (b : List UInt8) : List T := [.v (.string (bs b))]
def STx (a b : List (List UInt8)) (k : Nat) : St := ⟨[(0, .t (.sl 1 (a.map txtC))), (1, .t (.sl 1 (b.map txtC))), (5, .t (.v (.int .i64 (k : Int))))], [], []⟩
set_option maxRecDepth 100000 in
theorem texts_ (a b : List (List UInt8)) (ha : a.length ≤ 1000000) (hb : b.length ≤ 1000000) : PCalls Try.prog 19 [.sl 1 (a.map txtC), .sl 1 (b.map txtC)] (.v (.bool (decide (a = b)))) := by
  have hm1 : (a.map txtC).length = a.length := List.length_map _
  have hm2 : (b.map txtC).length = b.length := List.length_map _
  refine pcalls_of Try.func19 rfl rfl Try.ntmps19 rfl ?_
  by_cases hlen : a.length = b.length
  · have hlen' : (a.length : Int) = b.length := by omega
    repeat' (first | (refine rg 0 ?_; refine oAs ?_; refine oN ?_) | (refine rg 1 ?_; refine oMv ?_; refine sp (pln rfl (tyS rfl)) ?_; refine oMv ?_; refine sp (pln rfl (tyS rfl)) ?_; refine oCm ?_; refine oN ?_) | (refine rg 3 ?_; refine oAs ?_; refine oN ?_) | refine gc ?_ | refine ct ?_ | refine cf ?_ | refine swp_cond rfl (fun hc => ?_) (fun hc => ?_) | refine rq rfl (rt .nil) ?_)
    refine swp_for (STx a b) (fun k => a.take k = b.take k) a.length ?_ rfl ?_
    · exact (weak_sub (.cons rfl rfl rfl (.cons rfl rfl rfl (.cons rfl rfl rfl .nil))) .nil .nil)
    intro k hk hI
    unfold STx
    by_cases hlt : k < a.length
    · have hlt2 : k < b.length := by omega
      have hat : (a.map txtC)[k]? = some (txtC a[k]) := by rw [List.getElem?_map, List.getElem?_eq_getElem hlt]; rfl
      have hat2 : (b.map txtC)[k]? = some (txtC b[k]) := by rw [List.getElem?_map, List.getElem?_eq_getElem hlt2]; rfl
      by_cases he : a[k] = b[k]
      · have he' : bs a[k] = bs b[k] := by rw [he]
        have hn : a.take (k + 1) = b.take (k + 1) := by rw [← List.take_append_getElem hlt, ← List.take_append_getElem hlt2, hI, he]
        repeat' (first | refine for_next hlt (weak_sub (.cons rfl rfl rfl (.cons rfl rfl rfl (.cons rfl rfl rfl .nil))) .nil .nil) hn | (refine rg 4 ?_; refine oMv ?_; refine oMv ?_; refine sp (pln rfl (tyS rfl)) ?_; refine oCm ?_; refine oN ?_) | (refine rd 6 ?_; refine dMv ?_; refine dMv ?_; (first | refine dp (po_index_arr rfl rfl rfl arr45 rfl (by first | omega | assumption)) ?_ | refine dp (pix rfl (tyS rfl)) ?_); (first | refine dp (po_load_ntn rfl rfl (tyT rfl) rfl) ?_ | refine dp (po_load_ntk rfl rfl (tyT rfl) rfl (by first | assumption | omega) (by assumption) rfl) ?_ | refine dLb ?_ | refine dLd ?_); refine dMv ?_; refine dMv ?_; (first | refine dp (po_index_arr rfl rfl rfl arr45 rfl (by first | omega | assumption)) ?_ | refine dp (pix rfl (tyS rfl)) ?_); (first | refine dp (po_load_ntn rfl rfl (tyT rfl) rfl) ?_ | refine dp (po_load_ntk rfl rfl (tyT rfl) rfl (by first | assumption | omega) (by assumption) rfl) ?_ | refine dLb ?_ | refine dLd ?_); refine dp (po_str rfl rfl rfl rfl) ?_; refine dN ?_; refine oN ?_) | (refine rg 5 ?_; refine oMv ?_; refine sp (xinc rfl) ?_; refine oAs ?_; refine oN ?_) | refine gc ?_ | refine ct ?_ | refine cf ?_)
      · have he' : ¬ (bs a[k] = bs b[k]) := fun h => he (bs_eq.1 h)
        have hf : decide (a = b) = false := decide_eq_false fun h => he (by subst h; rfl)
        rw [hf]
        repeat' (first | (refine rg 4 ?_; refine oMv ?_; refine oMv ?_; refine sp (pln rfl (tyS rfl)) ?_; refine oCm ?_; refine oN ?_) | (refine rd 6 ?_; refine dMv ?_; refine dMv ?_; (first | refine dp (po_index_arr rfl rfl rfl arr45 rfl (by first | omega | assumption)) ?_ | refine dp (pix rfl (tyS rfl)) ?_); (first | refine dp (po_load_ntn rfl rfl (tyT rfl) rfl) ?_ | refine dp (po_load_ntk rfl rfl (tyT rfl) rfl (by first | assumption | omega) (by assumption) rfl) ?_ | refine dLb ?_ | refine dLd ?_); refine dMv ?_; refine dMv ?_; (first | refine dp (po_index_arr rfl rfl rfl arr45 rfl (by first | omega | assumption)) ?_ | refine dp (pix rfl (tyS rfl)) ?_); (first | refine dp (po_load_ntn rfl rfl (tyT rfl) rfl) ?_ | refine dp (po_load_ntk rfl rfl (tyT rfl) rfl (by first | assumption | omega) (by assumption) rfl) ?_ | refine dLb ?_ | refine dLd ?_); refine dp (po_str rfl rfl rfl rfl) ?_; refine dN ?_; refine oN ?_) | (refine rg 7 ?_; refine oAs ?_; refine oN ?_) | refine gc ?_ | refine ct ?_ | refine cf ?_ | refine swp_cond rfl (fun hc => ?_) (fun hc => ?_) | refine rq rfl (rt .nil) ?_)
        rfl
    · obtain rfl : k = a.length := by omega
      have hf : decide (a = b) = true := decide_eq_true (by rw [List.take_length, hlen, List.take_length] at hI; exact hI)
      rw [hf]
      repeat' (first | (refine rg 4 ?_; refine oMv ?_; refine oMv ?_; refine sp (pln rfl (tyS rfl)) ?_; refine oCm ?_; refine oN ?_) | (refine rg 8 ?_; refine oAs ?_; refine oN ?_) | refine gc ?_ | refine ct ?_ | refine cf ?_ | refine swp_cond rfl (fun hc => ?_) (fun hc => ?_) | refine rq rfl (rt .nil) ?_)
      rfl
  · have hlen' : ¬ ((a.length : Int) = b.length) := by omega
    have hf : decide (a = b) = false := decide_eq_false fun h => hlen (by rw [h])
    rw [hf]
    repeat' (first | (refine rg 0 ?_; refine oAs ?_; refine oN ?_) | (refine rg 1 ?_; refine oMv ?_; refine sp (pln rfl (tyS rfl)) ?_; refine oMv ?_; refine sp (pln rfl (tyS rfl)) ?_; refine oCm ?_; refine oN ?_) | (refine rg 2 ?_; refine oAs ?_; refine oN ?_) | refine gc ?_ | refine ct ?_ | refine cf ?_ | refine swp_cond rfl (fun hc => ?_) (fun hc => ?_) | refine rq rfl (rt .nil) ?_)
    rfl
def lsum (l : List PHop) : Nat := (l.map fun h => h.load.length).sum
def heavyP (l : List PHop) : Bool := decide (300 < l.length) || decide (4000000 < lsum l)
theorem lsum_take (l : List PHop) (k : Nat) (h : k < l.length) : lsum (l.take (k + 1)) = lsum (l.take k) + l[k].load.length := by
  unfold lsum
  rw [← List.take_append_getElem h, List.map_append, List.sum_append]; simp
theorem lsum_le (l : List PHop) (k : Nat) : lsum (l.take k) ≤ lsum l := by
  unfold lsum
  conv => rhs; rw [← List.take_append_drop k l, List.map_append, List.sum_append]
  omega
def hopC (h : PHop) : List T := [.v (.int .i64 h.kind), .v (.int .i64 h.f), .v (.int .i64 h.t), .v (.int .i64 h.no), bysT h.load]
def SHv (l : List PHop) (k : Nat) : St := ⟨[(0, .t (.sl 5 (l.map hopC))), (3, .t (.v (.int .i64 (4000000 - (lsum (l.take k) : Int))))), (4, .t (.v (.int .i64 (k : Int))))], [], []⟩
set_option maxRecDepth 100000 in
set_option maxHeartbeats 2000000 in
theorem heavy_ (l : List PHop) (hl : l.length ≤ 9223372036854775807) (hb : ∀ h ∈ l, h.load.length ≤ 9223372036854775807) : PCalls Try.prog 10 [.sl 5 (l.map hopC)] (.v (.bool (heavyP l))) := by
  have hlm : (l.map hopC).length = l.length := List.length_map _
  refine pcalls_of Try.func10 rfl rfl Try.ntmps10 rfl ?_
  repeat' (first | (refine rg 0 ?_; refine oAs ?_; refine oN ?_) | (refine rg 1 ?_; refine oAs ?_; refine oN ?_) | (refine rg 2 ?_; refine oAs ?_; refine oN ?_) | refine gc ?_ | refine ct ?_ | refine cf ?_ | refine swp_cond rfl (fun hc => ?_) (fun hc => ?_) | refine rq rfl (rt .nil) ?_)
  refine swp_for (SHv l) (fun k => lsum (l.take k) ≤ 9223372036858775807) l.length ?_ (by show lsum [] ≤ _; unfold lsum; simp) ?_
  · exact (weak_sub (.cons rfl rfl rfl (.cons rfl rfl rfl (.cons rfl rfl rfl .nil))) .nil .nil)
  intro k hk hI
  unfold SHv
  by_cases hlt : k < l.length
  · by_cases hle : lsum (l.take k) ≤ 4000000
    · have hle' : (0 : Int) ≤ 4000000 - (lsum (l.take k) : Int) := by omega
      have hat : (l.map hopC)[k]? = some (hopC l[k]) := by rw [List.getElem?_map, List.getElem?_eq_getElem hlt]; rfl
      have hbk := hb _ (List.getElem_mem hlt)
      have hmk : (l[k].load.map byteT).length = l[k].load.length := List.length_map _
      have e0 := lsum_take l k hlt
      have e1 : 4000000 - (lsum (l.take (k + 1)) : Int) = 4000000 - (lsum (l.take k) : Int) - ((l[k].load.map byteT).length : Int) := by rw [e0, hmk]; omega
      unfold hopC bysT at hat
      repeat' (first | refine for_next hlt (weak_sub (.cons rfl (by rfl) rfl (.cons rfl (by first | rfl | ((rw [e1]; try rfl))) rfl (.cons rfl (by rfl) rfl .nil))) .nil .nil) (by rw [e0]; omega) | (refine rg 3 ?_; refine oMv ?_; refine oMv ?_; refine sp (pln rfl (tyS rfl)) ?_; refine oCm ?_; refine oMv ?_; refine oMv ?_ <;> refine oCm ?_ <;> refine oPt ?_ <;> refine oN ?_) | (refine rg 5 ?_; refine oMv ?_; refine oMv ?_; refine oMv ?_; (first | refine sp (po_index_arr rfl rfl rfl arr22 rfl (by first | omega | assumption)) ?_ | refine sp (pix rfl (tyS rfl)) ?_); (first | refine oFb ?_ | refine oFd ?_); (first | refine sp (po_load_ntn rfl rfl (tyT rfl) rfl) ?_ | refine sp (po_load_ntk rfl rfl (tyT rfl) rfl (by first | assumption | omega) (by assumption) rfl) ?_ | refine oLb ?_ | refine oLd ?_); refine sp (pln rfl (tyS rfl)) ?_; (first | refine sp (po_dec rfl rfl rfl (by omega)) ?_ | refine sp (po_arith rfl rfl rfl (ar_sub (by first | rfl | (refine wrap_i64 ?_; omega)) rfl)) ?_); refine oAs ?_; refine oN ?_) | (refine rg 4 ?_; refine oMv ?_; refine sp (xinc rfl) ?_; refine oAs ?_; refine oN ?_) | refine gc ?_ | refine ct ?_)
    · have hlt0 : (4000000 - (lsum (l.take k) : Int)) < 0 := by omega
      have hh : heavyP l = true := by
        unfold heavyP
        have := lsum_le l k
        rw [decide_eq_true (show 4000000 < lsum l by omega), Bool.or_true]
      rw [hh]
      by_cases h300 : 300 < l.length
      · repeat' (first | (refine rg 3 ?_; refine oMv ?_; refine oMv ?_; refine sp (pln rfl (tyS rfl)) ?_; refine oCm ?_; refine oMv ?_; refine oMv ?_ <;> refine oCm ?_ <;> refine oPt ?_ <;> refine oN ?_) | (refine rg 6 ?_; refine oMv ?_; refine sp (pln rfl (tyS rfl)) ?_; refine oCm ?_; refine oMv ?_; (first | refine oMv ?_ | refine oK ?_) <;> (first | refine oCm ?_ | refine oK ?_) <;> refine oPt ?_ <;> refine oAs ?_ <;> refine oN ?_) | refine gc ?_ | refine ct ?_ | refine cf ?_ | refine swp_cond rfl (fun hc => ?_) (fun hc => ?_) | refine rq rfl (rt .nil) ?_)
        rfl
      · repeat' (first | (refine rg 3 ?_; refine oMv ?_; refine oMv ?_; refine sp (pln rfl (tyS rfl)) ?_; refine oCm ?_; refine oMv ?_; refine oMv ?_ <;> refine oCm ?_ <;> refine oPt ?_ <;> refine oN ?_) | (refine rg 6 ?_; refine oMv ?_; refine sp (pln rfl (tyS rfl)) ?_; refine oCm ?_; refine oMv ?_; refine oMv ?_ <;> refine oCm ?_ <;> (first | refine oPt ?_ | refine oPf ?_) <;> refine oAs ?_ <;> refine oN ?_) | refine gc ?_ | refine ct ?_ | refine cf ?_ | refine swp_cond rfl (fun hc => ?_) (fun hc => ?_) | refine rq rfl (rt .nil) ?_)
        exact eq_b (decide_eq_true hlt0).symm
  · obtain rfl : k = l.length := by omega
    rw [List.take_length]
    by_cases h300 : 300 < l.length
    · have hh : heavyP l = true := by unfold heavyP; rw [decide_eq_true h300, Bool.true_or]
      rw [hh]
      repeat' (first | (refine rg 3 ?_; refine oMv ?_; refine oMv ?_; refine sp (pln rfl (tyS rfl)) ?_; refine oCm ?_; refine oMv ?_; (first | refine oMv ?_ | refine oK ?_) <;> (first | refine oCm ?_ | refine oK ?_) <;> (first | refine oPt ?_ | refine oPf ?_) <;> refine oN ?_) | (refine rg 6 ?_; refine oMv ?_; refine sp (pln rfl (tyS rfl)) ?_; refine oCm ?_; refine oMv ?_; (first | refine oMv ?_ | refine oK ?_) <;> (first | refine oCm ?_ | refine oK ?_) <;> refine oPt ?_ <;> refine oAs ?_ <;> refine oN ?_) | refine gc ?_ | refine ct ?_ | refine cf ?_ | refine swp_cond rfl (fun hc => ?_) (fun hc => ?_) | refine rq rfl (rt .nil) ?_)
      rfl
    · by_cases hs : 4000000 < lsum l
      · have hh : heavyP l = true := by unfold heavyP; rw [decide_eq_true hs, Bool.or_true]
        have hs' : (4000000 - (lsum l : Int)) < 0 := by omega
        rw [hh]
        repeat' (first | (refine rg 3 ?_; refine oMv ?_; refine oMv ?_; refine sp (pln rfl (tyS rfl)) ?_; refine oCm ?_; refine oMv ?_; (first | refine oMv ?_ | refine oK ?_) <;> (first | refine oCm ?_ | refine oK ?_) <;> (first | refine oPt ?_ | refine oPf ?_) <;> refine oN ?_) | (refine rg 6 ?_; refine oMv ?_; refine sp (pln rfl (tyS rfl)) ?_; refine oCm ?_; refine oMv ?_; refine oMv ?_ <;> refine oCm ?_ <;> (first | refine oPt ?_ | refine oPf ?_) <;> refine oAs ?_ <;> refine oN ?_) | refine gc ?_ | refine ct ?_ | refine cf ?_ | refine swp_cond rfl (fun hc => ?_) (fun hc => ?_) | refine rq rfl (rt .nil) ?_)
        exact eq_b (decide_eq_true hs').symm
      · have hh : heavyP l = false := by unfold heavyP; rw [decide_eq_false h300, decide_eq_false hs]; rfl
        have hs' : ¬ ((4000000 - (lsum l : Int)) < 0) := by omega
        rw [hh]
        repeat' (first | (refine rg 3 ?_; refine oMv ?_; refine oMv ?_; refine sp (pln rfl (tyS rfl)) ?_; refine oCm ?_; refine oMv ?_; (first | refine oMv ?_ | refine oK ?_) <;> (first | refine oCm ?_ | refine oK ?_) <;> (first | refine oPt ?_ | refine oPf ?_) <;> refine oN ?_) | (refine rg 6 ?_; refine oMv ?_; refine sp (pln rfl (tyS rfl)) ?_; refine oCm ?_; refine oMv ?_; refine oMv ?_ <;> refine oCm ?_ <;> (first | refine oPt ?_ | refine oPf ?_) <;> refine oAs ?_ <;> refine oN ?_) | refine gc ?_ | refine ct ?_ | refine cf ?_ | refine swp_cond rfl (fun hc => ?_) (fun hc => ?_) | refine rq rfl (rt .nil) ?_)
        exact eq_b (decide_eq_false hs').symm
theorem light {l : List PHop} (h : heavyP l = false) : l.length ≤ 300 ∧ lsum l ≤ 4000000 ∧ ∀ x ∈ l, x.load.length ≤ 4000000 := by
  unfold heavyP at h
  rw [Bool.or_eq_false_iff, decide_eq_false_iff_not, decide_eq_false_iff_not] at h
  refine ⟨by omega, by omega, fun x hx => ?_⟩
  obtain ⟨k, hk, rfl⟩ := List.getElem_of_mem hx
  have h1 := lsum_take l k hk
  have h2 := lsum_le l (k + 1)
  omega
end Go.Proofs.Ytgbcmjcaggnobaa.Sim

/- The laws' parts that ask a net: row, rest, like, played. -/
namespace Go.Proofs.Ytgbcmjcaggnobaa.Sim
set_option linter.unusedVariables false
set_option linter.unusedSimpArgs false
open Go.RowKit Mem
def rowP (d : PNet) (x y : Int) : List (List UInt8) := bif isL d.n x y then d.row (kOf x y) else []
theorem rowP_len {d : PNet} (hd : NetOk d) (x y : Int) : (rowP d x y).length ≤ 32 := by
  unfold rowP
  cases isL d.n x y with
  | false => exact Nat.zero_le _
  | true => exact hd.len _
theorem rowP_big {d : PNet} (hd : NetOk d) (x y : Int) : ∀ b ∈ rowP d x y, b.length ≤ 16384 := by
  unfold rowP
  cases isL d.n x y with
  | false => intro b hb; cases hb
  | true => exact hd.big _
theorem atP_some {d : PNet} {x y : Int} {k : Nat} (h : k < (rowP d x y).length) : atP d x y k = (⟨x, y, (rowP d x y)[k]⟩, 0) := by
  unfold atP
  cases hl : isL d.n x y with
  | false => unfold rowP at h; rw [hl] at h; simp at h
  | true =>
    have e : rowP d x y = d.row (kOf x y) := by unfold rowP; rw [hl]; rfl
    simp only [e] at h ⊢
    rw [getP_row h]; rfl
theorem atP_none {d : PNet} {x y : Int} {k : Int} (h : k < 0 ∨ ((rowP d x y).length : Int) ≤ k) : (atP d x y k).1 = msgZ ∧ (atP d x y k).2 ≠ 0 := by
  unfold atP
  cases hl : isL d.n x y with
  | false => exact ⟨rfl, by show (1 : Int) ≠ 0; omega⟩
  | true =>
    have e : rowP d x y = d.row (kOf x y) := by unfold rowP; rw [hl]; rfl
    rw [e] at h
    have : getP (d.row (kOf x y)) k = none := by
      unfold getP
      rcases h with h | h
      · rw [if_neg (by omega)]
      · rw [if_pos (by omega), List.getElem?_eq_none (by omega)]
    rw [this]
    exact ⟨rfl, by show (4 : Int) ≠ 0; omega⟩
def SRw (d : PNet) (x y : Int) (k : Nat) : St := ⟨[(0, .bp 3000 0), (1, .t (.v (.int .i64 x))), (2, .t (.v (.int .i64 y))), (7, .own 100 (((rowP d x y).take k).map txtC).length), (8, .t (.v (.int .i64 (k : Int))))], netN d, [(100, ⟨9, 1, ((rowP d x y).take k).map txtC⟩)]⟩
set_option maxRecDepth 100000 in
set_option maxHeartbeats 2000000 in
theorem row_ (d : PNet) (hd : NetOk d) (x y : Int) : LCalls Try.prog 20 [.bp 3000 0, .t (.v (.int .i64 x)), .t (.v (.int .i64 y))] (netN d) [] (.t (.sl 1 ((rowP d x y).map txtC))) (netN d) [] := by
  have h32 := rowP_len hd x y
  refine lcalls_of Try.func20 rfl rfl Try.ntmps20 rfl ?_
  repeat' (first | (refine rg 0 ?_; refine oAs ?_; refine oN ?_) | (refine rg 1 ?_; refine oAs ?_; refine oN ?_) | (refine rg 2 ?_; refine oAs ?_; refine oN ?_) | refine gc ?_ | refine ct ?_ | refine cf ?_ | refine swp_cond rfl (fun hc => ?_) (fun hc => ?_) | refine rq rfl (rt .nil) ?_)
  refine swp_for (SRw d x y) (fun _ => True) (rowP d x y).length ?_ trivial ?_
  · refine Weak.trans (weak_own0 (i := 100) 9 1 (s := 7) rfl rfl) ?_
    exact (weak_sub (.cons rfl rfl rfl (.cons rfl rfl rfl (.cons rfl rfl rfl (.cons rfl rfl rfl (.cons rfl rfl rfl .nil))))) (.cons rfl rfl rfl .nil) (.cons rfl rfl .nil))
  intro k hk _
  unfold SRw
  have hk64 : (k : Int) < 64 := by omega
  have c1 := at_ d hd x y (k : Int)
  by_cases hlt : k < (rowP d x y).length
  · rw [atP_some hlt] at c1
    dsimp only at c1
    have hb := rowP_big hd x y _ (List.getElem_mem hlt)
    have hmk : ((rowP d x y)[k].map byteT).length = (rowP d x y)[k].length := List.length_map _
    have hmx : (rowP d x y)[k].length ≤ maxLen := by unfold maxLen; omega
    have hml : (((rowP d x y).take k).map txtC).length = k := by rw [List.length_map, List.length_take]; omega
    have e1 : ((rowP d x y).take (k + 1)).map txtC = ((rowP d x y).take k).map txtC ++ [txtC (rowP d x y)[k]] := by rw [← List.take_append_getElem hlt, List.map_append]; rfl
    unfold msgA msgT bysT at c1
    repeat' (first | refine for_next hlt (weak_sub (.cons rfl (by rfl) rfl (.cons rfl (by rfl) rfl (.cons rfl (by rfl) rfl (.cons rfl (by first | rfl | ((rw [e1]; try rfl))) rfl (.cons rfl (by rfl) rfl .nil))))) (.cons rfl (by rfl) rfl .nil) (.cons rfl (by first | rfl | ((rw [e1]; try rfl))) .nil)) trivial | (refine rg 3 ?_; refine oMv ?_; refine oCm ?_; refine oN ?_) | (refine rg 5 ?_; refine oMv ?_; refine oMv ?_; refine oMv ?_; refine oMv ?_; refine sops_lcall (c1) (fun i => i) (fun i => i) (fun _ => false) (.free rfl rfl) rfl rfl rfl (by ((repeat' (first | exact .nil | refine .cons rfl rfl rfl ?_)) <;> fail)) (.cons rfl rfl .nil) .nil rfl rfl (fun _ h => Bool.noConfusion h) ?_; refine oMv ?_; (first | refine oEx ?_ | refine sp (po_extract_tu rfl rfl rfl) ?_); (first | refine oEx ?_ | refine sp (po_extract_tu rfl rfl rfl) ?_); refine sal str32 ?_; refine oS ?_; refine oAs ?_; refine oN ?_) | (refine rg 6 ?_; refine oMv ?_; refine oCm ?_; refine oN ?_) | (refine rg 8 ?_; refine oMv ?_; refine oFb ?_; (first | refine sp (po_load_ntn rfl rfl (tyT rfl) rfl) ?_ | refine sp (po_load_ntk rfl rfl (tyT rfl) rfl (by first | assumption | omega) (by assumption) rfl) ?_ | refine oLb ?_); refine sp (po_bytes_str rfl rfl (by exact .t _) byt28 (tyR rfl)) ?_; refine sp (po_buildSlice rfl (tyE rfl) (dc (.nil _)) rfl rfl rfl) ?_; refine sap rfl (tyE rfl) ?_; refine oAs ?_; refine oN ?_) | (refine rg 4 ?_; refine oMv ?_; refine sp (xinc rfl) ?_; refine oAs ?_; refine oN ?_) | refine gc ?_ | refine ct ?_ | refine cf ?_)
  · obtain rfl : k = (rowP d x y).length := by omega
    obtain ⟨e1, e2⟩ := atP_none (d := d) (x := x) (y := y) (k := ((rowP d x y).length : Int)) (.inr (Int.le_refl _))
    rw [e1] at c1
    generalize (atP d x y ((rowP d x y).length : Int)).2 = q at *
    rw [List.take_length]
    repeat' (first | (refine rg 3 ?_; refine oMv ?_; refine oCm ?_; refine oN ?_) | (refine rg 5 ?_; refine oMv ?_; refine oMv ?_; refine oMv ?_; refine oMv ?_; refine sops_lcall (c1) (fun i => i) (fun i => i) (fun _ => false) (.free rfl rfl) rfl rfl rfl (by ((repeat' (first | exact .nil | refine .cons rfl rfl rfl ?_)) <;> fail)) (.cons rfl rfl .nil) .nil rfl rfl (fun _ h => Bool.noConfusion h) ?_; refine oMv ?_; (first | refine oEx ?_ | refine sp (po_extract_tu rfl rfl rfl) ?_); (first | refine oEx ?_ | refine sp (po_extract_tu rfl rfl rfl) ?_); refine sal str32 ?_; refine oS ?_; refine oAs ?_; refine oN ?_) | (refine rg 6 ?_; refine oMv ?_; refine oCm ?_; refine oN ?_) | (refine rg 7 ?_; refine oMv ?_; refine oAs ?_; refine oN ?_) | refine gc ?_ | refine ct ?_ | refine cf ?_ | refine swp_cond rfl (fun hc => ?_) (fun hc => ?_) | refine retl (by exact .inr rfl) rfl (.tmpT rfl (by first | exact .t _ | exact .own rfl (by rfl) | exact .nil _ | exact .emp _ | exact .fn _) .nil) ?_ rfl (.cons rfl (by rfl) rfl .nil) .nil)
    rfl
end Go.Proofs.Ytgbcmjcaggnobaa.Sim

/- The laws' parts: like, played, three, awake. -/
namespace Go.Proofs.Ytgbcmjcaggnobaa.Sim
set_option linter.unusedVariables false
set_option linter.unusedSimpArgs false
open Go.RowKit Mem
/-- a net behind calls -/
def playN (n : Nat) (l : List PHop) : PNet := l.foldl doesN (netE n)
theorem netE_ok {n : Nat} (h : n ≤ 9) : NetOk (netE n) := ⟨h, fun _ => Nat.zero_le _, fun _ x hx => (by cases hx), fun _ _ => rfl⟩
theorem doesN_n (d : PNet) (h : PHop) : (doesN d h).n = d.n := by
  unfold doesN sendP delP doubleP frontP
  cases isL d.n h.f h.t <;> (repeat' split) <;> first | rfl | (simp only [cond_true, cond_false]; repeat' split) <;> rfl
theorem foldl_ok {d : PNet} (hd : NetOk d) (l : List PHop) : NetOk (l.foldl doesN d) ∧ (l.foldl doesN d).n = d.n := by
  induction l generalizing d with
  | nil => exact ⟨hd, rfl⟩
  | cons h l ih =>
    obtain ⟨h1, h2⟩ := ih (does_okN hd h)
    exact ⟨h1, h2.trans (doesN_n d h)⟩
theorem play_ok {n : Nat} (h : n ≤ 9) (l : List PHop) : NetOk (playN n l) := (foldl_ok (netE_ok h) l).1
theorem play_n {n : Nat} (h : n ≤ 9) (l : List PHop) : (playN n l).n = n := (foldl_ok (netE_ok h) l).2
theorem play_s (n : Nat) (l : List PHop) (h : PHop) : playN n (l ++ [h]) = doesN (playN n l) h := by unfold playN; rw [List.foldl_append]; rfl
end Go.Proofs.Ytgbcmjcaggnobaa.Sim
