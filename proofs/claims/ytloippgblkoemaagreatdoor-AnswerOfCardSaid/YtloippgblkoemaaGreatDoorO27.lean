/- Merged by bundles.py: SimLn, SimFam. -/
import Derived.Test.YtloippgblkoemaaGreatDoorO26
import Derived.Test.YtloippgblkoemaaGreatDoorO22
import Derived.Test.YtloippgblkoemaaGreatDoorO21
/- The document's reader of messages: lines, sizes; walks. -/
namespace Go.Proofs.YtloippgblkoemaaGreatDoor.Rq
set_option linter.unusedVariables false
set_option linter.unusedSimpArgs false
open Go.RowKit Mem Sim Opn Hd Str
open An (vws_eq)
theorem scan_cons (acc l : List UInt8) (c : UInt8) : scan acc (c :: l) = if c.toNat = 10 then .bad 2 else if c.toNat = 13 then (match l with
      | [] => .wait
      | d :: l' => if d.toNat = 10 then .ok acc l' else .bad 2) else if 578 ≤ acc.length then .bad 6 else scan (acc ++ [c]) l := by cases l <;> rfl
def lineT (n : Nat) : LR → T
  | .ok s rest => .tup [.v (.string (bs s)), .v (.int .i64 ((n - rest.length : Nat) : Int)), .v (.int .i64 1)]
  | .wait => .tup [.v (.string ⟨#[]⟩), .v (.int .i64 0), .v (.int .i64 0)]
  | .bad e => .tup [.v (.string ⟨#[]⟩), .v (.int .i64 0), .v (.int .i64 (if e = 2 then 2 else 3))]
theorem lineT_ok (n : Nat) (s rest : List UInt8) : lineT n (.ok s rest) = .tup [.v (.string (bs s)), .v (.int .i64 ((n - rest.length : Nat) : Int)), .v (.int .i64 1)] := rfl
theorem lineT_wait (n : Nat) : lineT n .wait = .tup [.v (.string ⟨#[]⟩), .v (.int .i64 0), .v (.int .i64 0)] := rfl
theorem rows_at (b : List UInt8) (p k : Nat) : ((b.map byteT).take (p + k)).drop p = ((b.drop p).take k).map byteT := by
  rw [← List.map_take, ← List.map_drop, List.drop_take]
  congr 2; omega
theorem take_snocD {b : List UInt8} {p k : Nat} (h : p + k < b.length) : (b.drop p).take k ++ [b[p + k]] = (b.drop p).take (k + 1) := by
  have : k < (b.drop p).length := by rw [List.length_drop]; omega
  rw [List.take_succ_eq_append_getElem this, List.getElem_drop]
set_option maxRecDepth 100000 in
set_option maxHeartbeats 4000000 in
theorem refLine_ (b : List UInt8) (hb : b.length ≤ 100000) (p : Nat) (hp : p ≤ b.length) : PCalls Tryz.prog 78 [.sl 1 (b.map byteT), .v (.int .i64 (p : Int))] (lineT b.length (scan [] (b.drop p))) := by
  have hml : (b.map byteT).length = b.length := List.length_map _
  refine pcalls_of Tryz.func78 rfl rfl Tryz.ntmps78 rfl ?_
  repeat' (first | (refine rg 0 ?_; refine oAs ?_; refine oAs ?_; refine oAs ?_; refine oN ?_) | (refine rg 1 ?_; refine oMv ?_; refine oAs ?_; refine oN ?_) | refine gc ?_ | refine ct ?_ | refine cf ?_ | refine swp_cond rfl (fun hc => ?_) (fun hc => ?_) | refine rq rfl (rt (rt (rt .nil))) ?_)
  refine swp_for (fun k => ⟨[(0, .t (.sl 1 (b.map byteT))), (1, .t (.v (.int .i64 (p : Int)))), (7, .t (.v (.int .i64 ((p + k : Nat) : Int))))], [], []⟩) (fun k => scan [] (b.drop p) = scan ((b.drop p).take k) (b.drop (p + k)) ∧ k ≤ 578) (b.length - p) (weak_sub (.cons rfl rfl rfl (.cons rfl rfl rfl (.cons rfl rfl rfl .nil))) .nil .nil) ⟨by simp, by omega⟩ ?_
  intro k hk ⟨hI, hk5⟩
  by_cases hlt : p + k < b.length
  · have hmk : (b.map byteT)[p + k]? = some (byteT b[p + k]) := map_at hlt
    have hd : b.drop (p + k) = b[p + k] :: b.drop (p + k + 1) := List.drop_eq_getElem_cons hlt
    have htk := take_snocD hlt
    have hlen : ((b.drop p).take k).length = k := by rw [List.length_take, List.length_drop]; omega
    have hrows := rows_at b p k
    rw [hd] at hI
    generalize b[p + k] = c at *
    rw [scan_cons] at hI
    by_cases h10 : c.toNat = 10
    · rw [if_pos h10] at hI
      rw [hI]
      repeat' (first | (refine rg 2 ?_; refine oMv ?_; refine oMv ?_; refine sp (pln rfl (tyS rfl)) ?_; refine oCm ?_; refine oN ?_) | (refine rg 4 ?_; refine oMv ?_; refine oMv ?_; refine sp (pix rfl (tyS rfl)) ?_; (first | refine oLb ?_ | refine oLd ?_); refine oCm ?_; refine oN ?_) | (refine rg 5 ?_; refine oAs ?_; refine oAs ?_; refine oAs ?_; refine oN ?_) | refine gc ?_ | refine ct ?_ | refine cf ?_ | refine swp_cond rfl (fun hc => ?_) (fun hc => ?_) | refine rq rfl (rt (rt (rt .nil))) ?_)
      rfl
    · rw [if_neg h10] at hI
      by_cases h13 : c.toNat = 13
      · rw [if_pos h13] at hI
        by_cases hl2 : p + k + 1 < b.length
        · have hmk2 : (b.map byteT)[p + k + 1]? = some (byteT b[p + k + 1]) := map_at hl2
          have hd2 : b.drop (p + k + 1) = b[p + k + 1] :: b.drop (p + k + 2) := List.drop_eq_getElem_cons hl2
          rw [hd2] at hI
          generalize b[p + k + 1] = d at *
          simp only at hI
          by_cases hd10 : d.toNat = 10
          · rw [if_pos hd10] at hI
            rw [hI]
            have e1 : (!decide ((d.toNat : Int) = 10)) = false := by rw [decide_eq_true (by omega)]; rfl
            have e2 : b.length - (b.drop (p + k + 2)).length = p + k + 2 := by rw [List.length_drop]; omega
            have hsl : T.sl 1 (((b.map byteT).take (p + k)).drop p) = T.sl 1 (((b.drop p).take k).map byteT) := by rw [hrows]
            have e3 : lineT b.length (.ok ((b.drop p).take k) (b.drop (p + k + 2))) = .tup [.v (.string (bs ((b.drop p).take k))), .v (.int .i64 ((p + k + 2 : Nat) : Int)), .v (.int .i64 1)] := by
              show T.tup [_, .v (.int .i64 ((b.length - (b.drop (p + k + 2)).length : Nat) : Int)), _] = _
              rw [e2]
            rw [e3]
            repeat' (first | (refine rg 2 ?_; refine oMv ?_; refine oMv ?_; refine sp (pln rfl (tyS rfl)) ?_; refine oCm ?_; refine oN ?_) | (refine rg 4 ?_; refine oMv ?_; refine oMv ?_; refine sp (pix rfl (tyS rfl)) ?_; (first | refine oLb ?_ | refine oLd ?_); refine oCm ?_; refine oN ?_) | (refine rg 6 ?_; refine oMv ?_; refine oMv ?_; refine sp (pix rfl (tyS rfl)) ?_; (first | refine oLb ?_ | refine oLd ?_); refine oCm ?_; refine oN ?_) | (refine rg 7 ?_; refine oMv ?_; refine sp (xinc rfl) ?_; refine oMv ?_; refine sp (pln rfl (tyS rfl)) ?_; refine oCm ?_; refine oN ?_) | (refine rg 9 ?_; refine oMv ?_; refine oMv ?_; refine sp (xinc rfl) ?_; refine sp (pix rfl (tyS rfl)) ?_; (first | refine oLb ?_ | refine oLd ?_); refine oCm ?_; refine oN ?_) | (refine rg 11 ?_; refine oMv ?_; refine oMv ?_; refine oMv ?_; refine sp (po_slice rfl rfl (by exact .t _) (tyS rfl) (by first | rfl | exact ⟨_, rfl⟩) (by first | rfl | exact ⟨_, rfl⟩) (by omega) (by omega)) ?_; refine sp (po_bytes_str (l := (b.drop p).take k) rfl rfl (vws_eq hsl) byt23 (tyR rfl)) ?_; refine oMv ?_; (first | refine sp (xinc rfl) ?_ | refine sp (xadd rfl) ?_); refine oAs ?_; refine oAs ?_; refine oAs ?_; refine oN ?_) | refine gc ?_ | refine ct ?_ | refine cf ?_ | refine swp_cond rfl (fun hc => ?_) (fun hc => ?_) | refine rq rfl (rt (rt (rt .nil))) ?_)
            rfl
          · rw [if_neg hd10] at hI
            rw [hI]
            have e1 : (!decide ((d.toNat : Int) = 10)) = true := by rw [decide_eq_false (by omega)]; rfl
            repeat' (first | (refine rg 2 ?_; refine oMv ?_; refine oMv ?_; refine sp (pln rfl (tyS rfl)) ?_; refine oCm ?_; refine oN ?_) | (refine rg 4 ?_; refine oMv ?_; refine oMv ?_; refine sp (pix rfl (tyS rfl)) ?_; (first | refine oLb ?_ | refine oLd ?_); refine oCm ?_; refine oN ?_) | (refine rg 6 ?_; refine oMv ?_; refine oMv ?_; refine sp (pix rfl (tyS rfl)) ?_; (first | refine oLb ?_ | refine oLd ?_); refine oCm ?_; refine oN ?_) | (refine rg 7 ?_; refine oMv ?_; refine sp (xinc rfl) ?_; refine oMv ?_; refine sp (pln rfl (tyS rfl)) ?_; refine oCm ?_; refine oN ?_) | (refine rg 9 ?_; refine oMv ?_; refine oMv ?_; refine sp (xinc rfl) ?_; refine sp (pix rfl (tyS rfl)) ?_; (first | refine oLb ?_ | refine oLd ?_); refine oCm ?_; refine oN ?_) | (refine rg 10 ?_; refine oAs ?_; refine oAs ?_; refine oAs ?_; refine oN ?_) | refine gc ?_ | refine ct ?_ | refine cf ?_ | refine swp_cond rfl (fun hc => ?_) (fun hc => ?_) | refine rq rfl (rt (rt (rt .nil))) ?_)
            rfl
        · have hd2 : b.drop (p + k + 1) = [] := List.drop_eq_nil_of_le (by omega)
          rw [hd2] at hI
          simp only at hI
          rw [hI]
          repeat' (first | (refine rg 2 ?_; refine oMv ?_; refine oMv ?_; refine sp (pln rfl (tyS rfl)) ?_; refine oCm ?_; refine oN ?_) | (refine rg 4 ?_; refine oMv ?_; refine oMv ?_; refine sp (pix rfl (tyS rfl)) ?_; (first | refine oLb ?_ | refine oLd ?_); refine oCm ?_; refine oN ?_) | (refine rg 6 ?_; refine oMv ?_; refine oMv ?_; refine sp (pix rfl (tyS rfl)) ?_; (first | refine oLb ?_ | refine oLd ?_); refine oCm ?_; refine oN ?_) | (refine rg 7 ?_; refine oMv ?_; refine sp (xinc rfl) ?_; refine oMv ?_; refine sp (pln rfl (tyS rfl)) ?_; refine oCm ?_; refine oN ?_) | (refine rg 8 ?_; refine oAs ?_; refine oAs ?_; refine oAs ?_; refine oN ?_) | refine gc ?_ | refine ct ?_ | refine cf ?_ | refine swp_cond rfl (fun hc => ?_) (fun hc => ?_) | refine rq rfl (rt (rt (rt .nil))) ?_)
          rfl
      · rw [if_neg h13] at hI
        by_cases h5 : 578 ≤ k
        · rw [hlen, if_pos h5] at hI
          rw [hI]
          repeat' (first | (refine rg 2 ?_; refine oMv ?_; refine oMv ?_; refine sp (pln rfl (tyS rfl)) ?_; refine oCm ?_; refine oN ?_) | (refine rg 4 ?_; refine oMv ?_; refine oMv ?_; refine sp (pix rfl (tyS rfl)) ?_; (first | refine oLb ?_ | refine oLd ?_); refine oCm ?_; refine oN ?_) | (refine rg 6 ?_; refine oMv ?_; refine oMv ?_; refine sp (pix rfl (tyS rfl)) ?_; (first | refine oLb ?_ | refine oLd ?_); refine oCm ?_; refine oN ?_) | (refine rg 12 ?_; refine oMv ?_; refine oMv ?_; (first | refine sp (po_dec rfl rfl rfl (by omega)) ?_ | refine sp (po_arith rfl rfl rfl (ar_sub (by first | rfl | (refine wrap_i64 ?_; omega)) rfl)) ?_); refine oCm ?_; refine oN ?_) | (refine rg 13 ?_; refine oAs ?_; refine oAs ?_; refine oAs ?_; refine oN ?_) | refine gc ?_ | refine ct ?_ | refine cf ?_ | refine swp_cond rfl (fun hc => ?_) (fun hc => ?_) | refine rq rfl (rt (rt (rt .nil))) ?_)
          rfl
        · rw [hlen, if_neg h5, htk] at hI
          repeat' (first | refine for_next (by omega) (weak_sub (.cons rfl rfl rfl (.cons rfl rfl rfl (.cons rfl rfl rfl .nil))) .nil .nil) ⟨hI, by omega⟩ | (refine rg 2 ?_; refine oMv ?_; refine oMv ?_; refine sp (pln rfl (tyS rfl)) ?_; refine oCm ?_; refine oN ?_) | (refine rg 4 ?_; refine oMv ?_; refine oMv ?_; refine sp (pix rfl (tyS rfl)) ?_; (first | refine oLb ?_ | refine oLd ?_); refine oCm ?_; refine oN ?_) | (refine rg 6 ?_; refine oMv ?_; refine oMv ?_; refine sp (pix rfl (tyS rfl)) ?_; (first | refine oLb ?_ | refine oLd ?_); refine oCm ?_; refine oN ?_) | (refine rg 12 ?_; refine oMv ?_; refine oMv ?_; (first | refine sp (po_dec rfl rfl rfl (by omega)) ?_ | refine sp (po_arith rfl rfl rfl (ar_sub (by first | rfl | (refine wrap_i64 ?_; omega)) rfl)) ?_); refine oCm ?_; refine oN ?_) | (refine rg 3 ?_; refine oMv ?_; refine sp (xinc rfl) ?_; refine oAs ?_; refine oN ?_) | refine gc ?_ | refine ct ?_ | refine cf ?_)
  · have hd : b.drop (p + k) = [] := List.drop_eq_nil_of_le (by omega)
    rw [hd] at hI
    have e : scan ((b.drop p).take k) [] = .wait := by unfold scan; rfl
    rw [hI, e]
    repeat' (first | (refine rg 2 ?_; refine oMv ?_; refine oMv ?_; refine sp (pln rfl (tyS rfl)) ?_; refine oCm ?_; refine oN ?_) | (refine rg 14 ?_; refine oAs ?_; refine oAs ?_; refine oAs ?_; refine oN ?_) | refine gc ?_ | refine ct ?_ | refine cf ?_ | refine swp_cond rfl (fun hc => ?_) (fun hc => ?_) | refine rq rfl (rt (rt (rt .nil))) ?_)
    rfl
def faultN (h : Int) : Int := if h = 2 then 2 else if h = 3 then 6 else 0
set_option maxRecDepth 100000 in
theorem refFault_ (h : Int) : PCalls Tryz.prog 79 [.v (.int .i64 h)] (.v (.int .i64 (faultN h))) := by
  unfold faultN
  refine pcalls_of Tryz.func79 rfl rfl Tryz.ntmps79 rfl ?_
  by_cases h2 : h = 2
  · rw [if_pos h2]
    repeat' (first | (refine rg 0 ?_; refine oAs ?_; refine oN ?_) | (refine rg 1 ?_; refine oMv ?_; refine oCm ?_; refine oN ?_) | (refine rg 2 ?_; refine oAs ?_; refine oN ?_) | refine gc ?_ | refine ct ?_ | refine cf ?_ | refine swp_cond rfl (fun hc => ?_) (fun hc => ?_) | refine rq rfl (rt .nil) ?_)
    rfl
  · rw [if_neg h2]
    by_cases h3 : h = 3
    · rw [if_pos h3]
      repeat' (first | (refine rg 0 ?_; refine oAs ?_; refine oN ?_) | (refine rg 1 ?_; refine oMv ?_; refine oCm ?_; refine oN ?_) | (refine rg 3 ?_; refine oMv ?_; refine oCm ?_; refine oN ?_) | (refine rg 4 ?_; refine oAs ?_; refine oN ?_) | refine gc ?_ | refine ct ?_ | refine cf ?_ | refine swp_cond rfl (fun hc => ?_) (fun hc => ?_) | refine rq rfl (rt .nil) ?_)
      rfl
    · rw [if_neg h3]
      repeat' (first | (refine rg 0 ?_; refine oAs ?_; refine oN ?_) | (refine rg 1 ?_; refine oMv ?_; refine oCm ?_; refine oN ?_) | (refine rg 3 ?_; refine oMv ?_; refine oCm ?_; refine oN ?_) | (refine rg 5 ?_; refine oAs ?_; refine oN ?_) | refine gc ?_ | refine ct ?_ | refine cf ?_ | refine swp_cond rfl (fun hc => ?_) (fun hc => ?_) | refine rq rfl (rt .nil) ?_)
      rfl
abbrev digS : ByteArray := ⟨#[48, 49, 50, 51, 52, 53, 54, 55, 56, 57, 97, 98, 99, 100, 101, 102, 65, 66, 67, 68, 69, 70]⟩
def hexQ (c : UInt8) : Int := if hexB c then digP c else -1
def hexR (k : Nat) : Int := if 15 < k then (k : Int) - 6 else (k : Int)
theorem digS_at : ∀ k : Fin 22, hexQ (digS[k.1]'(k.2)) = hexR k.1 := by decide
theorem hexQ_all : (List.range 256).all (fun n => decide (hexQ (UInt8.ofNat n) = -1) || (List.range 22).any (fun k => decide ((digS.get! k).toNat = n))) = true := by kernel_rfl
theorem digS_miss {c : UInt8} (h : ∀ k (hk : k < 22), (digS[k]'hk).toNat ≠ c.toNat) : hexQ c = -1 := by
  have := (List.all_eq_true.1 hexQ_all) c.toNat (List.mem_range.2 c.toNat_lt)
  rw [UInt8.ofNat_toNat, Bool.or_eq_true] at this
  rcases this with h1 | h1
  · simpa using h1
  · obtain ⟨k, hk, he⟩ := List.any_eq_true.1 h1
    have hk := List.mem_range.1 hk
    have e : digS.get! k = digS[k]'hk := by
      show digS.data[k]! = digS.data[k]'hk
      exact getElem!_pos digS.data k hk
    rw [decide_eq_true_eq, e] at he
    exact absurd he (h k hk)
set_option maxRecDepth 100000 in
set_option maxHeartbeats 2000000 in
theorem refHex_ (c : UInt8) : PCalls Tryz.prog 133 [.v (.int .u8 (c.toNat : Int))] (.v (.int .i64 (hexQ c))) := by
  refine pcalls_of Tryz.func133 rfl rfl Tryz.ntmps133 rfl ?_
  repeat' (first | (refine rg 0 ?_; refine oAs ?_; refine oN ?_) | (refine rg 1 ?_; refine oAs ?_; refine oN ?_) | refine gc ?_ | refine ct ?_ | refine cf ?_ | refine swp_cond rfl (fun hc => ?_) (fun hc => ?_) | refine rq rfl (rt .nil) ?_)
  refine swp_for (fun k => ⟨[(0, .t (.v (.int .u8 (c.toNat : Int)))), (3, .t (.v (.int .i64 (k : Int))))], [], []⟩) (fun k => ∀ j (hj : j < 22), j < k → (digS[j]'hj).toNat ≠ c.toNat) 22 (weak_sub (.cons rfl rfl rfl (.cons rfl rfl rfl .nil)) .nil .nil) (fun j hj h => by omega) ?_
  intro k hk hI
  have h22 : digS.size = 22 := rfl
  by_cases hlt : k < 22
  · have hq := digS_at ⟨k, hlt⟩
    have hlt' : k < digS.size := hlt
    simp only at hq
    by_cases he : (digS[k]'hlt').toNat = c.toNat
    · have hc : digS[k]'hlt' = c := UInt8.toNat_inj.1 he
      rw [hc] at hq
      rw [hq]
      unfold hexR
      have e1 : decide (((digS[k]'hlt').toNat : Int) = (c.toNat : Int)) = true := by rw [he]; simp
      by_cases h15 : 15 < k
      · rw [if_pos h15]
        repeat' (first | (refine rg 2 ?_; refine oMv ?_; refine oCm ?_; refine oN ?_) | (refine rg 4 ?_; refine oMv ?_; refine sp (xist rfl) ?_; refine oMv ?_; refine oCm ?_; refine oN ?_) | (refine rg 5 ?_; refine oMv ?_; refine oCm ?_; refine oN ?_) | (refine rg 6 ?_; refine oMv ?_; (first | refine sp (po_dec rfl rfl rfl (by omega)) ?_ | refine sp (po_arith rfl rfl rfl (ar_sub (by first | rfl | (refine wrap_i64 ?_; omega)) rfl)) ?_); refine oAs ?_; refine oN ?_) | refine gc ?_ | refine ct ?_ | refine cf ?_ | refine swp_cond rfl (fun hc => ?_) (fun hc => ?_) | refine rq rfl (rt .nil) ?_)
        rfl
      · rw [if_neg h15]
        repeat' (first | (refine rg 2 ?_; refine oMv ?_; refine oCm ?_; refine oN ?_) | (refine rg 4 ?_; refine oMv ?_; refine sp (xist rfl) ?_; refine oMv ?_; refine oCm ?_; refine oN ?_) | (refine rg 5 ?_; refine oMv ?_; refine oCm ?_; refine oN ?_) | (refine rg 7 ?_; refine oMv ?_; refine oAs ?_; refine oN ?_) | refine gc ?_ | refine ct ?_ | refine cf ?_ | refine swp_cond rfl (fun hc => ?_) (fun hc => ?_) | refine rq rfl (rt .nil) ?_)
        rfl
    · have e1 : decide (((digS[k]'hlt').toNat : Int) = (c.toNat : Int)) = false := decide_eq_false (by omega)
      repeat' (first | refine for_next hlt (weak_sub (.cons rfl rfl rfl (.cons rfl rfl rfl .nil)) .nil .nil) (fun j hj h => by rcases Nat.lt_succ_iff_lt_or_eq.1 h with h | h; exact hI j hj h; subst h; exact he) | (refine rg 2 ?_; refine oMv ?_; refine oCm ?_; refine oN ?_) | (refine rg 4 ?_; refine oMv ?_; refine sp (xist rfl) ?_; refine oMv ?_; refine oCm ?_; refine oN ?_) | (refine rg 3 ?_; refine oMv ?_; refine sp (xinc rfl) ?_; refine oAs ?_; refine oN ?_) | refine gc ?_ | refine ct ?_ | refine cf ?_)
  · obtain rfl : k = 22 := by omega
    rw [digS_miss fun j hj => hI j hj hj]
    repeat' (first | (refine rg 2 ?_; refine oMv ?_; refine oCm ?_; refine oN ?_) | (refine rg 8 ?_; refine oAs ?_; refine oN ?_) | refine gc ?_ | refine ct ?_ | refine cf ?_ | refine swp_cond rfl (fun hc => ?_) (fun hc => ?_) | refine rq rfl (rt .nil) ?_)
    rfl
set_option maxRecDepth 100000 in
set_option maxHeartbeats 4000000 in
theorem refSize_ (s : ByteArray) (hs : s.size ≤ maxLen) : PCalls Tryz.prog 108 [.v (.string s)] (.v (.int .i64 (sizeP s))) := by
  unfold maxLen at hs
  have hl := toList_len s
  unfold sizeP
  refine pcalls_of Tryz.func108 rfl rfl Tryz.ntmps108 rfl ?_
  cases h0 : lead0 s with
  | true =>
    rcases lead0_yes h0 with h1 | ⟨h1, h2⟩
    · repeat' (first | (refine rg 0 ?_; refine oAs ?_; refine oN ?_) | (refine rg 1 ?_; refine oMv ?_; refine sp (po_len_str rfl rfl (tyR rfl)) ?_; refine oCm ?_; refine oMv ?_; (first | refine oMv ?_ | refine oK ?_) <;> (first | refine sp (po_len_str rfl rfl (tyR rfl)) ?_ | refine oK ?_) <;> (first | refine oCm ?_ | refine oK ?_) <;> refine oPt ?_ <;> refine oMv ?_ <;> (first | refine oMv ?_ | refine oK ?_) <;> (first | refine sp (po_len_str rfl rfl (tyR rfl)) ?_ | refine oK ?_) <;> (first | refine oCm ?_ | refine oK ?_) <;> (first | refine oMv ?_ | refine oK ?_) <;> (first | refine oMv ?_ | refine oK ?_) <;> (first | refine sp (po_index_str (k := 0) rfl rfl rfl (tyR rfl) (by rfl) (by first | assumption | omega)) ?_ | refine oK ?_) <;> (first | refine oCm ?_ | refine oK ?_) <;> (first | refine oPt ?_ | refine oPf ?_ | refine oK ?_) <;> refine oPt ?_ <;> refine oN ?_) | (refine rg 2 ?_; refine oAs ?_; refine oN ?_) | refine gc ?_ | refine ct ?_ | refine cf ?_ | refine swp_cond rfl (fun hc => ?_) (fun hc => ?_) | refine rq rfl (rt .nil) ?_)
      rfl
    · have h3 := h2 (by omega)
      by_cases h4 : s.size ≤ 4
      · repeat' (first | (refine rg 0 ?_; refine oAs ?_; refine oN ?_) | (refine rg 1 ?_; refine oMv ?_; refine sp (po_len_str rfl rfl (tyR rfl)) ?_; refine oCm ?_; refine oMv ?_; refine oMv ?_ <;> refine sp (po_len_str rfl rfl (tyR rfl)) ?_ <;> refine oCm ?_ <;> (first | refine oPt ?_ | refine oPf ?_) <;> refine oMv ?_ <;> refine oMv ?_ <;> refine sp (po_len_str rfl rfl (tyR rfl)) ?_ <;> refine oCm ?_ <;> refine oMv ?_ <;> refine oMv ?_ <;> refine sp (po_index_str (k := 0) rfl rfl rfl (tyR rfl) (by rfl) (by first | assumption | omega)) ?_ <;> refine oCm ?_ <;> refine oPt ?_ <;> (first | refine oPt ?_ | refine oPf ?_) <;> refine oN ?_) | (refine rg 2 ?_; refine oAs ?_; refine oN ?_) | refine gc ?_ | refine ct ?_ | refine cf ?_ | refine swp_cond rfl (fun hc => ?_) (fun hc => ?_) | refine rq rfl (rt .nil) ?_)
        rfl
      · repeat' (first | (refine rg 0 ?_; refine oAs ?_; refine oN ?_) | (refine rg 1 ?_; refine oMv ?_; refine sp (po_len_str rfl rfl (tyR rfl)) ?_; refine oCm ?_; refine oMv ?_; refine oMv ?_ <;> refine sp (po_len_str rfl rfl (tyR rfl)) ?_ <;> refine oCm ?_ <;> (first | refine oPt ?_ | refine oPf ?_) <;> refine oMv ?_ <;> (first | refine oMv ?_ | refine oK ?_) <;> (first | refine sp (po_len_str rfl rfl (tyR rfl)) ?_ | refine oK ?_) <;> (first | refine oCm ?_ | refine oK ?_) <;> (first | refine oMv ?_ | refine oK ?_) <;> (first | refine oMv ?_ | refine oK ?_) <;> (first | refine sp (po_index_str (k := 0) rfl rfl rfl (tyR rfl) (by rfl) (by first | assumption | omega)) ?_ | refine oK ?_) <;> (first | refine oCm ?_ | refine oK ?_) <;> (first | refine oPt ?_ | refine oPf ?_ | refine oK ?_) <;> refine oPt ?_ <;> refine oN ?_) | (refine rg 2 ?_; refine oAs ?_; refine oN ?_) | refine gc ?_ | refine ct ?_ | refine cf ?_ | refine swp_cond rfl (fun hc => ?_) (fun hc => ?_) | refine rq rfl (rt .nil) ?_)
        rfl
  | false =>
    obtain ⟨h1, h2⟩ := lead0_no h0
    have h3 := h2 h1
    by_cases h4 : s.size ≤ 4
    · rw [decide_eq_true h4]
      have hcs : s.size ≤ 1 ∨ (1 < s.size ∧ s[0].toNat ≠ 48) := by
        by_cases h5 : s.size ≤ 1
        · exact .inl h5
        · exact .inr ⟨by omega, fun h => h5 (by have := h3 h; omega)⟩
      rcases hcs with h5 | ⟨h5, h6⟩
      all_goals
        repeat' (first | (refine rg 0 ?_; refine oAs ?_; refine oN ?_) | (refine rg 1 ?_; refine oMv ?_; refine sp (po_len_str rfl rfl (tyR rfl)) ?_; refine oCm ?_; refine oMv ?_; refine oMv ?_ <;> refine sp (po_len_str rfl rfl (tyR rfl)) ?_ <;> refine oCm ?_ <;> (first | refine oPt ?_ | refine oPf ?_) <;> refine oMv ?_ <;> refine oMv ?_ <;> refine sp (po_len_str rfl rfl (tyR rfl)) ?_ <;> refine oCm ?_ <;> refine oMv ?_ <;> (first | refine oMv ?_ | refine oK ?_) <;> (first | refine sp (po_index_str (k := 0) rfl rfl rfl (tyR rfl) (by rfl) (by assumption)) ?_ | refine oK ?_) <;> (first | refine oCm ?_ | refine oK ?_) <;> (first | refine oPt ?_ | refine oPf ?_) <;> (first | refine oPt ?_ | refine oPf ?_) <;> refine oN ?_) | (refine rg 3 ?_; refine oAs ?_; refine oN ?_) | (refine rg 4 ?_; refine oAs ?_; refine oN ?_) | refine gc ?_ | refine ct ?_ | refine cf ?_ | refine swp_cond rfl (fun hc => ?_) (fun hc => ?_) | refine rq rfl (rt .nil) ?_)
        refine swp_for (fun k => ⟨[(0, .t (.v (.string s))), (3, .t (.v (.int .i64 (sizeN (s.toList.take k))))), (4, .t (.v (.int .i64 (k : Int))))], [], []⟩) (fun k => (s.toList.take k).all hexB = true) s.size (weak_sub (.cons rfl rfl rfl (.cons rfl rfl rfl (.cons rfl rfl rfl .nil))) .nil .nil) rfl ?_
        intro k hk hI
        by_cases hlt : k < s.size
        · have hR := digP_rng s[k]
          have hc1 := refHex_ s[k]
          have hb := sizeN_4 (s.toList.take k) hI (k := k) (by simp; omega) (by omega)
          rw [List.take_take, Nat.min_self] at hb
          unfold hexQ at hc1
          cases hd : hexB s[k] with
          | true =>
            rw [hd, if_pos rfl] at hc1
            have hR := hR hd
            have hn := sizeN_snoc s.toList (k := k) (by omega)
            rw [toList_at s hlt] at hn
            have hsw : sizeN (s.toList.take k) * 16 + digP s[k] = 16 * sizeN (s.toList.take k) + digP s[k] := by omega
            repeat' (first | refine for_next hlt (weak_sub (.cons rfl (by rfl) rfl (.cons rfl (by first | rfl | (exact congrArg (fun n => A.t (T.v (Value.int .i64 n))) (by rw [hn]; omega))) rfl (.cons rfl (by rfl) rfl .nil))) .nil .nil) (all_snoc hI hlt hd) | (refine rg 5 ?_; refine oMv ?_; refine oMv ?_; refine sp (po_len_str rfl rfl (tyR rfl)) ?_; refine oCm ?_; refine oN ?_) | (refine rg 7 ?_; refine oMv ?_; refine oMv ?_; refine sp (xist rfl) ?_; refine oC (hc1) rfl (ac .nil) ?_; refine oAs ?_; refine oN ?_) | (refine rg 8 ?_; refine oMv ?_; refine oCm ?_; refine oN ?_) | (refine rg 10 ?_; refine oMv ?_; refine sp (po_arith rfl rfl rfl (ar_mul (by first | rfl | (refine wrap_i64 ?_; omega)) rfl)) ?_; refine oMv ?_; (first | refine sp (xinc rfl) ?_ | refine sp (xadd rfl) ?_); refine oAs ?_; refine oN ?_) | (refine rg 6 ?_; refine oMv ?_; refine sp (xinc rfl) ?_; refine oAs ?_; refine oN ?_) | refine gc ?_ | refine ct ?_ | refine cf ?_)
          | false =>
            rw [hd, if_neg (by simp)] at hc1
            rw [all_bad hlt hd]
            repeat' (first | (refine rg 5 ?_; refine oMv ?_; refine oMv ?_; refine sp (po_len_str rfl rfl (tyR rfl)) ?_; refine oCm ?_; refine oN ?_) | (refine rg 7 ?_; refine oMv ?_; refine oMv ?_; refine sp (xist rfl) ?_; refine oC (hc1) rfl (ac .nil) ?_; refine oAs ?_; refine oN ?_) | (refine rg 8 ?_; refine oMv ?_; refine oCm ?_; refine oN ?_) | (refine rg 9 ?_; refine oAs ?_; refine oN ?_) | refine gc ?_ | refine ct ?_ | refine cf ?_ | refine swp_cond rfl (fun hc => ?_) (fun hc => ?_) | refine rq rfl (rt .nil) ?_)
            rfl
        · obtain rfl : k = s.size := by omega
          rw [take_full s (Nat.lt_irrefl _)] at hI
          rw [hI, take_full s (Nat.lt_irrefl _)]
          repeat' (first | (refine rg 5 ?_; refine oMv ?_; refine oMv ?_; refine sp (po_len_str rfl rfl (tyR rfl)) ?_; refine oCm ?_; refine oN ?_) | (refine rg 11 ?_; refine oMv ?_; refine oAs ?_; refine oN ?_) | refine gc ?_ | refine ct ?_ | refine cf ?_ | refine swp_cond rfl (fun hc => ?_) (fun hc => ?_) | refine rq rfl (rt .nil) ?_)
          rfl
    · rw [decide_eq_false h4]
      repeat' (first | (refine rg 0 ?_; refine oAs ?_; refine oN ?_) | (refine rg 1 ?_; refine oMv ?_; refine sp (po_len_str rfl rfl (tyR rfl)) ?_; refine oCm ?_; refine oMv ?_; refine oMv ?_ <;> refine sp (po_len_str rfl rfl (tyR rfl)) ?_ <;> refine oCm ?_ <;> (first | refine oPt ?_ | refine oPf ?_) <;> refine oMv ?_ <;> (first | refine oMv ?_ | refine oK ?_) <;> (first | refine sp (po_len_str rfl rfl (tyR rfl)) ?_ | refine oK ?_) <;> (first | refine oCm ?_ | refine oK ?_) <;> (first | refine oMv ?_ | refine oK ?_) <;> (first | refine oMv ?_ | refine oK ?_) <;> (first | refine sp (po_index_str (k := 0) rfl rfl rfl (tyR rfl) (by rfl) (by assumption)) ?_ | refine oK ?_) <;> (first | refine oCm ?_ | refine oK ?_) <;> (first | refine oPt ?_ | refine oPf ?_ | refine oK ?_) <;> refine oPt ?_ <;> refine oN ?_) | (refine rg 2 ?_; refine oAs ?_; refine oN ?_) | refine gc ?_ | refine ct ?_ | refine cf ?_ | refine swp_cond rfl (fun hc => ?_) (fun hc => ?_) | refine rq rfl (rt .nil) ?_)
      rfl
end Go.Proofs.YtloippgblkoemaaGreatDoor.Rq

/- A logic of states: a loop whose rounds bear data. -/
namespace Go.Proofs.YtloippgblkoemaaGreatDoor.Sim
set_option linter.unusedVariables false
set_option linter.unusedSimpArgs false
open Go.RowKit Mem
section
variable {P : Program} {N : Nat} {Q : Exit → St → Prop} {st : St}
def famF {α : Type} (N : Nat) (S : α → St) (I : α → Prop) (μ : α → Nat) (x : α) (Q : Exit → St → Prop) : Exit → St → Prop
  | .normal, s' => ∃ y, μ y < μ x ∧ I y ∧ Weak N s' (S y)
  | e, s' => Q e s'
structure FamQ {α : Type} (N : Nat) (S : α → St) (I : α → Prop) (μ : α → Nat) (x : α) (Q : Exit → St → Prop) (e : Exit) (s' : St) : Prop where
  go : famF N S I μ x Q e s'
theorem fam_next {α : Type} {S : α → St} {I : α → Prop} {μ : α → Nat} {x : α} {s' : St} (y : α) (hm : μ y < μ x) (hw : Weak N s' (S y)) (hI : I y) : FamQ N S I μ x Q .normal s' := ⟨⟨y, hm, hI, hw⟩⟩
theorem fam_ret {α : Type} {S : α → St} {I : α → Prop} {μ : α → Nat} {x : α} {s' : St} (h : Q .ret s') : FamQ N S I μ x Q .ret s' := ⟨h⟩
theorem fam_exit {α : Type} {S : α → St} {I : α → Prop} {μ : α → Nat} {x : α} {s' : St} {id : Nat} (h : Q (.exit id) s') : FamQ N S I μ x Q (.exit id) s' := ⟨h⟩
/-- a loop whose rounds bear data that a measure counts down -/
theorem swp_fam {α : Type} {c : Code} (S : α → St) (I : α → Prop) (μ : α → Nat) (x0 : α) (h0 : Weak N st (S x0)) (hI : I x0) (hround : ∀ x, I x → SWp P N c (FamQ N S I μ x Q) (S x)) : SWp P N (.loop c) Q st := by
  refine .mk fun C a w hr => ?_
  have key : ∀ n x a w, μ x = n → I x → Rel C N (S x) a w → ∀ (b : Frame) (k : List Item) (cs : List Frame), ∃ e a' w', Good C N Q e a' w' ∧ Arrives P (lone (b.at a (.code c :: .inLoop c :: k)) cs w) b k cs e a' w' := by
    intro n
    induction n using Nat.strongRecOn with
    | _ n ih =>
      intro x a w hn hi hr b k cs
      obtain ⟨e, a1, w1, ⟨s1, hr1, hq⟩, harr⟩ := (hround x hi).go C a w hr b (.inLoop c :: k) cs
      cases e with
      | normal =>
        obtain ⟨y, hm, hi', hw⟩ := hq.go
        obtain ⟨e2, a2, w2, hq2, harr2⟩ := ih (μ y) (by omega) y a1 w1 rfl hi' (hw.go C a1 w1 hr1) b k cs
        exact ⟨e2, a2, w2, hq2, .of_steps (Steps.trans harr (.one step_inLoop)) harr2⟩
      | exit id => exact ⟨_, a1, w1, ⟨s1, hr1, hq.go⟩, .pass (x := .inLoop c) rfl (fun _ _ => .inl (by simp)) harr⟩
      | goto l => exact ⟨_, a1, w1, ⟨s1, hr1, hq.go⟩, .pass (x := .inLoop c) rfl (fun _ _ => .inl (by simp)) harr⟩
      | ret => exact ⟨_, a1, w1, ⟨s1, hr1, hq.go⟩, .pass (x := .inLoop c) rfl (fun _ _ => .inl (by simp)) harr⟩
      | panic ch => exact ⟨_, a1, w1, ⟨s1, hr1, hq.go⟩, .pass (x := .inLoop c) rfl (fun _ _ => .inl (by simp)) harr⟩
      | outgrown => exact ⟨_, a1, w1, ⟨s1, hr1, hq.go⟩, .pass (x := .inLoop c) rfl (fun _ _ => .inl (by simp)) harr⟩
  intro b k cs
  obtain ⟨e, a', w', hq, harr⟩ := key _ x0 a w rfl hI (h0.go C a w hr) b k cs
  exact ⟨e, a', w', hq, .of_steps (.one step_loop) harr⟩
end
end Go.Proofs.YtloippgblkoemaaGreatDoor.Sim
