/- Merged by bundles.py: SimPath6, SimJn, SimPath9a, SimAn4, SimAn5, SimAn6. -/
import Derived.Test.YtpncekdhigappaaGreatDoorS25
import Derived.Test.YtpncekdhigappaaGreatDoorS27
import Derived.Test.YtpncekdhigappaaGreatDoorS0
import Derived.Test.YtpncekdhigappaaGreatDoorS11
import Derived.Test.YtpncekdhigappaaGreatDoorS21
/- Targets: path.Normal and what stands on it: walks. -/
namespace Go.Proofs.YtpncekdhigappaaGreatDoor.Pth
set_option linter.unusedVariables false
set_option linter.unusedSimpArgs false
open Go.RowKit Mem Sim Opn Str
theorem bs_cat (a b : L8) : bs a ++ bs b = bs (a ++ b) := bs_inj (by rw [toList_append, bs_toList, bs_toList, bs_toList])
set_option maxRecDepth 100000 in
theorem joined_ (dir : Bool) (l : List L8) (hn : tot l ≤ 1000000) : PCalls Tryz.prog 110 [.v (.bool dir), .sl 1 (l.map strT)] (.v (.string (bs (joinL dir l)))) := by
  have hm : (l.map strT).length = l.length := List.length_map _
  have hl : l.length ≤ 1000000 := by unfold tot at hn; omega
  have hi := inter_len l
  have h47 : (⟨#[47]⟩ : ByteArray).toList = [47] := bs_toList [47]
  have hj := Jn.join_ l ⟨#[47]⟩ hl (by rw [h47]; omega)
  rw [h47] at hj
  have hsz := bs_size (([47] : L8).intercalate l)
  have h1 : (⟨#[47]⟩ : ByteArray).size = 1 := rfl
  have hc1 : (⟨#[47]⟩ : ByteArray) ++ bs (([47] : L8).intercalate l) = bs (47 :: ([47] : L8).intercalate l) := bs_cat [47] _
  have hc2 : bs (47 :: ([47] : L8).intercalate l) ++ (⟨#[47]⟩ : ByteArray) = bs (47 :: ([47] : L8).intercalate l ++ [47]) := bs_cat _ [47]
  have hs3 : ((⟨#[47]⟩ : ByteArray) ++ bs (([47] : L8).intercalate l)).size = 1 + (([47] : L8).intercalate l).length := by rw [hc1, bs_size]; simp; omega
  have hmx : (⟨#[47]⟩ : ByteArray).size + (bs (([47] : L8).intercalate l)).size ≤ maxLen := by unfold maxLen; omega
  have hmx2 : ((⟨#[47]⟩ : ByteArray) ++ bs (([47] : L8).intercalate l)).size + (⟨#[47]⟩ : ByteArray).size ≤ maxLen := by unfold maxLen; omega
  refine pcalls_of Tryz.func110 rfl rfl Tryz.ntmps110 rfl ?_
  unfold joinL
  cases dir with
  | false =>
    repeat' (first | (refine rg 0 ?_; refine oAs ?_; refine oN ?_) | (refine rg 1 ?_; refine oMv ?_; refine oC (hj) rfl (ac (ac .nil)) ?_; refine sp (po_cat rfl rfl rfl (by omega)) ?_; refine oAs ?_; refine oN ?_) | (refine rg 2 ?_; refine oMv ?_; refine oMv ?_; (first | refine oMv ?_ | refine oK ?_) <;> (first | refine sp (pln rfl (tyS rfl)) ?_ | refine oK ?_) <;> (first | refine oCm ?_ | refine oK ?_) <;> (first | refine oPt ?_ | refine oPf ?_) <;> refine oN ?_) | (refine rg 4 ?_; refine oMv ?_; refine oAs ?_; refine oN ?_) | refine gc ?_ | refine ct ?_ | refine cf ?_ | refine swp_cond rfl (fun hc => ?_) (fun hc => ?_) | refine rq rfl (rt .nil) ?_)
    show _ = T.v (.string _)
    rw [hc1]; simp
  | true =>
    by_cases h0 : l = []
    · have hz : ¬ (0 : Int) < (((l.map strT).length : Nat) : Int) := by subst h0; simp
      repeat' (first | (refine rg 0 ?_; refine oAs ?_; refine oN ?_) | (refine rg 1 ?_; refine oMv ?_; refine oC (hj) rfl (ac (ac .nil)) ?_; refine sp (po_cat rfl rfl rfl (by omega)) ?_; refine oAs ?_; refine oN ?_) | (refine rg 2 ?_; refine oMv ?_; refine oMv ?_; refine oMv ?_ <;> refine sp (pln rfl (tyS rfl)) ?_ <;> refine oCm ?_ <;> refine oPt ?_ <;> refine oN ?_) | (refine rg 4 ?_; refine oMv ?_; refine oAs ?_; refine oN ?_) | refine gc ?_ | refine ct ?_ | refine cf ?_ | refine swp_cond rfl (fun hc => ?_) (fun hc => ?_) | refine rq rfl (rt .nil) ?_)
      show _ = T.v (.string _)
      rw [hc1]; simp [h0]
    · have hz : (0 : Int) < (((l.map strT).length : Nat) : Int) := by cases l with | nil => exact absurd rfl h0 | cons _ _ => simp
      repeat' (first | (refine rg 0 ?_; refine oAs ?_; refine oN ?_) | (refine rg 1 ?_; refine oMv ?_; refine oC (hj) rfl (ac (ac .nil)) ?_; refine sp (po_cat rfl rfl rfl (by omega)) ?_; refine oAs ?_; refine oN ?_) | (refine rg 2 ?_; refine oMv ?_; refine oMv ?_; refine oMv ?_ <;> refine sp (pln rfl (tyS rfl)) ?_ <;> refine oCm ?_ <;> refine oPt ?_ <;> refine oN ?_) | (refine rg 3 ?_; refine oMv ?_; refine sp (po_cat rfl rfl rfl (by omega)) ?_; refine oAs ?_; refine oN ?_) | (refine rg 4 ?_; refine oMv ?_; refine oAs ?_; refine oN ?_) | refine gc ?_ | refine ct ?_ | refine cf ?_ | refine swp_cond rfl (fun hc => ?_) (fun hc => ?_) | refine rq rfl (rt .nil) ?_)
      show _ = T.v (.string _)
      rw [hc1, hc2]; simp [h0]
def normT (x : Option (L8 × L8)) : T := match x with
  | some (p, q) => .tup [.v (.string (bs p)), .v (.string (bs q)), .v (.int .i64 0)]
  | none => .tup [.v (.string ⟨#[]⟩), .v (.string ⟨#[]⟩), .v (.int .i64 2)]
theorem cutT_L (s : ByteArray) : ∃ b : Bool, cutT s 63 = .tup [.v (.string (bs (cutL s.toList).1)), .v (.string (bs (cutL s.toList).2)), .v (.bool b)] := by
  have hl := toList_len s
  have e : ∀ a b, s.extract a b = bs ((s.toList.take b).drop a) := fun a b => by
    have := ext_bs s.toList a b
    rw [toList_bs] at this; exact this
  unfold cutT
  rw [cut_idx]
  unfold fidx
  by_cases h : s.toList.findIdx (· == 63) < s.size
  · rw [if_pos h]
    refine ⟨true, ?_⟩
    rw [e, e, List.drop_zero, List.take_of_length_le (by omega : s.toList.length ≤ s.size)]
  · rw [if_neg h]
    refine ⟨false, ?_⟩
    have h1 : s.toList.findIdx (· == 63) = s.toList.length := by
      have := List.findIdx_le_length (xs := s.toList) (p := (· == 63)); omega
    rw [h1, List.take_length, List.drop_of_length_le (by omega), toList_bs]; rfl
set_option maxRecDepth 100000 in
set_option maxHeartbeats 1000000 in
theorem Normal_ (s : ByteArray) (hs : s.size ≤ 100000) : PCalls Tryz.prog 78 [.v (.string s)] (normT (normL s.toList)) := by
  have c0 := may_ s hs
  unfold normL
  refine pcalls_of Tryz.func78 rfl rfl Tryz.ntmps78 rfl ?_
  cases hmay : mayL s.toList with
  | false =>
    rw [hmay] at c0
    repeat' (first | (refine rg 0 ?_; refine oAs ?_; refine oAs ?_; refine oAs ?_; refine oN ?_) | (refine rg 1 ?_; refine oMv ?_; refine oC (c0) rfl (ac .nil) ?_; refine sp (po_not rfl rfl) ?_; refine oN ?_) | (refine rg 2 ?_; refine oAs ?_; refine oAs ?_; refine oAs ?_; refine oN ?_) | refine gc ?_ | refine ct ?_ | refine cf ?_ | refine swp_cond rfl (fun hc => ?_) (fun hc => ?_) | refine rq rfl (rt (rt (rt .nil))) ?_)
    rfl
  | true =>
    rw [hmay] at c0
    obtain ⟨m1, m2, m3⟩ := may_parts hmay
    have hl := toList_len s
    obtain ⟨b, hcut⟩ := cutT_L s
    have c1 := cut_ s 63 (by unfold maxLen; omega)
    rw [hcut] at c1
    obtain ⟨k1, k2⟩ := cut_ok m3
    obtain ⟨n1, n2⟩ := cut_len s.toList
    have hh := head_cut m2
    have c2 := said_ hiddenB 107 hidden_ (bs (cutL s.toList).1) (by rw [bs_size]; omega) (by rw [bs_toList]; exact k1)
    have c3 := said_ (fun _ => false) 108 none_ (bs (cutL s.toList).2) (by rw [bs_size]; omega) (by rw [bs_toList]; exact k2)
    rw [bs_toList] at c2 c3
    have hh2 := said_head (bad := hiddenB) hh.1
    have l2 := saidL_len hiddenB (cutL s.toList).1
    generalize (cutL s.toList).1 = road0 at *
    generalize (cutL s.toList).2 = q0 at *
    generalize saidL hiddenB road0 = rd at *
    generalize saidL (fun _ => false) q0 = qd at *
    obtain ⟨road, ok⟩ := rd
    obtain ⟨q, qok⟩ := qd
    dsimp only at *
    have c4 := kept_ road hh2.2 (by omega)
    have ht : ∀ r, keptL road = some r → tot r.1 ≤ road.length := fun r => tot_keptL hh2.2
    rw [if_pos rfl]
    cases hk : keptL road with
    | none =>
      rw [hk] at c4
      unfold keptT at c4
      dsimp only at c4
      cases ok with
      | true =>
        repeat' (first | (refine rg 0 ?_; refine oAs ?_; refine oAs ?_; refine oAs ?_; refine oN ?_) | (refine rg 1 ?_; refine oMv ?_; refine oC (c0) rfl (ac .nil) ?_; refine sp (po_not rfl rfl) ?_; refine oN ?_) | (refine rg 3 ?_; refine oMv ?_; (first | refine oC (c0) rfl (ac (ac .nil)) ?_ | refine oC (c1) rfl (ac (ac .nil)) ?_); refine oMv ?_; refine oEx ?_; refine oEx ?_; refine oEx ?_; refine oAs ?_; refine oAs ?_; refine oAs ?_; refine oN ?_) | (refine rg 4 ?_; refine oMv ?_; (first | refine oC (c0) rfl (ac (ac .nil)) ?_ | refine oC (c1) rfl (ac (ac .nil)) ?_ | refine oC (c2) rfl (ac (ac .nil)) ?_); refine oMv ?_; refine oEx ?_; refine oEx ?_; refine oAs ?_; refine oAs ?_; refine oN ?_) | (refine rg 5 ?_; refine oMv ?_; (first | refine oC (c0) rfl (ac (ac .nil)) ?_ | refine oC (c1) rfl (ac (ac .nil)) ?_ | refine oC (c2) rfl (ac (ac .nil)) ?_ | refine oC (c3) rfl (ac (ac .nil)) ?_); refine oMv ?_; refine oEx ?_; refine oEx ?_; refine oAs ?_; refine oN ?_) | (refine rg 6 ?_; refine oMv ?_; (first | refine oC (c0) rfl (ac .nil) ?_ | refine oC (c1) rfl (ac .nil) ?_ | refine oC (c2) rfl (ac .nil) ?_ | refine oC (c3) rfl (ac .nil) ?_ | refine oC (c4) rfl (ac .nil) ?_); refine oMv ?_; refine oEx ?_; refine oEx ?_; refine oEx ?_; refine oAs ?_; refine oAs ?_; refine oAs ?_; refine oN ?_) | (refine rg 7 ?_; refine oMv ?_; refine sp (po_not rfl rfl) ?_; refine oMv ?_; refine oMv ?_ <;> refine sp (po_not rfl rfl) ?_ <;> (first | refine oPt ?_ | refine oPf ?_) <;> refine oN ?_) | (refine rg 8 ?_; refine oAs ?_; refine oAs ?_; refine oAs ?_; refine oN ?_) | refine gc ?_ | refine ct ?_ | refine cf ?_ | refine swp_cond rfl (fun hc => ?_) (fun hc => ?_) | refine rq rfl (rt (rt (rt .nil))) ?_)
        rfl
      | false =>
        repeat' (first | (refine rg 0 ?_; refine oAs ?_; refine oAs ?_; refine oAs ?_; refine oN ?_) | (refine rg 1 ?_; refine oMv ?_; refine oC (c0) rfl (ac .nil) ?_; refine sp (po_not rfl rfl) ?_; refine oN ?_) | (refine rg 3 ?_; refine oMv ?_; (first | refine oC (c0) rfl (ac (ac .nil)) ?_ | refine oC (c1) rfl (ac (ac .nil)) ?_); refine oMv ?_; refine oEx ?_; refine oEx ?_; refine oEx ?_; refine oAs ?_; refine oAs ?_; refine oAs ?_; refine oN ?_) | (refine rg 4 ?_; refine oMv ?_; (first | refine oC (c0) rfl (ac (ac .nil)) ?_ | refine oC (c1) rfl (ac (ac .nil)) ?_ | refine oC (c2) rfl (ac (ac .nil)) ?_); refine oMv ?_; refine oEx ?_; refine oEx ?_; refine oAs ?_; refine oAs ?_; refine oN ?_) | (refine rg 5 ?_; refine oMv ?_; (first | refine oC (c0) rfl (ac (ac .nil)) ?_ | refine oC (c1) rfl (ac (ac .nil)) ?_ | refine oC (c2) rfl (ac (ac .nil)) ?_ | refine oC (c3) rfl (ac (ac .nil)) ?_); refine oMv ?_; refine oEx ?_; refine oEx ?_; refine oAs ?_; refine oN ?_) | (refine rg 6 ?_; refine oMv ?_; (first | refine oC (c0) rfl (ac .nil) ?_ | refine oC (c1) rfl (ac .nil) ?_ | refine oC (c2) rfl (ac .nil) ?_ | refine oC (c3) rfl (ac .nil) ?_ | refine oC (c4) rfl (ac .nil) ?_); refine oMv ?_; refine oEx ?_; refine oEx ?_; refine oEx ?_; refine oAs ?_; refine oAs ?_; refine oAs ?_; refine oN ?_) | (refine rg 7 ?_; refine oMv ?_; refine sp (po_not rfl rfl) ?_; refine oMv ?_; (first | refine oMv ?_ | refine oK ?_) <;> (first | refine sp (po_not rfl rfl) ?_ | refine oK ?_) <;> refine oPt ?_ <;> refine oN ?_) | (refine rg 8 ?_; refine oAs ?_; refine oAs ?_; refine oAs ?_; refine oN ?_) | refine gc ?_ | refine ct ?_ | refine cf ?_ | refine swp_cond rfl (fun hc => ?_) (fun hc => ?_) | refine rq rfl (rt (rt (rt .nil))) ?_)
        rfl
    | some r =>
      obtain ⟨left, dir⟩ := r
      have ht' := ht _ hk
      dsimp only at ht'
      rw [hk] at c4
      unfold keptT at c4
      dsimp only at c4
      have c5 := joined_ dir left (by omega)
      cases ok with
      | true =>
        repeat' (first | (refine rg 0 ?_; refine oAs ?_; refine oAs ?_; refine oAs ?_; refine oN ?_) | (refine rg 1 ?_; refine oMv ?_; refine oC (c0) rfl (ac .nil) ?_; refine sp (po_not rfl rfl) ?_; refine oN ?_) | (refine rg 3 ?_; refine oMv ?_; (first | refine oC (c0) rfl (ac (ac .nil)) ?_ | refine oC (c1) rfl (ac (ac .nil)) ?_); refine oMv ?_; refine oEx ?_; refine oEx ?_; refine oEx ?_; refine oAs ?_; refine oAs ?_; refine oAs ?_; refine oN ?_) | (refine rg 4 ?_; refine oMv ?_; (first | refine oC (c0) rfl (ac (ac .nil)) ?_ | refine oC (c1) rfl (ac (ac .nil)) ?_ | refine oC (c2) rfl (ac (ac .nil)) ?_); refine oMv ?_; refine oEx ?_; refine oEx ?_; refine oAs ?_; refine oAs ?_; refine oN ?_) | (refine rg 5 ?_; refine oMv ?_; (first | refine oC (c0) rfl (ac (ac .nil)) ?_ | refine oC (c1) rfl (ac (ac .nil)) ?_ | refine oC (c2) rfl (ac (ac .nil)) ?_ | refine oC (c3) rfl (ac (ac .nil)) ?_); refine oMv ?_; refine oEx ?_; refine oEx ?_; refine oAs ?_; refine oN ?_) | (refine rg 6 ?_; refine oMv ?_; (first | refine oC (c0) rfl (ac .nil) ?_ | refine oC (c1) rfl (ac .nil) ?_ | refine oC (c2) rfl (ac .nil) ?_ | refine oC (c3) rfl (ac .nil) ?_ | refine oC (c4) rfl (ac .nil) ?_); refine oMv ?_; refine oEx ?_; refine oEx ?_; refine oEx ?_; refine oAs ?_; refine oAs ?_; refine oAs ?_; refine oN ?_) | (refine rg 7 ?_; refine oMv ?_; refine sp (po_not rfl rfl) ?_; refine oMv ?_; refine oMv ?_ <;> refine sp (po_not rfl rfl) ?_ <;> (first | refine oPt ?_ | refine oPf ?_) <;> refine oN ?_) | (refine rg 9 ?_; refine oMv ?_; refine oMv ?_; (first | refine oC (c0) rfl (ac (ac .nil)) ?_ | refine oC (c1) rfl (ac (ac .nil)) ?_ | refine oC (c2) rfl (ac (ac .nil)) ?_ | refine oC (c3) rfl (ac (ac .nil)) ?_ | refine oC (c4) rfl (ac (ac .nil)) ?_ | refine oC (c5) rfl (ac (ac .nil)) ?_); refine oMv ?_; refine oAs ?_; refine oAs ?_; refine oAs ?_; refine oN ?_) | refine gc ?_ | refine ct ?_ | refine cf ?_ | refine swp_cond rfl (fun hc => ?_) (fun hc => ?_) | refine rq rfl (rt (rt (rt .nil))) ?_)
        rfl
      | false =>
        repeat' (first | (refine rg 0 ?_; refine oAs ?_; refine oAs ?_; refine oAs ?_; refine oN ?_) | (refine rg 1 ?_; refine oMv ?_; refine oC (c0) rfl (ac .nil) ?_; refine sp (po_not rfl rfl) ?_; refine oN ?_) | (refine rg 3 ?_; refine oMv ?_; (first | refine oC (c0) rfl (ac (ac .nil)) ?_ | refine oC (c1) rfl (ac (ac .nil)) ?_); refine oMv ?_; refine oEx ?_; refine oEx ?_; refine oEx ?_; refine oAs ?_; refine oAs ?_; refine oAs ?_; refine oN ?_) | (refine rg 4 ?_; refine oMv ?_; (first | refine oC (c0) rfl (ac (ac .nil)) ?_ | refine oC (c1) rfl (ac (ac .nil)) ?_ | refine oC (c2) rfl (ac (ac .nil)) ?_); refine oMv ?_; refine oEx ?_; refine oEx ?_; refine oAs ?_; refine oAs ?_; refine oN ?_) | (refine rg 5 ?_; refine oMv ?_; (first | refine oC (c0) rfl (ac (ac .nil)) ?_ | refine oC (c1) rfl (ac (ac .nil)) ?_ | refine oC (c2) rfl (ac (ac .nil)) ?_ | refine oC (c3) rfl (ac (ac .nil)) ?_); refine oMv ?_; refine oEx ?_; refine oEx ?_; refine oAs ?_; refine oN ?_) | (refine rg 6 ?_; refine oMv ?_; (first | refine oC (c0) rfl (ac .nil) ?_ | refine oC (c1) rfl (ac .nil) ?_ | refine oC (c2) rfl (ac .nil) ?_ | refine oC (c3) rfl (ac .nil) ?_ | refine oC (c4) rfl (ac .nil) ?_); refine oMv ?_; refine oEx ?_; refine oEx ?_; refine oEx ?_; refine oAs ?_; refine oAs ?_; refine oAs ?_; refine oN ?_) | (refine rg 7 ?_; refine oMv ?_; refine sp (po_not rfl rfl) ?_; refine oMv ?_; (first | refine oMv ?_ | refine oK ?_) <;> (first | refine sp (po_not rfl rfl) ?_ | refine oK ?_) <;> refine oPt ?_ <;> refine oN ?_) | (refine rg 8 ?_; refine oAs ?_; refine oAs ?_; refine oAs ?_; refine oN ?_) | refine gc ?_ | refine ct ?_ | refine cf ?_ | refine swp_cond rfl (fun hc => ?_) (fun hc => ?_) | refine rq rfl (rt (rt (rt .nil))) ?_)
        rfl
end Go.Proofs.YtpncekdhigappaaGreatDoor.Pth

/- A logic of states: ways that meet again. -/
namespace Go.Proofs.YtpncekdhigappaaGreatDoor.Sim
set_option linter.unusedVariables false
set_option linter.unusedSimpArgs false
open Go.RowKit Mem
def joinF (N : Nat) (st' : St) (Q : Exit → St → Prop) : Exit → St → Prop
  | .normal, s => Weak N s st'
  | e, s => Q e s
structure JoinQ (N : Nat) (st' : St) (Q : Exit → St → Prop) (e : Exit) (s : St) : Prop where
  go : joinF N st' Q e s
section
variable {P : Program} {N : Nat} {Q : Exit → St → Prop} {st : St} {x y : Code}
theorem swp_joinQ {c : Code} (st' : St) (h : SWp P N c (JoinQ N st' Q) st) (k : Q .normal st') : SWp P N c Q st :=
  swp_join (st' := st') (swp_mono h fun e s hq => by
    cases e <;> exact hq.go) k
theorem join_go {st' s : St} (h : Weak N s st') : JoinQ N st' Q .normal s := ⟨h⟩
end
end Go.Proofs.YtpncekdhigappaaGreatDoor.Sim

/- Targets: the document's answer, what is said by %: its pieces, walked. -/
namespace Go.Proofs.YtpncekdhigappaaGreatDoor.Pth
set_option linter.unusedVariables false
set_option linter.unusedSimpArgs false
open Go.RowKit Mem Sim Opn Str Hd
/-- a code's piece: the region of a number; what begins with it -/
def fR (id : Nat) : Code → Option Code
  | .region i l b => if i = id then some (.region i l b) else none
  | .seq x y => match fR id x with
    | some c => some c
    | none => fR id y
  | .block _ c => fR id c
  | .loop c => fR id c
  | .scope c => fR id c
  | .cond _ x y => match fR id x with
    | some c => some c
    | none => fR id y
  | _ => none
def bodyOf (f : Func) : Code := f.body.getD .skip
end Go.Proofs.YtpncekdhigappaaGreatDoor.Pth

/- Answers: a text's beginning; is a text plain; walks. -/
namespace Go.Proofs.YtpncekdhigappaaGreatDoor.An
set_option linter.unusedVariables false
set_option linter.unusedSimpArgs false
open Go.RowKit Mem Sim Opn Hd Str Rq
set_option maxRecDepth 100000 in
theorem write1_ (c : Nat) : PCalls Tryz.prog 83 [.v (.int .i32 (c : Int))] (.v (.bool (oddR c))) := by
  have h2 : decide (126 < (c : Int)) = decide (126 < c) := by by_cases h : 126 < c <;> simp [h] <;> omega
  unfold oddR
  refine pcalls_of Tryz.func83 rfl rfl Tryz.ntmps83 rfl ?_
  by_cases h : c < 32
  · rw [decide_eq_true h]
    repeat' (first | (refine rg 0 ?_; refine oAs ?_; refine oN ?_) | (refine rg 1 ?_; refine oMv ?_; refine oCm ?_; refine oMv ?_; (first | refine oMv ?_ | refine oK ?_) <;> (first | refine oCm ?_ | refine oK ?_) <;> refine oPt ?_ <;> refine oAs ?_ <;> refine oN ?_) | refine gc ?_ | refine ct ?_ | refine cf ?_ | refine swp_cond rfl (fun hc => ?_) (fun hc => ?_) | refine rq rfl (rt .nil) ?_)
    rfl
  · rw [decide_eq_false h]
    repeat' (first | (refine rg 0 ?_; refine oAs ?_; refine oN ?_) | (refine rg 1 ?_; refine oMv ?_; refine oCm ?_; refine oMv ?_; refine oMv ?_ <;> refine oCm ?_ <;> (first | refine oPt ?_ | refine oPf ?_) <;> refine oAs ?_ <;> refine oN ?_) | refine gc ?_ | refine ct ?_ | refine cf ?_ | refine swp_cond rfl (fun hc => ?_) (fun hc => ?_) | refine rq rfl (rt .nil) ?_)
    rw [← h2]; rfl
end Go.Proofs.YtpncekdhigappaaGreatDoor.An

/- Answers: is a text plain; a number of three digits; walks. -/
namespace Go.Proofs.YtpncekdhigappaaGreatDoor.An
set_option linter.unusedVariables false
set_option linter.unusedSimpArgs false
open Go.RowKit Mem Sim Opn Hd Str Rq
def oddAt (s : ByteArray) : Int := if plainP s then -1 else (s.toList.findIdx oddB : Int)
theorem even_rune {s : ByteArray} {k : Nat} (h : k < s.size) (hd : evenB s[k] = true) : Utf8.decode s k = ((s[k]).toNat, 1) ∧ oddR s[k].toNat = false := by
  unfold evenB oddB at hd
  have hd : oddR s[k].toNat = false := by simpa using hd
  have h2 := hd
  unfold oddR at h2
  simp at h2
  exact ⟨decode_ascii s k h (by omega), hd⟩
theorem odd_rune {s : ByteArray} {k : Nat} (h : k < s.size) (hd : evenB s[k] = false) : oddR (Utf8.decode s k).1 = true := by
  unfold evenB oddB at hd
  have hd : oddR s[k].toNat = true := by simpa using hd
  by_cases ha : s[k].toNat < 128
  · rw [decode_ascii s k h ha]; exact hd
  · have := (decode_high s k h (by omega)).1
    unfold oddR; simp; omega
theorem oddAt_at {s : ByteArray} {k : Nat} (hk : k < s.size) (hI : (s.toList.take k).all evenB = true) (hd : evenB s[k] = false) : oddAt s = (k : Int) := by
  have hl := toList_len s
  have h1 : plainP s = false := all_bad hk hd
  unfold oddAt
  rw [h1, if_neg (by simp)]
  have : s.toList.findIdx oddB = k := by
    rw [List.findIdx_eq (by omega)]
    refine ⟨?_, fun j hj => ?_⟩
    · rw [toList_at s hk]; unfold evenB at hd; simpa using hd
    · have h2 := (List.all_eq_true.1 hI) (s.toList[j]'(by omega)) (List.mem_of_getElem? (by rw [List.getElem?_take_of_lt hj]; exact List.getElem?_eq_getElem (by omega)))
      unfold evenB at h2; simpa using h2
  rw [this]
set_option maxRecDepth 100000 in
set_option maxHeartbeats 2000000 in
theorem indexFunc_ (F : FuncId) (hF : ∀ c : Nat, PCalls Tryz.prog F ([.v (.int .i32 (c : Int))] ++ []) (.v (.bool (oddR c)))) (s : ByteArray) (hs : s.size ≤ maxLen) : PCalls Tryz.prog 122 [.v (.string s), .clo F [], .v (.bool true)] (.v (.int .i64 (oddAt s))) := by
  unfold maxLen at hs
  refine pcalls_of Tryz.func122 rfl rfl Tryz.ntmps122 rfl ?_
  repeat' (first | (refine rg 0 ?_; refine oAs ?_; refine oN ?_) | (refine rg 1 ?_; refine oMv ?_; refine sops_range 1000 (.free rfl rfl) rfl rfl rfl rfl (tyR rfl) rfl ?_; refine oN ?_) | refine gc ?_ | refine ct ?_ | refine cf ?_ | refine swp_cond rfl (fun hc => ?_) (fun hc => ?_) | refine rq rfl (rt .nil) ?_)
  refine swp_for (fun k => ⟨[(1, .t (.clo F [])), (2, .t (.v (.bool true))), (10, .bp 1000 0)], [(1000, itC s k)], []⟩) (fun k => (s.toList.take k).all evenB = true) s.size (weak_sub (.cons rfl rfl rfl (.cons rfl rfl rfl (.cons rfl rfl rfl .nil))) (.cons rfl rfl rfl .nil) .nil) rfl ?_
  intro k hk hI
  by_cases hlt : k < s.size
  · have hK := hF (Utf8.decode s k).1
    cases hd : evenB s[k] with
    | true =>
      obtain ⟨hdec, ho⟩ := even_rune hlt hd
      rw [hdec] at hK
      rw [ho] at hK
      repeat' (first | refine for_next hlt (weak_sub (.cons rfl rfl rfl (.cons rfl rfl rfl (.cons rfl rfl rfl .nil))) (.cons rfl rfl rfl .nil) .nil) (all_snoc hI hlt hd) | (refine rg 2 ?_; refine sops_next 1000 (.free rfl rfl) rfl rfl rfl rfl rfl (by assumption) (by assumption) ?_; refine oEx ?_; refine oN ?_) | (refine rg 3 ?_; refine oEx ?_; refine oEx ?_; refine oAs ?_; refine oAs ?_; refine oN ?_) | (refine rg 4 ?_; refine oMv ?_; refine oMv ?_; refine sp (po_call_clo rfl rfl (ac .nil) (hK)) ?_; refine oMv ?_; refine sp (po_boolq rfl rfl rfl (by kernel_rfl) (by exact .inl rfl)) ?_; refine oN ?_) | refine gc ?_ | refine ct ?_ | refine cf ?_)
    | false =>
      have ho := odd_rune hlt hd
      rw [ho] at hK
      rw [oddAt_at hlt hI hd]
      generalize hdec : Utf8.decode s k = ck at hK
      obtain ⟨c, w⟩ := ck
      repeat' (first | (refine rg 2 ?_; refine sops_next 1000 (.free rfl rfl) rfl rfl rfl rfl rfl (by assumption) (by assumption) ?_; refine oEx ?_; refine oN ?_) | (refine rg 3 ?_; refine oEx ?_; refine oEx ?_; refine oAs ?_; refine oAs ?_; refine oN ?_) | (refine rg 4 ?_; refine oMv ?_; refine oMv ?_; refine sp (po_call_clo rfl rfl (ac .nil) (hK)) ?_; refine oMv ?_; refine sp (po_boolq rfl rfl rfl (by kernel_rfl) (by exact .inl rfl)) ?_; refine oN ?_) | (refine rg 5 ?_; refine oMv ?_; refine oAs ?_; refine oN ?_) | refine gc ?_ | refine ct ?_ | refine cf ?_ | refine swp_cond rfl (fun hc => ?_) (fun hc => ?_) | refine rq rfl (rt .nil) ?_)
      rfl
  · obtain rfl : k = s.size := by omega
    rw [take_full s (Nat.lt_irrefl _)] at hI
    have e1 : oddAt s = -1 := by unfold oddAt plainP; rw [hI]; rfl
    rw [e1]
    repeat' (first | (refine rg 2 ?_; (first | refine sops_next 1000 (.free rfl rfl) rfl rfl rfl rfl rfl (by first | assumption | omega) (by assumption) ?_ | refine sops_next_end 1000 (.free rfl rfl) rfl rfl rfl rfl rfl (by assumption) ?_); refine oEx ?_; refine oN ?_) | (refine rg 6 ?_; refine oAs ?_; refine oN ?_) | refine gc ?_ | refine ct ?_ | refine cf ?_ | refine swp_cond rfl (fun hc => ?_) (fun hc => ?_) | refine rq rfl (rt .nil) ?_)
    rfl
set_option maxRecDepth 100000 in
theorem indexFunc2_ (F : FuncId) (hF : ∀ c : Nat, PCalls Tryz.prog F ([.v (.int .i32 (c : Int))] ++ []) (.v (.bool (oddR c)))) (s : ByteArray) (hs : s.size ≤ maxLen) : PCalls Tryz.prog 93 [.v (.string s), .clo F []] (.v (.int .i64 (oddAt s))) := by
  have c1 := indexFunc_ F hF s hs
  refine pcalls_of Tryz.func93 rfl rfl Tryz.ntmps93 rfl ?_
  repeat' (first | (refine rg 0 ?_; refine oAs ?_; refine oN ?_) | (refine rg 1 ?_; refine oMv ?_; refine oMv ?_; refine oC (c1) rfl (ac (ac (ac .nil))) ?_; refine oAs ?_; refine oN ?_) | refine gc ?_ | refine ct ?_ | refine cf ?_ | refine swp_cond rfl (fun hc => ?_) (fun hc => ?_) | refine rq rfl (rt .nil) ?_)
  rfl
set_option maxRecDepth 100000 in
theorem containsFunc_ (F : FuncId) (hF : ∀ c : Nat, PCalls Tryz.prog F ([.v (.int .i32 (c : Int))] ++ []) (.v (.bool (oddR c)))) (s : ByteArray) (hs : s.size ≤ maxLen) : PCalls Tryz.prog 58 [.v (.string s), .clo F []] (.v (.bool (!plainP s))) := by
  have c1 := indexFunc2_ F hF s hs
  have e : (!plainP s) = decide (0 ≤ oddAt s) := by
    unfold oddAt
    cases plainP s <;> simp
  rw [e]
  refine pcalls_of Tryz.func58 rfl rfl Tryz.ntmps58 rfl ?_
  repeat' (first | (refine rg 0 ?_; refine oAs ?_; refine oN ?_) | (refine rg 1 ?_; refine oMv ?_; refine oMv ?_; refine oC (c1) rfl (ac (ac .nil)) ?_; refine oCm ?_; refine oAs ?_; refine oN ?_) | refine gc ?_ | refine ct ?_ | refine cf ?_ | refine swp_cond rfl (fun hc => ?_) (fun hc => ?_) | refine rq rfl (rt .nil) ?_)
  rfl
end Go.Proofs.YtpncekdhigappaaGreatDoor.An

/- Answers: of a message; walks. -/
namespace Go.Proofs.YtpncekdhigappaaGreatDoor.An
set_option linter.unusedVariables false
set_option linter.unusedSimpArgs false
open Go.RowKit Mem Sim Opn Hd Str Rq
set_option maxRecDepth 100000 in
set_option maxHeartbeats 1000000 in
theorem cloneBytesV (rows : List (List T)) (hbd : rows.length * 1 ≤ 140737488355328) (hmx : rows.length ≤ maxLen) : LCalls Tryz.prog 57 [.t (.sl 1 rows)] [] [] (.own 101 rows.length) [] [(101, ⟨5, 1, rows⟩)] := by
  have hbd' : 0 + rows.length * 1 ≤ 140737488355328 := by omega
  refine lcalls_of Tryz.func57 rfl rfl Tryz.ntmps57 rfl ?_
  repeat' (first | (refine rg 0 ?_; refine oAs ?_; refine oN ?_) | (refine rg 1 ?_; refine oMv ?_; refine sops_isnil (.free rfl rfl) rfl rfl rfl rfl (.t _) (tyS rfl) (fun b hnil => ?_); refine oN ?_) | refine gc ?_ | refine ct ?_ | refine cf ?_ | refine swp_cond rfl (fun hc => ?_) (fun hc => ?_) | refine rq rfl (rt .nil) ?_)
  · obtain rfl := hnil hc
    repeat' (first | refine then_go ?_ | refine swp_seq ?_ | refine swp_ret_weak (weak_own0 (i := 101) 5 1 (s := 2) rfl rfl) ?_ | (refine rg 2 ?_; refine oAs ?_; refine oN ?_) | refine swp_ret ?_ | refine swp_skip ?_ | refine swp_block ?_ | refine swp_exit ?_ | refine block_go ?_ | refine block_exit ?_ | refine block_far rfl ?_ | refine block_ret ?_ | refine then_ret ?_ | refine then_exit ?_ | refine for_ret ?_ | refine for_exit ?_ | refine ct ?_ | refine cf ?_ | refine swp_cond rfl (fun hc => ?_) (fun hc => ?_) | exact retl1 (by exact .inr rfl) rfl (.tmp rfl rfl .nil) rfl .nil (.cons rfl (by rfl) .nil))
  · repeat' (first | (refine rg 3 ?_; refine sops_build0i 101 (.free rfl rfl) rfl rfl rfl (tyE rfl) rfl ?_; refine oMv ?_; refine sap rfl (tyE rfl) ?_; refine oAs ?_; refine oN ?_) | refine gc ?_ | refine ct ?_ | refine cf ?_ | refine swp_cond rfl (fun hc => ?_) (fun hc => ?_) | refine retl (by exact .inr rfl) rfl (.tmp rfl rfl .nil) ?_ rfl .nil (.cons rfl (by rfl) .nil))
    rfl
structure RawOk (r : PRaw) : Prop where
  hn : r.heads.length ≤ 1000
  hh : ∀ h ∈ r.heads, okHead h
  hb : r.body.length ≤ 100000
  hs : r.start.size ≤ maxLen
end Go.Proofs.YtpncekdhigappaaGreatDoor.An
