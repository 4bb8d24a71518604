/- Merged by bundles.py: SimPath6, SimJn, SimPath9a, SimOf3. -/
import Derived.Test.YtpncekdhigappaaGreatDoorT31
import Derived.Test.YtpncekdhigappaaGreatDoorT33
import Derived.Test.YtpncekdhigappaaGreatDoorT27
import Derived.Test.YtpncekdhigappaaGreatDoorT12
import Derived.Test.YtpncekdhigappaaGreatDoorT32
import Derived.Test.YtpncekdhigappaaGreatDoorT24
/- Targets: path.Normal and what stands on it: walks. -/
namespace Go.Proofs.YtpncekdhigappaaGreatDoor.Pth
set_option linter.unusedVariables false
set_option linter.unusedSimpArgs false
open Go.RowKit Mem Sim Opn Str
theorem bs_cat (a b : L8) : bs a ++ bs b = bs (a ++ b) := bs_inj (by rw [toList_append, bs_toList, bs_toList, bs_toList])
set_option maxRecDepth 100000 in
theorem joined_ (dir : Bool) (l : List L8) (hn : tot l ≤ 1000000) : PCalls Tryz.prog 110 [.v (.bool dir), .sl 1 (l.map strT)] (.v (.string (bs (joinL dir l)))) := by
  have hm : (l.map strT).length = l.length := List.length_map _
  have hl : l.length ≤ 1000000 := by unfold tot at hn; omega
  have hi := inter_len l
  have h47 : (⟨#[47]⟩ : ByteArray).toList = [47] := bs_toList [47]
  have hj := Jn.join_ l ⟨#[47]⟩ hl (by rw [h47]; omega)
  rw [h47] at hj
  have hsz := bs_size (([47] : L8).intercalate l)
  have h1 : (⟨#[47]⟩ : ByteArray).size = 1 := rfl
  have hc1 : (⟨#[47]⟩ : ByteArray) ++ bs (([47] : L8).intercalate l) = bs (47 :: ([47] : L8).intercalate l) := bs_cat [47] _
  have hc2 : bs (47 :: ([47] : L8).intercalate l) ++ (⟨#[47]⟩ : ByteArray) = bs (47 :: ([47] : L8).intercalate l ++ [47]) := bs_cat _ [47]
  have hs3 : ((⟨#[47]⟩ : ByteArray) ++ bs (([47] : L8).intercalate l)).size = 1 + (([47] : L8).intercalate l).length := by rw [hc1, bs_size]; simp; omega
  have hmx : (⟨#[47]⟩ : ByteArray).size + (bs (([47] : L8).intercalate l)).size ≤ maxLen := by unfold maxLen; omega
  have hmx2 : ((⟨#[47]⟩ : ByteArray) ++ bs (([47] : L8).intercalate l)).size + (⟨#[47]⟩ : ByteArray).size ≤ maxLen := by unfold maxLen; omega
  refine pcalls_of Tryz.func110 rfl rfl Tryz.ntmps110 rfl ?_
  unfold joinL
  cases dir with
  | false =>
    repeat' (first | (refine rg 0 ?_; refine oAs ?_; refine oN ?_) | (refine rg 1 ?_; refine oMv ?_; refine oC (hj) rfl (ac (ac .nil)) ?_; refine sp (po_cat rfl rfl rfl (by omega)) ?_; refine oAs ?_; refine oN ?_) | (refine rg 2 ?_; refine oMv ?_; refine oMv ?_; (first | refine oMv ?_ | refine oK ?_) <;> (first | refine sp (pln rfl (tyS rfl)) ?_ | refine oK ?_) <;> (first | refine oCm ?_ | refine oK ?_) <;> (first | refine oPt ?_ | refine oPf ?_) <;> refine oN ?_) | (refine rg 4 ?_; refine oMv ?_; refine oAs ?_; refine oN ?_) | refine gc ?_ | refine ct ?_ | refine cf ?_ | refine swp_cond rfl (fun hc => ?_) (fun hc => ?_) | refine rq rfl (rt .nil) ?_)
    show _ = T.v (.string _)
    rw [hc1]; simp
  | true =>
    by_cases h0 : l = []
    · have hz : ¬ (0 : Int) < (((l.map strT).length : Nat) : Int) := by subst h0; simp
      repeat' (first | (refine rg 0 ?_; refine oAs ?_; refine oN ?_) | (refine rg 1 ?_; refine oMv ?_; refine oC (hj) rfl (ac (ac .nil)) ?_; refine sp (po_cat rfl rfl rfl (by omega)) ?_; refine oAs ?_; refine oN ?_) | (refine rg 2 ?_; refine oMv ?_; refine oMv ?_; refine oMv ?_ <;> refine sp (pln rfl (tyS rfl)) ?_ <;> refine oCm ?_ <;> refine oPt ?_ <;> refine oN ?_) | (refine rg 4 ?_; refine oMv ?_; refine oAs ?_; refine oN ?_) | refine gc ?_ | refine ct ?_ | refine cf ?_ | refine swp_cond rfl (fun hc => ?_) (fun hc => ?_) | refine rq rfl (rt .nil) ?_)
      show _ = T.v (.string _)
      rw [hc1]; simp [h0]
    · have hz : (0 : Int) < (((l.map strT).length : Nat) : Int) := by cases l with | nil => exact absurd rfl h0 | cons _ _ => simp
      repeat' (first | (refine rg 0 ?_; refine oAs ?_; refine oN ?_) | (refine rg 1 ?_; refine oMv ?_; refine oC (hj) rfl (ac (ac .nil)) ?_; refine sp (po_cat rfl rfl rfl (by omega)) ?_; refine oAs ?_; refine oN ?_) | (refine rg 2 ?_; refine oMv ?_; refine oMv ?_; refine oMv ?_ <;> refine sp (pln rfl (tyS rfl)) ?_ <;> refine oCm ?_ <;> refine oPt ?_ <;> refine oN ?_) | (refine rg 3 ?_; refine oMv ?_; refine sp (po_cat rfl rfl rfl (by omega)) ?_; refine oAs ?_; refine oN ?_) | (refine rg 4 ?_; refine oMv ?_; refine oAs ?_; refine oN ?_) | refine gc ?_ | refine ct ?_ | refine cf ?_ | refine swp_cond rfl (fun hc => ?_) (fun hc => ?_) | refine rq rfl (rt .nil) ?_)
      show _ = T.v (.string _)
      rw [hc1, hc2]; simp [h0]
def normT (x : Option (L8 × L8)) : T := match x with
  | some (p, q) => .tup [.v (.string (bs p)), .v (.string (bs q)), .v (.int .i64 0)]
  | none => .tup [.v (.string ⟨#[]⟩), .v (.string ⟨#[]⟩), .v (.int .i64 2)]
theorem cutT_L (s : ByteArray) : ∃ b : Bool, cutT s 63 = .tup [.v (.string (bs (cutL s.toList).1)), .v (.string (bs (cutL s.toList).2)), .v (.bool b)] := by
  have hl := toList_len s
  have e : ∀ a b, s.extract a b = bs ((s.toList.take b).drop a) := fun a b => by
    have := ext_bs s.toList a b
    rw [toList_bs] at this; exact this
  unfold cutT
  rw [cut_idx]
  unfold fidx
  by_cases h : s.toList.findIdx (· == 63) < s.size
  · rw [if_pos h]
    refine ⟨true, ?_⟩
    rw [e, e, List.drop_zero, List.take_of_length_le (by omega : s.toList.length ≤ s.size)]
  · rw [if_neg h]
    refine ⟨false, ?_⟩
    have h1 : s.toList.findIdx (· == 63) = s.toList.length := by
      have := List.findIdx_le_length (xs := s.toList) (p := (· == 63)); omega
    rw [h1, List.take_length, List.drop_of_length_le (by omega), toList_bs]; rfl
set_option maxRecDepth 100000 in
set_option maxHeartbeats 1000000 in
theorem Normal_ (s : ByteArray) (hs : s.size ≤ 100000) : PCalls Tryz.prog 78 [.v (.string s)] (normT (normL s.toList)) := by
  have c0 := may_ s hs
  unfold normL
  refine pcalls_of Tryz.func78 rfl rfl Tryz.ntmps78 rfl ?_
  cases hmay : mayL s.toList with
  | false =>
    rw [hmay] at c0
    repeat' (first | (refine rg 0 ?_; refine oAs ?_; refine oAs ?_; refine oAs ?_; refine oN ?_) | (refine rg 1 ?_; refine oMv ?_; refine oC (c0) rfl (ac .nil) ?_; refine sp (po_not rfl rfl) ?_; refine oN ?_) | (refine rg 2 ?_; refine oAs ?_; refine oAs ?_; refine oAs ?_; refine oN ?_) | refine gc ?_ | refine ct ?_ | refine cf ?_ | refine swp_cond rfl (fun hc => ?_) (fun hc => ?_) | refine rq rfl (rt (rt (rt .nil))) ?_)
    rfl
  | true =>
    rw [hmay] at c0
    obtain ⟨m1, m2, m3⟩ := may_parts hmay
    have hl := toList_len s
    obtain ⟨b, hcut⟩ := cutT_L s
    have c1 := cut_ s 63 (by unfold maxLen; omega)
    rw [hcut] at c1
    obtain ⟨k1, k2⟩ := cut_ok m3
    obtain ⟨n1, n2⟩ := cut_len s.toList
    have hh := head_cut m2
    have c2 := said_ hiddenB 107 hidden_ (bs (cutL s.toList).1) (by rw [bs_size]; omega) (by rw [bs_toList]; exact k1)
    have c3 := said_ (fun _ => false) 108 none_ (bs (cutL s.toList).2) (by rw [bs_size]; omega) (by rw [bs_toList]; exact k2)
    rw [bs_toList] at c2 c3
    have hh2 := said_head (bad := hiddenB) hh.1
    have l2 := saidL_len hiddenB (cutL s.toList).1
    generalize (cutL s.toList).1 = road0 at *
    generalize (cutL s.toList).2 = q0 at *
    generalize saidL hiddenB road0 = rd at *
    generalize saidL (fun _ => false) q0 = qd at *
    obtain ⟨road, ok⟩ := rd
    obtain ⟨q, qok⟩ := qd
    dsimp only at *
    have c4 := kept_ road hh2.2 (by omega)
    have ht : ∀ r, keptL road = some r → tot r.1 ≤ road.length := fun r => tot_keptL hh2.2
    rw [if_pos rfl]
    cases hk : keptL road with
    | none =>
      rw [hk] at c4
      unfold keptT at c4
      dsimp only at c4
      cases ok with
      | true =>
        repeat' (first | (refine rg 0 ?_; refine oAs ?_; refine oAs ?_; refine oAs ?_; refine oN ?_) | (refine rg 1 ?_; refine oMv ?_; refine oC (c0) rfl (ac .nil) ?_; refine sp (po_not rfl rfl) ?_; refine oN ?_) | (refine rg 3 ?_; refine oMv ?_; (first | refine oC (c0) rfl (ac (ac .nil)) ?_ | refine oC (c1) rfl (ac (ac .nil)) ?_); refine oMv ?_; refine oEx ?_; refine oEx ?_; refine oEx ?_; refine oAs ?_; refine oAs ?_; refine oAs ?_; refine oN ?_) | (refine rg 4 ?_; refine oMv ?_; (first | refine oC (c0) rfl (ac (ac .nil)) ?_ | refine oC (c1) rfl (ac (ac .nil)) ?_ | refine oC (c2) rfl (ac (ac .nil)) ?_); refine oMv ?_; refine oEx ?_; refine oEx ?_; refine oAs ?_; refine oAs ?_; refine oN ?_) | (refine rg 5 ?_; refine oMv ?_; (first | refine oC (c0) rfl (ac (ac .nil)) ?_ | refine oC (c1) rfl (ac (ac .nil)) ?_ | refine oC (c2) rfl (ac (ac .nil)) ?_ | refine oC (c3) rfl (ac (ac .nil)) ?_); refine oMv ?_; refine oEx ?_; refine oEx ?_; refine oAs ?_; refine oN ?_) | (refine rg 6 ?_; refine oMv ?_; (first | refine oC (c0) rfl (ac .nil) ?_ | refine oC (c1) rfl (ac .nil) ?_ | refine oC (c2) rfl (ac .nil) ?_ | refine oC (c3) rfl (ac .nil) ?_ | refine oC (c4) rfl (ac .nil) ?_); refine oMv ?_; refine oEx ?_; refine oEx ?_; refine oEx ?_; refine oAs ?_; refine oAs ?_; refine oAs ?_; refine oN ?_) | (refine rg 7 ?_; refine oMv ?_; refine sp (po_not rfl rfl) ?_; refine oMv ?_; refine oMv ?_ <;> refine sp (po_not rfl rfl) ?_ <;> (first | refine oPt ?_ | refine oPf ?_) <;> refine oN ?_) | (refine rg 8 ?_; refine oAs ?_; refine oAs ?_; refine oAs ?_; refine oN ?_) | refine gc ?_ | refine ct ?_ | refine cf ?_ | refine swp_cond rfl (fun hc => ?_) (fun hc => ?_) | refine rq rfl (rt (rt (rt .nil))) ?_)
        rfl
      | false =>
        repeat' (first | (refine rg 0 ?_; refine oAs ?_; refine oAs ?_; refine oAs ?_; refine oN ?_) | (refine rg 1 ?_; refine oMv ?_; refine oC (c0) rfl (ac .nil) ?_; refine sp (po_not rfl rfl) ?_; refine oN ?_) | (refine rg 3 ?_; refine oMv ?_; (first | refine oC (c0) rfl (ac (ac .nil)) ?_ | refine oC (c1) rfl (ac (ac .nil)) ?_); refine oMv ?_; refine oEx ?_; refine oEx ?_; refine oEx ?_; refine oAs ?_; refine oAs ?_; refine oAs ?_; refine oN ?_) | (refine rg 4 ?_; refine oMv ?_; (first | refine oC (c0) rfl (ac (ac .nil)) ?_ | refine oC (c1) rfl (ac (ac .nil)) ?_ | refine oC (c2) rfl (ac (ac .nil)) ?_); refine oMv ?_; refine oEx ?_; refine oEx ?_; refine oAs ?_; refine oAs ?_; refine oN ?_) | (refine rg 5 ?_; refine oMv ?_; (first | refine oC (c0) rfl (ac (ac .nil)) ?_ | refine oC (c1) rfl (ac (ac .nil)) ?_ | refine oC (c2) rfl (ac (ac .nil)) ?_ | refine oC (c3) rfl (ac (ac .nil)) ?_); refine oMv ?_; refine oEx ?_; refine oEx ?_; refine oAs ?_; refine oN ?_) | (refine rg 6 ?_; refine oMv ?_; (first | refine oC (c0) rfl (ac .nil) ?_ | refine oC (c1) rfl (ac .nil) ?_ | refine oC (c2) rfl (ac .nil) ?_ | refine oC (c3) rfl (ac .nil) ?_ | refine oC (c4) rfl (ac .nil) ?_); refine oMv ?_; refine oEx ?_; refine oEx ?_; refine oEx ?_; refine oAs ?_; refine oAs ?_; refine oAs ?_; refine oN ?_) | (refine rg 7 ?_; refine oMv ?_; refine sp (po_not rfl rfl) ?_; refine oMv ?_; (first | refine oMv ?_ | refine oK ?_) <;> (first | refine sp (po_not rfl rfl) ?_ | refine oK ?_) <;> refine oPt ?_ <;> refine oN ?_) | (refine rg 8 ?_; refine oAs ?_; refine oAs ?_; refine oAs ?_; refine oN ?_) | refine gc ?_ | refine ct ?_ | refine cf ?_ | refine swp_cond rfl (fun hc => ?_) (fun hc => ?_) | refine rq rfl (rt (rt (rt .nil))) ?_)
        rfl
    | some r =>
      obtain ⟨left, dir⟩ := r
      have ht' := ht _ hk
      dsimp only at ht'
      rw [hk] at c4
      unfold keptT at c4
      dsimp only at c4
      have c5 := joined_ dir left (by omega)
      cases ok with
      | true =>
        repeat' (first | (refine rg 0 ?_; refine oAs ?_; refine oAs ?_; refine oAs ?_; refine oN ?_) | (refine rg 1 ?_; refine oMv ?_; refine oC (c0) rfl (ac .nil) ?_; refine sp (po_not rfl rfl) ?_; refine oN ?_) | (refine rg 3 ?_; refine oMv ?_; (first | refine oC (c0) rfl (ac (ac .nil)) ?_ | refine oC (c1) rfl (ac (ac .nil)) ?_); refine oMv ?_; refine oEx ?_; refine oEx ?_; refine oEx ?_; refine oAs ?_; refine oAs ?_; refine oAs ?_; refine oN ?_) | (refine rg 4 ?_; refine oMv ?_; (first | refine oC (c0) rfl (ac (ac .nil)) ?_ | refine oC (c1) rfl (ac (ac .nil)) ?_ | refine oC (c2) rfl (ac (ac .nil)) ?_); refine oMv ?_; refine oEx ?_; refine oEx ?_; refine oAs ?_; refine oAs ?_; refine oN ?_) | (refine rg 5 ?_; refine oMv ?_; (first | refine oC (c0) rfl (ac (ac .nil)) ?_ | refine oC (c1) rfl (ac (ac .nil)) ?_ | refine oC (c2) rfl (ac (ac .nil)) ?_ | refine oC (c3) rfl (ac (ac .nil)) ?_); refine oMv ?_; refine oEx ?_; refine oEx ?_; refine oAs ?_; refine oN ?_) | (refine rg 6 ?_; refine oMv ?_; (first | refine oC (c0) rfl (ac .nil) ?_ | refine oC (c1) rfl (ac .nil) ?_ | refine oC (c2) rfl (ac .nil) ?_ | refine oC (c3) rfl (ac .nil) ?_ | refine oC (c4) rfl (ac .nil) ?_); refine oMv ?_; refine oEx ?_; refine oEx ?_; refine oEx ?_; refine oAs ?_; refine oAs ?_; refine oAs ?_; refine oN ?_) | (refine rg 7 ?_; refine oMv ?_; refine sp (po_not rfl rfl) ?_; refine oMv ?_; refine oMv ?_ <;> refine sp (po_not rfl rfl) ?_ <;> (first | refine oPt ?_ | refine oPf ?_) <;> refine oN ?_) | (refine rg 9 ?_; refine oMv ?_; refine oMv ?_; (first | refine oC (c0) rfl (ac (ac .nil)) ?_ | refine oC (c1) rfl (ac (ac .nil)) ?_ | refine oC (c2) rfl (ac (ac .nil)) ?_ | refine oC (c3) rfl (ac (ac .nil)) ?_ | refine oC (c4) rfl (ac (ac .nil)) ?_ | refine oC (c5) rfl (ac (ac .nil)) ?_); refine oMv ?_; refine oAs ?_; refine oAs ?_; refine oAs ?_; refine oN ?_) | refine gc ?_ | refine ct ?_ | refine cf ?_ | refine swp_cond rfl (fun hc => ?_) (fun hc => ?_) | refine rq rfl (rt (rt (rt .nil))) ?_)
        rfl
      | false =>
        repeat' (first | (refine rg 0 ?_; refine oAs ?_; refine oAs ?_; refine oAs ?_; refine oN ?_) | (refine rg 1 ?_; refine oMv ?_; refine oC (c0) rfl (ac .nil) ?_; refine sp (po_not rfl rfl) ?_; refine oN ?_) | (refine rg 3 ?_; refine oMv ?_; (first | refine oC (c0) rfl (ac (ac .nil)) ?_ | refine oC (c1) rfl (ac (ac .nil)) ?_); refine oMv ?_; refine oEx ?_; refine oEx ?_; refine oEx ?_; refine oAs ?_; refine oAs ?_; refine oAs ?_; refine oN ?_) | (refine rg 4 ?_; refine oMv ?_; (first | refine oC (c0) rfl (ac (ac .nil)) ?_ | refine oC (c1) rfl (ac (ac .nil)) ?_ | refine oC (c2) rfl (ac (ac .nil)) ?_); refine oMv ?_; refine oEx ?_; refine oEx ?_; refine oAs ?_; refine oAs ?_; refine oN ?_) | (refine rg 5 ?_; refine oMv ?_; (first | refine oC (c0) rfl (ac (ac .nil)) ?_ | refine oC (c1) rfl (ac (ac .nil)) ?_ | refine oC (c2) rfl (ac (ac .nil)) ?_ | refine oC (c3) rfl (ac (ac .nil)) ?_); refine oMv ?_; refine oEx ?_; refine oEx ?_; refine oAs ?_; refine oN ?_) | (refine rg 6 ?_; refine oMv ?_; (first | refine oC (c0) rfl (ac .nil) ?_ | refine oC (c1) rfl (ac .nil) ?_ | refine oC (c2) rfl (ac .nil) ?_ | refine oC (c3) rfl (ac .nil) ?_ | refine oC (c4) rfl (ac .nil) ?_); refine oMv ?_; refine oEx ?_; refine oEx ?_; refine oEx ?_; refine oAs ?_; refine oAs ?_; refine oAs ?_; refine oN ?_) | (refine rg 7 ?_; refine oMv ?_; refine sp (po_not rfl rfl) ?_; refine oMv ?_; (first | refine oMv ?_ | refine oK ?_) <;> (first | refine sp (po_not rfl rfl) ?_ | refine oK ?_) <;> refine oPt ?_ <;> refine oN ?_) | (refine rg 8 ?_; refine oAs ?_; refine oAs ?_; refine oAs ?_; refine oN ?_) | refine gc ?_ | refine ct ?_ | refine cf ?_ | refine swp_cond rfl (fun hc => ?_) (fun hc => ?_) | refine rq rfl (rt (rt (rt .nil))) ?_)
        rfl
end Go.Proofs.YtpncekdhigappaaGreatDoor.Pth

/- A logic of states: ways that meet again. -/
namespace Go.Proofs.YtpncekdhigappaaGreatDoor.Sim
set_option linter.unusedVariables false
set_option linter.unusedSimpArgs false
open Go.RowKit Mem
def joinF (N : Nat) (st' : St) (Q : Exit → St → Prop) : Exit → St → Prop
  | .normal, s => Weak N s st'
  | e, s => Q e s
structure JoinQ (N : Nat) (st' : St) (Q : Exit → St → Prop) (e : Exit) (s : St) : Prop where
  go : joinF N st' Q e s
section
variable {P : Program} {N : Nat} {Q : Exit → St → Prop} {st : St} {x y : Code}
theorem swp_joinQ {c : Code} (st' : St) (h : SWp P N c (JoinQ N st' Q) st) (k : Q .normal st') : SWp P N c Q st :=
  swp_join (st' := st') (swp_mono h fun e s hq => by
    cases e <;> exact hq.go) k
theorem join_go {st' s : St} (h : Weak N s st') : JoinQ N st' Q .normal s := ⟨h⟩
end
end Go.Proofs.YtpncekdhigappaaGreatDoor.Sim

/- Targets: the document's answer, what is said by %: its pieces, walked. -/
namespace Go.Proofs.YtpncekdhigappaaGreatDoor.Pth
set_option linter.unusedVariables false
set_option linter.unusedSimpArgs false
open Go.RowKit Mem Sim Opn Str Hd
/-- a code's piece: the region of a number; what begins with it -/
def fR (id : Nat) : Code → Option Code
  | .region i l b => if i = id then some (.region i l b) else none
  | .seq x y => match fR id x with
    | some c => some c
    | none => fR id y
  | .block _ c => fR id c
  | .loop c => fR id c
  | .scope c => fR id c
  | .cond _ x y => match fR id x with
    | some c => some c
    | none => fR id y
  | _ => none
def bodyOf (f : Func) : Code := f.body.getD .skip
end Go.Proofs.YtpncekdhigappaaGreatDoor.Pth

/- Requests: of a message: a walk. -/
namespace Go.Proofs.YtpncekdhigappaaGreatDoor.Ro
set_option linter.unusedVariables false
set_option linter.unusedSimpArgs false
open Go.RowKit Mem Sim Opn Hd Str Pth Rq
set_option maxRecDepth 100000 in
theorem split_ (s : ByteArray) (c : UInt8) (hs : s.size ≤ 1000000) : PCalls Tryz.prog 73 [.v (.string s), .v (.string ⟨#[c]⟩)] (.sl 1 ((splC c s.toList).map Pth.strT)) := by
  have c0 := genSplit_ s c hs
  refine pcalls_of Tryz.func73 rfl rfl Tryz.ntmps73 rfl ?_
  repeat' (first | (refine rg 0 ?_; refine oAs ?_; refine oN ?_) | (refine rg 1 ?_; refine oMv ?_; refine oMv ?_; refine oC (c0) rfl (ac (ac (ac (ac .nil)))) ?_; refine oAs ?_; refine oN ?_) | refine gc ?_ | refine ct ?_ | refine cf ?_ | refine swp_cond rfl (fun hc => ?_) (fun hc => ?_) | refine rq rfl (rt .nil) ?_)
  rfl
set_option maxRecDepth 100000 in
set_option maxHeartbeats 1000000 in
theorem ownRawP_ (r : PRaw) (hn : r.heads.length ≤ 1000) (hbd : r.body.length ≤ 1000000) : PCalls Tryz.prog 79 [.agg (rawT r)] (.agg (rawT r)) := by
  have hm1 : (r.heads.map headT).length = r.heads.length := List.length_map _
  have hm2 : (r.body.map byteT).length = r.body.length := List.length_map _
  have c1 := cloneHeads 100 (.inl rfl) (r.heads.map headT) (by rw [hm1]; omega) (by rw [hm1]; unfold maxLen; omega)
  have c2 := An.cloneBytesV (r.body.map byteT) (by rw [hm2]; omega) (by rw [hm2]; unfold maxLen; omega)
  refine pcalls_of Tryz.func79 rfl rfl Tryz.ntmps79 rfl ?_
  repeat' (first | (refine rg 0 ?_; refine sbx ?_; refine sal str25 ?_; refine oN ?_) | ((refine swp_any (id := 1) [[], [], [100], [], [], [101], [], [1], [], [1]] [[], [], [], [100], [100], [], [101], [], [], []] mixed (by kernel_rfl) ?_) <;> refine yp (fun _ _ => po_field_bx rfl rfl (tyF rfl)) ?_ <;> refine yp (fun _ _ => po_load_bx rfl rfl (tyT rfl) rfl rfl) ?_ <;> (refine sany_eff [] [(100, _)] (.free rfl rfl) rfl rfl (fun _ _ hb ho => e_lcall (c1) (fun i => i) (fun i => i) rfl (by ((repeat' (first | exact .nil | refine .cons rfl rfl rfl ?_)) <;> fail)) .nil .nil rfl rfl (by ((repeat' (exact .nil)) <;> fail)) (by ((repeat' (first | exact .nil | refine .old rfl ?_ | refine .new (ho _ rfl rfl) ?_)) <;> fail)) .nil) ?_) <;> refine yp (fun _ _ => po_field_bx rfl rfl (tyF rfl)) ?_ <;> refine yp (fun _ _ => po_load_bx rfl rfl (tyT rfl) rfl rfl) ?_ <;> (first | refine sany_eff [] [(101, _)] (.free rfl rfl) rfl rfl (fun _ _ hb ho => e_lcall (c1) (fun i => i) (fun i => i) rfl (by first | ((repeat' (first | exact .nil | refine .cons rfl rfl rfl ?_ | refine .vw rfl (by first | exact .t _ | exact .own rfl (by rfl) | exact .nil _ | exact .emp _ | exact .fn _) ?_)) <;> fail) | fail) .nil .nil rfl rfl (by first | ((repeat' (first | exact .nil | refine .old rfl ?_ | refine .new (hb _ rfl rfl) ?_)) <;> fail) | fail) (by first | ((repeat' (first | exact .nil | refine .old rfl ?_ | refine .new (ho _ rfl rfl) ?_)) <;> fail) | fail) .nil) ?_ | refine sany_eff [] [(101, _)] (.free rfl rfl) rfl rfl (fun _ _ hb ho => e_lcall (c2) (fun i => i) (fun i => i) rfl (by ((repeat' (first | exact .nil | refine .cons rfl rfl rfl ?_)) <;> fail)) .nil .nil rfl rfl (by ((repeat' (exact .nil)) <;> fail)) (by ((repeat' (first | exact .nil | refine .old rfl ?_ | refine .new (ho _ rfl rfl) ?_)) <;> fail)) .nil) ?_) <;> refine yp (fun _ _ => po_field_bx rfl rfl (tyF rfl)) ?_ <;> refine sany_eff [(1, _)] [] (.free rfl rfl) rfl rfl (fun _ _ _ _ => e_store rfl rfl rfl rfl rfl rfl (tyT rfl) rfl rfl) ?_ <;> refine yp (fun _ _ => po_field_bx rfl rfl (tyF rfl)) ?_ <;> refine sany_eff [(1, _)] [] (.free rfl rfl) rfl rfl (fun _ _ _ _ => e_store rfl rfl rfl rfl rfl rfl (tyT rfl) rfl rfl) ?_ <;> refine sany_nil ?_) | (refine rg 2 ?_; (refine sp (po_load_bx_agg rfl rfl (tyT rfl) rfl (vc (vc (vc .nil))) rfl) ?_); refine oS ?_; refine oN ?_) | refine gc ?_ | refine ct ?_ | refine cf ?_ | refine swp_cond rfl (fun hc => ?_) (fun hc => ?_) | refine rq rfl (.cell rfl rfl (tyT rfl) (vc (vc (vc .nil))) rfl .nil) ?_)
  rfl
def reqT (x : PReq) : List T := [.v (.string x.method), .v (.string x.target), .v (.string x.path), .v (.string x.query), .v (.string x.host), headsT x.heads, .sl 1 (x.body.map byteT)]
def reqT0 : List T := [.v (.string ⟨#[]⟩), .v (.string ⟨#[]⟩), .v (.string ⟨#[]⟩), .v (.string ⟨#[]⟩), .v (.string ⟨#[]⟩), .v (.slice none 0 0), .v (.slice none 0 0)]
def ofT (o : Option PReq) : T := match o with
  | some x => .tup [.agg (reqT x), .v (.int .i64 0)]
  | none => .tup [.agg reqT0, .v (.int .i64 2)]
theorem bs_httpL (v : L8) : decide (bs v = ⟨#[72, 84, 84, 80, 47, 49, 46, 49]⟩) = decide (v = httpL) := bs_dec v httpL
theorem bs_connL (v : L8) : decide (bs v = ⟨#[67, 79, 78, 78, 69, 67, 84]⟩) = decide (v = connL) := bs_dec v connL
abbrev s0A : A := .t (.v (.string ⟨#[]⟩))
abbrev nlA : A := .t (.v (.slice none 0 0))
abbrev bxP (r : PRaw) : List (Nat × List A) := [(1, [.t (.v (.string r.start)), .t (headsT r.heads), .t (.sl 1 (r.body.map byteT))]), (2, [s0A, s0A, s0A, s0A, s0A, nlA, nlA])]
/-- the test of a message's first line and its host -/
def condP (ps : List L8) (vs : List ByteArray) : Bool := match ps, vs with
  | [m, _, v], [h] => !(methB m && (decide (v = httpL) && hostB (h.toList.map lowU)))
  | _, _ => true
theorem condP_3 {ps : List L8} {vs : List ByteArray} (h : ps.length ≠ 3) : condP ps vs = true := by
  unfold condP
  split
  · exact absurd rfl h
  · rfl
theorem condP_1 {ps : List L8} {vs : List ByteArray} (h : vs.length ≠ 1) : condP ps vs = true := by
  unfold condP
  split
  · exact absurd rfl h
  · rfl
abbrev tmP (ps : List L8) (vs : List ByteArray) : List (Nat × A) := [(1, .bp 1 0), (2, .bp 2 0), (4, .t (.sl 1 (ps.map Pth.strT))), (5, .t (.sl 1 (vs.map Hd.strT)))]
set_option maxRecDepth 100000 in
set_option maxHeartbeats 4000000 in
theorem r3_ {c : Code} (hc : fR 3 (bodyOf Tryz.f41) = some c) {Q : Exit → St → Prop} (r : PRaw) (ps : List L8) (vs : List ByteArray) (hps : ∀ p ∈ ps, p.length ≤ 100000) (hvs : ∀ v ∈ vs, v.size ≤ 200000) (b : Bool) (hb : condP ps vs = b) (h : Q .normal ⟨(45, .t (.v (.bool b))) :: tmP ps vs, bxP r, []⟩) : SWp Tryz.prog 96 c Q ⟨tmP ps vs, bxP r, []⟩ := by
  obtain rfl := Option.some.inj hc
  clear hc
  refine swp_joinQ _ ?_ h
  clear h
  by_cases h3 : ps.length = 3
  · obtain ⟨m, t, v, rfl⟩ : ∃ m t v, ps = [m, t, v] := by
      match ps, h3 with
      | [m, t, v], _ => exact ⟨m, t, v, rfl⟩
    have e0 : (!decide (((List.map Pth.strT [m, t, v]).length : Int) = 3)) = false := rfl
    have c3 := method_ (bs m) (by have := hps m (by simp); rw [bs_size]; omega)
    rw [bs_toList] at c3
    have e3 := bs_httpL v
    clear hps h3
    by_cases h1 : vs.length = 1
    · obtain ⟨w, rfl⟩ : ∃ w, vs = [w] := by
        match vs, h1 with
        | [w], _ => exact ⟨w, rfl⟩
      have e1 : (!decide (((List.map Hd.strT [w]).length : Int) = 1)) = false := rfl
      unfold condP at hb
      dsimp only at hb
      have hz := hvs w (by simp)
      clear hvs h1
      have c4 := small_ w (by omega)
      have hmap := (host_map w.toList).1
      have hml := Mp.map_len _ w.toList (Nat.le_refl _)
      rw [toList_len] at hml
      have c5 := mayHost_ (bs (Lib.mapD Mp.lowR w.toList)) (by rw [bs_size]; omega)
      rw [bs_toList, hmap] at c5
      clear hmap hml hz
      generalize methB m = b1 at *
      generalize hostB (w.toList.map lowU) = b3 at *
      generalize bs (Lib.mapD Mp.lowR w.toList) = sm at *
      generalize decide (v = httpL) = b2 at *
      subst hb
      cases b1 with
      | false =>
        repeat' (first | refine gc ?_ | refine join_go (weak_sub (.cons rfl rfl rfl (.cons rfl rfl rfl (.cons rfl rfl rfl (.cons rfl rfl rfl (.cons rfl rfl rfl .nil))))) (.cons rfl rfl rfl (.cons rfl rfl rfl .nil)) .nil) | (refine rg 3 ?_; refine oMv ?_; refine sp (pln rfl (tyS rfl)) ?_; refine oCm ?_; refine oMv ?_; refine oMv ?_ <;> refine sp (pix rfl (tyS rfl)) ?_ <;> (first | refine oLb ?_ | refine oLd ?_) <;> refine oC (c3) rfl (ac .nil) ?_ <;> refine sp (po_not rfl rfl) ?_ <;> (first | refine oPt ?_ | refine oPf ?_) <;> refine oMv ?_ <;> (first | refine oMv ?_ | refine oK ?_) <;> (first | refine sp (pix rfl (tyS rfl)) ?_ | refine oK ?_) <;> (first | refine oLb ?_ | refine oLd ?_ | refine oK ?_) <;> (first | refine sp (po_str rfl rfl rfl rfl) ?_ | refine oK ?_) <;> refine oPt ?_ <;> refine oMv ?_ <;> (first | refine oMv ?_ | refine oK ?_) <;> (first | refine sp (pln rfl (tyS rfl)) ?_ | refine oK ?_) <;> (first | refine oCm ?_ | refine oK ?_) <;> refine oPt ?_ <;> refine oMv ?_ <;> (first | refine oMv ?_ | refine oK ?_) <;> (first | refine sp (pix rfl (tyS rfl)) ?_ | refine oK ?_) <;> (first | refine oLb ?_ | refine oLd ?_ | refine oK ?_) <;> (first | refine oC (c3) rfl (ac .nil) ?_ | refine oK ?_) <;> (first | refine oC (c3) rfl (ac .nil) ?_ | refine oK ?_) <;> (first | refine sp (po_not rfl rfl) ?_ | refine oK ?_) <;> refine oPt ?_ <;> refine oN ?_))
      | true =>
        cases b2 with
        | false =>
          have e4 : (!decide (bs v = ⟨#[72, 84, 84, 80, 47, 49, 46, 49]⟩)) = true := by rw [e3]; rfl
          repeat' (first | refine gc ?_ | refine join_go (weak_sub (.cons rfl rfl rfl (.cons rfl rfl rfl (.cons rfl rfl rfl (.cons rfl rfl rfl (.cons rfl rfl rfl .nil))))) (.cons rfl rfl rfl (.cons rfl rfl rfl .nil)) .nil) | (refine rg 3 ?_; refine oMv ?_; refine sp (pln rfl (tyS rfl)) ?_; refine oCm ?_; refine oMv ?_; refine oMv ?_ <;> refine sp (pix rfl (tyS rfl)) ?_ <;> (first | refine oLb ?_ | refine oLd ?_) <;> refine oC (c3) rfl (ac .nil) ?_ <;> refine sp (po_not rfl rfl) ?_ <;> (first | refine oPt ?_ | refine oPf ?_) <;> refine oMv ?_ <;> refine oMv ?_ <;> refine sp (pix rfl (tyS rfl)) ?_ <;> (first | refine oLb ?_ | refine oLd ?_) <;> refine sp (po_str rfl rfl rfl rfl) ?_ <;> (first | refine oPt ?_ | refine oPf ?_) <;> refine oMv ?_ <;> (first | refine oMv ?_ | refine oK ?_) <;> (first | refine sp (pln rfl (tyS rfl)) ?_ | refine oK ?_) <;> (first | refine oCm ?_ | refine oK ?_) <;> refine oPt ?_ <;> refine oMv ?_ <;> (first | refine oMv ?_ | refine oK ?_) <;> (first | refine sp (pix rfl (tyS rfl)) ?_ | refine oK ?_) <;> (first | refine oLb ?_ | refine oLd ?_ | refine oK ?_) <;> (first | refine oC (c3) rfl (ac .nil) ?_ | refine oK ?_) <;> (first | refine oC (c3) rfl (ac .nil) ?_ | refine oK ?_) <;> (first | refine sp (po_not rfl rfl) ?_ | refine oK ?_) <;> refine oPt ?_ <;> refine oN ?_))
        | true =>
          have e4 : (!decide (bs v = ⟨#[72, 84, 84, 80, 47, 49, 46, 49]⟩)) = false := by rw [e3]; rfl
          cases b3 with
          | false =>
            repeat' (first | refine gc ?_ | refine join_go (weak_sub (.cons rfl rfl rfl (.cons rfl rfl rfl (.cons rfl rfl rfl (.cons rfl rfl rfl (.cons rfl rfl rfl .nil))))) (.cons rfl rfl rfl (.cons rfl rfl rfl .nil)) .nil) | (refine rg 3 ?_; refine oMv ?_; refine sp (pln rfl (tyS rfl)) ?_; refine oCm ?_; refine oMv ?_; refine oMv ?_ <;> refine sp (pix rfl (tyS rfl)) ?_ <;> (first | refine oLb ?_ | refine oLd ?_) <;> refine oC (c3) rfl (ac .nil) ?_ <;> refine sp (po_not rfl rfl) ?_ <;> (first | refine oPt ?_ | refine oPf ?_) <;> refine oMv ?_ <;> refine oMv ?_ <;> refine sp (pix rfl (tyS rfl)) ?_ <;> (first | refine oLb ?_ | refine oLd ?_) <;> refine sp (po_str rfl rfl rfl rfl) ?_ <;> (first | refine oPt ?_ | refine oPf ?_) <;> refine oMv ?_ <;> refine oMv ?_ <;> refine sp (pln rfl (tyS rfl)) ?_ <;> refine oCm ?_ <;> (first | refine oPt ?_ | refine oPf ?_) <;> refine oMv ?_ <;> refine oMv ?_ <;> refine sp (pix rfl (tyS rfl)) ?_ <;> (first | refine oLb ?_ | refine oLd ?_) <;> (first | refine oC (c3) rfl (ac .nil) ?_ | refine oC (c4) rfl (ac .nil) ?_) <;> (first | refine oC (c3) rfl (ac .nil) ?_ | refine oC (c4) rfl (ac .nil) ?_ | refine oC (c5) rfl (ac .nil) ?_) <;> refine sp (po_not rfl rfl) ?_ <;> (first | refine oPt ?_ | refine oPf ?_) <;> refine oN ?_))
          | true =>
            repeat' (first | refine gc ?_ | refine join_go (weak_sub (.cons rfl rfl rfl (.cons rfl rfl rfl (.cons rfl rfl rfl (.cons rfl rfl rfl (.cons rfl rfl rfl .nil))))) (.cons rfl rfl rfl (.cons rfl rfl rfl .nil)) .nil) | (refine rg 3 ?_; refine oMv ?_; refine sp (pln rfl (tyS rfl)) ?_; refine oCm ?_; refine oMv ?_; refine oMv ?_ <;> refine sp (pix rfl (tyS rfl)) ?_ <;> (first | refine oLb ?_ | refine oLd ?_) <;> refine oC (c3) rfl (ac .nil) ?_ <;> refine sp (po_not rfl rfl) ?_ <;> (first | refine oPt ?_ | refine oPf ?_) <;> refine oMv ?_ <;> refine oMv ?_ <;> refine sp (pix rfl (tyS rfl)) ?_ <;> (first | refine oLb ?_ | refine oLd ?_) <;> refine sp (po_str rfl rfl rfl rfl) ?_ <;> (first | refine oPt ?_ | refine oPf ?_) <;> refine oMv ?_ <;> refine oMv ?_ <;> refine sp (pln rfl (tyS rfl)) ?_ <;> refine oCm ?_ <;> (first | refine oPt ?_ | refine oPf ?_) <;> refine oMv ?_ <;> refine oMv ?_ <;> refine sp (pix rfl (tyS rfl)) ?_ <;> (first | refine oLb ?_ | refine oLd ?_) <;> (first | refine oC (c3) rfl (ac .nil) ?_ | refine oC (c4) rfl (ac .nil) ?_) <;> (first | refine oC (c3) rfl (ac .nil) ?_ | refine oC (c4) rfl (ac .nil) ?_ | refine oC (c5) rfl (ac .nil) ?_) <;> refine sp (po_not rfl rfl) ?_ <;> (first | refine oPt ?_ | refine oPf ?_) <;> refine oN ?_))
    · rw [condP_1 h1] at hb
      subst hb
      have e5 : (!decide (((vs.map Hd.strT).length : Int) = 1)) = true := by rw [List.length_map, decide_eq_false (by omega)]; rfl
      clear hvs
      generalize methB m = b1 at *
      cases b1 with
      | false =>
        repeat' (first | refine gc ?_ | refine join_go (weak_sub (.cons rfl rfl rfl (.cons rfl rfl rfl (.cons rfl rfl rfl (.cons rfl rfl rfl (.cons rfl rfl rfl .nil))))) (.cons rfl rfl rfl (.cons rfl rfl rfl .nil)) .nil) | (refine rg 3 ?_; refine oMv ?_; refine sp (pln rfl (tyS rfl)) ?_; refine oCm ?_; refine oMv ?_; refine oMv ?_ <;> refine sp (pix rfl (tyS rfl)) ?_ <;> (first | refine oLb ?_ | refine oLd ?_) <;> refine oC (c3) rfl (ac .nil) ?_ <;> refine sp (po_not rfl rfl) ?_ <;> (first | refine oPt ?_ | refine oPf ?_) <;> refine oMv ?_ <;> (first | refine oMv ?_ | refine oK ?_) <;> (first | refine sp (pix rfl (tyS rfl)) ?_ | refine oK ?_) <;> (first | refine oLb ?_ | refine oLd ?_ | refine oK ?_) <;> (first | refine sp (po_str rfl rfl rfl rfl) ?_ | refine oK ?_) <;> refine oPt ?_ <;> refine oMv ?_ <;> (first | refine oMv ?_ | refine oK ?_) <;> (first | refine sp (pln rfl (tyS rfl)) ?_ | refine oK ?_) <;> (first | refine oCm ?_ | refine oK ?_) <;> refine oPt ?_ <;> refine oMv ?_ <;> (first | refine oMv ?_ | refine oK ?_) <;> (first | refine sp (pix rfl (tyS rfl)) ?_ | refine oK ?_) <;> (first | refine oLb ?_ | refine oLd ?_ | refine oK ?_) <;> (first | refine oC (c3) rfl (ac .nil) ?_ | refine oK ?_) <;> (first | refine oC (c3) rfl (ac .nil) ?_ | refine oK ?_) <;> (first | refine sp (po_not rfl rfl) ?_ | refine oK ?_) <;> refine oPt ?_ <;> refine oN ?_))
      | true =>
        cases e6 : decide (v = httpL) with
        | false =>
          have e4 : (!decide (bs v = ⟨#[72, 84, 84, 80, 47, 49, 46, 49]⟩)) = true := by rw [e3, e6]; rfl
          repeat' (first | refine gc ?_ | refine join_go (weak_sub (.cons rfl rfl rfl (.cons rfl rfl rfl (.cons rfl rfl rfl (.cons rfl rfl rfl (.cons rfl rfl rfl .nil))))) (.cons rfl rfl rfl (.cons rfl rfl rfl .nil)) .nil) | (refine rg 3 ?_; refine oMv ?_; refine sp (pln rfl (tyS rfl)) ?_; refine oCm ?_; refine oMv ?_; refine oMv ?_ <;> refine sp (pix rfl (tyS rfl)) ?_ <;> (first | refine oLb ?_ | refine oLd ?_) <;> refine oC (c3) rfl (ac .nil) ?_ <;> refine sp (po_not rfl rfl) ?_ <;> (first | refine oPt ?_ | refine oPf ?_) <;> refine oMv ?_ <;> refine oMv ?_ <;> refine sp (pix rfl (tyS rfl)) ?_ <;> (first | refine oLb ?_ | refine oLd ?_) <;> refine sp (po_str rfl rfl rfl rfl) ?_ <;> (first | refine oPt ?_ | refine oPf ?_) <;> refine oMv ?_ <;> (first | refine oMv ?_ | refine oK ?_) <;> (first | refine sp (pln rfl (tyS rfl)) ?_ | refine oK ?_) <;> (first | refine oCm ?_ | refine oK ?_) <;> refine oPt ?_ <;> refine oMv ?_ <;> (first | refine oMv ?_ | refine oK ?_) <;> (first | refine sp (pix rfl (tyS rfl)) ?_ | refine oK ?_) <;> (first | refine oLb ?_ | refine oLd ?_ | refine oK ?_) <;> (first | refine oC (c3) rfl (ac .nil) ?_ | refine oK ?_) <;> (first | refine oC (c3) rfl (ac .nil) ?_ | refine oK ?_) <;> (first | refine sp (po_not rfl rfl) ?_ | refine oK ?_) <;> refine oPt ?_ <;> refine oN ?_))
        | true =>
          have e4 : (!decide (bs v = ⟨#[72, 84, 84, 80, 47, 49, 46, 49]⟩)) = false := by rw [e3, e6]; rfl
          repeat' (first | refine gc ?_ | refine join_go (weak_sub (.cons rfl rfl rfl (.cons rfl rfl rfl (.cons rfl rfl rfl (.cons rfl rfl rfl (.cons rfl rfl rfl .nil))))) (.cons rfl rfl rfl (.cons rfl rfl rfl .nil)) .nil) | (refine rg 3 ?_; refine oMv ?_; refine sp (pln rfl (tyS rfl)) ?_; refine oCm ?_; refine oMv ?_; refine oMv ?_ <;> refine sp (pix rfl (tyS rfl)) ?_ <;> (first | refine oLb ?_ | refine oLd ?_) <;> refine oC (c3) rfl (ac .nil) ?_ <;> refine sp (po_not rfl rfl) ?_ <;> (first | refine oPt ?_ | refine oPf ?_) <;> refine oMv ?_ <;> refine oMv ?_ <;> refine sp (pix rfl (tyS rfl)) ?_ <;> (first | refine oLb ?_ | refine oLd ?_) <;> refine sp (po_str rfl rfl rfl rfl) ?_ <;> (first | refine oPt ?_ | refine oPf ?_) <;> refine oMv ?_ <;> refine oMv ?_ <;> refine sp (pln rfl (tyS rfl)) ?_ <;> refine oCm ?_ <;> (first | refine oPt ?_ | refine oPf ?_) <;> refine oMv ?_ <;> (first | refine oMv ?_ | refine oK ?_) <;> (first | refine sp (pix rfl (tyS rfl)) ?_ | refine oK ?_) <;> (first | refine oLb ?_ | refine oLd ?_ | refine oK ?_) <;> (first | refine oC (c3) rfl (ac .nil) ?_ | refine oK ?_) <;> (first | refine oC (c3) rfl (ac .nil) ?_ | refine oK ?_) <;> (first | refine sp (po_not rfl rfl) ?_ | refine oK ?_) <;> refine oPt ?_ <;> refine oN ?_))
  · rw [condP_3 h3] at hb
    subst hb
    have e1 : (!decide (((ps.map Pth.strT).length : Int) = 3)) = true := by rw [List.length_map, decide_eq_false (by omega)]; rfl
    clear hps hvs
    repeat' (first | refine gc ?_ | refine join_go (weak_sub (.cons rfl rfl rfl (.cons rfl rfl rfl (.cons rfl rfl rfl (.cons rfl rfl rfl (.cons rfl rfl rfl .nil))))) (.cons rfl rfl rfl (.cons rfl rfl rfl .nil)) .nil) | (refine rg 3 ?_; refine oMv ?_; refine sp (pln rfl (tyS rfl)) ?_; refine oCm ?_; refine oMv ?_; (first | refine oMv ?_ | refine oK ?_) <;> (first | refine sp (pix rfl (tyS rfl)) ?_ | refine oK ?_) <;> (first | refine oLb ?_ | refine oLd ?_ | refine oK ?_) <;> refine oK ?_ <;> (first | refine sp (po_not rfl rfl) ?_ | refine oK ?_) <;> refine oPt ?_ <;> refine oMv ?_ <;> (first | refine oMv ?_ | refine oK ?_) <;> (first | refine sp (pix rfl (tyS rfl)) ?_ | refine oK ?_) <;> (first | refine oLb ?_ | refine oLd ?_ | refine oK ?_) <;> (first | refine sp (po_str rfl rfl rfl rfl) ?_ | refine oK ?_) <;> refine oPt ?_ <;> refine oMv ?_ <;> (first | refine oMv ?_ | refine oK ?_) <;> (first | refine sp (pln rfl (tyS rfl)) ?_ | refine oK ?_) <;> (first | refine oCm ?_ | refine oK ?_) <;> refine oPt ?_ <;> refine oMv ?_ <;> (first | refine oMv ?_ | refine oK ?_) <;> (first | refine sp (pix rfl (tyS rfl)) ?_ | refine oK ?_) <;> (first | refine oLb ?_ | refine oLd ?_ | refine oK ?_) <;> refine oK ?_ <;> refine oK ?_ <;> (first | refine sp (po_not rfl rfl) ?_ | refine oK ?_) <;> refine oPt ?_ <;> refine oN ?_))
abbrev bxQ (r : PRaw) (m t p q h : ByteArray) : List (Nat × List A) := (6, [.t (.v (.string m)), .t (.v (.string t)), .t (.v (.string p)), .t (.v (.string q)), .t (.v (.string h)), nlA, nlA]) :: bxP r
set_option maxRecDepth 100000 in
set_option maxHeartbeats 4000000 in
theorem r5_ {c : Code} (hc : fR 5 (bodyOf Tryz.f41) = some c) {Q : Exit → St → Prop} (r : PRaw) (m t v : L8) (w sm : ByteArray) (c4 : PCalls Tryz.prog 76 [.v (.string w)] (.v (.string sm))) (h : Q .normal ⟨[(1, .bp 1 0), (2, .bp 2 0), (6, .bp 6 0)], bxQ r (bs m) (bs t) ⟨#[]⟩ ⟨#[]⟩ sm, []⟩) : SWp Tryz.prog 96 c Q ⟨tmP [m, t, v] [w], bxP r, []⟩ := by
  obtain rfl := Option.some.inj hc
  clear hc
  refine swp_joinQ _ ?_ h
  clear h
  repeat' (first | refine gc ?_ | refine join_go (weak_sub (.cons rfl rfl rfl (.cons rfl rfl rfl (.cons rfl rfl rfl .nil))) (.cons rfl rfl rfl (.cons rfl rfl rfl (.cons rfl rfl rfl .nil))) .nil) | ((refine swp_any (id := 5) [[], [], [], [], [], [], [], [], [], [], [], [6], [6]] [[6], [6], [6], [6], [6], [6], [6], [6], [6], [6], [6], [], []] mixed (by kernel_rfl) ?_) <;> refine yp (fun _ _ => po_move rfl rfl) ?_ <;> (first | refine yp (fun _ _ => po_index_own rfl rfl rfl (by rfl) rfl (tyS rfl) (by rfl) (by first | assumption | omega)) ?_ | refine yp (fun _ _ => pix rfl (tyS rfl)) ?_) <;> (first | refine yp (fun _ _ => po_load_bx rfl rfl (tyT rfl) rfl rfl) ?_ | refine yp (fun _ _ => po_load rfl rfl (tyT rfl) rfl) ?_) <;> refine yp (fun _ _ => po_move rfl rfl) ?_ <;> (first | refine yp (fun _ _ => po_index_own rfl rfl rfl (by rfl) rfl (tyS rfl) (by rfl) (by first | assumption | omega)) ?_ | refine yp (fun _ _ => pix rfl (tyS rfl)) ?_) <;> (first | refine yp (fun _ _ => po_load_bx rfl rfl (tyT rfl) rfl rfl) ?_ | refine yp (fun _ _ => po_load rfl rfl (tyT rfl) rfl) ?_) <;> refine yp (fun _ _ => po_move rfl rfl) ?_ <;> (first | refine yp (fun _ _ => po_index_own rfl rfl rfl (by rfl) rfl (tyS rfl) (by rfl) (by first | assumption | omega)) ?_ | refine yp (fun _ _ => pix rfl (tyS rfl)) ?_) <;> (first | refine yp (fun _ _ => po_load_bx rfl rfl (tyT rfl) rfl rfl) ?_ | refine yp (fun _ _ => po_load rfl rfl (tyT rfl) rfl) ?_) <;> refine yp (fun _ _ => po_call (c4) rfl (ac .nil)) ?_ <;> (refine yp (fun _ _ => po_buildS str57 rfl (pc (pc (pc .nil))) rfl) ?_) <;> refine sany_eff [(6, _)] [] (.free rfl rfl) rfl rfl (fun _ _ hb _ => e_allocS str57 rfl (hb 6 rfl rfl)) ?_ <;> refine sany_eff [(6, _)] [] (.free rfl rfl) rfl rfl (fun _ _ _ _ => e_store rfl rfl rfl rfl rfl rfl (tyT rfl) rfl rfl) ?_ <;> refine sany_nil ?_))
set_option maxRecDepth 100000 in
set_option maxHeartbeats 4000000 in
theorem r15_ {c : Code} (hc : fR 15 (bodyOf Tryz.f41) = some c) {Q : Exit → St → Prop} (r : PRaw) (m t p q w : ByteArray) (h : Q .normal ⟨[(1, .bp 1 0), (2, .bp 2 0), (6, .bp 6 0)], (6, [.t (.v (.string m)), .t (.v (.string t)), .t (.v (.string p)), .t (.v (.string q)), .t (.v (.string w)), .t (headsT r.heads), .t (.sl 1 (r.body.map byteT))]) :: bxP r, []⟩) : SWp Tryz.prog 96 c Q ⟨[(1, .bp 1 0), (2, .bp 2 0), (6, .bp 6 0)], bxQ r m t p q w, []⟩ := by
  obtain rfl := Option.some.inj hc
  clear hc
  refine swp_joinQ _ ?_ h
  clear h
  repeat' (first | refine gc ?_ | refine join_go (weak_sub (.cons rfl rfl rfl (.cons rfl rfl rfl (.cons rfl rfl rfl .nil))) (.cons rfl rfl rfl (.cons rfl rfl rfl (.cons rfl rfl rfl .nil))) .nil) | ((refine swp_any (id := 15) [[], [], [], [], [], [6], [], [6]] [[], [], [6], [6], [], [], [], []] mixed (by kernel_rfl) ?_) <;> refine yp (fun _ _ => po_field_bx rfl rfl (tyF rfl)) ?_ <;> refine yp (fun _ _ => po_load_bx rfl rfl (tyT rfl) rfl rfl) ?_ <;> refine yp (fun _ _ => po_field_bx rfl rfl (tyF rfl)) ?_ <;> refine yp (fun _ _ => po_load_bx rfl rfl (tyT rfl) rfl rfl) ?_ <;> refine yp (fun _ _ => po_field_bx rfl rfl (tyF rfl)) ?_ <;> refine sany_eff [(6, _)] [] (.free rfl rfl) rfl rfl (fun _ _ _ _ => e_store rfl rfl rfl rfl rfl rfl (tyT rfl) rfl rfl) ?_ <;> refine yp (fun _ _ => po_field_bx rfl rfl (tyF rfl)) ?_ <;> refine sany_eff [(6, _)] [] (.free rfl rfl) rfl rfl (fun _ _ _ _ => e_store rfl rfl rfl rfl rfl rfl (tyT rfl) rfl rfl) ?_ <;> refine sany_nil ?_))
end Go.Proofs.YtpncekdhigappaaGreatDoor.Ro
