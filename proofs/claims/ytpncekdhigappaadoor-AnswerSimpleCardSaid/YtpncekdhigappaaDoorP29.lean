/- Merged by bundles.py: SimRq7, PlWr. -/
import Derived.Test.YtpncekdhigappaaDoorP28
import Derived.Test.YtpncekdhigappaaDoorP22
/- The reader of messages: all that bytes are, walked. -/
namespace Go.Proofs.YtpncekdhigappaaDoor.Rq
set_option linter.unusedVariables false
set_option linter.unusedSimpArgs false
open Go.RowKit Mem Sim Opn Hd Str
/-- the messages that bytes are, or the fault -/
def rawsL (l : List UInt8) : List PRaw × Int := if (feedP rd0 l).err ≠ 0 then ([], (feedP rd0 l).err) else if idleP (feedP rd0 l) then ((feedP rd0 l).out, 0) else ([], 2)
def rawsT (x : List PRaw × Int) : T := if x.2 = 0 then .tup [.sl 3 (x.1.map rawT), .v (.int .i64 x.2)] else .tup [.v (.slice none 0 0), .v (.int .i64 x.2)]
theorem inv_all (l : List UInt8) (hl : l.length ≤ 500000) : Inv l.length (feedP rd0 l) := by
  have := inv0.feed l (by omega) l.length (Nat.le_refl _)
  rwa [List.take_length, Nat.zero_add] at this
set_option maxRecDepth 100000 in
set_option maxHeartbeats 2000000 in
theorem raws_ (l : List UInt8) (hl : l.length ≤ 500000) : PCalls Tryd.prog 11 [.sl 1 (l.map byteT)] (rawsT (rawsL l)) := by
  have hI := inv_all l hl
  have c0 := new_
  have c1 := feed_ rd0 inv0 rfl l (by omega)
  unfold feedT at c1
  have c2 := idle_ (feedP rd0 l) (by have := hI.hl; omega)
  unfold rawsL
  generalize feedP rd0 l = q at *
  refine pcalls_of Tryd.func11 rfl rfl Tryd.ntmps11 rfl ?_
  by_cases he : q.err = 0
  · rw [if_neg (by simp [he])]
    have e1 : (!decide (q.err = 0)) = false := by rw [decide_eq_true he]; rfl
    cases hi : idleP q with
    | true =>
      rw [hi] at c2
      rw [if_pos rfl]
      repeat' (first | (refine rg 0 ?_; refine oAs ?_; refine oAs ?_; refine oN ?_) | (refine rg 1 ?_; (first | refine oC (c0) rfl .nil ?_ | refine oC (c1) rfl .nil ?_ | refine oC (c2) rfl .nil ?_); refine oMv ?_; (first | refine oC (c0) rfl (ac (ac .nil)) ?_ | refine oC (c1) rfl (ac (ac .nil)) ?_ | refine oC (c2) rfl (ac (ac .nil)) ?_); refine oMv ?_; refine oEx ?_; refine oEx ?_; refine sal str57 ?_; refine oS ?_; refine oAs ?_; refine oN ?_) | (refine rg 2 ?_; (first | refine oFb ?_ | refine oFd ?_); (first | refine oLb ?_ | refine oLd ?_); refine oCm ?_; refine oAs ?_; refine oN ?_) | (refine rg 4 ?_; (first | refine sp (po_load_bx_agg rfl rfl (tyT rfl) rfl (vc (vc (vc (vc (vc (vc (vc .nil))))))) rfl) ?_ | refine sp (po_load_agg rfl rfl (tyT rfl) rfl rfl) ?_); (first | refine oC (c0) rfl (ac .nil) ?_ | refine oC (c1) rfl (ac .nil) ?_ | refine oC (c2) rfl (ac .nil) ?_); refine sp (po_not rfl rfl) ?_; refine oAs ?_; refine oN ?_) | (refine rg 6 ?_; refine oMv ?_; refine oAs ?_; refine oAs ?_; refine oN ?_) | refine gc ?_ | refine ct ?_ | refine cf ?_ | refine swp_cond rfl (fun hc => ?_) (fun hc => ?_) | refine rq rfl (rt (rt .nil)) ?_)
      rfl
    | false =>
      rw [hi] at c2
      rw [if_neg (by simp)]
      repeat' (first | (refine rg 0 ?_; refine oAs ?_; refine oAs ?_; refine oN ?_) | (refine rg 1 ?_; (first | refine oC (c0) rfl .nil ?_ | refine oC (c1) rfl .nil ?_ | refine oC (c2) rfl .nil ?_); refine oMv ?_; (first | refine oC (c0) rfl (ac (ac .nil)) ?_ | refine oC (c1) rfl (ac (ac .nil)) ?_ | refine oC (c2) rfl (ac (ac .nil)) ?_); refine oMv ?_; refine oEx ?_; refine oEx ?_; refine sal str57 ?_; refine oS ?_; refine oAs ?_; refine oN ?_) | (refine rg 2 ?_; (first | refine oFb ?_ | refine oFd ?_); (first | refine oLb ?_ | refine oLd ?_); refine oCm ?_; refine oAs ?_; refine oN ?_) | (refine rg 4 ?_; (first | refine sp (po_load_bx_agg rfl rfl (tyT rfl) rfl (vc (vc (vc (vc (vc (vc (vc .nil))))))) rfl) ?_ | refine sp (po_load_agg rfl rfl (tyT rfl) rfl rfl) ?_); (first | refine oC (c0) rfl (ac .nil) ?_ | refine oC (c1) rfl (ac .nil) ?_ | refine oC (c2) rfl (ac .nil) ?_); refine sp (po_not rfl rfl) ?_; refine oAs ?_; refine oN ?_) | (refine rg 5 ?_; refine oAs ?_; refine oAs ?_; refine oN ?_) | refine gc ?_ | refine ct ?_ | refine cf ?_ | refine swp_cond rfl (fun hc => ?_) (fun hc => ?_) | refine rq rfl (rt (rt .nil)) ?_)
      rfl
  · rw [if_pos he]
    have e1 : (!decide (q.err = 0)) = true := by rw [decide_eq_false he]; rfl
    repeat' (first | (refine rg 0 ?_; refine oAs ?_; refine oAs ?_; refine oN ?_) | (refine rg 1 ?_; (first | refine oC (c0) rfl .nil ?_ | refine oC (c1) rfl .nil ?_); refine oMv ?_; (first | refine oC (c0) rfl (ac (ac .nil)) ?_ | refine oC (c1) rfl (ac (ac .nil)) ?_); refine oMv ?_; refine oEx ?_; refine oEx ?_; refine sal str57 ?_; refine oS ?_; refine oAs ?_; refine oN ?_) | (refine rg 2 ?_; (first | refine oFb ?_ | refine oFd ?_); (first | refine oLb ?_ | refine oLd ?_); refine oCm ?_; refine oAs ?_; refine oN ?_) | (refine rd 3 ?_; (first | refine dFb ?_ | refine dFd ?_); (first | refine dLb ?_ | refine dLd ?_); refine dAs ?_; refine dAs ?_; refine dN ?_; refine oN ?_) | refine gc ?_ | refine ct ?_ | refine cf ?_ | refine swp_cond rfl (fun hc => ?_) (fun hc => ?_) | refine rq rfl (rt (rt .nil)) ?_)
    unfold rawsT; rw [if_neg he]; rfl
end Go.Proofs.YtpncekdhigappaaDoor.Rq

/- A message's bytes, and that they are read back as it; plain. -/
namespace Go.Proofs.YtpncekdhigappaaDoor.Rq
set_option linter.unusedVariables false
set_option linter.unusedSimpArgs false
open Go.RowKit Mem Sim Opn Hd Str
abbrev crlf : ByteArray := ⟨#[13, 10]⟩
def oddR (c : Nat) : Bool := decide (c < 32) || decide (126 < c)
def oddB (b : UInt8) : Bool := oddR b.toNat
def evenB (b : UInt8) : Bool := !oddB b
def plainP (s : ByteArray) : Bool := s.toList.all evenB
def fitsP (l : List Pl.Head) (b : List UInt8) : Bool := decide ((fram l).2 = 0) && mayL l && decide (b.length ≤ 1024) && (decide ((fram l).1.chunked = 1) || decide ((b.length : Int) = (fram l).1.length))
def wL (r : PRaw) (k : Nat) : List UInt8 := (r.start ++ crlf).toList ++ ((r.heads.take k).flatMap fun h => (lineS h ++ crlf).toList)
theorem wL_succ (r : PRaw) {k : Nat} (hk : k < r.heads.length) : wL r (k + 1) = wL r k ++ (lineS r.heads[k] ++ crlf).toList := by
  unfold wL
  rw [List.take_succ_eq_append_getElem hk, List.flatMap_append, List.append_assoc]; simp
theorem lineS_size {h : Pl.Head} (hg : good h = true) : (lineS h).size ≤ 578 := by
  unfold good at hg
  simp only [Bool.and_eq_true] at hg
  have h1 := mayName_size hg.1
  have h2 := mayValue_size hg.2
  have h3 : (⟨#[58, 32]⟩ : ByteArray).size = 2 := rfl
  unfold lineS
  rw [ByteArray.size_append, ByteArray.size_append, h3]; omega
theorem wL_len (r : PRaw) (hg : ∀ h ∈ r.heads, good h = true) (hs : r.start.size ≤ 578) : ∀ k, k ≤ r.heads.length → (wL r k).length ≤ 600 + 600 * k
  | 0, _ => by
    unfold wL
    have h3 : crlf.size = 2 := rfl
    simp only [List.take_zero, List.flatMap_nil, List.append_nil, toList_len, ByteArray.size_append, h3]; omega
  | k + 1, hk => by
    have ih := wL_len r hg hs k (by omega)
    have h3 : crlf.size = 2 := rfl
    have h4 := lineS_size (hg r.heads[k] (List.getElem_mem _))
    rw [wL_succ r (by omega), List.length_append, toList_len, ByteArray.size_append, h3]; omega
def hexC (n : Nat) : UInt8 := if n % 16 < 10 then UInt8.ofNat (48 + n % 16) else UInt8.ofNat (87 + n % 16)
def hexK (n : Nat) : Nat → List UInt8
  | 0 => []
  | k + 1 => hexC (n / 16 ^ k) :: hexK n k
theorem hexK_len (n : Nat) : ∀ k, (hexK n k).length = k
  | 0 => rfl
  | k + 1 => by unfold hexK; rw [List.length_cons, hexK_len n k]
def hm (n : Nat) : Nat := if n = 0 then 0 else if n ≤ 15 then 1 else if n ≤ 255 then 2 else 3
def hexL (n : Nat) : List UInt8 := hexK n (hm n)
theorem hm_3 (n : Nat) : hm n ≤ 3 := by unfold hm; repeat' split <;> try omega
def tailL (ch : Int) (b : List UInt8) : List UInt8 := if ch = 0 then b else (if b = [] then [] else hexL b.length ++ [13, 10] ++ b ++ [13, 10]) ++ [48, 13, 10, 13, 10]
/-- a message's bytes -/
def msgP (r : PRaw) : List UInt8 := wL r r.heads.length ++ [13, 10] ++ tailL (fram r.heads).1.chunked r.body
/-- may a message be written -/
def wrP (r : PRaw) : Bool := plainP r.start && decide (1 ≤ r.start.size) && decide (r.start.size ≤ 578) && fitsP r.heads r.body
theorem bs_list (s : ByteArray) : bs s.toList = s := bs_inj (by rw [bs_toList])
/-- a state behind k headers -/
def hst (o : List PRaw) (r : PRaw) (k : Nat) : PRd := ⟨1, [], ⟨r.start, r.heads.take k, []⟩, 0, 0, o⟩
theorem crlf_list (s : ByteArray) : (s ++ crlf).toList = s.toList ++ [13, 10] := by
  rw [toList_append]
  exact congrArg (s.toList ++ ·) (bs_toList [13, 10])
end Go.Proofs.YtpncekdhigappaaDoor.Rq
