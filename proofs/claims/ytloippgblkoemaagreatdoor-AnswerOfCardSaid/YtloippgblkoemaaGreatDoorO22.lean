/- Merged by bundles.py: PlWr, SimAn1, SimAn2. -/
import Derived.Test.YtloippgblkoemaaGreatDoorO21
import Derived.Test.YtloippgblkoemaaGreatDoorO19
/- A message's bytes, and that they are read back as it; plain. -/
namespace Go.Proofs.YtloippgblkoemaaGreatDoor.Rq
set_option linter.unusedVariables false
set_option linter.unusedSimpArgs false
open Go.RowKit Mem Sim Opn Hd Str
abbrev crlf : ByteArray := ⟨#[13, 10]⟩
def oddR (c : Nat) : Bool := decide (c < 32) || decide (126 < c)
def oddB (b : UInt8) : Bool := oddR b.toNat
def evenB (b : UInt8) : Bool := !oddB b
def plainP (s : ByteArray) : Bool := s.toList.all evenB
def fitsP (l : List Pl.Head) (b : List UInt8) : Bool := decide ((fram l).2 = 0) && mayL l && decide (b.length ≤ 1024) && (decide ((fram l).1.chunked = 1) || decide ((b.length : Int) = (fram l).1.length))
def wL (r : PRaw) (k : Nat) : List UInt8 := (r.start ++ crlf).toList ++ ((r.heads.take k).flatMap fun h => (lineS h ++ crlf).toList)
theorem wL_succ (r : PRaw) {k : Nat} (hk : k < r.heads.length) : wL r (k + 1) = wL r k ++ (lineS r.heads[k] ++ crlf).toList := by
  unfold wL
  rw [List.take_succ_eq_append_getElem hk, List.flatMap_append, List.append_assoc]; simp
theorem lineS_size {h : Pl.Head} (hg : good h = true) : (lineS h).size ≤ 578 := by
  unfold good at hg
  simp only [Bool.and_eq_true] at hg
  have h1 := mayName_size hg.1
  have h2 := mayValue_size hg.2
  have h3 : (⟨#[58, 32]⟩ : ByteArray).size = 2 := rfl
  unfold lineS
  rw [ByteArray.size_append, ByteArray.size_append, h3]; omega
theorem wL_len (r : PRaw) (hg : ∀ h ∈ r.heads, good h = true) (hs : r.start.size ≤ 578) : ∀ k, k ≤ r.heads.length → (wL r k).length ≤ 600 + 600 * k
  | 0, _ => by
    unfold wL
    have h3 : crlf.size = 2 := rfl
    simp only [List.take_zero, List.flatMap_nil, List.append_nil, toList_len, ByteArray.size_append, h3]; omega
  | k + 1, hk => by
    have ih := wL_len r hg hs k (by omega)
    have h3 : crlf.size = 2 := rfl
    have h4 := lineS_size (hg r.heads[k] (List.getElem_mem _))
    rw [wL_succ r (by omega), List.length_append, toList_len, ByteArray.size_append, h3]; omega
def hexC (n : Nat) : UInt8 := if n % 16 < 10 then UInt8.ofNat (48 + n % 16) else UInt8.ofNat (87 + n % 16)
def hexK (n : Nat) : Nat → List UInt8
  | 0 => []
  | k + 1 => hexC (n / 16 ^ k) :: hexK n k
theorem hexK_len (n : Nat) : ∀ k, (hexK n k).length = k
  | 0 => rfl
  | k + 1 => by unfold hexK; rw [List.length_cons, hexK_len n k]
def hm (n : Nat) : Nat := if n = 0 then 0 else if n ≤ 15 then 1 else if n ≤ 255 then 2 else 3
def hexL (n : Nat) : List UInt8 := hexK n (hm n)
theorem hm_3 (n : Nat) : hm n ≤ 3 := by unfold hm; repeat' split <;> try omega
def tailL (ch : Int) (b : List UInt8) : List UInt8 := if ch = 0 then b else (if b = [] then [] else hexL b.length ++ [13, 10] ++ b ++ [13, 10]) ++ [48, 13, 10, 13, 10]
/-- a message's bytes -/
def msgP (r : PRaw) : List UInt8 := wL r r.heads.length ++ [13, 10] ++ tailL (fram r.heads).1.chunked r.body
/-- may a message be written -/
def wrP (r : PRaw) : Bool := plainP r.start && decide (1 ≤ r.start.size) && decide (r.start.size ≤ 578) && fitsP r.heads r.body
theorem feedP_app (r : PRd) (a b : List UInt8) : feedP r (a ++ b) = feedP (feedP r a) b := by unfold feedP; rw [List.foldl_append]
theorem crP_snoc (l : List UInt8) (c : UInt8) : crP (l ++ [c]) = decide (c.toNat = 13) := by unfold crP; simp
theorem byte_take (r : PRd) (he : r.err = 0) (h2 : r.phase ≠ 2) (h4 : r.phase ≠ 4) (c : UInt8) : byteP r c = takeP r c := by
  unfold byteP
  rw [if_neg (by simp [he]), if_pos ⟨h2, h4⟩]
/-- a state behind k headers -/
def hst (o : List PRaw) (r : PRaw) (k : Nat) : PRd := ⟨1, [], ⟨r.start, r.heads.take k, []⟩, 0, 0, o⟩
def idl (o : List PRaw) : PRd := ⟨0, [], raw0, 0, 0, o⟩
theorem crlf_list (s : ByteArray) : (s ++ crlf).toList = s.toList ++ [13, 10] := by
  rw [toList_append]
  exact congrArg (s.toList ++ ·) (bs_toList [13, 10])
theorem feed_body : ∀ (b : List UInt8) (r : PRd), r.err = 0 → (r.phase = 2 ∨ r.phase = 4) → b ≠ [] → r.left = (b.length : Int) → feedP r b = if r.phase = 2 then ⟨0, [], raw0, 0, 0, r.out ++ [{ r.raw with body := r.raw.body ++ b }]⟩ else { r with raw := { r.raw with body := r.raw.body ++ b }, phase := 5, left := 0 }
  | [], _, _, _, hb, _ => absurd rfl hb
  | c :: b, r, he, hp, _, hl => by
    have e1 : byteP r c = bodyByte r c := by
      unfold byteP
      rw [if_neg (by simp [he]), if_neg (by omega)]
    show feedP (byteP r c) b = _
    rw [e1, bodyByte_eq]
    rw [List.length_cons] at hl
    have hl1 : (bodyR r c).left = (b.length : Int) := by show r.left - 1 = _; omega
    rw [hl1]
    cases b with
    | nil =>
      rw [if_neg (by simp)]
      by_cases h2 : r.phase = 2
      · rw [if_pos (show (bodyR r c).phase = 2 from h2), if_pos h2]; rfl
      · rw [if_neg (show ¬ (bodyR r c).phase = 2 from h2), if_neg h2]; rfl
    | cons d b =>
      rw [if_pos (by rw [List.length_cons]; omega)]
      have ih := feed_body (d :: b) (bodyR r c) he hp (by simp) hl1
      rw [ih]
      have e2 : (bodyR r c).raw.body ++ d :: b = r.raw.body ++ c :: d :: b := by show r.raw.body ++ [c] ++ d :: b = _; simp
      rw [e2]; rfl
end Go.Proofs.YtloippgblkoemaaGreatDoor.Rq

/- Answers: whether they may be; digits; walks. -/
namespace Go.Proofs.YtloippgblkoemaaGreatDoor.An
set_option linter.unusedVariables false
set_option linter.unusedSimpArgs false
open Go.RowKit Mem Sim Opn Hd Str Rq
structure PAns where
  code : Int
  heads : List Pl.Head
  body : List UInt8
deriving Inhabited
def ansT (a : PAns) : List T := [.v (.int .i64 a.code), headsT a.heads, .sl 1 (a.body.map byteT)]
def mayA (a : PAns) : Bool := decide (200 ≤ a.code) && decide (a.code ≤ 599) && fitsP a.heads a.body
set_option maxRecDepth 100000 in
set_option maxHeartbeats 2000000 in
theorem fits_ (l : List Pl.Head) (hn : l.length ≤ 1000) (hh : ∀ h ∈ l, okHead h) (b : List UInt8) (hb : b.length ≤ 100000) : PCalls Tryz.prog 50 [.sl 1 (b.map byteT), headsT l] (.v (.bool (fitsP l b))) := by
  have hm2 : (b.map byteT).length = b.length := List.length_map _
  have c1 := framing_ l hn hh
  have c2 := Hd.mayL_ l hn hh
  unfold framT endT at c1
  unfold fitsP
  generalize (fram l).2 = e at *
  generalize (fram l).1 = f at *
  have hlast : decide (((b.map byteT).length : Int) = f.length) = decide ((b.length : Int) = f.length) := by rw [hm2]
  refine pcalls_of Tryz.func50 rfl rfl Tryz.ntmps50 rfl ?_
  by_cases he : e = 0
  · rw [decide_eq_true he]
    cases hmy : Hd.mayL l with
    | false =>
      rw [hmy] at c2
      repeat' (first | (refine rg 0 ?_; refine oAs ?_; refine oN ?_) | (refine rg 1 ?_; refine oMv ?_; refine oC (c1) rfl (ac .nil) ?_; refine oMv ?_; refine oEx ?_; refine oEx ?_; refine sal str89 ?_; refine oS ?_; refine oAs ?_; refine oN ?_) | (refine rg 2 ?_; refine oMv ?_; refine oCm ?_; refine oMv ?_; refine oMv ?_ <;> (first | refine oC (c1) rfl (ac .nil) ?_ | refine oC (c2) rfl (ac .nil) ?_) <;> refine oPt ?_ <;> refine oMv ?_ <;> (first | refine oMv ?_ | refine oK ?_) <;> (first | refine sp (pln rfl (tyS rfl)) ?_ | refine oK ?_) <;> (first | refine oCm ?_ | refine oK ?_) <;> (first | refine oPt ?_ | refine oPf ?_) <;> refine oMv ?_ <;> (first | refine oFb ?_ | refine oFd ?_ | refine oK ?_) <;> (first | refine oLb ?_ | refine oLd ?_ | refine oK ?_) <;> (first | refine oCm ?_ | refine oK ?_) <;> (first | refine oMv ?_ | refine oK ?_) <;> (first | refine oMv ?_ | refine oK ?_) <;> (first | refine sp (pln rfl (tyS rfl)) ?_ | refine oK ?_) <;> (first | refine oFb ?_ | refine oFd ?_ | refine oK ?_) <;> (first | refine oLb ?_ | refine oLd ?_ | refine oK ?_) <;> (first | refine oCm ?_ | refine oK ?_) <;> (first | refine oPt ?_ | refine oPf ?_ | refine oK ?_) <;> (first | refine oPt ?_ | refine oPf ?_) <;> refine oAs ?_ <;> refine oN ?_) | refine gc ?_ | refine ct ?_ | refine cf ?_ | refine swp_cond rfl (fun hc => ?_) (fun hc => ?_) | refine rq rfl (rt .nil) ?_)
      rfl
    | true =>
      rw [hmy] at c2
      by_cases hbl : b.length ≤ 1024
      · rw [decide_eq_true hbl]
        by_cases hc : f.chunked = 1
        · rw [decide_eq_true hc]
          repeat' (first | (refine rg 0 ?_; refine oAs ?_; refine oN ?_) | (refine rg 1 ?_; refine oMv ?_; refine oC (c1) rfl (ac .nil) ?_; refine oMv ?_; refine oEx ?_; refine oEx ?_; refine sal str89 ?_; refine oS ?_; refine oAs ?_; refine oN ?_) | (refine rg 2 ?_; refine oMv ?_; refine oCm ?_; refine oMv ?_; refine oMv ?_ <;> (first | refine oC (c1) rfl (ac .nil) ?_ | refine oC (c2) rfl (ac .nil) ?_) <;> refine oPt ?_ <;> refine oMv ?_ <;> refine oMv ?_ <;> refine sp (pln rfl (tyS rfl)) ?_ <;> refine oCm ?_ <;> refine oPt ?_ <;> refine oMv ?_ <;> refine oFb ?_ <;> refine oLb ?_ <;> refine oCm ?_ <;> refine oMv ?_ <;> (first | refine oMv ?_ | refine oK ?_) <;> (first | refine sp (pln rfl (tyS rfl)) ?_ | refine oK ?_) <;> (first | refine oFb ?_ | refine oFd ?_ | refine oK ?_) <;> (first | refine oLb ?_ | refine oLd ?_ | refine oK ?_) <;> (first | refine oCm ?_ | refine oK ?_) <;> refine oPt ?_ <;> refine oPt ?_ <;> refine oAs ?_ <;> refine oN ?_) | refine gc ?_ | refine ct ?_ | refine cf ?_ | refine swp_cond rfl (fun hc => ?_) (fun hc => ?_) | refine rq rfl (rt .nil) ?_)
          rfl
        · rw [decide_eq_false hc]
          repeat' (first | (refine rg 0 ?_; refine oAs ?_; refine oN ?_) | (refine rg 1 ?_; refine oMv ?_; refine oC (c1) rfl (ac .nil) ?_; refine oMv ?_; refine oEx ?_; refine oEx ?_; refine sal str89 ?_; refine oS ?_; refine oAs ?_; refine oN ?_) | (refine rg 2 ?_; refine oMv ?_; refine oCm ?_; refine oMv ?_; refine oMv ?_ <;> (first | refine oC (c1) rfl (ac .nil) ?_ | refine oC (c2) rfl (ac .nil) ?_) <;> refine oPt ?_ <;> refine oMv ?_ <;> refine oMv ?_ <;> refine sp (pln rfl (tyS rfl)) ?_ <;> refine oCm ?_ <;> refine oPt ?_ <;> refine oMv ?_ <;> refine oFb ?_ <;> refine oLb ?_ <;> refine oCm ?_ <;> refine oMv ?_ <;> refine oMv ?_ <;> refine sp (pln rfl (tyS rfl)) ?_ <;> refine oFb ?_ <;> refine oLb ?_ <;> refine oCm ?_ <;> (first | refine oPt ?_ | refine oPf ?_) <;> refine oPt ?_ <;> refine oAs ?_ <;> refine oN ?_) | refine gc ?_ | refine ct ?_ | refine cf ?_ | refine swp_cond rfl (fun hc => ?_) (fun hc => ?_) | refine rq rfl (rt .nil) ?_)
          rw [← hlast]; rfl
      · rw [decide_eq_false hbl]
        repeat' (first | (refine rg 0 ?_; refine oAs ?_; refine oN ?_) | (refine rg 1 ?_; refine oMv ?_; refine oC (c1) rfl (ac .nil) ?_; refine oMv ?_; refine oEx ?_; refine oEx ?_; refine sal str89 ?_; refine oS ?_; refine oAs ?_; refine oN ?_) | (refine rg 2 ?_; refine oMv ?_; refine oCm ?_; refine oMv ?_; refine oMv ?_ <;> (first | refine oC (c1) rfl (ac .nil) ?_ | refine oC (c2) rfl (ac .nil) ?_) <;> refine oPt ?_ <;> refine oMv ?_ <;> refine oMv ?_ <;> refine sp (pln rfl (tyS rfl)) ?_ <;> refine oCm ?_ <;> refine oPt ?_ <;> refine oMv ?_ <;> (first | refine oFb ?_ | refine oFd ?_ | refine oK ?_) <;> (first | refine oLb ?_ | refine oLd ?_ | refine oK ?_) <;> (first | refine oCm ?_ | refine oK ?_) <;> (first | refine oMv ?_ | refine oK ?_) <;> (first | refine oMv ?_ | refine oK ?_) <;> (first | refine sp (pln rfl (tyS rfl)) ?_ | refine oK ?_) <;> (first | refine oFb ?_ | refine oFd ?_ | refine oK ?_) <;> (first | refine oLb ?_ | refine oLd ?_ | refine oK ?_) <;> (first | refine oCm ?_ | refine oK ?_) <;> (first | refine oPt ?_ | refine oPf ?_ | refine oK ?_) <;> (first | refine oPt ?_ | refine oPf ?_) <;> refine oAs ?_ <;> refine oN ?_) | refine gc ?_ | refine ct ?_ | refine cf ?_ | refine swp_cond rfl (fun hc => ?_) (fun hc => ?_) | refine rq rfl (rt .nil) ?_)
        rfl
  · rw [decide_eq_false he]
    repeat' (first | (refine rg 0 ?_; refine oAs ?_; refine oN ?_) | (refine rg 1 ?_; refine oMv ?_; refine oC (c1) rfl (ac .nil) ?_; refine oMv ?_; refine oEx ?_; refine oEx ?_; refine sal str89 ?_; refine oS ?_; refine oAs ?_; refine oN ?_) | (refine rg 2 ?_; refine oMv ?_; refine oCm ?_; refine oMv ?_; (first | refine oMv ?_ | refine oK ?_) <;> (first | refine oC (c1) rfl (ac .nil) ?_ | refine oK ?_) <;> (first | refine oPt ?_ | refine oPf ?_) <;> refine oMv ?_ <;> (first | refine oMv ?_ | refine oK ?_) <;> (first | refine sp (pln rfl (tyS rfl)) ?_ | refine oK ?_) <;> (first | refine oCm ?_ | refine oK ?_) <;> (first | refine oPt ?_ | refine oPf ?_) <;> refine oMv ?_ <;> (first | refine oFb ?_ | refine oFd ?_ | refine oK ?_) <;> (first | refine oLb ?_ | refine oLd ?_ | refine oK ?_) <;> (first | refine oCm ?_ | refine oK ?_) <;> (first | refine oMv ?_ | refine oK ?_) <;> (first | refine oMv ?_ | refine oK ?_) <;> (first | refine sp (pln rfl (tyS rfl)) ?_ | refine oK ?_) <;> (first | refine oFb ?_ | refine oFd ?_ | refine oK ?_) <;> (first | refine oLb ?_ | refine oLd ?_ | refine oK ?_) <;> (first | refine oCm ?_ | refine oK ?_) <;> (first | refine oPt ?_ | refine oPf ?_ | refine oK ?_) <;> (first | refine oPt ?_ | refine oPf ?_) <;> refine oAs ?_ <;> refine oN ?_) | refine gc ?_ | refine ct ?_ | refine cf ?_ | refine swp_cond rfl (fun hc => ?_) (fun hc => ?_) | refine rq rfl (rt .nil) ?_)
    rfl
set_option maxRecDepth 100000 in
set_option maxHeartbeats 2000000 in
theorem rfits_ (s : ByteArray) (l : List Pl.Head) (hn : l.length ≤ 1000) (hh : ∀ h ∈ l, okHead h) (b : List UInt8) (hb : b.length ≤ 100000) : PCalls Tryz.prog 40 [.agg (rawT ⟨s, l, b⟩)] (.v (.bool (fitsP l b))) := by
  have hm2 : (b.map byteT).length = b.length := List.length_map _
  have c1 := framing_ l hn hh
  have c2 := Hd.mayL_ l hn hh
  unfold framT endT at c1
  unfold fitsP rawT
  generalize (fram l).2 = e at *
  generalize (fram l).1 = f at *
  have hlast : decide (((b.map byteT).length : Int) = f.length) = decide ((b.length : Int) = f.length) := by rw [hm2]
  refine pcalls_of Tryz.func40 rfl rfl Tryz.ntmps40 rfl ?_
  by_cases he : e = 0
  · rw [decide_eq_true he]
    cases hmy : Hd.mayL l with
    | false =>
      rw [hmy] at c2
      repeat' (first | (refine rg 0 ?_; refine sbx ?_; refine oAs ?_; refine oN ?_) | (refine rg 1 ?_; refine oFb ?_; refine oLb ?_; refine oC (c1) rfl (ac .nil) ?_; refine oMv ?_; refine oEx ?_; refine oEx ?_; refine sal str89 ?_; refine oS ?_; refine oAs ?_; refine oN ?_) | (refine rg 2 ?_; refine oMv ?_; refine oCm ?_; refine oMv ?_; refine oFb ?_ <;> refine oLb ?_ <;> (first | refine oC (c1) rfl (ac .nil) ?_ | refine oC (c2) rfl (ac .nil) ?_) <;> refine oPt ?_ <;> refine oMv ?_ <;> (first | refine oFb ?_ | refine oFd ?_ | refine oK ?_) <;> (first | refine oLb ?_ | refine oLd ?_ | refine oK ?_) <;> (first | refine sp (pln rfl (tyS rfl)) ?_ | refine oK ?_) <;> (first | refine oCm ?_ | refine oK ?_) <;> (first | refine oPt ?_ | refine oPf ?_) <;> refine oMv ?_ <;> (first | refine oFb ?_ | refine oFd ?_ | refine oK ?_) <;> (first | refine oLb ?_ | refine oLd ?_ | refine oK ?_) <;> (first | refine oCm ?_ | refine oK ?_) <;> (first | refine oMv ?_ | refine oK ?_) <;> (first | refine oFb ?_ | refine oFd ?_ | refine oK ?_) <;> (first | refine oLb ?_ | refine oLd ?_ | refine oK ?_) <;> (first | refine sp (pln rfl (tyS rfl)) ?_ | refine oK ?_) <;> (first | refine oFb ?_ | refine oFd ?_ | refine oK ?_) <;> (first | refine oLb ?_ | refine oLd ?_ | refine oK ?_) <;> (first | refine oCm ?_ | refine oK ?_) <;> (first | refine oPt ?_ | refine oPf ?_ | refine oK ?_) <;> (first | refine oPt ?_ | refine oPf ?_) <;> refine oAs ?_ <;> refine oN ?_) | refine gc ?_ | refine ct ?_ | refine cf ?_ | refine swp_cond rfl (fun hc => ?_) (fun hc => ?_) | refine rq rfl (rt .nil) ?_)
      rfl
    | true =>
      rw [hmy] at c2
      by_cases hbl : b.length ≤ 1024
      · rw [decide_eq_true hbl]
        by_cases hc : f.chunked = 1
        · rw [decide_eq_true hc]
          repeat' (first | (refine rg 0 ?_; refine sbx ?_; refine oAs ?_; refine oN ?_) | (refine rg 1 ?_; refine oFb ?_; refine oLb ?_; refine oC (c1) rfl (ac .nil) ?_; refine oMv ?_; refine oEx ?_; refine oEx ?_; refine sal str89 ?_; refine oS ?_; refine oAs ?_; refine oN ?_) | (refine rg 2 ?_; refine oMv ?_; refine oCm ?_; refine oMv ?_; refine oFb ?_ <;> refine oLb ?_ <;> (first | refine oC (c1) rfl (ac .nil) ?_ | refine oC (c2) rfl (ac .nil) ?_) <;> refine oPt ?_ <;> refine oMv ?_ <;> refine oFb ?_ <;> refine oLb ?_ <;> refine sp (pln rfl (tyS rfl)) ?_ <;> refine oCm ?_ <;> refine oPt ?_ <;> refine oMv ?_ <;> refine oFb ?_ <;> refine oLb ?_ <;> refine oCm ?_ <;> refine oMv ?_ <;> (first | refine oFb ?_ | refine oFd ?_ | refine oK ?_) <;> (first | refine oLb ?_ | refine oLd ?_ | refine oK ?_) <;> (first | refine sp (pln rfl (tyS rfl)) ?_ | refine oK ?_) <;> (first | refine oFb ?_ | refine oFd ?_ | refine oK ?_) <;> (first | refine oLb ?_ | refine oLd ?_ | refine oK ?_) <;> (first | refine oCm ?_ | refine oK ?_) <;> refine oPt ?_ <;> refine oPt ?_ <;> refine oAs ?_ <;> refine oN ?_) | refine gc ?_ | refine ct ?_ | refine cf ?_ | refine swp_cond rfl (fun hc => ?_) (fun hc => ?_) | refine rq rfl (rt .nil) ?_)
          rfl
        · rw [decide_eq_false hc]
          repeat' (first | (refine rg 0 ?_; refine sbx ?_; refine oAs ?_; refine oN ?_) | (refine rg 1 ?_; refine oFb ?_; refine oLb ?_; refine oC (c1) rfl (ac .nil) ?_; refine oMv ?_; refine oEx ?_; refine oEx ?_; refine sal str89 ?_; refine oS ?_; refine oAs ?_; refine oN ?_) | (refine rg 2 ?_; refine oMv ?_; refine oCm ?_; refine oMv ?_; refine oFb ?_ <;> refine oLb ?_ <;> (first | refine oC (c1) rfl (ac .nil) ?_ | refine oC (c2) rfl (ac .nil) ?_) <;> refine oPt ?_ <;> refine oMv ?_ <;> refine oFb ?_ <;> refine oLb ?_ <;> refine sp (pln rfl (tyS rfl)) ?_ <;> refine oCm ?_ <;> refine oPt ?_ <;> refine oMv ?_ <;> refine oFb ?_ <;> refine oLb ?_ <;> refine oCm ?_ <;> refine oMv ?_ <;> refine oFb ?_ <;> refine oLb ?_ <;> refine sp (pln rfl (tyS rfl)) ?_ <;> refine oFb ?_ <;> refine oLb ?_ <;> refine oCm ?_ <;> (first | refine oPt ?_ | refine oPf ?_) <;> refine oPt ?_ <;> refine oAs ?_ <;> refine oN ?_) | refine gc ?_ | refine ct ?_ | refine cf ?_ | refine swp_cond rfl (fun hc => ?_) (fun hc => ?_) | refine rq rfl (rt .nil) ?_)
          rw [← hlast]; rfl
      · rw [decide_eq_false hbl]
        repeat' (first | (refine rg 0 ?_; refine sbx ?_; refine oAs ?_; refine oN ?_) | (refine rg 1 ?_; refine oFb ?_; refine oLb ?_; refine oC (c1) rfl (ac .nil) ?_; refine oMv ?_; refine oEx ?_; refine oEx ?_; refine sal str89 ?_; refine oS ?_; refine oAs ?_; refine oN ?_) | (refine rg 2 ?_; refine oMv ?_; refine oCm ?_; refine oMv ?_; refine oFb ?_ <;> refine oLb ?_ <;> (first | refine oC (c1) rfl (ac .nil) ?_ | refine oC (c2) rfl (ac .nil) ?_) <;> refine oPt ?_ <;> refine oMv ?_ <;> refine oFb ?_ <;> refine oLb ?_ <;> refine sp (pln rfl (tyS rfl)) ?_ <;> refine oCm ?_ <;> refine oPt ?_ <;> refine oMv ?_ <;> (first | refine oFb ?_ | refine oFd ?_ | refine oK ?_) <;> (first | refine oLb ?_ | refine oLd ?_ | refine oK ?_) <;> (first | refine oCm ?_ | refine oK ?_) <;> (first | refine oMv ?_ | refine oK ?_) <;> (first | refine oFb ?_ | refine oFd ?_ | refine oK ?_) <;> (first | refine oLb ?_ | refine oLd ?_ | refine oK ?_) <;> (first | refine sp (pln rfl (tyS rfl)) ?_ | refine oK ?_) <;> (first | refine oFb ?_ | refine oFd ?_ | refine oK ?_) <;> (first | refine oLb ?_ | refine oLd ?_ | refine oK ?_) <;> (first | refine oCm ?_ | refine oK ?_) <;> (first | refine oPt ?_ | refine oPf ?_ | refine oK ?_) <;> (first | refine oPt ?_ | refine oPf ?_) <;> refine oAs ?_ <;> refine oN ?_) | refine gc ?_ | refine ct ?_ | refine cf ?_ | refine swp_cond rfl (fun hc => ?_) (fun hc => ?_) | refine rq rfl (rt .nil) ?_)
        rfl
  · rw [decide_eq_false he]
    repeat' (first | (refine rg 0 ?_; refine sbx ?_; refine oAs ?_; refine oN ?_) | (refine rg 1 ?_; refine oFb ?_; refine oLb ?_; refine oC (c1) rfl (ac .nil) ?_; refine oMv ?_; refine oEx ?_; refine oEx ?_; refine sal str89 ?_; refine oS ?_; refine oAs ?_; refine oN ?_) | (refine rg 2 ?_; refine oMv ?_; refine oCm ?_; refine oMv ?_; (first | refine oFb ?_ | refine oFd ?_ | refine oK ?_) <;> (first | refine oLb ?_ | refine oLd ?_ | refine oK ?_) <;> (first | refine oC (c1) rfl (ac .nil) ?_ | refine oK ?_) <;> (first | refine oPt ?_ | refine oPf ?_) <;> refine oMv ?_ <;> (first | refine oFb ?_ | refine oFd ?_ | refine oK ?_) <;> (first | refine oLb ?_ | refine oLd ?_ | refine oK ?_) <;> (first | refine sp (pln rfl (tyS rfl)) ?_ | refine oK ?_) <;> (first | refine oCm ?_ | refine oK ?_) <;> (first | refine oPt ?_ | refine oPf ?_) <;> refine oMv ?_ <;> (first | refine oFb ?_ | refine oFd ?_ | refine oK ?_) <;> (first | refine oLb ?_ | refine oLd ?_ | refine oK ?_) <;> (first | refine oCm ?_ | refine oK ?_) <;> (first | refine oMv ?_ | refine oK ?_) <;> (first | refine oFb ?_ | refine oFd ?_ | refine oK ?_) <;> (first | refine oLb ?_ | refine oLd ?_ | refine oK ?_) <;> (first | refine sp (pln rfl (tyS rfl)) ?_ | refine oK ?_) <;> (first | refine oFb ?_ | refine oFd ?_ | refine oK ?_) <;> (first | refine oLb ?_ | refine oLd ?_ | refine oK ?_) <;> (first | refine oCm ?_ | refine oK ?_) <;> (first | refine oPt ?_ | refine oPf ?_ | refine oK ?_) <;> (first | refine oPt ?_ | refine oPf ?_) <;> refine oAs ?_ <;> refine oN ?_) | refine gc ?_ | refine ct ?_ | refine cf ?_ | refine swp_cond rfl (fun hc => ?_) (fun hc => ?_) | refine rq rfl (rt .nil) ?_)
    rfl
set_option maxRecDepth 100000 in
set_option maxHeartbeats 1000000 in
theorem may_ (a : PAns) (hn : a.heads.length ≤ 1000) (hh : ∀ h ∈ a.heads, okHead h) (hb : a.body.length ≤ 100000) : PCalls Tryz.prog 31 [.agg (ansT a)] (.v (.bool (mayA a))) := by
  have c1 := fits_ a.heads hn hh a.body hb
  unfold mayA
  refine pcalls_of Tryz.func31 rfl rfl Tryz.ntmps31 rfl ?_
  by_cases h1 : 200 ≤ a.code
  · rw [decide_eq_true h1]
    by_cases h2 : a.code ≤ 599
    · rw [decide_eq_true h2]
      repeat' (first | (refine rg 0 ?_; refine sbx ?_; refine oAs ?_; refine oN ?_) | (refine rg 1 ?_; refine oFb ?_; refine oLb ?_; refine oCm ?_; refine oMv ?_; refine oFb ?_ <;> refine oLb ?_ <;> refine oCm ?_ <;> refine oPt ?_ <;> refine oMv ?_ <;> refine oFb ?_ <;> refine oLb ?_ <;> refine oFb ?_ <;> refine oLb ?_ <;> refine oC (c1) rfl (ac (ac .nil)) ?_ <;> refine oPt ?_ <;> refine oAs ?_ <;> refine oN ?_) | refine gc ?_ | refine ct ?_ | refine cf ?_ | refine swp_cond rfl (fun hc => ?_) (fun hc => ?_) | refine rq rfl (rt .nil) ?_)
      rfl
    · rw [decide_eq_false h2]
      repeat' (first | (refine rg 0 ?_; refine sbx ?_; refine oAs ?_; refine oN ?_) | (refine rg 1 ?_; refine oFb ?_; refine oLb ?_; refine oCm ?_; refine oMv ?_; refine oFb ?_ <;> refine oLb ?_ <;> refine oCm ?_ <;> refine oPt ?_ <;> refine oMv ?_ <;> (first | refine oFb ?_ | refine oFd ?_ | refine oK ?_) <;> (first | refine oLb ?_ | refine oLd ?_ | refine oK ?_) <;> (first | refine oFb ?_ | refine oFd ?_ | refine oK ?_) <;> (first | refine oLb ?_ | refine oLd ?_ | refine oK ?_) <;> (first | refine oC (c1) rfl (ac (ac .nil)) ?_ | refine oK ?_) <;> (first | refine oPt ?_ | refine oPf ?_) <;> refine oAs ?_ <;> refine oN ?_) | refine gc ?_ | refine ct ?_ | refine cf ?_ | refine swp_cond rfl (fun hc => ?_) (fun hc => ?_) | refine rq rfl (rt .nil) ?_)
      rfl
  · rw [decide_eq_false h1]
    repeat' (first | (refine rg 0 ?_; refine sbx ?_; refine oAs ?_; refine oN ?_) | (refine rg 1 ?_; refine oFb ?_; refine oLb ?_; refine oCm ?_; refine oMv ?_; (first | refine oFb ?_ | refine oFd ?_ | refine oK ?_) <;> (first | refine oLb ?_ | refine oLd ?_ | refine oK ?_) <;> (first | refine oCm ?_ | refine oK ?_) <;> (first | refine oPt ?_ | refine oPf ?_) <;> refine oMv ?_ <;> (first | refine oFb ?_ | refine oFd ?_ | refine oK ?_) <;> (first | refine oLb ?_ | refine oLd ?_ | refine oK ?_) <;> (first | refine oFb ?_ | refine oFd ?_ | refine oK ?_) <;> (first | refine oLb ?_ | refine oLd ?_ | refine oK ?_) <;> (first | refine oC (c1) rfl (ac (ac .nil)) ?_ | refine oK ?_) <;> (first | refine oPt ?_ | refine oPf ?_) <;> refine oAs ?_ <;> refine oN ?_) | refine gc ?_ | refine ct ?_ | refine cf ?_ | refine swp_cond rfl (fun hc => ?_) (fun hc => ?_) | refine rq rfl (rt .nil) ?_)
    rfl
set_option maxRecDepth 100000 in
set_option maxHeartbeats 2000000 in
theorem refMayA_ (a : PAns) (hn : a.heads.length ≤ 1000) (hh : ∀ h ∈ a.heads, okHead h) (hb : a.body.length ≤ 100000) : PCalls Tryz.prog 32 [.agg (ansT a)] (.v (.bool (mayA a))) := by
  have hm2 : (a.body.map byteT).length = a.body.length := List.length_map _
  have c1 := refFraming_ a.heads hn hh
  have c2 := Hd.refMay_ a.heads hn hh
  unfold framT endT at c1
  unfold mayA fitsP
  generalize (fram a.heads).2 = e at *
  generalize (fram a.heads).1 = f at *
  have hlast : decide (((a.body.map byteT).length : Int) = f.length) = decide ((a.body.length : Int) = f.length) := by rw [hm2]
  refine pcalls_of Tryz.func32 rfl rfl Tryz.ntmps32 rfl ?_
  by_cases h1 : 200 ≤ a.code
  · rw [decide_eq_true h1]
    by_cases h2 : a.code ≤ 599
    · rw [decide_eq_true h2]
      cases hmy : Hd.mayL a.heads with
      | false =>
        rw [hmy] at c2
        repeat' (first | (refine rg 0 ?_; refine sbx ?_; refine oAs ?_; refine oN ?_) | (refine rg 1 ?_; refine oFb ?_; refine oLb ?_; refine oCm ?_; refine oMv ?_; refine oFb ?_ <;> refine oLb ?_ <;> refine oCm ?_ <;> (first | refine oPt ?_ | refine oPf ?_) <;> refine oMv ?_ <;> refine oFb ?_ <;> refine oLb ?_ <;> refine oC (c2) rfl (ac .nil) ?_ <;> refine sp (po_not rfl rfl) ?_ <;> (first | refine oPt ?_ | refine oPf ?_) <;> refine oMv ?_ <;> (first | refine oFb ?_ | refine oFd ?_ | refine oK ?_) <;> (first | refine oLb ?_ | refine oLd ?_ | refine oK ?_) <;> (first | refine sp (pln rfl (tyS rfl)) ?_ | refine oK ?_) <;> (first | refine oCm ?_ | refine oK ?_) <;> refine oPt ?_ <;> refine oN ?_) | (refine rg 2 ?_; refine oAs ?_; refine oN ?_) | refine gc ?_ | refine ct ?_ | refine cf ?_ | refine swp_cond rfl (fun hc => ?_) (fun hc => ?_) | refine rq rfl (rt .nil) ?_)
        simp; rfl
      | true =>
        rw [hmy] at c2
        by_cases hbl : a.body.length ≤ 1024
        · rw [decide_eq_true hbl]
          by_cases he : e = 0
          · rw [decide_eq_true he]
            by_cases hc : f.chunked = 1
            · rw [decide_eq_true hc]
              repeat' (first | (refine rg 0 ?_; refine sbx ?_; refine oAs ?_; refine oN ?_) | (refine rg 1 ?_; refine oFb ?_; refine oLb ?_; refine oCm ?_; refine oMv ?_; refine oFb ?_ <;> refine oLb ?_ <;> refine oCm ?_ <;> (first | refine oPt ?_ | refine oPf ?_) <;> refine oMv ?_ <;> refine oFb ?_ <;> refine oLb ?_ <;> (first | refine oC (c1) rfl (ac .nil) ?_ | refine oC (c2) rfl (ac .nil) ?_) <;> refine sp (po_not rfl rfl) ?_ <;> (first | refine oPt ?_ | refine oPf ?_) <;> refine oMv ?_ <;> refine oFb ?_ <;> refine oLb ?_ <;> refine sp (pln rfl (tyS rfl)) ?_ <;> refine oCm ?_ <;> (first | refine oPt ?_ | refine oPf ?_) <;> refine oN ?_) | (refine rg 3 ?_; refine oFb ?_; refine oLb ?_; refine oC (c1) rfl (ac .nil) ?_; refine oMv ?_; refine oEx ?_; refine oEx ?_; refine sal str89 ?_; refine oS ?_; refine oAs ?_; refine oN ?_) | (refine rg 4 ?_; refine oMv ?_; refine oCm ?_; refine oMv ?_; refine oFb ?_ <;> refine oLb ?_ <;> refine oCm ?_ <;> refine oMv ?_ <;> (first | refine oFb ?_ | refine oFd ?_ | refine oK ?_) <;> (first | refine oLb ?_ | refine oLd ?_ | refine oK ?_) <;> (first | refine sp (pln rfl (tyS rfl)) ?_ | refine oK ?_) <;> (first | refine oFb ?_ | refine oFd ?_ | refine oK ?_) <;> (first | refine oLb ?_ | refine oLd ?_ | refine oK ?_) <;> (first | refine oCm ?_ | refine oK ?_) <;> refine oPt ?_ <;> refine oPt ?_ <;> refine oAs ?_ <;> refine oN ?_) | refine gc ?_ | refine ct ?_ | refine cf ?_ | refine swp_cond rfl (fun hc => ?_) (fun hc => ?_) | refine rq rfl (rt .nil) ?_)
              rfl
            · rw [decide_eq_false hc]
              repeat' (first | (refine rg 0 ?_; refine sbx ?_; refine oAs ?_; refine oN ?_) | (refine rg 1 ?_; refine oFb ?_; refine oLb ?_; refine oCm ?_; refine oMv ?_; refine oFb ?_ <;> refine oLb ?_ <;> refine oCm ?_ <;> (first | refine oPt ?_ | refine oPf ?_) <;> refine oMv ?_ <;> refine oFb ?_ <;> refine oLb ?_ <;> (first | refine oC (c1) rfl (ac .nil) ?_ | refine oC (c2) rfl (ac .nil) ?_) <;> refine sp (po_not rfl rfl) ?_ <;> (first | refine oPt ?_ | refine oPf ?_) <;> refine oMv ?_ <;> refine oFb ?_ <;> refine oLb ?_ <;> refine sp (pln rfl (tyS rfl)) ?_ <;> refine oCm ?_ <;> (first | refine oPt ?_ | refine oPf ?_) <;> refine oN ?_) | (refine rg 3 ?_; refine oFb ?_; refine oLb ?_; refine oC (c1) rfl (ac .nil) ?_; refine oMv ?_; refine oEx ?_; refine oEx ?_; refine sal str89 ?_; refine oS ?_; refine oAs ?_; refine oN ?_) | (refine rg 4 ?_; refine oMv ?_; refine oCm ?_; refine oMv ?_; refine oFb ?_ <;> refine oLb ?_ <;> refine oCm ?_ <;> refine oMv ?_ <;> refine oFb ?_ <;> refine oLb ?_ <;> refine sp (pln rfl (tyS rfl)) ?_ <;> refine oFb ?_ <;> refine oLb ?_ <;> refine oCm ?_ <;> (first | refine oPt ?_ | refine oPf ?_) <;> refine oPt ?_ <;> refine oAs ?_ <;> refine oN ?_) | refine gc ?_ | refine ct ?_ | refine cf ?_ | refine swp_cond rfl (fun hc => ?_) (fun hc => ?_) | refine rq rfl (rt .nil) ?_)
              rw [← hlast]; rfl
          · rw [decide_eq_false he]
            repeat' (first | (refine rg 0 ?_; refine sbx ?_; refine oAs ?_; refine oN ?_) | (refine rg 1 ?_; refine oFb ?_; refine oLb ?_; refine oCm ?_; refine oMv ?_; refine oFb ?_ <;> refine oLb ?_ <;> refine oCm ?_ <;> (first | refine oPt ?_ | refine oPf ?_) <;> refine oMv ?_ <;> refine oFb ?_ <;> refine oLb ?_ <;> (first | refine oC (c1) rfl (ac .nil) ?_ | refine oC (c2) rfl (ac .nil) ?_) <;> refine sp (po_not rfl rfl) ?_ <;> (first | refine oPt ?_ | refine oPf ?_) <;> refine oMv ?_ <;> refine oFb ?_ <;> refine oLb ?_ <;> refine sp (pln rfl (tyS rfl)) ?_ <;> refine oCm ?_ <;> (first | refine oPt ?_ | refine oPf ?_) <;> refine oN ?_) | (refine rg 3 ?_; refine oFb ?_; refine oLb ?_; refine oC (c1) rfl (ac .nil) ?_; refine oMv ?_; refine oEx ?_; refine oEx ?_; refine sal str89 ?_; refine oS ?_; refine oAs ?_; refine oN ?_) | (refine rg 4 ?_; refine oMv ?_; refine oCm ?_; refine oMv ?_; (first | refine oFb ?_ | refine oFd ?_ | refine oK ?_) <;> (first | refine oLb ?_ | refine oLd ?_ | refine oK ?_) <;> (first | refine oCm ?_ | refine oK ?_) <;> (first | refine oMv ?_ | refine oK ?_) <;> (first | refine oFb ?_ | refine oFd ?_ | refine oK ?_) <;> (first | refine oLb ?_ | refine oLd ?_ | refine oK ?_) <;> (first | refine sp (pln rfl (tyS rfl)) ?_ | refine oK ?_) <;> (first | refine oFb ?_ | refine oFd ?_ | refine oK ?_) <;> (first | refine oLb ?_ | refine oLd ?_ | refine oK ?_) <;> (first | refine oCm ?_ | refine oK ?_) <;> (first | refine oPt ?_ | refine oPf ?_ | refine oK ?_) <;> (first | refine oPt ?_ | refine oPf ?_) <;> refine oAs ?_ <;> refine oN ?_) | refine gc ?_ | refine ct ?_ | refine cf ?_ | refine swp_cond rfl (fun hc => ?_) (fun hc => ?_) | refine rq rfl (rt .nil) ?_)
            rfl
        · rw [decide_eq_false hbl]
          repeat' (first | (refine rg 0 ?_; refine sbx ?_; refine oAs ?_; refine oN ?_) | (refine rg 1 ?_; refine oFb ?_; refine oLb ?_; refine oCm ?_; refine oMv ?_; refine oFb ?_ <;> refine oLb ?_ <;> refine oCm ?_ <;> (first | refine oPt ?_ | refine oPf ?_) <;> refine oMv ?_ <;> refine oFb ?_ <;> refine oLb ?_ <;> (first | refine oC (c1) rfl (ac .nil) ?_ | refine oC (c2) rfl (ac .nil) ?_) <;> refine sp (po_not rfl rfl) ?_ <;> (first | refine oPt ?_ | refine oPf ?_) <;> refine oMv ?_ <;> refine oFb ?_ <;> refine oLb ?_ <;> refine sp (pln rfl (tyS rfl)) ?_ <;> refine oCm ?_ <;> (first | refine oPt ?_ | refine oPf ?_) <;> refine oN ?_) | (refine rg 2 ?_; refine oAs ?_; refine oN ?_) | refine gc ?_ | refine ct ?_ | refine cf ?_ | refine swp_cond rfl (fun hc => ?_) (fun hc => ?_) | refine rq rfl (rt .nil) ?_)
          simp; rfl
    · rw [decide_eq_false h2]
      repeat' (first | (refine rg 0 ?_; refine sbx ?_; refine oAs ?_; refine oN ?_) | (refine rg 1 ?_; refine oFb ?_; refine oLb ?_; refine oCm ?_; refine oMv ?_; refine oFb ?_ <;> refine oLb ?_ <;> refine oCm ?_ <;> (first | refine oPt ?_ | refine oPf ?_) <;> refine oMv ?_ <;> (first | refine oFb ?_ | refine oFd ?_ | refine oK ?_) <;> (first | refine oLb ?_ | refine oLd ?_ | refine oK ?_) <;> (first | refine oC (c1) rfl (ac .nil) ?_ | refine oK ?_) <;> (first | refine sp (po_not rfl rfl) ?_ | refine oK ?_) <;> refine oPt ?_ <;> refine oMv ?_ <;> (first | refine oFb ?_ | refine oFd ?_ | refine oK ?_) <;> (first | refine oLb ?_ | refine oLd ?_ | refine oK ?_) <;> (first | refine sp (pln rfl (tyS rfl)) ?_ | refine oK ?_) <;> (first | refine oCm ?_ | refine oK ?_) <;> refine oPt ?_ <;> refine oN ?_) | (refine rg 2 ?_; refine oAs ?_; refine oN ?_) | refine gc ?_ | refine ct ?_ | refine cf ?_ | refine swp_cond rfl (fun hc => ?_) (fun hc => ?_) | refine rq rfl (rt .nil) ?_)
      rfl
  · rw [decide_eq_false h1]
    repeat' (first | (refine rg 0 ?_; refine sbx ?_; refine oAs ?_; refine oN ?_) | (refine rg 1 ?_; refine oFb ?_; refine oLb ?_; refine oCm ?_; refine oMv ?_; (first | refine oFb ?_ | refine oFd ?_ | refine oK ?_) <;> (first | refine oLb ?_ | refine oLd ?_ | refine oK ?_) <;> (first | refine oCm ?_ | refine oK ?_) <;> refine oPt ?_ <;> refine oMv ?_ <;> (first | refine oFb ?_ | refine oFd ?_ | refine oK ?_) <;> (first | refine oLb ?_ | refine oLd ?_ | refine oK ?_) <;> (first | refine oC (c1) rfl (ac .nil) ?_ | refine oK ?_) <;> (first | refine sp (po_not rfl rfl) ?_ | refine oK ?_) <;> refine oPt ?_ <;> refine oMv ?_ <;> (first | refine oFb ?_ | refine oFd ?_ | refine oK ?_) <;> (first | refine oLb ?_ | refine oLd ?_ | refine oK ?_) <;> (first | refine sp (pln rfl (tyS rfl)) ?_ | refine oK ?_) <;> (first | refine oCm ?_ | refine oK ?_) <;> refine oPt ?_ <;> refine oN ?_) | (refine rg 2 ?_; refine oAs ?_; refine oN ?_) | refine gc ?_ | refine ct ?_ | refine cf ?_ | refine swp_cond rfl (fun hc => ?_) (fun hc => ?_) | refine rq rfl (rt .nil) ?_)
    rfl
end Go.Proofs.YtloippgblkoemaaGreatDoor.An

/- Answers: digits; what a code is called; walks. -/
namespace Go.Proofs.YtloippgblkoemaaGreatDoor.An
set_option linter.unusedVariables false
set_option linter.unusedSimpArgs false
open Go.RowKit Mem Sim Opn Hd Str Rq
theorem vws_eq {ow : List (Nat × Own)} {x y : T} (h : x = y) : VwS ow (.t x) y := by subst h; exact .t _
def digC (n : Nat) : UInt8 := UInt8.ofNat (48 + n % 10)
theorem digC_nat (n : Nat) : (digC n).toNat = 48 + n % 10 := by
  unfold digC
  rw [UInt8.toNat_ofNat']; omega
set_option maxRecDepth 100000 in
set_option maxHeartbeats 1000000 in
theorem put_ (d : Int) (c : UInt8) (hc : (c.toNat : Int) = 48 + d) (s : ByteArray) (hs : s.size ≤ 1000) : LCalls Tryz.prog 70 [.t (.v (.int .i64 d)), .bp 2000 0] [(2000, [.t (.v (.string s))])] [] (.tu []) [(2000, [.t (.v (.string (bs [c] ++ s)))])] [] := by
  have hlt := c.toNat_lt
  have h8 : IntKind.u8.wrap (48 + d) = (c.toNat : Int) := by rw [wrap_u8 (by omega)]; omega
  have h1 : (bs [c]).size = 1 := rfl
  have hmx : (bs [c]).size + s.size ≤ maxLen := by unfold maxLen; omega
  refine lcalls_of Tryz.func70 rfl rfl Tryz.ntmps70 rfl ?_
  repeat' (first | (refine rg 0 ?_; refine oMv ?_; (first | refine sp (xinc rfl) ?_ | refine sp (xadd rfl) ?_); refine sp (po_conv_int rfl rfl (tyK rfl) (tyK rfl) h8) ?_; refine sp (po_buildSlice rfl (tyE rfl) (dc (.nil _)) rfl rfl rfl) ?_; (first | refine sp (po_conv_int rfl rfl (tyK rfl) (tyK rfl) h8) ?_ | refine sp (po_bytes_str (l := [c]) rfl rfl (vws_eq rfl) byt23' rfl) ?_); refine oLb ?_; refine sp (po_cat rfl rfl rfl (by omega)) ?_; refine oS ?_; refine oN ?_) | refine gc ?_ | refine ct ?_ | refine cf ?_ | refine swp_cond rfl (fun hc => ?_) (fun hc => ?_) | refine retl (by first | exact .inr rfl | exact .inl rfl) rfl .nil ?_ rfl (.cons rfl (by rfl) rfl .nil) .nil)
  rfl
def sK (n : Nat) : Nat → List UInt8
  | 0 => [digC n]
  | k + 1 => digC (n / 10 ^ (k + 1)) :: sK n k
theorem sK_len (n : Nat) : ∀ k, (sK n k).length = k + 1
  | 0 => rfl
  | k + 1 => by unfold sK; rw [List.length_cons, sK_len n k]
def dm (n : Nat) : Nat := if n ≤ 9 then 0 else if n ≤ 99 then 1 else if n ≤ 999 then 2 else 3
/-- a number's digits -/
def digitsP (n : Nat) : ByteArray := bs (sK n (dm n))
theorem dm_lt {n k : Nat} (h : k < dm n) : 9 < n / 10 ^ k := by
  unfold dm at h
  have hk : k = 0 ∨ k = 1 ∨ k = 2 := by split at h <;> (try split at h) <;> (try split at h) <;> omega
  rcases hk with rfl | rfl | rfl
  · simp; split at h <;> (try split at h) <;> (try split at h) <;> omega
  · simp; split at h <;> (try split at h) <;> (try split at h) <;> omega
  · simp; split at h <;> (try split at h) <;> (try split at h) <;> omega
theorem dm_eq {n : Nat} (hn : n ≤ 9999) : n / 10 ^ dm n ≤ 9 := by
  unfold dm
  split
  · simp; omega
  · split
    · simp; omega
    · split
      · simp; omega
      · simp; omega
theorem dm_3 (n : Nat) : dm n ≤ 3 := by unfold dm; repeat' split <;> try omega
theorem rem_nat (n : Nat) : (n : Int).tmod 10 = ((n % 10 : Nat) : Int) := by rw [show (10 : Int) = ((10 : Nat) : Int) from rfl, Int.ofNat_tmod]
theorem bs_appA (a b : List UInt8) : bs a ++ bs b = bs (a ++ b) := by
  refine bs_inj ?_
  rw [toList_append, bs_toList, bs_toList, bs_toList]
theorem bs_one (c : UInt8) (l : List UInt8) : bs [c] ++ bs l = bs (c :: l) := by
  have := bs_appA [c] l
  exact this
theorem po_quoN {P : Program} {bx : List (Nat × List A)} {ow : List (Nat × Own)} {o : Oper} {ρ : Operand → Option A} {t t2 : TypeId} {x y : Operand} {m d : Nat} (ho : o.op = .binOp .quo t x y t2) (hx : ρ x = some (.t (.v (.int .i64 (m : Int))))) (hy : ρ y = some (.t (.v (.int .i64 (d : Int))))) (hd : d ≠ 0) (hm : m ≤ 1000000) : PureOp P bx ow o ρ (.t (.v (.int .i64 ((m / d : Nat) : Int)))) := by
  have h := po_quo (P := P) (bx := bx) (ow := ow) ho hx hy (by omega)
  have e : IntKind.i64.wrap ((m : Int).tdiv (d : Int)) = ((m / d : Nat) : Int) := by
    rw [← Int.ofNat_tdiv]
    have := Nat.div_le_self m d
    generalize m / d = z at *
    exact wrap_i64 (by omega)
  rw [e] at h; exact h
theorem zStr : (Tryz.prog.info? 9).bind (·.zero) = some (.string ⟨#[]⟩) := by kernel_rfl
set_option maxRecDepth 100000 in
set_option maxHeartbeats 2000000 in
theorem digits_ (n : Nat) (hn : n ≤ 9999) : PCalls Tryz.prog 45 [.v (.int .i64 (n : Int))] (.v (.string (digitsP n))) := by
  have c0 := put_ ((n : Int).tmod 10) (digC n) (by rw [rem_nat, digC_nat]; omega) ⟨#[]⟩ (by simp [ByteArray.size])
  have e0 : bs [digC n] ++ ⟨#[]⟩ = bs (sK n 0) := by
    have := bs_appA [digC n] []
    exact this
  rw [e0] at c0
  refine pcalls_of Tryz.func45 rfl rfl Tryz.ntmps45 rfl ?_
  repeat' (first | (refine rg 0 ?_; refine oAs ?_; refine oN ?_) | (refine rg 1 ?_; refine sops_alloc (.free rfl rfl) rfl rfl rfl zStr rfl rfl ?_; refine oS ?_; refine oN ?_) | (refine rg 2 ?_; (first | refine sp (po_func rfl (ac .nil)) ?_ | refine sp (po_func_cl rfl (.cons rfl rfl .nil)) ?_); refine oAs ?_; refine oN ?_) | (refine rg 3 ?_; refine oMv ?_; refine oMv ?_; refine sp (po_rem rfl rfl rfl (by omega)) ?_; (first | refine sops_lcall_tclo (args := [_]) (caps := [_]) (c0) (fun i => bif Nat.beq i 2000 then 3 else i) (fun i => i) (fun _ => false) (.free rfl rfl) rfl rfl rfl rfl (by ((repeat' (first | exact .nil | refine .cons rfl rfl rfl ?_ | refine .vw rfl (by exact .t _) ?_)) <;> fail)) (.cons rfl rfl .nil) .nil rfl rfl (fun _ h => Bool.noConfusion h) ?_ | refine sops_lcall_clo (args := [_]) (caps0 := [_]) (c0) (fun i => bif Nat.beq i 2000 then 3 else i) (fun i => i) (fun _ => false) (.free rfl rfl) rfl rfl rfl rfl rfl rfl (by ((repeat' (first | exact .nil | refine .cons rfl rfl rfl ?_)) <;> fail)) (.cons rfl rfl .nil) .nil rfl rfl (fun _ h => Bool.noConfusion h) ?_); refine oN ?_) | refine gc ?_ | refine ct ?_ | refine cf ?_ | refine swp_cond rfl (fun hc => ?_) (fun hc => ?_) | refine rq rfl (rt .nil) ?_)
  refine swp_for (fun k => ⟨[(0, .t (.v (.int .i64 ((n / 10 ^ k : Nat) : Int)))), (3, .bp 3 0), (4, .cl 70 [.bp 3 0])], [(3, [.t (.v (.string (bs (sK n k))))])], []⟩) (fun _ => True) (dm n) (weak_sub (.cons rfl (by first | rfl | ((simp; try rfl))) rfl (.cons rfl (by first | rfl | ((simp; try rfl))) rfl (.cons rfl (by first | rfl | ((simp; try rfl))) rfl .nil))) (.cons rfl (by first | rfl | ((simp; try rfl))) rfl .nil) .nil) trivial ?_
  intro k hk _
  by_cases hlt : k < dm n
  · have h9 := dm_lt hlt
    have h3 := dm_3 n
    have hq : n / 10 ^ k / 10 = n / 10 ^ (k + 1) := by
      rw [Nat.div_div_eq_div_mul, ← Nat.pow_succ]
    have hb : n / 10 ^ k ≤ 9999 := Nat.le_trans (Nat.div_le_self _ _) hn
    have c1 := put_ (((n / 10 ^ k / 10 : Nat) : Int).tmod 10) (digC (n / 10 ^ (k + 1))) (by rw [hq, rem_nat, digC_nat]; omega) (bs (sK n k)) (by rw [bs_size, sK_len]; omega)
    rw [bs_one] at c1
    repeat' (first | refine for_next hlt (weak_sub (.cons rfl (by first | rfl | (first | rfl | exact congrArg (fun n : Nat => A.t (T.v (Value.int .i64 (n : Int)))) hq)) rfl (.cons rfl (by rfl) rfl (.cons rfl (by rfl) rfl .nil))) (.cons rfl (by rfl) rfl .nil) .nil) trivial | (refine rg 4 ?_; refine oMv ?_; refine oCm ?_; refine oN ?_) | (refine rg 6 ?_; refine oMv ?_; refine sp (po_quoN (d := 10) rfl rfl rfl (by omega) (by omega)) ?_; refine oAs ?_; refine oN ?_) | (refine rg 5 ?_; refine oMv ?_; refine oMv ?_; (first | refine sp (po_quoN (d := 10) rfl rfl rfl (by omega) (by omega)) ?_ | refine sp (po_rem rfl rfl rfl (by omega)) ?_); (first | refine sops_lcall_tclo (args := [_]) (caps := [_]) (c1) (fun i => bif Nat.beq i 2000 then 3 else i) (fun i => i) (fun _ => false) (.free rfl rfl) rfl rfl rfl rfl (by ((repeat' (first | exact .nil | refine .cons rfl rfl rfl ?_ | refine .vw rfl (by exact .t _) ?_)) <;> fail)) (.cons rfl rfl .nil) .nil rfl rfl (fun _ h => Bool.noConfusion h) ?_ | refine sops_lcall_clo (args := [_]) (caps0 := [_]) (c1) (fun i => bif Nat.beq i 2000 then 3 else i) (fun i => i) (fun _ => false) (.free rfl rfl) rfl rfl rfl rfl rfl rfl (by ((repeat' (first | exact .nil | refine .cons rfl rfl rfl ?_)) <;> fail)) (.cons rfl rfl .nil) .nil rfl rfl (fun _ h => Bool.noConfusion h) ?_); refine oN ?_) | refine gc ?_ | refine ct ?_)
  · obtain rfl : k = dm n := by omega
    have h9 := dm_eq hn
    unfold digitsP
    repeat' (first | (refine rg 4 ?_; refine oMv ?_; refine oCm ?_; refine oN ?_) | (refine rg 7 ?_; refine oLb ?_; refine oAs ?_; refine oN ?_) | refine gc ?_ | refine ct ?_ | refine cf ?_ | refine swp_cond rfl (fun hc => ?_) (fun hc => ?_) | refine rq rfl (rt .nil) ?_)
    rfl
end Go.Proofs.YtloippgblkoemaaGreatDoor.An
