/- Merged by bundles.py: SimAn11, SimFam, SimAn12, PlPath, PlPath2, PlMap, PlOf. -/
import Derived.Test.YtpncekdhigappaaGreatDoorT25
import Derived.Test.YtpncekdhigappaaGreatDoorT26
import Derived.Test.YtpncekdhigappaaGreatDoorT21
import Derived.Test.YtpncekdhigappaaGreatDoorT22
import Derived.Test.YtpncekdhigappaaGreatDoorT0
import Derived.Lib.MapLaws
import Derived.Lib.TrimAscii
import Derived.Lib.TrimUEq
import Derived.Lib.RuneBytes
import Derived.Test.YtpncekdhigappaaGreatDoorT23
/- Answers: their bytes; what is gone through; walks. -/
namespace Go.Proofs.YtpncekdhigappaaGreatDoor.An
set_option linter.unusedVariables false
set_option linter.unusedSimpArgs false
open Go.RowKit Mem Sim Opn Hd Str Rq
theorem start_all : (List.range 600).all (fun n => decide (n < 200) || (plainP (startS n) && decide (1 ≤ (startS n).size) && decide ((startS n).size ≤ 578) && hasP (startS n) befS && isS (startS n) && plainP (reasS (startS n)) && decide (num3 (codeS (startS n)) = (n : Int)))) = true := by kernel_rfl
structure StartOk (n : Nat) : Prop where
  plain : plainP (startS n) = true
  one : 1 ≤ (startS n).size
  most : (startS n).size ≤ 578
  has : hasP (startS n) befS = true
  is : isS (startS n) = true
  reas : plainP (reasS (startS n)) = true
  num : num3 (codeS (startS n)) = (n : Int)
theorem start_ok {n : Nat} (h1 : 200 ≤ n) (h2 : n ≤ 599) : StartOk n := by
  have := (List.all_eq_true.1 start_all) n (List.mem_range.2 (by omega))
  rw [decide_eq_false (show ¬ n < 200 by omega)] at this
  simp only [Bool.false_or, Bool.and_eq_true, decide_eq_true_eq] at this
  obtain ⟨⟨⟨⟨⟨⟨q1, q2⟩, q3⟩, q4⟩, q5⟩, q6⟩, q7⟩ := this
  exact ⟨q1, q2, q3, q4, q5, q6, q7⟩
/-- an answer as a message -/
def rawOf (a : PAns) : PRaw := ⟨startS a.code.toNat, a.heads, a.body⟩
theorem may_code {a : PAns} (h : mayA a = true) : ∃ n : Nat, a.code = (n : Int) ∧ 200 ≤ n ∧ n ≤ 599 ∧ fitsP a.heads a.body = true := by
  unfold mayA at h
  simp only [Bool.and_eq_true, decide_eq_true_eq] at h
  obtain ⟨⟨h1, h2⟩, h3⟩ := h
  exact ⟨a.code.toNat, by omega, by omega, by omega, h3⟩
theorem may_wr {a : PAns} (h : mayA a = true) : wrP (rawOf a) = true := by
  obtain ⟨n, hn, h1, h2, hf⟩ := may_code h
  have hs := start_ok h1 h2
  have e : a.code.toNat = n := by omega
  unfold wrP rawOf
  rw [e]
  simp only [hs.plain, decide_eq_true hs.one, decide_eq_true hs.most, hf, Bool.and_true]
theorem may_of {a : PAns} (h : mayA a = true) : ofP (rawOf a) = true ∧ ansOf (rawOf a) = a := by
  obtain ⟨n, hn, h1, h2, hf⟩ := may_code h
  have hs := start_ok h1 h2
  have e : a.code.toNat = n := by omega
  have ea : ansOf (rawOf a) = a := by
    unfold ansOf rawOf
    rw [e]
    cases a
    simp only at hn hs ⊢
    rw [hs.num, hn]
  refine ⟨?_, ea⟩
  unfold ofP
  rw [ea, h]
  unfold rawOf
  rw [e, hs.has, hs.is, hs.reas]; rfl
def bytesT (a : PAns) : T := if mayA a then .tup [.sl 1 ((msgP (rawOf a)).map byteT), .v (.int .i64 0)] else .tup [.v (.slice none 0 0), .v (.int .i64 1)]
set_option maxRecDepth 100000 in
set_option maxHeartbeats 2000000 in
theorem bytesA_ (a : PAns) (hn : a.heads.length ≤ 1000) (hh : ∀ h ∈ a.heads, okHead h) (hb : a.body.length ≤ 100000) : PCalls Tryz.prog 27 [.agg (ansT a)] (bytesT a) := by
  have hm := may_ a hn hh hb
  unfold bytesT
  cases h : mayA a with
  | false =>
    rw [h] at hm
    unfold ansT at hm ⊢
    refine pcalls_of Tryz.func27 rfl rfl Tryz.ntmps27 rfl ?_
    repeat' (first | (refine rg 0 ?_; refine sbx ?_; refine oAs ?_; refine oAs ?_; refine oN ?_) | (refine rg 1 ?_; (refine sp (po_load_bx_agg rfl rfl (tyT rfl) rfl (vc (vc (vc .nil))) rfl) ?_); refine oC (hm) rfl (ac .nil) ?_; refine sp (po_not rfl rfl) ?_; refine oN ?_) | (refine rg 2 ?_; refine oAs ?_; refine oAs ?_; refine oN ?_) | refine gc ?_ | refine ct ?_ | refine cf ?_ | refine swp_cond rfl (fun hc => ?_) (fun hc => ?_) | refine rq rfl (rt (rt .nil)) ?_)
    rfl
  | true =>
    rw [h] at hm
    have hw := may_wr h
    obtain ⟨n, hc, h1, h2, hf⟩ := may_code h
    have hs := start_ok h1 h2
    have e : a.code.toNat = n := by omega
    have c3 := writeOk_ (rawOf a) ⟨hn, hh, hb, by show (startS a.code.toNat).size ≤ maxLen; rw [e]; have := hs.most; unfold maxLen; omega⟩ hw
    have c2 := raw_ n (by omega) a.heads a.body
    unfold rawT rawOf at c3
    rw [e] at c3
    unfold rawOf
    rw [e]
    unfold ansT at hm c2 ⊢
    rw [hc] at hm ⊢
    unfold rawT at c2
    refine pcalls_of Tryz.func27 rfl rfl Tryz.ntmps27 rfl ?_
    repeat' (first | (refine rg 0 ?_; refine sbx ?_; refine oAs ?_; refine oAs ?_; refine oN ?_) | (refine rg 1 ?_; (refine sp (po_load_bx_agg rfl rfl (tyT rfl) rfl (vc (vc (vc .nil))) rfl) ?_); refine oC (hm) rfl (ac .nil) ?_; refine sp (po_not rfl rfl) ?_; refine oN ?_) | (refine rg 3 ?_; (refine sp (po_load_bx_agg rfl rfl (tyT rfl) rfl (vc (vc (vc .nil))) rfl) ?_); (first | refine oC (hm) rfl (ac .nil) ?_ | refine oC (c2) rfl (ac .nil) ?_); (first | refine oC (hm) rfl (ac .nil) ?_ | refine oC (c2) rfl (ac .nil) ?_ | refine oC (c3) rfl (ac .nil) ?_); refine oEx ?_; refine oEx ?_; refine oAs ?_; refine oAs ?_; refine oN ?_) | refine gc ?_ | refine ct ?_ | refine cf ?_ | refine swp_cond rfl (fun hc => ?_) (fun hc => ?_) | refine rq rfl (rt (rt .nil)) ?_)
    rfl
def longA (a : PAns) : Bool := decide (3000 < a.body.length) || longH a.heads
set_option maxRecDepth 100000 in
theorem longA_ (a : PAns) : PCalls Tryz.prog 15 [.agg (ansT a)] (.v (.bool (longA a))) := by
  have hm2 : (a.body.map byteT).length = a.body.length := List.length_map _
  have c1 := long_ a.heads
  unfold longA
  refine pcalls_of Tryz.func15 rfl rfl Tryz.ntmps15 rfl ?_
  by_cases h : 3000 < a.body.length
  · rw [decide_eq_true h]
    repeat' (first | (refine rg 0 ?_; refine sbx ?_; refine oAs ?_; refine oN ?_) | (refine rg 1 ?_; refine oFb ?_; refine oLb ?_; refine sp (pln rfl (tyS rfl)) ?_; refine oCm ?_; refine oMv ?_; (first | refine oFb ?_ | refine oFd ?_ | refine oK ?_) <;> (first | refine oLb ?_ | refine oLd ?_ | refine oK ?_) <;> (first | refine oC (c1) rfl (ac .nil) ?_ | refine oK ?_) <;> refine oPt ?_ <;> refine oAs ?_ <;> refine oN ?_) | refine gc ?_ | refine ct ?_ | refine cf ?_ | refine swp_cond rfl (fun hc => ?_) (fun hc => ?_) | refine rq rfl (rt .nil) ?_)
    rfl
  · rw [decide_eq_false h]
    repeat' (first | (refine rg 0 ?_; refine sbx ?_; refine oAs ?_; refine oN ?_) | (refine rg 1 ?_; refine oFb ?_; refine oLb ?_; refine sp (pln rfl (tyS rfl)) ?_; refine oCm ?_; refine oMv ?_; refine oFb ?_ <;> refine oLb ?_ <;> refine oC (c1) rfl (ac .nil) ?_ <;> (first | refine oPt ?_ | refine oPf ?_) <;> refine oAs ?_ <;> refine oN ?_) | refine gc ?_ | refine ct ?_ | refine cf ?_ | refine swp_cond rfl (fun hc => ?_) (fun hc => ?_) | refine rq rfl (rt .nil) ?_)
    rfl
theorem longA_no {a : PAns} (h : longA a = false) : a.body.length ≤ 3000 ∧ a.heads.length ≤ 100 ∧ longH a.heads = false := by
  unfold longA at h
  simp only [Bool.or_eq_false_iff, decide_eq_false_iff_not] at h
  refine ⟨by omega, ?_, h.2⟩
  have h2 := h.2
  unfold longH at h2
  simp only [Bool.or_eq_false_iff, decide_eq_false_iff_not] at h2
  omega
end Go.Proofs.YtpncekdhigappaaGreatDoor.An

/- A logic of states: a loop whose rounds bear data. -/
namespace Go.Proofs.YtpncekdhigappaaGreatDoor.Sim
set_option linter.unusedVariables false
set_option linter.unusedSimpArgs false
open Go.RowKit Mem
section
variable {P : Program} {N : Nat} {Q : Exit → St → Prop} {st : St}
def famF {α : Type} (N : Nat) (S : α → St) (I : α → Prop) (μ : α → Nat) (x : α) (Q : Exit → St → Prop) : Exit → St → Prop
  | .normal, s' => ∃ y, μ y < μ x ∧ I y ∧ Weak N s' (S y)
  | e, s' => Q e s'
structure FamQ {α : Type} (N : Nat) (S : α → St) (I : α → Prop) (μ : α → Nat) (x : α) (Q : Exit → St → Prop) (e : Exit) (s' : St) : Prop where
  go : famF N S I μ x Q e s'
theorem fam_next {α : Type} {S : α → St} {I : α → Prop} {μ : α → Nat} {x : α} {s' : St} (y : α) (hm : μ y < μ x) (hw : Weak N s' (S y)) (hI : I y) : FamQ N S I μ x Q .normal s' := ⟨⟨y, hm, hI, hw⟩⟩
theorem fam_ret {α : Type} {S : α → St} {I : α → Prop} {μ : α → Nat} {x : α} {s' : St} (h : Q .ret s') : FamQ N S I μ x Q .ret s' := ⟨h⟩
theorem fam_exit {α : Type} {S : α → St} {I : α → Prop} {μ : α → Nat} {x : α} {s' : St} {id : Nat} (h : Q (.exit id) s') : FamQ N S I μ x Q (.exit id) s' := ⟨h⟩
/-- a loop whose rounds bear data that a measure counts down -/
theorem swp_fam {α : Type} {c : Code} (S : α → St) (I : α → Prop) (μ : α → Nat) (x0 : α) (h0 : Weak N st (S x0)) (hI : I x0) (hround : ∀ x, I x → SWp P N c (FamQ N S I μ x Q) (S x)) : SWp P N (.loop c) Q st := by
  refine .mk fun C a w hr => ?_
  have key : ∀ n x a w, μ x = n → I x → Rel C N (S x) a w → ∀ (b : Frame) (k : List Item) (cs : List Frame), ∃ e a' w', Good C N Q e a' w' ∧ Arrives P (lone (b.at a (.code c :: .inLoop c :: k)) cs w) b k cs e a' w' := by
    intro n
    induction n using Nat.strongRecOn with
    | _ n ih =>
      intro x a w hn hi hr b k cs
      obtain ⟨e, a1, w1, ⟨s1, hr1, hq⟩, harr⟩ := (hround x hi).go C a w hr b (.inLoop c :: k) cs
      cases e with
      | normal =>
        obtain ⟨y, hm, hi', hw⟩ := hq.go
        obtain ⟨e2, a2, w2, hq2, harr2⟩ := ih (μ y) (by omega) y a1 w1 rfl hi' (hw.go C a1 w1 hr1) b k cs
        exact ⟨e2, a2, w2, hq2, .of_steps (Steps.trans harr (.one step_inLoop)) harr2⟩
      | exit id => exact ⟨_, a1, w1, ⟨s1, hr1, hq.go⟩, .pass (x := .inLoop c) rfl (fun _ _ => .inl (by simp)) harr⟩
      | goto l => exact ⟨_, a1, w1, ⟨s1, hr1, hq.go⟩, .pass (x := .inLoop c) rfl (fun _ _ => .inl (by simp)) harr⟩
      | ret => exact ⟨_, a1, w1, ⟨s1, hr1, hq.go⟩, .pass (x := .inLoop c) rfl (fun _ _ => .inl (by simp)) harr⟩
      | panic ch => exact ⟨_, a1, w1, ⟨s1, hr1, hq.go⟩, .pass (x := .inLoop c) rfl (fun _ _ => .inl (by simp)) harr⟩
      | outgrown => exact ⟨_, a1, w1, ⟨s1, hr1, hq.go⟩, .pass (x := .inLoop c) rfl (fun _ _ => .inl (by simp)) harr⟩
  intro b k cs
  obtain ⟨e, a', w', hq, harr⟩ := key _ x0 a w rfl hI (h0.go C a w hr) b k cs
  exact ⟨e, a', w', hq, .of_steps (.one step_loop) harr⟩
end
end Go.Proofs.YtpncekdhigappaaGreatDoor.Sim

/- Answers: the document's answer of a message, of bytes; walks. -/
namespace Go.Proofs.YtpncekdhigappaaGreatDoor.An
set_option linter.unusedVariables false
set_option linter.unusedSimpArgs false
open Go.RowKit Mem Sim Opn Hd Str Rq
theorem ext_list (s : ByteArray) (a b : Nat) : (s.extract a b).toList = (s.toList.take b).drop a := by rw [ba_extract, bs_toList]
theorem bef_size : befS.size = 9 := rfl
theorem hasP_iff (s : ByteArray) : hasP s befS = true ↔ 9 ≤ s.size ∧ s.extract 0 9 = befS := by
  unfold hasP
  rw [bef_size]
  simp only [Bool.and_eq_true, decide_eq_true_eq]
theorem good_ok {h : Pl.Head} (hg : good h = true) : okHead h := by
  have := good_size hg
  unfold okHead maxLen; omega
theorem sane_ok {r : PRaw} (h : sane r) : RawOk r := by
  obtain ⟨h1, h2⟩ := h
  unfold fitsP mayL at h2
  simp only [Bool.and_eq_true, decide_eq_true_eq] at h2
  obtain ⟨⟨⟨_, h3, h4⟩, h5⟩, _⟩ := h2
  exact ⟨by omega, fun h hh => good_ok ((List.all_eq_true.1 h4) h hh), by omega, by unfold maxLen; omega⟩
theorem rawsL_sane (l : List UInt8) : ∀ r ∈ (rawsL l).1, sane r := by
  unfold rawsL
  split
  · simp
  · split
    · exact feed_sane l
    · simp
theorem oneT_cases (l : List UInt8) : (∃ r, (rawsL l) = ([r], 0) ∧ ofP r = true ∧ sane r ∧ oneT l = .tup [.agg (ansT (ansOf r)), .v (.int .i64 0)]) ∨ (∃ e, e ≠ 0 ∧ oneT l = .tup [.agg ansT0, .v (.int .i64 e)]) := by
  have hs := rawsL_sane l
  unfold oneT
  by_cases he : (rawsL l).2 ≠ 0
  · rw [if_pos he]; exact .inr ⟨_, he, rfl⟩
  · rw [if_neg he]
    split
    · rename_i r hr
      rw [hr] at hs
      unfold ofT
      cases ho : ofP r with
      | true =>
        have h0 : (rawsL l).2 = 0 := by omega
        exact .inl ⟨r, by rw [← hr, ← h0], ho, hs r (by simp), by rw [if_pos rfl]⟩
      | false => exact .inr ⟨2, by decide, by rw [if_neg (by simp)]⟩
    · exact .inr ⟨2, by decide, rfl⟩
end Go.Proofs.YtpncekdhigappaaGreatDoor.An

/- Targets' paths, in plain Lean. -/
namespace Go.Proofs.YtpncekdhigappaaGreatDoor.Pth
set_option linter.unusedVariables false
set_option linter.unusedSimpArgs false
open Mem
abbrev L8 := List UInt8
/-- a hexadecimal digit's number -/
def dig (c : UInt8) : Int := if 48 ≤ c.toNat ∧ c.toNat ≤ 57 then (c.toNat : Int) - 48 else if 97 ≤ c.toNat ∧ c.toNat ≤ 102 then (c.toNat : Int) - 97 + 10 else if 65 ≤ c.toNat ∧ c.toNat ≤ 70 then (c.toNat : Int) - 65 + 10 else -1
theorem dig_rng (c : UInt8) : -1 ≤ dig c ∧ dig c ≤ 15 := by unfold dig; split <;> (try split) <;> (try split) <;> omega
def plainB (c : UInt8) : Bool := (decide (97 ≤ c.toNat) && decide (c.toNat ≤ 122)) || (decide (65 ≤ c.toNat) && decide (c.toNat ≤ 90)) || (decide (48 ≤ c.toNat) && decide (c.toNat ≤ 57)) || [45, 46, 95, 126].any (· == c)
def hiddenB (c : UInt8) : Bool := decide (c.toNat < 32) || decide (c.toNat = 127) || decide (c.toNat = 47) || decide (c.toNat = 92)
def badC (c : UInt8) : Bool := decide (c.toNat < 33) || decide (126 < c.toNat) || [34, 35, 60, 62, 92, 94, 96, 123, 124, 125].any (· == c)
/-- two digits that a % wants behind it -/
def pctB : L8 → Bool
  | a :: b :: _ => decide (0 ≤ dig a) && decide (0 ≤ dig b)
  | _ => false
def okL : L8 → Bool
  | [] => true
  | c :: l => !badC c && (!decide (c = 37) || pctB l) && okL l
def mayL (s : L8) : Bool := decide (s.length ≤ 512) && decide (s.head? = some 47) && okL s
def hexU (n : Int) : UInt8 := if n < 10 then (48 + n).toNat.toUInt8 else (55 + n).toNat.toUInt8
def num2 (a b : UInt8) : UInt8 := (16 * dig a + dig b).toNat.toUInt8
/-- what a text says by %: the bytes; false: one may not be -/
def saidL (bad : UInt8 → Bool) : L8 → L8 × Bool
  | [] => ([], true)
  | c :: l => if c = 37 then match l with
      | a :: b :: l' =>
        if bad (num2 a b) then ([], false)
        else if plainB (num2 a b) then (num2 a b :: (saidL bad l').1, (saidL bad l').2)
        else (37 :: hexU (dig a) :: hexU (dig b) :: (saidL bad l').1, (saidL bad l').2)
      | _ => ([], true)
    else (c :: (saidL bad l).1, (saidL bad l).2)
/-- the segments of a road behind its first byte -/
def splL : L8 → List L8
  | [] => [[]]
  | c :: l => if c = 47 then [] :: splL l else match splL l with
    | [] => [[c]]
    | h :: t => (c :: h) :: t
def dotB (s : L8) : Bool := decide (s = []) || decide (s = [46]) || decide (s = [46, 46])
/-- one segment more -/
def keep1 (left : List L8) (s : L8) : Option (List L8) := if s = [46, 46] then (if left = [] then none else some left.dropLast) else if dotB s then some left else some (left ++ [s])
def keptF : List L8 → Bool → List L8 → Option (List L8 × Bool)
  | left, dir, [] => some (left, dir)
  | left, _, s :: l => match keep1 left s with
    | none => none
    | some left' => keptF left' (dotB s) l
def keptL (road : L8) : Option (List L8 × Bool) := (keptF [] false (splL (road.drop 1))).map fun x => (x.1, x.2 && decide (x.1 ≠ []))
def joinL (dir : Bool) (l : List L8) : L8 := 47 :: ([47] : L8).intercalate l ++ (if dir && decide (l ≠ []) then [47] else [])
def cutL (s : L8) : L8 × L8 := (s.takeWhile (· != 63), (s.dropWhile (· != 63)).drop 1)
def normL (s : L8) : Option (L8 × L8) :=
  if mayL s then
    match keptL (saidL hiddenB (cutL s).1).1 with
    | none => none
    | some (left, dir) => if (saidL hiddenB (cutL s).1).2 then some (joinL dir left, (saidL (fun _ => false) (cutL s).2).1) else none
  else none
theorem splL_cons (c : UInt8) (l : L8) : splL (c :: l) = if c = 47 then [] :: splL l else match splL l with
    | [] => [[c]]
    | h :: t => (c :: h) :: t := rfl
theorem splL_yes : ∀ l : L8, l.findIdx (· == 47) < l.length → splL l = l.take (l.findIdx (· == 47)) :: splL (l.drop (l.findIdx (· == 47) + 1))
  | [], h => by simp at h
  | c :: l, h => by
    rw [List.findIdx_cons] at h ⊢
    rw [splL_cons]
    by_cases hc : c = 47
    · subst hc; simp
    · rw [if_neg hc]
      have e : (c == 47) = false := by simpa using hc
      rw [e] at h ⊢
      simp only [cond_false, List.length_cons] at h ⊢
      rw [splL_yes l (by omega)]
      simp
theorem splL_no : ∀ l : L8, ¬ l.findIdx (· == 47) < l.length → splL l = [l]
  | [], _ => rfl
  | c :: l, h => by
    rw [List.findIdx_cons] at h
    rw [splL_cons]
    by_cases hc : c = 47
    · subst hc; simp at h
    · rw [if_neg hc]
      have e : (c == 47) = false := by simpa using hc
      rw [e] at h
      simp only [cond_false, List.length_cons] at h
      rw [splL_no l (by omega)]
theorem splL_ne (l : L8) : splL l ≠ [] := by
  by_cases h : l.findIdx (· == 47) < l.length
  · rw [splL_yes l h]; simp
  · rw [splL_no l h]; simp
end Go.Proofs.YtpncekdhigappaaGreatDoor.Pth

/- Targets' paths: plain lemmas. -/
namespace Go.Proofs.YtpncekdhigappaaGreatDoor.Pth
set_option linter.unusedVariables false
set_option linter.unusedSimpArgs false
open Mem
theorem okL_cons (c : UInt8) (l : L8) : okL (c :: l) = (!badC c && (!decide (c = 37) || pctB l) && okL l) := rfl
theorem okL_drop {l : L8} (h : okL l = true) : ∀ n, okL (l.drop n) = true := by
  intro n
  induction n generalizing l with
  | zero => simpa using h
  | succ n ih =>
    cases l with
    | nil => rfl
    | cons c l =>
      rw [okL_cons, Bool.and_eq_true] at h
      exact ih h.2
theorem dig_ne {a : UInt8} (h : 0 ≤ dig a) : a ≠ 63 := by
  rintro rfl
  exact absurd h (by decide)
theorem pct_take {l : L8} (h : pctB l = true) : pctB (l.takeWhile (· != 63)) = true := by
  match l, h with
  | a :: b :: l, h =>
    have h' : (decide (0 ≤ dig a) && decide (0 ≤ dig b)) = true := h
    rw [Bool.and_eq_true, decide_eq_true_eq, decide_eq_true_eq] at h'
    have ha : (a != 63) = true := by simpa using dig_ne h'.1
    have hb : (b != 63) = true := by simpa using dig_ne h'.2
    rw [List.takeWhile_cons, if_pos ha, List.takeWhile_cons, if_pos hb]
    exact h
theorem okL_take {l : L8} (h : okL l = true) : okL (l.takeWhile (· != 63)) = true := by
  induction l with
  | nil => rfl
  | cons c l ih =>
    rw [okL_cons, Bool.and_eq_true, Bool.and_eq_true] at h
    rw [List.takeWhile_cons]
    split
    · rw [okL_cons, Bool.and_eq_true, Bool.and_eq_true]
      refine ⟨⟨h.1.1, ?_⟩, ih h.2⟩
      have := h.1.2
      rw [Bool.or_eq_true] at this ⊢
      exact this.imp id pct_take
    · rfl
theorem okL_dropW {l : L8} (p : UInt8 → Bool) (h : okL l = true) : okL (l.dropWhile p) = true := by
  induction l with
  | nil => rfl
  | cons c l ih =>
    rw [List.dropWhile_cons]
    split
    · rw [okL_cons, Bool.and_eq_true] at h
      exact ih h.2
    · exact h
theorem cut_ok {l : L8} (h : okL l = true) : okL (cutL l).1 = true ∧ okL (cutL l).2 = true := ⟨okL_take h, okL_drop (okL_dropW _ h) 1⟩
theorem saidL_cons {bad : UInt8 → Bool} {c : UInt8} {l : L8} (h : c ≠ 37) : saidL bad (c :: l) = (c :: (saidL bad l).1, (saidL bad l).2) := by
  match l with
  | a :: b :: l' => rw [saidL, if_neg h]
  | [] => simp [saidL, h]
  | [x] => rw [saidL, if_neg h]; intro a b l' e; cases e
theorem saidL_pct {bad : UInt8 → Bool} {a b : UInt8} {l : L8} : saidL bad (37 :: a :: b :: l) = if bad (num2 a b) then ([], false) else if plainB (num2 a b) then (num2 a b :: (saidL bad l).1, (saidL bad l).2) else (37 :: hexU (dig a) :: hexU (dig b) :: (saidL bad l).1, (saidL bad l).2) := by
  rw [saidL, if_pos rfl]
theorem saidL_len (bad : UInt8 → Bool) : ∀ l : L8, (saidL bad l).1.length ≤ l.length
  | [] => by simp [saidL]
  | [c] => by
    by_cases h : c = 37
    · subst h; simp [saidL]
    · rw [saidL_cons h]; simp [saidL]
  | [c, a] => by
    by_cases h : c = 37
    · subst h; simp [saidL]
    · rw [saidL_cons h]
      have := saidL_len bad [a]
      simpa using this
  | c :: a :: b :: l => by
    by_cases h : c = 37
    · subst h
      rw [saidL_pct]
      have := saidL_len bad l
      split
      · simp
      · split <;> simp <;> omega
    · rw [saidL_cons h]
      have := saidL_len bad (a :: b :: l)
      simpa using this
def tot (l : List L8) : Nat := (l.map (·.length)).sum + l.length
theorem tot_cons (s : L8) (l : List L8) : tot (s :: l) = s.length + 1 + tot l := by unfold tot; simp; omega
theorem tot_snoc (l : List L8) (s : L8) : tot (l ++ [s]) = tot l + s.length + 1 := by unfold tot; simp; omega
theorem tot_splL (l : L8) : tot (splL l) = l.length + 1 := by
  induction l with
  | nil => rfl
  | cons c l ih =>
    rw [splL_cons]
    split
    · rw [tot_cons, ih]; simp; omega
    · have hn := splL_ne l
      match hq : splL l, hn with
      | h :: t, _ => rw [hq, tot_cons] at ih; rw [tot_cons]; simp; omega
theorem tot_dropLast (l : List L8) : tot l.dropLast ≤ tot l := by
  rcases List.eq_nil_or_concat l with rfl | ⟨l', s, rfl⟩
  · simp
  · simp [tot_snoc]; omega
theorem tot_keep {l l' : List L8} {s : L8} (h : keep1 l s = some l') : tot l' ≤ tot l + s.length + 1 := by
  unfold keep1 at h
  split at h
  · split at h
    · cases h
    · injection h with h; subst h; have := tot_dropLast l; omega
  · split at h
    · injection h with h; subst h; omega
    · injection h with h; subst h; rw [tot_snoc]; omega
theorem tot_keptF : ∀ (l : List L8) (left : List L8) (dir : Bool) (r : List L8 × Bool), keptF left dir l = some r → tot r.1 ≤ tot left + tot l
  | [], left, dir, r, h => by injection h with h; subst h; exact Nat.le_add_right _ _
  | s :: l, left, dir, r, h => by
    unfold keptF at h
    cases hk : keep1 left s with
    | none => rw [hk] at h; cases h
    | some left' =>
      rw [hk] at h
      have := tot_keptF l left' _ r h
      have h2 := tot_keep hk
      rw [tot_cons]; omega
theorem tot_keptL {s : L8} (hs : 1 ≤ s.length) {r : List L8 × Bool} (h : keptL s = some r) : tot r.1 ≤ s.length := by
  unfold keptL at h
  obtain ⟨x, hx, rfl⟩ := Option.map_eq_some_iff.1 h
  have := tot_keptF _ _ _ _ hx
  rw [tot_splL, List.length_drop] at this
  simp only [tot, List.map_nil, List.sum_nil, List.length_nil] at this ⊢
  omega
theorem inter_len : ∀ l : List L8, (([47] : L8).intercalate l).length + 1 ≤ tot l + 1
  | [] => by simp [List.intercalate]
  | [x] => by simp [List.intercalate, tot]
  | x :: y :: l => by
    have := inter_len (y :: l)
    rw [tot_cons]
    simp only [List.intercalate, List.intersperse, List.flatten_cons, List.length_append, List.length_cons, List.length_nil] at this ⊢
    omega
theorem head_cut {l : L8} (h : l.head? = some 47) : (cutL l).1.head? = some 47 ∧ 1 ≤ (cutL l).1.length := by
  match l, h with
  | c :: l, h =>
    have hc : c = 47 := by simpa using h
    subst hc
    unfold cutL
    dsimp only
    rw [List.takeWhile_cons, if_pos (by decide)]
    exact ⟨rfl, by simp⟩
theorem said_head {bad : UInt8 → Bool} {l : L8} (h : l.head? = some 47) : (saidL bad l).1.head? = some 47 ∧ 1 ≤ (saidL bad l).1.length := by
  match l, h with
  | c :: l, h =>
    have hc : c = 47 := by simpa using h
    subst hc
    rw [saidL_cons (by decide)]
    exact ⟨rfl, by simp⟩
theorem cut_len (l : L8) : (cutL l).1.length ≤ l.length ∧ (cutL l).2.length ≤ l.length := by
  unfold cutL
  dsimp only
  refine ⟨(List.takeWhile_sublist _).length_le, ?_⟩
  rw [List.length_drop]
  have := (List.dropWhile_sublist (· != 63) (l := l)).length_le
  omega
theorem may_parts {l : L8} (h : mayL l = true) : l.length ≤ 512 ∧ l.head? = some 47 ∧ okL l = true := by
  unfold mayL at h
  rw [Bool.and_eq_true, Bool.and_eq_true, decide_eq_true_eq, decide_eq_true_eq] at h
  exact ⟨h.1.1, h.1.2, h.2⟩
/-- cutting by index -/
theorem cut_idx (l : L8) : cutL l = (l.take (l.findIdx (· == 63)), l.drop (l.findIdx (· == 63) + 1)) := by
  unfold cutL
  induction l with
  | nil => rfl
  | cons c l ih =>
    rw [List.takeWhile_cons, List.dropWhile_cons, List.findIdx_cons]
    by_cases h : c = 63
    · subst h; simp
    · have h1 : (c != 63) = true := by simpa using h
      have h2 : (c == 63) = false := by simpa using h
      rw [if_pos h1, if_pos h1, h2]
      injection ih with i1 i2
      simp only [cond_false]
      rw [i1, i2]; simp
end Go.Proofs.YtpncekdhigappaaGreatDoor.Pth

/- strings.Map by a small letter's function, in plain Lean. -/
namespace Go.Proofs.YtpncekdhigappaaGreatDoor.Mp
set_option linter.unusedVariables false
set_option linter.unusedSimpArgs false
open Go.Lib
/-- a rune in small letters -/
def lowR (r : Int) : Int := if 65 ≤ r ∧ r ≤ 90 then r + 32 else r
def lowB (c : UInt8) : UInt8 := if 65 ≤ c.toNat ∧ c.toNat ≤ 90 then (c.toNat + 32).toUInt8 else c
theorem enc_one {c : UInt8} (h : c.toNat < 128) : (if 0 ≤ lowR (c.toNat : Int) then encodeRune (lowR (c.toNat : Int)) else []) = [lowB c] := by
  unfold lowR lowB
  by_cases hc : 65 ≤ c.toNat ∧ c.toNat ≤ 90
  · rw [if_pos (by omega : 65 ≤ (c.toNat : Int) ∧ (c.toNat : Int) ≤ 90), if_pos hc, if_pos (by omega)]
    unfold encodeRune
    rw [encodeRuneZ_one (by omega) (by omega)]
    rfl
  · rw [if_neg (by omega : ¬ (65 ≤ (c.toNat : Int) ∧ (c.toNat : Int) ≤ 90)), if_neg hc, if_pos (by omega)]
    unfold encodeRune
    rw [encodeRuneZ_one (by omega) (by omega)]
    simp
theorem map_ascii : ∀ (l : List UInt8), (∀ c ∈ l, c.toNat < 128) → mapD lowR l = l.map lowB
  | [], _ => rfl
  | c :: l, h => by
    have hc := h c (by simp)
    rw [mapD_step lowR (c :: l) (by simp), decodeL_ascii c l hc]
    dsimp only
    rw [enc_one hc, List.drop_one, List.tail_cons, map_ascii l fun d hd => h d (by simp [hd])]
    simp
theorem map_len : ∀ (n : Nat) (l : List UInt8), l.length ≤ n → (mapD lowR l).length ≤ 4 * l.length
  | 0, l, hn => by
    have : l = [] := List.eq_nil_of_length_eq_zero (by omega)
    subst this; exact Nat.zero_le _
  | n + 1, l, hn => by
    by_cases hl : l = []
    · subst hl; exact Nat.zero_le _
    · rw [mapD_step lowR l hl, List.length_append]
      have h1 := decodeL_width l
      have h2 := decodeL_le l hl
      have h3 := map_len n (l.drop (decodeL l).2) (by rw [List.length_drop]; omega)
      rw [List.length_drop] at h3
      have h4 : ∀ r, (encodeRune r).length ≤ 4 := fun r => by
        unfold encodeRune; rw [List.length_map]; exact (encodeRuneZ_length r).2
      split
      · have := h4 (lowR (decodeL l).1); omega
      · simp only [List.length_nil]; omega
/-- a rune that is no byte of ASCII is written by bytes that are none -/
theorem enc_big {r : Int} (h : 128 ≤ r) : ∃ c ∈ encodeRune r, 128 ≤ c.toNat := by
  unfold encodeRune
  have h1 := encodeRuneZ_byte r
  have key : ∀ x xs, encodeRuneZ r = x :: xs → 128 ≤ x → ∃ c ∈ (encodeRuneZ r).map (fun x => x.toNat.toUInt8), 128 ≤ c.toNat := fun x xs e hx => by
    have hb := h1 x (by rw [e]; simp)
    refine ⟨x.toNat.toUInt8, by rw [e]; simp, ?_⟩
    have : x.toNat < 256 := by omega
    simp [Nat.mod_eq_of_lt this]; omega
  rcases (by omega : r ≤ 2047 ∨ (2048 ≤ r ∧ r < 55296) ∨ (55296 ≤ r ∧ r ≤ 57343) ∨ (57343 < r ∧ r ≤ 65535) ∨ (65536 ≤ r ∧ r ≤ 1114111) ∨ 1114111 < r) with h2 | h2 | h2 | h2 | h2 | h2
  · exact key _ _ (encodeRuneZ_two h h2) (by omega)
  · exact key _ _ (encodeRuneZ_three (.inl h2)) (by omega)
  · exact key _ _ (encodeRuneZ_bad (.inr (.inl h2))) (by omega)
  · exact key _ _ (encodeRuneZ_three (.inr h2)) (by omega)
  · exact key _ _ (encodeRuneZ_four (by omega) h2.2) (by omega)
  · exact key _ _ (encodeRuneZ_bad (.inr (.inr h2))) (by omega)
theorem dec_big {c : UInt8} {l : List UInt8} (h : 128 ≤ c.toNat) : 128 ≤ (decodeL (c :: l)).1 := by
  rw [decodeL_N]
  have hb : ((c :: l).getD 0 0).toNat = c.toNat := rfl
  rw [hb]
  generalize (c :: l).length = n
  generalize ((c :: l).getD 1 0).toNat = b1
  generalize ((c :: l).getD 2 0).toNat = b2
  generalize ((c :: l).getD 3 0).toNat = b3
  unfold decodeN
  rw [if_neg (by omega)]
  repeat' split
  all_goals (dsimp only; omega)
theorem map_big : ∀ (n : Nat) (l : List UInt8), l.length ≤ n → (∃ c ∈ l, 128 ≤ c.toNat) → ∃ c ∈ mapD lowR l, 128 ≤ c.toNat
  | 0, l, hn, ⟨c, hc, _⟩ => by
    have : l = [] := List.eq_nil_of_length_eq_zero (by omega)
    rw [this] at hc; cases hc
  | n + 1, l, hn, ⟨c, hc, h⟩ => by
    match l, hn, hc with
    | d :: l, hn, hc =>
      rw [mapD_step lowR (d :: l) (by simp)]
      by_cases hd : d.toNat < 128
      · have hcl : c ∈ l := by
          rcases List.mem_cons.1 hc with e | e
          · rw [e] at h; omega
          · exact e
        obtain ⟨x, hx, hx2⟩ := map_big n l (by simpa using hn) ⟨c, hcl, h⟩
        rw [decodeL_ascii d l hd]
        exact ⟨x, by rw [List.drop_one, List.tail_cons, List.mem_append]; exact .inr hx, hx2⟩
      · have hb := dec_big (c := d) (l := l) (by omega)
        generalize decodeL (d :: l) = q at *
        have hl : lowR (q.1 : Int) = (q.1 : Int) := by unfold lowR; rw [if_neg (by omega)]
        rw [hl, if_pos (by omega)]
        obtain ⟨x, hx, hx2⟩ := enc_big (r := (q.1 : Int)) (by omega)
        exact ⟨x, by rw [List.mem_append]; exact .inl hx, hx2⟩
end Go.Proofs.YtpncekdhigappaaGreatDoor.Mp

/- A request's first line, its host, and what it is: in plain Lean. -/
namespace Go.Proofs.YtpncekdhigappaaGreatDoor.Ro
set_option linter.unusedVariables false
set_option linter.unusedSimpArgs false
open Go.RowKit Mem Sim Opn Hd Str Pth Rq
/-- what stands between the bytes c -/
def splC (c : UInt8) : L8 → List L8
  | [] => [[]]
  | d :: l => if d = c then [] :: splC c l else match splC c l with
    | [] => [[d]]
    | h :: t => (d :: h) :: t
theorem splC_cons (c d : UInt8) (l : L8) : splC c (d :: l) = if d = c then [] :: splC c l else match splC c l with
    | [] => [[d]]
    | h :: t => (d :: h) :: t := rfl
theorem splC_yes (c : UInt8) : ∀ l : L8, l.findIdx (· == c) < l.length → splC c l = l.take (l.findIdx (· == c)) :: splC c (l.drop (l.findIdx (· == c) + 1))
  | [], h => by simp at h
  | d :: l, h => by
    rw [List.findIdx_cons] at h ⊢
    rw [splC_cons]
    by_cases hc : d = c
    · subst hc; simp
    · rw [if_neg hc]
      have e : (d == c) = false := by simpa using hc
      rw [e] at h ⊢
      simp only [cond_false, List.length_cons] at h ⊢
      rw [splC_yes c l (by omega)]
      simp
theorem splC_no (c : UInt8) : ∀ l : L8, ¬ l.findIdx (· == c) < l.length → splC c l = [l]
  | [], _ => rfl
  | d :: l, h => by
    rw [List.findIdx_cons] at h
    rw [splC_cons]
    by_cases hc : d = c
    · subst hc; simp at h
    · rw [if_neg hc]
      have e : (d == c) = false := by simpa using hc
      rw [e] at h
      simp only [cond_false, List.length_cons] at h
      rw [splC_no c l (by omega)]
theorem splC_len (c : UInt8) : ∀ l : L8, (splC c l).length = l.count c + 1
  | [] => rfl
  | d :: l => by
    have ih := splC_len c l
    rw [splC_cons, List.count_cons]
    by_cases hc : d = c
    · subst hc; simp [ih]
    · rw [if_neg hc]
      have e : (d == c) = false := by simpa using hc
      rw [e]
      match hq : splC c l, ih with
      | h :: t, ih => simpa using ih
theorem count_yes {c : UInt8} {l : L8} (h : l.findIdx (· == c) < l.length) : l.count c = (l.drop (l.findIdx (· == c) + 1)).count c + 1 := by
  have h1 := splC_len c l
  rw [splC_yes c l h, List.length_cons, splC_len] at h1
  omega
theorem count_no {c : UInt8} {l : L8} (h : ¬ l.findIdx (· == c) < l.length) : l.count c = 0 := by
  have h1 := splC_len c l
  rw [splC_no c l h] at h1
  simp at h1; simpa using h1
theorem count_pos {c : UInt8} {l : L8} (h : 0 < l.count c) : l.findIdx (· == c) < l.length := by
  by_cases h1 : l.findIdx (· == c) < l.length
  · exact h1
  · rw [count_no h1] at h; omega
/-- where a byte stands, counted from k on -/
def posC (c : UInt8) : Nat → L8 → List Nat
  | _, [] => []
  | k, d :: l => if d = c then k :: posC c (k + 1) l else posC c (k + 1) l
theorem posC_no {c : UInt8} : ∀ (l : L8) (k : Nat), posC c k l = [] → splC c l = [l]
  | [], _, _ => rfl
  | d :: l, k, h => by
    rw [posC] at h
    split at h
    · cases h
    · rename_i hc
      rw [splC_cons, if_neg hc, posC_no l (k + 1) h]
theorem posC_yes {c : UInt8} : ∀ (l : L8) (k p : Nat) (ps : List Nat), posC c k l = p :: ps → k ≤ p ∧ p - k < l.length ∧ splC c l = l.take (p - k) :: splC c (l.drop (p - k + 1)) ∧ posC c (p + 1) (l.drop (p - k + 1)) = ps
  | [], _, _, _, h => by cases h
  | d :: l, k, p, ps, h => by
    rw [posC] at h
    split at h
    · rename_i hc
      injection h with h1 h2
      subst h1 h2
      refine ⟨Nat.le_refl _, by simp, ?_, by simp⟩
      rw [splC_cons, if_pos hc]; simp
    · rename_i hc
      obtain ⟨h1, h2, h3, h4⟩ := posC_yes l (k + 1) p ps h
      obtain ⟨j, rfl⟩ : ∃ j, p = k + 1 + j := ⟨p - (k + 1), by omega⟩
      have e1 : k + 1 + j - (k + 1) = j := by omega
      have e2 : k + 1 + j - k = j + 1 := by omega
      rw [e1] at h2 h3 h4
      rw [e2]
      refine ⟨by omega, by simp; omega, ?_, by simpa using h4⟩
      rw [splC_cons, if_neg hc, h3]; simp
theorem posC_len (c : UInt8) : ∀ (l : L8) (k : Nat), (posC c k l).length = l.count c
  | [], _ => rfl
  | d :: l, k => by
    have ih := posC_len c l (k + 1)
    rw [posC, List.count_cons]
    by_cases hc : d = c
    · rw [if_pos hc, List.length_cons, ih]; simp [hc]
    · rw [if_neg hc, ih]; simp [hc]
/-- two places: three parts -/
theorem posC_two {c : UInt8} {l : L8} {p q : Nat} (h : posC c 0 l = [p, q]) : p < q ∧ q < l.length ∧ splC c l = [l.take p, (l.take q).drop (p + 1), l.drop (q + 1)] := by
  obtain ⟨h1, h2, h3, h4⟩ := posC_yes l 0 p [q] h
  obtain ⟨h5, h6, h7, h8⟩ := posC_yes _ (p + 1) q [] h4
  have h9 := posC_no _ _ h8
  simp only [Nat.sub_zero] at h1 h2 h3 h4 h5 h6 h7 h8 h9
  rw [List.length_drop] at h6
  refine ⟨by omega, by omega, ?_⟩
  rw [h3, h7, h9, List.drop_drop, List.drop_take]
  have e : p + 1 + (q - (p + 1) + 1) = q + 1 := by omega
  rw [e]
/-- three parts: two places -/
theorem splC_three {c : UInt8} {l a b d : L8} (h : splC c l = [a, b, d]) : posC c 0 l = [a.length, a.length + 1 + b.length] ∧ l = a ++ c :: (b ++ c :: d) := by
  have h1 := splC_len c l
  rw [h, ← posC_len c l 0] at h1
  match hq : posC c 0 l, h1 with
  | [p, q], _ =>
    obtain ⟨h2, h3, h4⟩ := posC_two hq
    rw [h] at h4
    injection h4 with e1 e2
    injection e2 with e2 e3
    injection e3 with e3 _
    have hp : p < l.length := by omega
    have l1 : a.length = p := by rw [e1, List.length_take]; omega
    have l2 : b.length = q - (p + 1) := by rw [e2, List.length_drop, List.length_take]; omega
    refine ⟨by rw [l1, l2, show p + 1 + (q - (p + 1)) = q by omega], ?_⟩
    have key : ∀ (m : L8) (k : Nat) (j : Nat), j ∈ posC c k m → k ≤ j ∧ m[j - k]? = some c := by
      intro m
      induction m with
      | nil => intro k j hj; cases hj
      | cons x m ih =>
        intro k j hj
        rw [posC] at hj
        split at hj
        · rename_i hx
          rcases List.mem_cons.1 hj with e | e
          · subst e; exact ⟨Nat.le_refl _, by simp [hx]⟩
          · obtain ⟨i1, i2⟩ := ih (k + 1) j e
            obtain ⟨z, rfl⟩ : ∃ z, j = k + 1 + z := ⟨j - (k + 1), by omega⟩
            refine ⟨by omega, ?_⟩
            rw [show k + 1 + z - k = z + 1 by omega, List.getElem?_cons_succ]
            rwa [show k + 1 + z - (k + 1) = z by omega] at i2
        · obtain ⟨i1, i2⟩ := ih (k + 1) j hj
          obtain ⟨z, rfl⟩ : ∃ z, j = k + 1 + z := ⟨j - (k + 1), by omega⟩
          refine ⟨by omega, ?_⟩
          rw [show k + 1 + z - k = z + 1 by omega, List.getElem?_cons_succ]
          rwa [show k + 1 + z - (k + 1) = z by omega] at i2
    have k1 := (key l 0 p (by rw [hq]; simp)).2
    have k2 := (key l 0 q (by rw [hq]; simp)).2
    rw [Nat.sub_zero] at k1 k2
    rw [List.getElem?_eq_getElem hp] at k1
    rw [List.getElem?_eq_getElem h3] at k2
    injection k1 with k1
    injection k2 with k2
    have s1 : l = l.take p ++ l[p] :: l.drop (p + 1) := by
      rw [← List.drop_eq_getElem_cons hp, List.take_append_drop]
    have s2 : l.drop (p + 1) = (l.take q).drop (p + 1) ++ l[q] :: l.drop (q + 1) := by
      rw [← List.drop_eq_getElem_cons h3]
      have : l = l.take q ++ l.drop q := (List.take_append_drop q l).symm
      conv => lhs; rw [this, List.drop_append_of_le_length (by rw [List.length_take]; omega)]
    conv => lhs; rw [s1, s2]
    rw [k1, k2, e1, e2, e3]
/-- a host's bytes -/
def hostC (c : UInt8) : Bool := (decide (97 ≤ c.toNat) && decide (c.toNat ≤ 122)) || ((decide (48 ≤ c.toNat) && decide (c.toNat ≤ 57)) || (decide (c.toNat = 46) || decide (c.toNat = 45)))
def portB (d : L8) : Bool := decide (d ≠ []) && (decide (d.head? ≠ some 48) && (decide (d.length ≤ 5) && (d.all digB && decide (numL d ≤ 65535))))
def nameL (s : L8) : L8 := s.takeWhile (· != 58)
def portL (s : L8) : L8 := (s.dropWhile (· != 58)).drop 1
def hasC (s : L8) : Bool := s.any (· == 58)
def hostB (s : L8) : Bool := (nameL s).all hostC && (decide (nameL s ≠ []) && (decide (s.length ≤ 64) && (!hasC s || portB (portL s))))
theorem hostC_lt {c : UInt8} (h : hostC c = true) : c.toNat < 128 := by
  unfold hostC at h
  simp only [Bool.or_eq_true, Bool.and_eq_true, decide_eq_true_eq] at h
  omega
theorem digB_lt {c : UInt8} (h : digB c = true) : c.toNat < 128 := by
  unfold digB at h
  have := of_decide_eq_true h
  omega
theorem cut58 : ∀ s : L8, s = nameL s ++ (if hasC s then 58 :: portL s else [])
  | [] => rfl
  | c :: l => by
    have ih := cut58 l
    unfold nameL hasC portL at *
    rw [List.takeWhile_cons, List.dropWhile_cons, List.any_cons]
    by_cases hc : c = 58
    · subst hc; simp
    · have e1 : (c != 58) = true := by simpa using hc
      have e2 : (c == 58) = false := by simpa using hc
      rw [e1, e2]
      simp only [if_true, Bool.false_or]
      rw [List.cons_append, ← ih]
theorem host_ascii {s : L8} (h : hostB s = true) : ∀ c ∈ s, c.toNat < 128 := by
  unfold hostB at h
  simp only [Bool.and_eq_true, decide_eq_true_eq] at h
  obtain ⟨h1, _, _, h4⟩ := h
  intro c hc
  rw [cut58 s, List.mem_append] at hc
  rcases hc with hc | hc
  · exact hostC_lt ((List.all_eq_true.1 h1) c hc)
  · split at hc
    · rename_i hp
      rw [hp] at h4
      rcases List.mem_cons.1 hc with e | e
      · subst e; decide
      · unfold portB at h4
        simp only [Bool.not_true, Bool.false_or, Bool.and_eq_true] at h4
        exact digB_lt ((List.all_eq_true.1 h4.2.2.2.1) c e)
    · cases hc
theorem lowU_eq (c : UInt8) : Mp.lowB c = lowU c := by
  have key : ∀ m : Fin 256, Mp.lowB (UInt8.ofNat m.1) = lowU (UInt8.ofNat m.1) := by decide +kernel
  have := key ⟨c.toNat, c.toNat_lt⟩
  simpa using this
theorem lowU_big {c : UInt8} (h : 128 ≤ c.toNat) : lowU c = c := by
  unfold lowU; rw [if_neg (by omega)]
/-- a host in small letters: by runes, or by bytes -/
theorem host_map (l : L8) : hostB (Lib.mapD Mp.lowR l) = hostB (l.map lowU) ∧ (hostB (l.map lowU) = true → Lib.mapD Mp.lowR l = l.map lowU) := by
  by_cases h : ∀ c ∈ l, c.toNat < 128
  · have e : Lib.mapD Mp.lowR l = l.map lowU := by
      rw [Mp.map_ascii l h]
      exact List.map_congr_left fun c _ => lowU_eq c
    rw [e]; exact ⟨rfl, fun _ => rfl⟩
  · have h' : ∃ c ∈ l, 128 ≤ c.toNat := by
      obtain ⟨c, hc⟩ := Classical.not_forall.1 h
      exact ⟨c, (Classical.not_imp.1 hc).1, by have := (Classical.not_imp.1 hc).2; omega⟩
    have h1 : hostB (Lib.mapD Mp.lowR l) = false := by
      obtain ⟨x, hx, hx2⟩ := Mp.map_big l.length l (Nat.le_refl _) h'
      cases hq : hostB (Lib.mapD Mp.lowR l) with
      | false => rfl
      | true => have := host_ascii hq x hx; omega
    have h2 : hostB (l.map lowU) = false := by
      obtain ⟨x, hx, hx2⟩ := h'
      cases hq : hostB (l.map lowU) with
      | false => rfl
      | true =>
        have := host_ascii hq x (List.mem_map.2 ⟨x, hx, lowU_big hx2⟩)
        omega
    rw [h1, h2]; exact ⟨rfl, fun h => by cases h⟩
/-- a request -/
structure PReq where
  method : ByteArray
  target : ByteArray
  path : ByteArray
  query : ByteArray
  host : ByteArray
  heads : List Pl.Head
  body : List UInt8
def methB (m : L8) : Bool := m.all (fun c => decide (65 ≤ c.toNat) && decide (c.toNat ≤ 90)) && (decide (1 ≤ m.length) && decide (m.length ≤ 16))
abbrev httpL : L8 := [72, 84, 84, 80, 47, 49, 46, 49]
abbrev connL : L8 := [67, 79, 78, 78, 69, 67, 84]
abbrev hostS : ByteArray := ⟨#[104, 111, 115, 116]⟩
/-- its target: the path and the query; none: it may not be -/
def targL (m t : L8) : Option (L8 × L8) := if m = connL then (if hostB (t.map lowU) && hasC (t.map lowU) then some ([], []) else none) else normL t
def of3 (m t v : L8) (h : ByteArray) (r : PRaw) : Option PReq :=
  if methB m && (decide (v = httpL) && hostB (h.toList.map lowU)) then (targL m t).map fun q => ⟨bs m, bs t, bs q.1, bs q.2, small h, r.heads, r.body⟩ else none
/-- the request that a message is -/
def ofR (r : PRaw) : Option PReq := match splC 32 r.start.toList, valsOf hostS r.heads with
  | [m, t, v], [h] => of3 m t v h r
  | _, _ => none
theorem ofR_ok {r : PRaw} {m t v : L8} {h : ByteArray} (h1 : splC 32 r.start.toList = [m, t, v]) (h2 : valsOf hostS r.heads = [h]) : ofR r = of3 m t v h r := by
  unfold ofR; rw [h1, h2]
theorem splC_part (c : UInt8) : ∀ (l p : L8), p ∈ splC c l → p.length ≤ l.length
  | [], p, h => by
    have : p = [] := by simpa [splC] using h
    rw [this]; exact Nat.le_refl _
  | d :: l, p, h => by
    have ih := splC_part c l
    rw [splC_cons] at h
    split at h
    · rcases List.mem_cons.1 h with e | e
      · rw [e]; exact Nat.zero_le _
      · have := ih p e; simp; omega
    · split at h
      · have : p = [d] := by simpa using h
        rw [this]; simp
      · rename_i a t hq
        rcases List.mem_cons.1 h with e | e
        · have := ih a (by rw [hq]; simp)
          rw [e]; simpa using this
        · have := ih p (by rw [hq]; simp [e])
          simp; omega
def sameR (a b : PReq) : Bool := decide (a.method = b.method) && (decide (a.target = b.target) && (decide (a.path = b.path) && (decide (a.query = b.query) && (decide (a.host = b.host) && (decide (a.heads = b.heads) && decide (bs a.body = bs b.body))))))
theorem sameR_iff (a b : PReq) : sameR a b = true ↔ a = b := by
  unfold sameR
  simp only [Bool.and_eq_true, decide_eq_true_eq]
  constructor
  · rintro ⟨h1, h2, h3, h4, h5, h6, h7⟩
    have h7 : a.body = b.body := by have := congrArg ByteArray.toList h7; rwa [bs_toList, bs_toList] at this
    cases a; cases b; simp_all
  · rintro rfl; simp
def rawQ (r : PReq) : PRaw := ⟨r.method ++ ⟨#[32]⟩ ++ r.target ++ ⟨#[32, 72, 84, 84, 80, 47, 49, 46, 49]⟩, r.heads, r.body⟩
def mayR (r : PReq) : Bool := (match ofR (rawQ r) with
  | some x => sameR x r
  | none => false) && fitsP r.heads r.body
def oneR (l : List UInt8) : PReq ⊕ Int := if (rawsL l).2 ≠ 0 then .inr (rawsL l).2 else match (rawsL l).1 with
  | [q] => match ofR q with
    | some x => .inl x
    | none => .inr 2
  | _ => .inr 2
end Go.Proofs.YtpncekdhigappaaGreatDoor.Ro
