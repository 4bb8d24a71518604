/- Merged by bundles.py: SimRq7, PlWr, SimAn1, SimAn2, SimEq. -/
import Derived.Test.YtpncekdhigappaaGreatDoorS20
import Derived.Test.YtpncekdhigappaaGreatDoorS18
import Derived.Test.YtpncekdhigappaaGreatDoorS16
/- The reader of messages: all that bytes are, walked. -/
namespace Go.Proofs.YtpncekdhigappaaGreatDoor.Rq
set_option linter.unusedVariables false
set_option linter.unusedSimpArgs false
open Go.RowKit Mem Sim Opn Hd Str
/-- the messages that bytes are, or the fault -/
def rawsL (l : List UInt8) : List PRaw × Int := if (feedP rd0 l).err ≠ 0 then ([], (feedP rd0 l).err) else if idleP (feedP rd0 l) then ((feedP rd0 l).out, 0) else ([], 2)
def rawsT (x : List PRaw × Int) : T := if x.2 = 0 then .tup [.sl 3 (x.1.map rawT), .v (.int .i64 x.2)] else .tup [.v (.slice none 0 0), .v (.int .i64 x.2)]
theorem inv_all (l : List UInt8) (hl : l.length ≤ 500000) : Inv l.length (feedP rd0 l) := by
  have := inv0.feed l (by omega) l.length (Nat.le_refl _)
  rwa [List.take_length, Nat.zero_add] at this
set_option maxRecDepth 100000 in
set_option maxHeartbeats 2000000 in
theorem raws_ (l : List UInt8) (hl : l.length ≤ 500000) : PCalls Tryz.prog 35 [.sl 1 (l.map byteT)] (rawsT (rawsL l)) := by
  have hI := inv_all l hl
  have c0 := new_
  have c1 := feed_ rd0 inv0 rfl l (by omega)
  unfold feedT at c1
  have c2 := idle_ (feedP rd0 l) (by have := hI.hl; omega)
  unfold rawsL
  generalize feedP rd0 l = q at *
  refine pcalls_of Tryz.func35 rfl rfl Tryz.ntmps35 rfl ?_
  by_cases he : q.err = 0
  · rw [if_neg (by simp [he])]
    have e1 : (!decide (q.err = 0)) = false := by rw [decide_eq_true he]; rfl
    cases hi : idleP q with
    | true =>
      rw [hi] at c2
      rw [if_pos rfl]
      repeat' (first | (refine rg 0 ?_; refine oAs ?_; refine oAs ?_; refine oN ?_) | (refine rg 1 ?_; refine oC (c0) rfl .nil ?_; refine oMv ?_; (first | refine oC (c0) rfl (ac (ac .nil)) ?_ | refine oC (c1) rfl (ac (ac .nil)) ?_); refine oMv ?_; refine oEx ?_; refine oEx ?_; refine sal str45 ?_; refine oS ?_; refine oAs ?_; refine oN ?_) | (refine rg 2 ?_; refine oFb ?_; refine oLb ?_; refine oCm ?_; refine oAs ?_; refine oN ?_) | (refine rg 4 ?_; (refine sp (po_load_bx_agg rfl rfl (tyT rfl) rfl (vc (vc (vc (vc (vc (vc (vc .nil))))))) rfl) ?_); (first | refine oC (c0) rfl (ac .nil) ?_ | refine oC (c1) rfl (ac .nil) ?_ | refine oC (c2) rfl (ac .nil) ?_); refine sp (po_not rfl rfl) ?_; refine oAs ?_; refine oN ?_) | (refine rg 6 ?_; refine oMv ?_; refine oAs ?_; refine oAs ?_; refine oN ?_) | refine gc ?_ | refine ct ?_ | refine cf ?_ | refine swp_cond rfl (fun hc => ?_) (fun hc => ?_) | refine rq rfl (rt (rt .nil)) ?_)
      rfl
    | false =>
      rw [hi] at c2
      rw [if_neg (by simp)]
      repeat' (first | (refine rg 0 ?_; refine oAs ?_; refine oAs ?_; refine oN ?_) | (refine rg 1 ?_; refine oC (c0) rfl .nil ?_; refine oMv ?_; (first | refine oC (c0) rfl (ac (ac .nil)) ?_ | refine oC (c1) rfl (ac (ac .nil)) ?_); refine oMv ?_; refine oEx ?_; refine oEx ?_; refine sal str45 ?_; refine oS ?_; refine oAs ?_; refine oN ?_) | (refine rg 2 ?_; refine oFb ?_; refine oLb ?_; refine oCm ?_; refine oAs ?_; refine oN ?_) | (refine rg 4 ?_; (refine sp (po_load_bx_agg rfl rfl (tyT rfl) rfl (vc (vc (vc (vc (vc (vc (vc .nil))))))) rfl) ?_); (first | refine oC (c0) rfl (ac .nil) ?_ | refine oC (c1) rfl (ac .nil) ?_ | refine oC (c2) rfl (ac .nil) ?_); refine sp (po_not rfl rfl) ?_; refine oAs ?_; refine oN ?_) | (refine rg 5 ?_; refine oAs ?_; refine oAs ?_; refine oN ?_) | refine gc ?_ | refine ct ?_ | refine cf ?_ | refine swp_cond rfl (fun hc => ?_) (fun hc => ?_) | refine rq rfl (rt (rt .nil)) ?_)
      rfl
  · rw [if_pos he]
    have e1 : (!decide (q.err = 0)) = true := by rw [decide_eq_false he]; rfl
    repeat' (first | (refine rg 0 ?_; refine oAs ?_; refine oAs ?_; refine oN ?_) | (refine rg 1 ?_; refine oC (c0) rfl .nil ?_; refine oMv ?_; (first | refine oC (c0) rfl (ac (ac .nil)) ?_ | refine oC (c1) rfl (ac (ac .nil)) ?_); refine oMv ?_; refine oEx ?_; refine oEx ?_; refine sal str45 ?_; refine oS ?_; refine oAs ?_; refine oN ?_) | (refine rg 2 ?_; refine oFb ?_; refine oLb ?_; refine oCm ?_; refine oAs ?_; refine oN ?_) | (refine rd 3 ?_; refine dFb ?_; refine dLb ?_; refine dAs ?_; refine dAs ?_; refine dN ?_; refine oN ?_) | refine gc ?_ | refine ct ?_ | refine cf ?_ | refine swp_cond rfl (fun hc => ?_) (fun hc => ?_) | refine rq rfl (rt (rt .nil)) ?_)
    unfold rawsT; rw [if_neg he]; rfl
end Go.Proofs.YtpncekdhigappaaGreatDoor.Rq

/- A message's bytes, and that they are read back as it; plain. -/
namespace Go.Proofs.YtpncekdhigappaaGreatDoor.Rq
set_option linter.unusedVariables false
set_option linter.unusedSimpArgs false
open Go.RowKit Mem Sim Opn Hd Str
abbrev crlf : ByteArray := ⟨#[13, 10]⟩
def oddR (c : Nat) : Bool := decide (c < 32) || decide (126 < c)
def oddB (b : UInt8) : Bool := oddR b.toNat
def evenB (b : UInt8) : Bool := !oddB b
def plainP (s : ByteArray) : Bool := s.toList.all evenB
def fitsP (l : List Pl.Head) (b : List UInt8) : Bool := decide ((fram l).2 = 0) && mayL l && decide (b.length ≤ 1024) && (decide ((fram l).1.chunked = 1) || decide ((b.length : Int) = (fram l).1.length))
def wL (r : PRaw) (k : Nat) : List UInt8 := (r.start ++ crlf).toList ++ ((r.heads.take k).flatMap fun h => (lineS h ++ crlf).toList)
theorem wL_succ (r : PRaw) {k : Nat} (hk : k < r.heads.length) : wL r (k + 1) = wL r k ++ (lineS r.heads[k] ++ crlf).toList := by
  unfold wL
  rw [List.take_succ_eq_append_getElem hk, List.flatMap_append, List.append_assoc]; simp
theorem lineS_size {h : Pl.Head} (hg : good h = true) : (lineS h).size ≤ 578 := by
  unfold good at hg
  simp only [Bool.and_eq_true] at hg
  have h1 := mayName_size hg.1
  have h2 := mayValue_size hg.2
  have h3 : (⟨#[58, 32]⟩ : ByteArray).size = 2 := rfl
  unfold lineS
  rw [ByteArray.size_append, ByteArray.size_append, h3]; omega
theorem wL_len (r : PRaw) (hg : ∀ h ∈ r.heads, good h = true) (hs : r.start.size ≤ 578) : ∀ k, k ≤ r.heads.length → (wL r k).length ≤ 600 + 600 * k
  | 0, _ => by
    unfold wL
    have h3 : crlf.size = 2 := rfl
    simp only [List.take_zero, List.flatMap_nil, List.append_nil, toList_len, ByteArray.size_append, h3]; omega
  | k + 1, hk => by
    have ih := wL_len r hg hs k (by omega)
    have h3 : crlf.size = 2 := rfl
    have h4 := lineS_size (hg r.heads[k] (List.getElem_mem _))
    rw [wL_succ r (by omega), List.length_append, toList_len, ByteArray.size_append, h3]; omega
def hexC (n : Nat) : UInt8 := if n % 16 < 10 then UInt8.ofNat (48 + n % 16) else UInt8.ofNat (87 + n % 16)
def hexK (n : Nat) : Nat → List UInt8
  | 0 => []
  | k + 1 => hexC (n / 16 ^ k) :: hexK n k
theorem hexK_len (n : Nat) : ∀ k, (hexK n k).length = k
  | 0 => rfl
  | k + 1 => by unfold hexK; rw [List.length_cons, hexK_len n k]
def hm (n : Nat) : Nat := if n = 0 then 0 else if n ≤ 15 then 1 else if n ≤ 255 then 2 else 3
def hexL (n : Nat) : List UInt8 := hexK n (hm n)
def clean (c : UInt8) : Bool := decide (c.toNat ≠ 10) && decide (c.toNat ≠ 13)
theorem hex_all : (List.range 1025).all (fun n => decide (n = 0) || (decide (sizeP (bs (hexL n)) = (n : Int)) && (hexL n).all clean)) = true := by kernel_rfl
theorem hex_at {n : Nat} (h0 : n ≠ 0) (h : n ≤ 1024) : sizeP (bs (hexL n)) = (n : Int) ∧ (hexL n).all clean = true := by
  have := (List.all_eq_true.1 hex_all) n (List.mem_range.2 (by omega))
  simp only [Bool.or_eq_true, Bool.and_eq_true, decide_eq_true_eq] at this
  rcases this with h1 | h1
  · exact absurd h1 h0
  · exact h1
theorem hm_3 (n : Nat) : hm n ≤ 3 := by unfold hm; repeat' split <;> try omega
def tailL (ch : Int) (b : List UInt8) : List UInt8 := if ch = 0 then b else (if b = [] then [] else hexL b.length ++ [13, 10] ++ b ++ [13, 10]) ++ [48, 13, 10, 13, 10]
/-- a message's bytes -/
def msgP (r : PRaw) : List UInt8 := wL r r.heads.length ++ [13, 10] ++ tailL (fram r.heads).1.chunked r.body
/-- may a message be written -/
def wrP (r : PRaw) : Bool := plainP r.start && decide (1 ≤ r.start.size) && decide (r.start.size ≤ 578) && fitsP r.heads r.body
theorem feedP_app (r : PRd) (a b : List UInt8) : feedP r (a ++ b) = feedP (feedP r a) b := by unfold feedP; rw [List.foldl_append]
theorem crP_snoc (l : List UInt8) (c : UInt8) : crP (l ++ [c]) = decide (c.toNat = 13) := by unfold crP; simp
theorem clean_iff {c : UInt8} (h : clean c = true) : c.toNat ≠ 10 ∧ c.toNat ≠ 13 := by
  unfold clean at h
  simpa only [Bool.and_eq_true, decide_eq_true_eq] using h
theorem byte_take (r : PRd) (he : r.err = 0) (h2 : r.phase ≠ 2) (h4 : r.phase ≠ 4) (c : UInt8) : byteP r c = takeP r c := by
  unfold byteP
  rw [if_neg (by simp [he]), if_pos ⟨h2, h4⟩]
theorem feed_text (r : PRd) (he : r.err = 0) (h2 : r.phase ≠ 2) (h4 : r.phase ≠ 4) : ∀ (s acc : List UInt8), s.all clean = true → crP acc = false → acc.length + s.length ≤ 578 → feedP { r with line := acc } s = { r with line := acc ++ s }
  | [], acc, _, _, _ => by simp [feedP]
  | c :: s, acc, hs, hc, hl => by
    rw [List.all_cons, Bool.and_eq_true] at hs
    obtain ⟨h10, h13⟩ := clean_iff hs.1
    rw [List.length_cons] at hl
    have e1 : byteP { r with line := acc } c = { r with line := acc ++ [c] } := by
      rw [byte_take { r with line := acc } he h2 h4]
      unfold takeP
      have hx : ¬ (578 ≤ acc.length) := by omega
      simp [h10, hc, hx]
    have ih := feed_text r he h2 h4 s (acc ++ [c]) hs.2 (by rw [crP_snoc]; simp [h13]) (by rw [List.length_append]; simp; omega)
    show feedP (byteP { r with line := acc } c) s = _
    rw [e1, ih, List.append_assoc]; rfl
theorem feed_line (r : PRd) (he : r.err = 0) (h2 : r.phase ≠ 2) (h4 : r.phase ≠ 4) (hl : r.line = []) (s : List UInt8) (hs : s.all clean = true) (hn : s.length ≤ 578) : feedP r (s ++ [13, 10]) = lineP r (bs s) := by
  obtain ⟨ph, ln, raw, left, err, out⟩ := r
  simp only at he h2 h4 hl
  subst he hl
  rw [feedP_app]
  have h1 := feed_text ⟨ph, [], raw, left, 0, out⟩ rfl h2 h4 s [] hs rfl (by simpa using hn)
  simp only [List.nil_append] at h1
  rw [h1]
  have hcs : crP s = false := by
    rcases List.eq_nil_or_concat s with rfl | ⟨t, c, rfl⟩
    · rfl
    · rw [List.concat_eq_append] at hs ⊢
      rw [crP_snoc]
      rw [List.all_append, Bool.and_eq_true] at hs
      have := (clean_iff (by simpa using hs.2)).2
      simp [this]
  show byteP (byteP ⟨ph, s, raw, left, 0, out⟩ 13) 10 = _
  have e1 : byteP ⟨ph, s, raw, left, 0, out⟩ 13 = ⟨ph, s ++ [13], raw, left, 0, out⟩ := by
    rw [byte_take _ rfl h2 h4]
    unfold takeP
    simp [hcs]
  rw [e1, byte_take _ rfl h2 h4]
  unfold takeP
  rw [if_pos ⟨rfl, by rw [crP_snoc]; rfl⟩, List.dropLast_concat]
theorem even_clean {c : UInt8} (h : evenB c = true) : clean c = true := by
  unfold evenB oddB oddR at h
  simp at h
  unfold clean
  simp; omega
theorem plain_clean {s : ByteArray} (h : plainP s = true) : s.toList.all clean = true := List.all_eq_true.2 fun c hc => even_clean ((List.all_eq_true.1 h) c hc)
theorem tok_clean : tokL.all clean = true := by decide
theorem inB_mem {cs : List UInt8} {b : UInt8} (h : inB cs b = true) : b ∈ cs := by
  unfold inB at h
  obtain ⟨x, hx, he⟩ := List.any_eq_true.1 h
  have : x = b := UInt8.toNat_inj.1 (by simpa using he)
  exact this ▸ hx
theorem value_clean {v : List UInt8} (h : mayValueL v = true) : v.all clean = true := by
  unfold mayValueL at h
  rw [Bool.and_eq_true] at h
  refine List.all_eq_true.2 fun c hc => ?_
  obtain ⟨i, hi, rfl⟩ := List.getElem_of_mem hc
  have h1 := (List.all_eq_true.1 h.1) i (List.mem_range.2 hi)
  rw [List.getD_eq_getElem?_getD, List.getElem?_eq_getElem hi] at h1
  simp [vcN] at h1
  unfold clean
  simp; omega
theorem line_clean {h : Pl.Head} (hg : good h = true) : (lineS h).toList.all clean = true := by
  obtain ⟨hn, hv⟩ := good_lists hg
  rw [line_list, bs_toList, List.all_append, Bool.and_eq_true]
  refine ⟨List.all_eq_true.2 fun c hc => (List.all_eq_true.1 tok_clean) c (inB_mem (name_toks hn c hc)), ?_⟩
  rw [List.all_cons, Bool.and_eq_true]
  refine ⟨rfl, ?_⟩
  rw [List.append_nil, List.all_append, Bool.and_eq_true]
  exact ⟨rfl, value_clean hv⟩
theorem bs_list (s : ByteArray) : bs s.toList = s := bs_inj (by rw [bs_toList])
/-- a state behind k headers -/
def hst (o : List PRaw) (r : PRaw) (k : Nat) : PRd := ⟨1, [], ⟨r.start, r.heads.take k, []⟩, 0, 0, o⟩
def idl (o : List PRaw) : PRd := ⟨0, [], raw0, 0, 0, o⟩
theorem crlf_list (s : ByteArray) : (s ++ crlf).toList = s.toList ++ [13, 10] := by
  rw [toList_append]
  exact congrArg (s.toList ++ ·) (bs_toList [13, 10])
theorem feed_heads (o : List PRaw) (r : PRaw) (hp : plainP r.start = true) (h1 : 1 ≤ r.start.size) (hs : r.start.size ≤ 578) (hg : ∀ h ∈ r.heads, good h = true) (h24 : r.heads.length ≤ 24) : ∀ k, k ≤ r.heads.length → feedP (idl o) (wL r k) = hst o r k
  | 0, _ => by
    have e : wL r 0 = r.start.toList ++ [13, 10] := by
      unfold wL
      rw [List.take_zero, List.flatMap_nil, List.append_nil, crlf_list]
    rw [e, feed_line (idl o) rfl (by unfold idl; simp) (by unfold idl; simp) rfl r.start.toList (plain_clean hp) (by rw [toList_len]; exact hs), bs_list]
    rfl
  | k + 1, hk => by
    have hgk := hg r.heads[k] (List.getElem_mem _)
    rw [wL_succ r (by omega), feedP_app, feed_heads o r hp h1 hs hg h24 k (by omega), crlf_list]
    rw [feed_line (hst o r k) rfl (by unfold hst; simp) (by unfold hst; simp) rfl _ (line_clean hgk) (by rw [toList_len]; exact lineS_size hgk), bs_list]
    have hne : lineS r.heads[k] ≠ ⟨#[]⟩ := by
      intro h
      have h2 := congrArg ByteArray.size h
      unfold lineS at h2
      have h3 : (⟨#[58, 32]⟩ : ByteArray).size = 2 := rfl
      have h4 : (⟨#[]⟩ : ByteArray).size = 0 := rfl
      rw [ByteArray.size_append, ByteArray.size_append, h3, h4] at h2; omega
    show headerP (hst o r k) (lineS r.heads[k]) = _
    unfold headerP
    rw [if_neg hne, read_back hgk, if_neg (by simp), if_pos hgk]
    have hlen : (hst o r k).raw.heads.length < 24 := by unfold hst; simp; omega
    rw [if_pos hlen]
    unfold hst
    rw [List.take_succ_eq_append_getElem (by omega)]
theorem feed_body : ∀ (b : List UInt8) (r : PRd), r.err = 0 → (r.phase = 2 ∨ r.phase = 4) → b ≠ [] → r.left = (b.length : Int) → feedP r b = if r.phase = 2 then ⟨0, [], raw0, 0, 0, r.out ++ [{ r.raw with body := r.raw.body ++ b }]⟩ else { r with raw := { r.raw with body := r.raw.body ++ b }, phase := 5, left := 0 }
  | [], _, _, _, hb, _ => absurd rfl hb
  | c :: b, r, he, hp, _, hl => by
    have e1 : byteP r c = bodyByte r c := by
      unfold byteP
      rw [if_neg (by simp [he]), if_neg (by omega)]
    show feedP (byteP r c) b = _
    rw [e1, bodyByte_eq]
    rw [List.length_cons] at hl
    have hl1 : (bodyR r c).left = (b.length : Int) := by show r.left - 1 = _; omega
    rw [hl1]
    cases b with
    | nil =>
      rw [if_neg (by simp)]
      by_cases h2 : r.phase = 2
      · rw [if_pos (show (bodyR r c).phase = 2 from h2), if_pos h2]; rfl
      · rw [if_neg (show ¬ (bodyR r c).phase = 2 from h2), if_neg h2]; rfl
    | cons d b =>
      rw [if_pos (by rw [List.length_cons]; omega)]
      have ih := feed_body (d :: b) (bodyR r c) he hp (by simp) hl1
      rw [ih]
      have e2 : (bodyR r c).raw.body ++ d :: b = r.raw.body ++ c :: d :: b := by show r.raw.body ++ [c] ++ d :: b = _; simp
      rw [e2]; rfl
theorem msg_back (r : PRaw) (hw : wrP r = true) (o : List PRaw) : feedP (idl o) (msgP r) = idl (o ++ [r]) := by
  unfold wrP fitsP at hw
  simp only [Bool.and_eq_true, decide_eq_true_eq, Bool.or_eq_true] at hw
  obtain ⟨⟨⟨hp, h1⟩, hs⟩, ⟨⟨hf, hm⟩, hb⟩, hlen⟩ := hw
  have hm' := hm
  unfold mayL at hm'
  simp only [Bool.and_eq_true, decide_eq_true_eq] at hm'
  have hg := fun h hh => (List.all_eq_true.1 hm'.2) h hh
  unfold msgP
  rw [feedP_app, feedP_app, feed_heads o r hp h1 hs hg hm'.1 _ (Nat.le_refl _)]
  have e0 : feedP (hst o r r.heads.length) [13, 10] = bodyP (hst o r r.heads.length) := by
    have := feed_line (hst o r r.heads.length) rfl (by unfold hst; simp) (by unfold hst; simp) rfl [] rfl (by simp)
    simp only [List.nil_append] at this
    rw [this]; rfl
  rw [e0]
  have eh : (hst o r r.heads.length).raw = ⟨r.start, r.heads, []⟩ := by unfold hst; rw [List.take_length]
  have er : hst o r r.heads.length = ⟨1, [], ⟨r.start, r.heads, []⟩, 0, 0, o⟩ := by unfold hst; rw [List.take_length]
  rw [er]
  unfold bodyP
  simp only [hf]
  rw [if_neg (by simp)]
  rcases fram_ch r.heads with hc | hc
  · rw [hc] at hlen ⊢
    have hl : (r.body.length : Int) = (fram r.heads).1.length := by rcases hlen with h | h; · cases h
                                                                    · exact h
    rw [if_neg (by decide)]
    unfold tailL
    rw [if_pos rfl]
    by_cases h0 : (fram r.heads).1.length = 0
    · rw [if_pos h0]
      have : r.body = [] := List.eq_nil_of_length_eq_zero (by omega)
      obtain ⟨rs, rh, rb⟩ := r
      simp only at this; subst this
      rfl
    · rw [if_neg h0]
      have hne : r.body ≠ [] := by intro h; rw [h] at hl; simp at hl; omega
      rw [feed_body r.body _ rfl (.inl rfl) hne hl.symm, if_pos rfl]
      rfl
  · rw [hc] at ⊢
    rw [if_pos rfl]
    unfold tailL
    rw [if_neg (by decide), feedP_app]
    have last : ∀ b, feedP ⟨3, [], ⟨r.start, r.heads, b⟩, 0, 0, o⟩ [48, 13, 10, 13, 10] = idl (o ++ [⟨r.start, r.heads, b⟩]) := by
      intro b
      have q1 := feed_line ⟨3, [], ⟨r.start, r.heads, b⟩, 0, 0, o⟩ rfl (by simp) (by simp) rfl [48] (by decide) (by decide)
      have q2 := feed_line ⟨6, [], ⟨r.start, r.heads, b⟩, 0, 0, o⟩ rfl (by simp) (by simp) rfl [] (by decide) (by decide)
      have : ([48, 13, 10, 13, 10] : List UInt8) = ([48] ++ [13, 10]) ++ ([] ++ [13, 10]) := rfl
      rw [this, feedP_app, q1]
      have z : sizeP (bs [48]) = 0 := by kernel_rfl
      have e3 : lineP ⟨3, [], ⟨r.start, r.heads, b⟩, 0, 0, o⟩ (bs [48]) = ⟨6, [], ⟨r.start, r.heads, b⟩, 0, 0, o⟩ := by
        unfold lineP
        rw [if_neg (by simp), if_neg (by simp), if_pos rfl]
        unfold chunkP
        rw [z, if_neg (by decide), if_pos rfl]
      rw [e3, q2]
      rfl
    by_cases hne : r.body = []
    · rw [if_pos hne]
      have := last []
      show feedP ⟨3, [], ⟨r.start, r.heads, []⟩, 0, 0, o⟩ _ = _
      rw [this]
      obtain ⟨rs, rh, rb⟩ := r
      simp only at hne; subst hne
      rfl
    · rw [if_neg hne]
      have hn0 : r.body.length ≠ 0 := fun h => hne (List.eq_nil_of_length_eq_zero h)
      obtain ⟨hz, hcl⟩ := hex_at hn0 hb
      have q1 := feed_line ⟨3, [], ⟨r.start, r.heads, []⟩, 0, 0, o⟩ rfl (by simp) (by simp) rfl (hexL r.body.length) hcl (by unfold hexL; rw [hexK_len]; have := hm_3 r.body.length; omega)
      have q2 := feed_line ⟨5, [], ⟨r.start, r.heads, r.body⟩, 0, 0, o⟩ rfl (by simp) (by simp) rfl [] (by decide) (by decide)
      rw [List.append_assoc, feedP_app]
      have e3 : feedP (feedP ⟨3, [], ⟨r.start, r.heads, []⟩, 0, 0, o⟩ (hexL r.body.length ++ [13, 10])) (r.body ++ [13, 10]) = ⟨3, [], ⟨r.start, r.heads, r.body⟩, 0, 0, o⟩ := by
        rw [q1, feedP_app]
        have e4 : lineP ⟨3, [], ⟨r.start, r.heads, []⟩, 0, 0, o⟩ (bs (hexL r.body.length)) = ⟨4, [], ⟨r.start, r.heads, []⟩, (r.body.length : Int), 0, o⟩ := by
          unfold lineP
          rw [if_neg (by simp), if_neg (by simp), if_pos rfl]
          unfold chunkP
          rw [hz, if_neg (by omega), if_neg (by omega), if_neg (by simp; omega)]
        rw [e4, feed_body r.body _ rfl (.inr rfl) hne rfl, if_neg (by simp)]
        exact q2
      show feedP (feedP (feedP ⟨3, [], ⟨r.start, r.heads, []⟩, 0, 0, o⟩ _) _) _ = _
      rw [e3, last r.body]
end Go.Proofs.YtpncekdhigappaaGreatDoor.Rq

/- Answers: whether they may be; digits; walks. -/
namespace Go.Proofs.YtpncekdhigappaaGreatDoor.An
set_option linter.unusedVariables false
set_option linter.unusedSimpArgs false
open Go.RowKit Mem Sim Opn Hd Str Rq
set_option maxRecDepth 100000 in
set_option maxHeartbeats 2000000 in
theorem rfits_ (s : ByteArray) (l : List Pl.Head) (hn : l.length ≤ 1000) (hh : ∀ h ∈ l, okHead h) (b : List UInt8) (hb : b.length ≤ 100000) : PCalls Tryz.prog 84 [.agg (rawT ⟨s, l, b⟩)] (.v (.bool (fitsP l b))) := by
  have hm2 : (b.map byteT).length = b.length := List.length_map _
  have c1 := framing_ l hn hh
  have c2 := Hd.mayL_ l hn hh
  unfold framT endT at c1
  unfold fitsP rawT
  generalize (fram l).2 = e at *
  generalize (fram l).1 = f at *
  have hlast : decide (((b.map byteT).length : Int) = f.length) = decide ((b.length : Int) = f.length) := by rw [hm2]
  refine pcalls_of Tryz.func84 rfl rfl Tryz.ntmps84 rfl ?_
  by_cases he : e = 0
  · rw [decide_eq_true he]
    cases hmy : Hd.mayL l with
    | false =>
      rw [hmy] at c2
      repeat' (first | (refine rg 0 ?_; refine sbx ?_; refine oAs ?_; refine oN ?_) | (refine rg 1 ?_; refine oFb ?_; refine oLb ?_; refine oC (c1) rfl (ac .nil) ?_; refine oMv ?_; refine oEx ?_; refine oEx ?_; refine sal str100 ?_; refine oS ?_; refine oAs ?_; refine oN ?_) | (refine rg 2 ?_; refine oMv ?_; refine oCm ?_; refine oMv ?_; refine oFb ?_ <;> refine oLb ?_ <;> (first | refine oC (c1) rfl (ac .nil) ?_ | refine oC (c2) rfl (ac .nil) ?_) <;> refine oPt ?_ <;> refine oMv ?_ <;> (first | refine oFb ?_ | refine oFd ?_ | refine oK ?_) <;> (first | refine oLb ?_ | refine oLd ?_ | refine oK ?_) <;> (first | refine sp (pln rfl (tyS rfl)) ?_ | refine oK ?_) <;> (first | refine oCm ?_ | refine oK ?_) <;> (first | refine oPt ?_ | refine oPf ?_) <;> refine oMv ?_ <;> (first | refine oFb ?_ | refine oFd ?_ | refine oK ?_) <;> (first | refine oLb ?_ | refine oLd ?_ | refine oK ?_) <;> (first | refine oCm ?_ | refine oK ?_) <;> (first | refine oMv ?_ | refine oK ?_) <;> (first | refine oFb ?_ | refine oFd ?_ | refine oK ?_) <;> (first | refine oLb ?_ | refine oLd ?_ | refine oK ?_) <;> (first | refine sp (pln rfl (tyS rfl)) ?_ | refine oK ?_) <;> (first | refine oFb ?_ | refine oFd ?_ | refine oK ?_) <;> (first | refine oLb ?_ | refine oLd ?_ | refine oK ?_) <;> (first | refine oCm ?_ | refine oK ?_) <;> (first | refine oPt ?_ | refine oPf ?_ | refine oK ?_) <;> (first | refine oPt ?_ | refine oPf ?_) <;> refine oAs ?_ <;> refine oN ?_) | refine gc ?_ | refine ct ?_ | refine cf ?_ | refine swp_cond rfl (fun hc => ?_) (fun hc => ?_) | refine rq rfl (rt .nil) ?_)
      rfl
    | true =>
      rw [hmy] at c2
      by_cases hbl : b.length ≤ 1024
      · rw [decide_eq_true hbl]
        by_cases hc : f.chunked = 1
        · rw [decide_eq_true hc]
          repeat' (first | (refine rg 0 ?_; refine sbx ?_; refine oAs ?_; refine oN ?_) | (refine rg 1 ?_; refine oFb ?_; refine oLb ?_; refine oC (c1) rfl (ac .nil) ?_; refine oMv ?_; refine oEx ?_; refine oEx ?_; refine sal str100 ?_; refine oS ?_; refine oAs ?_; refine oN ?_) | (refine rg 2 ?_; refine oMv ?_; refine oCm ?_; refine oMv ?_; refine oFb ?_ <;> refine oLb ?_ <;> (first | refine oC (c1) rfl (ac .nil) ?_ | refine oC (c2) rfl (ac .nil) ?_) <;> refine oPt ?_ <;> refine oMv ?_ <;> refine oFb ?_ <;> refine oLb ?_ <;> refine sp (pln rfl (tyS rfl)) ?_ <;> refine oCm ?_ <;> refine oPt ?_ <;> refine oMv ?_ <;> refine oFb ?_ <;> refine oLb ?_ <;> refine oCm ?_ <;> refine oMv ?_ <;> (first | refine oFb ?_ | refine oFd ?_ | refine oK ?_) <;> (first | refine oLb ?_ | refine oLd ?_ | refine oK ?_) <;> (first | refine sp (pln rfl (tyS rfl)) ?_ | refine oK ?_) <;> (first | refine oFb ?_ | refine oFd ?_ | refine oK ?_) <;> (first | refine oLb ?_ | refine oLd ?_ | refine oK ?_) <;> (first | refine oCm ?_ | refine oK ?_) <;> refine oPt ?_ <;> refine oPt ?_ <;> refine oAs ?_ <;> refine oN ?_) | refine gc ?_ | refine ct ?_ | refine cf ?_ | refine swp_cond rfl (fun hc => ?_) (fun hc => ?_) | refine rq rfl (rt .nil) ?_)
          rfl
        · rw [decide_eq_false hc]
          repeat' (first | (refine rg 0 ?_; refine sbx ?_; refine oAs ?_; refine oN ?_) | (refine rg 1 ?_; refine oFb ?_; refine oLb ?_; refine oC (c1) rfl (ac .nil) ?_; refine oMv ?_; refine oEx ?_; refine oEx ?_; refine sal str100 ?_; refine oS ?_; refine oAs ?_; refine oN ?_) | (refine rg 2 ?_; refine oMv ?_; refine oCm ?_; refine oMv ?_; refine oFb ?_ <;> refine oLb ?_ <;> (first | refine oC (c1) rfl (ac .nil) ?_ | refine oC (c2) rfl (ac .nil) ?_) <;> refine oPt ?_ <;> refine oMv ?_ <;> refine oFb ?_ <;> refine oLb ?_ <;> refine sp (pln rfl (tyS rfl)) ?_ <;> refine oCm ?_ <;> refine oPt ?_ <;> refine oMv ?_ <;> refine oFb ?_ <;> refine oLb ?_ <;> refine oCm ?_ <;> refine oMv ?_ <;> refine oFb ?_ <;> refine oLb ?_ <;> refine sp (pln rfl (tyS rfl)) ?_ <;> refine oFb ?_ <;> refine oLb ?_ <;> refine oCm ?_ <;> (first | refine oPt ?_ | refine oPf ?_) <;> refine oPt ?_ <;> refine oAs ?_ <;> refine oN ?_) | refine gc ?_ | refine ct ?_ | refine cf ?_ | refine swp_cond rfl (fun hc => ?_) (fun hc => ?_) | refine rq rfl (rt .nil) ?_)
          rw [← hlast]; rfl
      · rw [decide_eq_false hbl]
        repeat' (first | (refine rg 0 ?_; refine sbx ?_; refine oAs ?_; refine oN ?_) | (refine rg 1 ?_; refine oFb ?_; refine oLb ?_; refine oC (c1) rfl (ac .nil) ?_; refine oMv ?_; refine oEx ?_; refine oEx ?_; refine sal str100 ?_; refine oS ?_; refine oAs ?_; refine oN ?_) | (refine rg 2 ?_; refine oMv ?_; refine oCm ?_; refine oMv ?_; refine oFb ?_ <;> refine oLb ?_ <;> (first | refine oC (c1) rfl (ac .nil) ?_ | refine oC (c2) rfl (ac .nil) ?_) <;> refine oPt ?_ <;> refine oMv ?_ <;> refine oFb ?_ <;> refine oLb ?_ <;> refine sp (pln rfl (tyS rfl)) ?_ <;> refine oCm ?_ <;> refine oPt ?_ <;> refine oMv ?_ <;> (first | refine oFb ?_ | refine oFd ?_ | refine oK ?_) <;> (first | refine oLb ?_ | refine oLd ?_ | refine oK ?_) <;> (first | refine oCm ?_ | refine oK ?_) <;> (first | refine oMv ?_ | refine oK ?_) <;> (first | refine oFb ?_ | refine oFd ?_ | refine oK ?_) <;> (first | refine oLb ?_ | refine oLd ?_ | refine oK ?_) <;> (first | refine sp (pln rfl (tyS rfl)) ?_ | refine oK ?_) <;> (first | refine oFb ?_ | refine oFd ?_ | refine oK ?_) <;> (first | refine oLb ?_ | refine oLd ?_ | refine oK ?_) <;> (first | refine oCm ?_ | refine oK ?_) <;> (first | refine oPt ?_ | refine oPf ?_ | refine oK ?_) <;> (first | refine oPt ?_ | refine oPf ?_) <;> refine oAs ?_ <;> refine oN ?_) | refine gc ?_ | refine ct ?_ | refine cf ?_ | refine swp_cond rfl (fun hc => ?_) (fun hc => ?_) | refine rq rfl (rt .nil) ?_)
        rfl
  · rw [decide_eq_false he]
    repeat' (first | (refine rg 0 ?_; refine sbx ?_; refine oAs ?_; refine oN ?_) | (refine rg 1 ?_; refine oFb ?_; refine oLb ?_; refine oC (c1) rfl (ac .nil) ?_; refine oMv ?_; refine oEx ?_; refine oEx ?_; refine sal str100 ?_; refine oS ?_; refine oAs ?_; refine oN ?_) | (refine rg 2 ?_; refine oMv ?_; refine oCm ?_; refine oMv ?_; (first | refine oFb ?_ | refine oFd ?_ | refine oK ?_) <;> (first | refine oLb ?_ | refine oLd ?_ | refine oK ?_) <;> (first | refine oC (c1) rfl (ac .nil) ?_ | refine oK ?_) <;> (first | refine oPt ?_ | refine oPf ?_) <;> refine oMv ?_ <;> (first | refine oFb ?_ | refine oFd ?_ | refine oK ?_) <;> (first | refine oLb ?_ | refine oLd ?_ | refine oK ?_) <;> (first | refine sp (pln rfl (tyS rfl)) ?_ | refine oK ?_) <;> (first | refine oCm ?_ | refine oK ?_) <;> (first | refine oPt ?_ | refine oPf ?_) <;> refine oMv ?_ <;> (first | refine oFb ?_ | refine oFd ?_ | refine oK ?_) <;> (first | refine oLb ?_ | refine oLd ?_ | refine oK ?_) <;> (first | refine oCm ?_ | refine oK ?_) <;> (first | refine oMv ?_ | refine oK ?_) <;> (first | refine oFb ?_ | refine oFd ?_ | refine oK ?_) <;> (first | refine oLb ?_ | refine oLd ?_ | refine oK ?_) <;> (first | refine sp (pln rfl (tyS rfl)) ?_ | refine oK ?_) <;> (first | refine oFb ?_ | refine oFd ?_ | refine oK ?_) <;> (first | refine oLb ?_ | refine oLd ?_ | refine oK ?_) <;> (first | refine oCm ?_ | refine oK ?_) <;> (first | refine oPt ?_ | refine oPf ?_ | refine oK ?_) <;> (first | refine oPt ?_ | refine oPf ?_) <;> refine oAs ?_ <;> refine oN ?_) | refine gc ?_ | refine ct ?_ | refine cf ?_ | refine swp_cond rfl (fun hc => ?_) (fun hc => ?_) | refine rq rfl (rt .nil) ?_)
    rfl
end Go.Proofs.YtpncekdhigappaaGreatDoor.An

/- Answers: digits; what a code is called; walks. -/
namespace Go.Proofs.YtpncekdhigappaaGreatDoor.An
set_option linter.unusedVariables false
set_option linter.unusedSimpArgs false
open Go.RowKit Mem Sim Opn Hd Str Rq
theorem bs_appA (a b : List UInt8) : bs a ++ bs b = bs (a ++ b) := by
  refine bs_inj ?_
  rw [toList_append, bs_toList, bs_toList, bs_toList]
theorem bs_one (c : UInt8) (l : List UInt8) : bs [c] ++ bs l = bs (c :: l) := by
  have := bs_appA [c] l
  exact this
theorem po_quoN {P : Program} {bx : List (Nat × List A)} {ow : List (Nat × Own)} {o : Oper} {ρ : Operand → Option A} {t t2 : TypeId} {x y : Operand} {m d : Nat} (ho : o.op = .binOp .quo t x y t2) (hx : ρ x = some (.t (.v (.int .i64 (m : Int))))) (hy : ρ y = some (.t (.v (.int .i64 (d : Int))))) (hd : d ≠ 0) (hm : m ≤ 1000000) : PureOp P bx ow o ρ (.t (.v (.int .i64 ((m / d : Nat) : Int)))) := by
  have h := po_quo (P := P) (bx := bx) (ow := ow) ho hx hy (by omega)
  have e : IntKind.i64.wrap ((m : Int).tdiv (d : Int)) = ((m / d : Nat) : Int) := by
    rw [← Int.ofNat_tdiv]
    have := Nat.div_le_self m d
    generalize m / d = z at *
    exact wrap_i64 (by omega)
  rw [e] at h; exact h
end Go.Proofs.YtpncekdhigappaaGreatDoor.An

/- Headers, answers, messages: whether two are the same; walks. -/
namespace Go.Proofs.YtpncekdhigappaaGreatDoor.An
set_option linter.unusedVariables false
set_option linter.unusedSimpArgs false
open Go.RowKit Mem Sim Opn Hd Str Rq
instance decHead : DecidableEq Pl.Head := fun a b => if h : heqB a b = true then .isTrue ((heqB_iff a b).1 h) else .isFalse fun e => h ((heqB_iff a b).2 e)
theorem heads_take {a b : List Pl.Head} (hl : a.length = b.length) (h : a.take a.length = b.take a.length) : a = b := by
  rw [List.take_length, hl, List.take_length] at h; exact h
theorem ne_at {a b : List Pl.Head} {k : Nat} (h1 : k < a.length) (h2 : k < b.length) (h : ¬ a[k] = b[k]) : ¬ a = b := fun e => h (by subst e; rfl)
theorem ne_len {a b : List Pl.Head} (h : ¬ a.length = b.length) : ¬ a = b := fun e => h (by rw [e])
set_option maxRecDepth 100000 in
set_option maxHeartbeats 2000000 in
theorem refSameG_ (a b : List Pl.Head) (ha : a.length ≤ 1000) : PCalls Tryz.prog 60 [headsT a, headsT b] (.v (.bool (decide (a = b)))) := by
  have hma : (a.map headT).length = a.length := List.length_map _
  have hmb : (b.map headT).length = b.length := List.length_map _
  refine pcalls_of Tryz.func60 rfl rfl Tryz.ntmps60 rfl ?_
  by_cases hl : a.length = b.length
  · have h0 : (!decide (((a.map headT).length : Int) = ((b.map headT).length : Int))) = false := by rw [hma, hmb, hl]; simp
    repeat' (first | (refine rg 0 ?_; refine oAs ?_; refine oN ?_) | (refine rg 1 ?_; refine oMv ?_; refine sp (pln rfl (tyS rfl)) ?_; refine oMv ?_; refine sp (pln rfl (tyS rfl)) ?_; refine oCm ?_; refine oN ?_) | (refine rg 3 ?_; refine oAs ?_; refine oN ?_) | refine gc ?_ | refine ct ?_ | refine cf ?_ | refine swp_cond rfl (fun hc => ?_) (fun hc => ?_) | refine rq rfl (rt .nil) ?_)
    refine swp_for (fun k => ⟨[(0, .t (headsT a)), (1, .t (headsT b)), (5, .t (.v (.int .i64 (k : Int))))], [], []⟩) (fun k => a.take k = b.take k) a.length (weak_sub (.cons rfl rfl rfl (.cons rfl rfl rfl (.cons rfl rfl rfl .nil))) .nil .nil) rfl ?_
    intro k hk hI
    by_cases hlt : k < a.length
    · have hltb : k < b.length := by omega
      by_cases he : a[k] = b[k]
      · have hq : (!heqB a[k] b[k]) = false := by rw [(heqB_iff _ _).2 he]; rfl
        repeat' (first | refine for_next hlt (weak_sub (.cons rfl rfl rfl (.cons rfl rfl rfl (.cons rfl rfl rfl .nil))) .nil .nil) (take_eq_allH hlt hltb hI he) | (refine rg 4 ?_; refine oMv ?_; refine oMv ?_; refine sp (pln rfl (tyS rfl)) ?_; (first | refine sp (po_ex2 rfl rfl rfl (head_Ex a[k]) (head_Ex b[k]) (hne_run false _ _ hq)) ?_ | refine oCm ?_); refine oN ?_) | (refine rd 6 ?_; refine dMv ?_; refine dMv ?_; refine dp (pix rfl (tyS rfl)) ?_; (first | refine dp (po_load_bx_agg rfl rfl (tyT rfl) rfl (vc (vc .nil)) rfl) ?_ | refine dp (po_load_agg rfl rfl (tyT rfl) rfl rfl) ?_); refine dMv ?_; refine dMv ?_; refine dp (pix rfl (tyS rfl)) ?_; (first | refine dp (po_load_bx_agg rfl rfl (tyT rfl) rfl (vc (vc .nil)) rfl) ?_ | refine dp (po_load_agg rfl rfl (tyT rfl) rfl rfl) ?_); refine dp (po_ex2 rfl rfl rfl (head_Ex a[k]) (head_Ex b[k]) (hne_run false _ _ hq)) ?_; refine dN ?_; refine oN ?_) | (refine rg 5 ?_; refine oMv ?_; refine sp (xinc rfl) ?_; refine oAs ?_; refine oN ?_) | refine gc ?_ | refine ct ?_ | refine cf ?_)
      · have hq : (!heqB a[k] b[k]) = true := by
          have : heqB a[k] b[k] = false := by
            cases h : heqB a[k] b[k] with
            | false => rfl
            | true => exact absurd ((heqB_iff _ _).1 h) he
          rw [this]; rfl
        rw [decide_eq_false (ne_at hlt hltb he)]
        repeat' (first | (refine rg 4 ?_; refine oMv ?_; refine oMv ?_; refine sp (pln rfl (tyS rfl)) ?_; (first | refine sp (po_ex2 rfl rfl rfl (head_Ex a[k]) (head_Ex b[k]) (hne_run true _ _ hq)) ?_ | refine oCm ?_); refine oN ?_) | (refine rd 6 ?_; refine dMv ?_; refine dMv ?_; refine dp (pix rfl (tyS rfl)) ?_; (first | refine dp (po_load_bx_agg rfl rfl (tyT rfl) rfl (vc (vc .nil)) rfl) ?_ | refine dp (po_load_agg rfl rfl (tyT rfl) rfl rfl) ?_); refine dMv ?_; refine dMv ?_; refine dp (pix rfl (tyS rfl)) ?_; (first | refine dp (po_load_bx_agg rfl rfl (tyT rfl) rfl (vc (vc .nil)) rfl) ?_ | refine dp (po_load_agg rfl rfl (tyT rfl) rfl rfl) ?_); refine dp (po_ex2 rfl rfl rfl (head_Ex a[k]) (head_Ex b[k]) (hne_run true _ _ hq)) ?_; refine dN ?_; refine oN ?_) | (refine rg 7 ?_; refine oAs ?_; refine oN ?_) | refine gc ?_ | refine ct ?_ | refine cf ?_ | refine swp_cond rfl (fun hc => ?_) (fun hc => ?_) | refine rq rfl (rt .nil) ?_)
        rfl
    · obtain rfl : k = a.length := by omega
      rw [decide_eq_true (heads_take hl hI)]
      repeat' (first | (refine rg 4 ?_; refine oMv ?_; refine oMv ?_; refine sp (pln rfl (tyS rfl)) ?_; refine oCm ?_; refine oN ?_) | (refine rg 8 ?_; refine oAs ?_; refine oN ?_) | refine gc ?_ | refine ct ?_ | refine cf ?_ | refine swp_cond rfl (fun hc => ?_) (fun hc => ?_) | refine rq rfl (rt .nil) ?_)
      rfl
  · have h0 : (!decide (((a.map headT).length : Int) = ((b.map headT).length : Int))) = true := by rw [hma, hmb, decide_eq_false (by omega)]; rfl
    rw [decide_eq_false (ne_len hl)]
    repeat' (first | (refine rg 0 ?_; refine oAs ?_; refine oN ?_) | (refine rg 1 ?_; refine oMv ?_; refine sp (pln rfl (tyS rfl)) ?_; refine oMv ?_; refine sp (pln rfl (tyS rfl)) ?_; refine oCm ?_; refine oN ?_) | (refine rg 2 ?_; refine oAs ?_; refine oN ?_) | refine gc ?_ | refine ct ?_ | refine cf ?_ | refine swp_cond rfl (fun hc => ?_) (fun hc => ?_) | refine rq rfl (rt .nil) ?_)
    rfl
set_option maxRecDepth 100000 in
set_option maxHeartbeats 2000000 in
theorem equalH_ (a b : List Pl.Head) (ha : a.length ≤ 1000) : PCalls Tryz.prog 64 [headsT a, headsT b] (.v (.bool (decide (a = b)))) := by
  have hma : (a.map headT).length = a.length := List.length_map _
  have hmb : (b.map headT).length = b.length := List.length_map _
  refine pcalls_of Tryz.func64 rfl rfl Tryz.ntmps64 rfl ?_
  by_cases hl : a.length = b.length
  · have h0 : (!decide (((a.map headT).length : Int) = ((b.map headT).length : Int))) = false := by rw [hma, hmb, hl]; simp
    repeat' (first | (refine rg 0 ?_; refine oAs ?_; refine oN ?_) | (refine rg 1 ?_; refine oMv ?_; refine sp (pln rfl (tyS rfl)) ?_; refine oMv ?_; refine sp (pln rfl (tyS rfl)) ?_; refine oCm ?_; refine oN ?_) | (refine rg 3 ?_; refine oMv ?_; refine sp (pln rfl (tyS rfl)) ?_; refine oMv ?_; refine oN ?_) | refine gc ?_ | refine ct ?_ | refine cf ?_ | refine swp_cond rfl (fun hc => ?_) (fun hc => ?_) | refine rq rfl (rt .nil) ?_)
    refine swp_for (fun k => ⟨[(0, .t (headsT a)), (1, .t (headsT b)), (12, .t (.v (.int .i64 ((a.map headT).length : Int)))), (13, .t (.v (.int .i64 (k : Int))))], [], []⟩) (fun k => a.take k = b.take k) a.length (weak_sub (.cons rfl rfl rfl (.cons rfl rfl rfl (.cons rfl rfl rfl (.cons rfl rfl rfl .nil)))) .nil .nil) rfl ?_
    intro k hk hI
    by_cases hlt : k < a.length
    · have hltb : k < b.length := by omega
      by_cases he : a[k] = b[k]
      · have hq : (!heqB a[k] b[k]) = false := by rw [(heqB_iff _ _).2 he]; rfl
        repeat' (first | refine for_next hlt (weak_sub (.cons rfl rfl rfl (.cons rfl rfl rfl (.cons rfl rfl rfl (.cons rfl rfl rfl .nil)))) .nil .nil) (take_eq_allH hlt hltb hI he) | (refine rg 4 ?_; (first | refine sp (po_ex2 rfl rfl rfl (head_Ex a[k]) (head_Ex b[k]) (hne_run false _ _ hq)) ?_ | refine oCm ?_); refine oN ?_) | (refine rg 5 ?_; refine oMv ?_; refine oAs ?_; refine oN ?_) | (refine rd 6 ?_; refine dMv ?_; refine dMv ?_; refine dp (pix rfl (tyS rfl)) ?_; (first | refine dp (po_load_bx_agg rfl rfl (tyT rfl) rfl (vc (vc .nil)) rfl) ?_ | refine dp (po_load_agg rfl rfl (tyT rfl) rfl rfl) ?_); refine dMv ?_; refine dMv ?_; refine dp (pix rfl (tyS rfl)) ?_; (first | refine dp (po_load_bx_agg rfl rfl (tyT rfl) rfl (vc (vc .nil)) rfl) ?_ | refine dp (po_load_agg rfl rfl (tyT rfl) rfl rfl) ?_); refine dp (po_ex2 rfl rfl rfl (head_Ex a[k]) (head_Ex b[k]) (hne_run false _ _ hq)) ?_; refine dN ?_; refine oN ?_) | (refine rg 8 ?_; refine sp (xinc rfl) ?_; refine oMv ?_; refine oN ?_) | refine gc ?_ | refine ct ?_ | refine cf ?_)
      · have hq : (!heqB a[k] b[k]) = true := by
          have : heqB a[k] b[k] = false := by
            cases h : heqB a[k] b[k] with
            | false => rfl
            | true => exact absurd ((heqB_iff _ _).1 h) he
          rw [this]; rfl
        rw [decide_eq_false (ne_at hlt hltb he)]
        repeat' (first | (refine rg 4 ?_; (first | refine sp (po_ex2 rfl rfl rfl (head_Ex a[k]) (head_Ex b[k]) (hne_run true _ _ hq)) ?_ | refine oCm ?_); refine oN ?_) | (refine rg 5 ?_; refine oMv ?_; refine oAs ?_; refine oN ?_) | (refine rd 6 ?_; refine dMv ?_; refine dMv ?_; refine dp (pix rfl (tyS rfl)) ?_; (first | refine dp (po_load_bx_agg rfl rfl (tyT rfl) rfl (vc (vc .nil)) rfl) ?_ | refine dp (po_load_agg rfl rfl (tyT rfl) rfl rfl) ?_); refine dMv ?_; refine dMv ?_; refine dp (pix rfl (tyS rfl)) ?_; (first | refine dp (po_load_bx_agg rfl rfl (tyT rfl) rfl (vc (vc .nil)) rfl) ?_ | refine dp (po_load_agg rfl rfl (tyT rfl) rfl rfl) ?_); refine dp (po_ex2 rfl rfl rfl (head_Ex a[k]) (head_Ex b[k]) (hne_run true _ _ hq)) ?_; refine dN ?_; refine oN ?_) | (refine rg 7 ?_; refine oAs ?_; refine oN ?_) | refine gc ?_ | refine ct ?_ | refine cf ?_ | refine swp_cond rfl (fun hc => ?_) (fun hc => ?_) | refine rq rfl (rt .nil) ?_)
        rfl
    · obtain rfl : k = a.length := by omega
      rw [decide_eq_true (heads_take hl hI)]
      repeat' (first | (refine rg 4 ?_; refine oCm ?_; refine oN ?_) | (refine rg 9 ?_; refine oAs ?_; refine oN ?_) | refine gc ?_ | refine ct ?_ | refine cf ?_ | refine swp_cond rfl (fun hc => ?_) (fun hc => ?_) | refine rq rfl (rt .nil) ?_)
      rfl
  · have h0 : (!decide (((a.map headT).length : Int) = ((b.map headT).length : Int))) = true := by rw [hma, hmb, decide_eq_false (by omega)]; rfl
    rw [decide_eq_false (ne_len hl)]
    repeat' (first | (refine rg 0 ?_; refine oAs ?_; refine oN ?_) | (refine rg 1 ?_; refine oMv ?_; refine sp (pln rfl (tyS rfl)) ?_; refine oMv ?_; refine sp (pln rfl (tyS rfl)) ?_; refine oCm ?_; refine oN ?_) | (refine rg 2 ?_; refine oAs ?_; refine oN ?_) | refine gc ?_ | refine ct ?_ | refine cf ?_ | refine swp_cond rfl (fun hc => ?_) (fun hc => ?_) | refine rq rfl (rt .nil) ?_)
    rfl
end Go.Proofs.YtpncekdhigappaaGreatDoor.An
