/- Merged by bundles.py: SimAn10, PlPc, SimAn11, PlRows, Rel10. -/
import Derived.Test.YtpncekdhigappaaDoorR31
import Derived.Test.YtpncekdhigappaaDoorR26
import Derived.Test.YtpncekdhigappaaDoorR15
import Derived.Test.YtpncekdhigappaaDoorR27
import Derived.Test.YtpncekdhigappaaDoorR19
import Derived.OpenShut
/- Answers: the chapter's examples, joined; walks. -/
namespace Go.Proofs.YtpncekdhigappaaDoor.An
set_option linter.unusedVariables false
set_option linter.unusedSimpArgs false
open Go.RowKit Mem Sim Opn Hd Str Rq
set_option maxRecDepth 100000 in
set_option maxHeartbeats 4000000 in
theorem awake_ : PCalls Tryd.prog 5 [] (.v (.bool true)) := by
  have c1 := simple_ 403 noS (by decide)
  rw [simp403] at c1
  have c2 := bytes0_
  have c5 := one_ l5 (by decide) (by rw [k5]; intro r hr; simp at hr; subst hr; exact ⟨by decide, fun h hh => (by cases hh), by decide, by unfold maxLen; decide⟩)
  rw [one5] at c5
  have c6 := one_ l6 (by decide) (by rw [k6]; intro r hr; simp at hr; subst hr; exact ⟨by decide, fun h hh => (by cases hh), by decide, by unfold maxLen; decide⟩)
  rw [one6] at c6
  unfold ansT simpA at c1 c2
  refine pcalls_of Tryd.func5 rfl rfl Tryd.ntmps5 rfl ?_
  repeat' (first | (refine rg 0 ?_; refine oAs ?_; refine oN ?_) | (refine rg 1 ?_; (first | refine oC (c1) rfl (ac (ac .nil)) ?_ | refine oC (c2) rfl (ac (ac .nil)) ?_ | refine oC (c5) rfl (ac (ac .nil)) ?_ | refine oC (c6) rfl (ac (ac .nil)) ?_); refine oMv ?_; refine oEx ?_; refine oEx ?_; refine sal str26 ?_; refine oS ?_; refine oAs ?_; refine oN ?_) | (refine rg 2 ?_; (first | refine sp (po_load_bx_agg rfl rfl (tyT rfl) rfl (vc (vc (vc .nil))) rfl) ?_ | refine sp (po_load_agg rfl rfl (tyT rfl) rfl rfl) ?_); (first | refine oC (c1) rfl (ac .nil) ?_ | refine oC (c2) rfl (ac .nil) ?_ | refine oC (c5) rfl (ac .nil) ?_ | refine oC (c6) rfl (ac .nil) ?_); refine oMv ?_; refine oEx ?_; refine oEx ?_; refine oAs ?_; refine oAs ?_; refine oN ?_) | (refine rg 3 ?_; refine sops_cb1 (.free rfl rfl) rfl rfl (tyE rfl) (dc (dc (dc (dc (dc (dc (dc (dc (dc (dc (dc (dc (dc (dc (dc (dc (dc (.nil _)))))))))))))))))) rfl rfl rfl ?_; refine sops_cb2 (.free rfl rfl) rfl rfl rfl rfl byt24 rfl ?_; (first | refine oC (c1) rfl (ac .nil) ?_ | refine oC (c2) rfl (ac .nil) ?_ | refine oC (c5) rfl (ac .nil) ?_ | refine oC (c6) rfl (ac .nil) ?_); refine oMv ?_; refine oEx ?_; refine oEx ?_; refine sal str26 ?_; refine oS ?_; refine oAs ?_; refine oN ?_) | (refine rg 4 ?_; refine sops_cb1 (.free rfl rfl) rfl rfl (tyE rfl) (dc (dc (dc (dc (dc (dc (dc (dc (dc (dc (dc (dc (dc (dc (dc (dc (.nil _))))))))))))))))) rfl rfl rfl ?_; refine sops_cb2 (.free rfl rfl) rfl rfl rfl rfl byt24 rfl ?_; (first | refine oC (c1) rfl (ac .nil) ?_ | refine oC (c2) rfl (ac .nil) ?_ | refine oC (c5) rfl (ac .nil) ?_ | refine oC (c6) rfl (ac .nil) ?_); refine oMv ?_; refine oEx ?_; refine oEx ?_; refine sal str26 ?_; refine oS ?_; refine oAs ?_; refine oN ?_) | (refine rg 5 ?_; refine oMv ?_; refine oCm ?_; refine oMv ?_; (first | refine oMv ?_ | refine oK ?_ | ((refine ssp (fun hc => ?_) (fun hc => ?_)) <;> first | refine oMv ?_ | refine oK ?_)) <;> (first | refine oCm ?_ | refine oK ?_) <;> (first | refine oPt ?_ | refine oPf ?_) <;> (refine oMv ?_) <;> (first | refine oMv ?_ | refine oK ?_ | ((refine ssp (fun hc => ?_) (fun hc => ?_)) <;> first | refine oMv ?_ | refine oK ?_)) <;> (first | refine sp (po_bytes_str (l := noB) rfl rfl (.t _) byt24' rfl) ?_ | refine sp (po_bytes_str rfl rfl (by first | exact .t _ | exact .own rfl (by first | rfl | assumption | omega | (simp; done) | (simp; omega) | (simp at *; omega)) | exact .nil _ | exact .emp _) byt24 (tyR rfl)) ?_ | refine oK ?_) <;> (first | refine sp (po_str rfl rfl rfl rfl) ?_ | refine oK ?_) <;> (first | refine oPt ?_ | refine oPf ?_) <;> (refine oMv ?_) <;> (first | refine oMv ?_ | refine oK ?_ | ((refine ssp (fun hc => ?_) (fun hc => ?_)) <;> first | refine oMv ?_ | refine oK ?_)) <;> (first | refine oCm ?_ | refine oK ?_) <;> (first | refine oPt ?_ | refine oPf ?_) <;> (refine oMv ?_) <;> (first | refine oFb ?_ | refine oFd ?_ | refine oK ?_ | ((refine ssp (fun hc => ?_) (fun hc => ?_)) <;> first | refine oFb ?_ | refine oFd ?_ | refine oK ?_)) <;> (first | refine oLb ?_ | refine oLd ?_ | refine oK ?_) <;> (first | refine oCm ?_ | refine oK ?_) <;> (first | refine oPt ?_ | refine oPf ?_) <;> (refine oMv ?_) <;> (first | refine oMv ?_ | refine oK ?_ | ((refine ssp (fun hc => ?_) (fun hc => ?_)) <;> first | refine oMv ?_ | refine oK ?_)) <;> (first | refine oCm ?_ | refine oK ?_) <;> (first | refine oPt ?_ | refine oPf ?_) <;> (refine oAs ?_) <;> (refine oN ?_)) | refine gc ?_ | refine ct ?_ | refine cf ?_ | refine swp_cond rfl (fun hc => ?_) (fun hc => ?_) | refine rq rfl (rt .nil) ?_)
  rfl
end Go.Proofs.YtpncekdhigappaaDoor.An

/- The reader of messages: what is read of bytes in pieces; what stands behind a message; what every message that is read is like; plain. -/
namespace Go.Proofs.YtpncekdhigappaaDoor.Rq
set_option linter.unusedVariables false
set_option linter.unusedSimpArgs false
open Go.RowKit Mem Sim Opn Hd Str
theorem rd0_idl : rd0 = idl [] := rfl
theorem rawsL_idl {l : List UInt8} {x : List PRaw} (h : feedP rd0 l = idl x) : rawsL l = (x, 0) := by
  unfold rawsL
  rw [h]; rfl
/-! what each message that is read is like -/
end Go.Proofs.YtpncekdhigappaaDoor.Rq

/- Answers: their bytes; what is gone through; walks. -/
namespace Go.Proofs.YtpncekdhigappaaDoor.An
set_option linter.unusedVariables false
set_option linter.unusedSimpArgs false
open Go.RowKit Mem Sim Opn Hd Str Rq
theorem start_all : (List.range 600).all (fun n => decide (n < 200) || (plainP (startS n) && decide (1 ≤ (startS n).size) && decide ((startS n).size ≤ 578) && hasP (startS n) befS && isS (startS n) && plainP (reasS (startS n)) && decide (num3 (codeS (startS n)) = (n : Int)))) = true := by kernel_rfl
structure StartOk (n : Nat) : Prop where
  plain : plainP (startS n) = true
  one : 1 ≤ (startS n).size
  most : (startS n).size ≤ 578
  has : hasP (startS n) befS = true
  is : isS (startS n) = true
  reas : plainP (reasS (startS n)) = true
  num : num3 (codeS (startS n)) = (n : Int)
theorem start_ok {n : Nat} (h1 : 200 ≤ n) (h2 : n ≤ 599) : StartOk n := by
  have := (List.all_eq_true.1 start_all) n (List.mem_range.2 (by omega))
  rw [decide_eq_false (show ¬ n < 200 by omega)] at this
  simp only [Bool.false_or, Bool.and_eq_true, decide_eq_true_eq] at this
  obtain ⟨⟨⟨⟨⟨⟨q1, q2⟩, q3⟩, q4⟩, q5⟩, q6⟩, q7⟩ := this
  exact ⟨q1, q2, q3, q4, q5, q6, q7⟩
/-- an answer as a message -/
def rawOf (a : PAns) : PRaw := ⟨startS a.code.toNat, a.heads, a.body⟩
theorem may_code {a : PAns} (h : mayA a = true) : ∃ n : Nat, a.code = (n : Int) ∧ 200 ≤ n ∧ n ≤ 599 ∧ fitsP a.heads a.body = true := by
  unfold mayA at h
  simp only [Bool.and_eq_true, decide_eq_true_eq] at h
  obtain ⟨⟨h1, h2⟩, h3⟩ := h
  exact ⟨a.code.toNat, by omega, by omega, by omega, h3⟩
theorem may_wr {a : PAns} (h : mayA a = true) : wrP (rawOf a) = true := by
  obtain ⟨n, hn, h1, h2, hf⟩ := may_code h
  have hs := start_ok h1 h2
  have e : a.code.toNat = n := by omega
  unfold wrP rawOf
  rw [e]
  simp only [hs.plain, decide_eq_true hs.one, decide_eq_true hs.most, hf, Bool.and_true]
theorem may_of {a : PAns} (h : mayA a = true) : ofP (rawOf a) = true ∧ ansOf (rawOf a) = a := by
  obtain ⟨n, hn, h1, h2, hf⟩ := may_code h
  have hs := start_ok h1 h2
  have e : a.code.toNat = n := by omega
  have ea : ansOf (rawOf a) = a := by
    unfold ansOf rawOf
    rw [e]
    cases a
    simp only at hn hs ⊢
    rw [hs.num, hn]
  refine ⟨?_, ea⟩
  unfold ofP
  rw [ea, h]
  unfold rawOf
  rw [e, hs.has, hs.is, hs.reas]; rfl
def bytesT (a : PAns) : T := if mayA a then .tup [.sl 1 ((msgP (rawOf a)).map byteT), .v (.int .i64 0)] else .tup [.v (.slice none 0 0), .v (.int .i64 1)]
set_option maxRecDepth 100000 in
set_option maxHeartbeats 2000000 in
theorem bytesA_ (a : PAns) (hn : a.heads.length ≤ 1000) (hh : ∀ h ∈ a.heads, okHead h) (hb : a.body.length ≤ 100000) : PCalls Tryd.prog 10 [.agg (ansT a)] (bytesT a) := by
  have hm := may_ a hn hh hb
  unfold bytesT
  cases h : mayA a with
  | false =>
    rw [h] at hm
    unfold ansT at hm ⊢
    refine pcalls_of Tryd.func10 rfl rfl Tryd.ntmps10 rfl ?_
    repeat' (first | (refine rg 0 ?_; refine sbx ?_; refine oAs ?_; refine oAs ?_; refine oN ?_) | (refine rg 1 ?_; (first | refine sp (po_load_bx_agg rfl rfl (tyT rfl) rfl (vc (vc (vc .nil))) rfl) ?_ | refine sp (po_load_agg rfl rfl (tyT rfl) rfl rfl) ?_); refine oC (hm) rfl (ac .nil) ?_; refine sp (po_not rfl rfl) ?_; refine oN ?_) | (refine rg 2 ?_; refine oAs ?_; refine oAs ?_; refine oN ?_) | refine gc ?_ | refine ct ?_ | refine cf ?_ | refine swp_cond rfl (fun hc => ?_) (fun hc => ?_) | refine rq rfl (rt (rt .nil)) ?_)
    rfl
  | true =>
    rw [h] at hm
    have hw := may_wr h
    obtain ⟨n, hc, h1, h2, hf⟩ := may_code h
    have hs := start_ok h1 h2
    have e : a.code.toNat = n := by omega
    have c3 := writeOk_ (rawOf a) ⟨hn, hh, hb, by show (startS a.code.toNat).size ≤ maxLen; rw [e]; have := hs.most; unfold maxLen; omega⟩ hw
    have c2 := raw_ n (by omega) a.heads a.body
    unfold rawT rawOf at c3
    rw [e] at c3
    unfold rawOf
    rw [e]
    unfold ansT at hm c2 ⊢
    rw [hc] at hm ⊢
    unfold rawT at c2
    refine pcalls_of Tryd.func10 rfl rfl Tryd.ntmps10 rfl ?_
    repeat' (first | (refine rg 0 ?_; refine sbx ?_; refine oAs ?_; refine oAs ?_; refine oN ?_) | (refine rg 1 ?_; (first | refine sp (po_load_bx_agg rfl rfl (tyT rfl) rfl (vc (vc (vc .nil))) rfl) ?_ | refine sp (po_load_agg rfl rfl (tyT rfl) rfl rfl) ?_); (first | refine oC (hm) rfl (ac .nil) ?_ | refine oC (c2) rfl (ac .nil) ?_ | refine oC (c3) rfl (ac .nil) ?_); refine sp (po_not rfl rfl) ?_; refine oN ?_) | (refine rg 3 ?_; (first | refine sp (po_load_bx_agg rfl rfl (tyT rfl) rfl (vc (vc (vc .nil))) rfl) ?_ | refine sp (po_load_agg rfl rfl (tyT rfl) rfl rfl) ?_); (first | refine oC (hm) rfl (ac .nil) ?_ | refine oC (c2) rfl (ac .nil) ?_ | refine oC (c3) rfl (ac .nil) ?_); (first | refine oC (hm) rfl (ac .nil) ?_ | refine oC (c2) rfl (ac .nil) ?_ | refine oC (c3) rfl (ac .nil) ?_); refine oEx ?_; refine oEx ?_; refine oAs ?_; refine oAs ?_; refine oN ?_) | refine gc ?_ | refine ct ?_ | refine cf ?_ | refine swp_cond rfl (fun hc => ?_) (fun hc => ?_) | refine rq rfl (rt (rt .nil)) ?_)
    rfl
def longA (a : PAns) : Bool := decide (3000 < a.body.length) || longH a.heads
set_option maxRecDepth 100000 in
theorem longA_ (a : PAns) : PCalls Tryd.prog 9 [.agg (ansT a)] (.v (.bool (longA a))) := by
  have hm2 : (a.body.map byteT).length = a.body.length := List.length_map _
  have c1 := long_ a.heads
  unfold longA
  refine pcalls_of Tryd.func9 rfl rfl Tryd.ntmps9 rfl ?_
  by_cases h : 3000 < a.body.length
  · rw [decide_eq_true h]
    repeat' (first | (refine rg 0 ?_; refine sbx ?_; refine oAs ?_; refine oN ?_) | (refine rg 1 ?_; (first | refine oFb ?_ | refine oFd ?_); (first | refine oLb ?_ | refine oLd ?_); refine sp (pln rfl (tyS rfl)) ?_; refine oCm ?_; refine oMv ?_; (first | refine oFb ?_ | refine oFd ?_ | refine oK ?_ | ((refine ssp (fun hc => ?_) (fun hc => ?_)) <;> first | refine oFb ?_ | refine oFd ?_ | refine oK ?_)) <;> (first | refine oLb ?_ | refine oLd ?_ | refine oK ?_) <;> (first | refine oC (c1) rfl (ac .nil) ?_ | refine oK ?_) <;> (first | refine oPt ?_ | refine oPf ?_) <;> (refine oAs ?_) <;> (refine oN ?_)) | refine gc ?_ | refine ct ?_ | refine cf ?_ | refine swp_cond rfl (fun hc => ?_) (fun hc => ?_) | refine rq rfl (rt .nil) ?_)
    rfl
  · rw [decide_eq_false h]
    repeat' (first | (refine rg 0 ?_; refine sbx ?_; refine oAs ?_; refine oN ?_) | (refine rg 1 ?_; (first | refine oFb ?_ | refine oFd ?_); (first | refine oLb ?_ | refine oLd ?_); refine sp (pln rfl (tyS rfl)) ?_; refine oCm ?_; refine oMv ?_; (first | refine oFb ?_ | refine oFd ?_ | refine oK ?_ | ((refine ssp (fun hc => ?_) (fun hc => ?_)) <;> first | refine oFb ?_ | refine oFd ?_ | refine oK ?_)) <;> (first | refine oLb ?_ | refine oLd ?_ | refine oK ?_) <;> (first | refine oC (c1) rfl (ac .nil) ?_ | refine oK ?_) <;> (first | refine oPt ?_ | refine oPf ?_) <;> (refine oAs ?_) <;> (refine oN ?_)) | refine gc ?_ | refine ct ?_ | refine cf ?_ | refine swp_cond rfl (fun hc => ?_) (fun hc => ?_) | refine rq rfl (rt .nil) ?_)
    rfl
theorem longA_no {a : PAns} (h : longA a = false) : a.body.length ≤ 3000 ∧ a.heads.length ≤ 100 ∧ longH a.heads = false := by
  unfold longA at h
  simp only [Bool.or_eq_false_iff, decide_eq_false_iff_not] at h
  refine ⟨by omega, ?_, h.2⟩
  have h2 := h.2
  unfold longH at h2
  simp only [Bool.or_eq_false_iff, decide_eq_false_iff_not] at h2
  omega
end Go.Proofs.YtpncekdhigappaaDoor.An

/- Messages one behind the other; plain. -/
namespace Go.Proofs.YtpncekdhigappaaDoor.An
set_option linter.unusedVariables false
set_option linter.unusedSimpArgs false
open Go.RowKit Mem Sim Opn Hd Str Rq
theorem msgP_len {r : PRaw} (h : wrP r = true) : (msgP r).length ≤ 20000 := by
  unfold wrP fitsP mayL at h
  simp only [Bool.and_eq_true, decide_eq_true_eq] at h
  obtain ⟨⟨⟨_, _⟩, h2⟩, ⟨⟨_, h4, h5⟩, hb⟩, _⟩ := h
  have hw := wL_len r (fun h hh => (List.all_eq_true.1 h5) h hh) h2 r.heads.length (Nat.le_refl _)
  have ht : (tailL (fram r.heads).1.chunked r.body).length ≤ r.body.length + 20 := by
    unfold tailL hexL
    have := hm_3 r.body.length
    split
    · omega
    · split
      · simp
      · simp only [List.length_append, hexK_len, List.length_cons, List.length_nil]; omega
  unfold msgP
  simp only [List.length_append, List.length_cons, List.length_nil]; omega
/-- bytes of messages one behind the other are read as these -/
theorem rows_back : ∀ (rs : List PRaw) (o : List PRaw), (∀ r ∈ rs, wrP r = true) → feedP (idl o) (rs.flatMap msgP) = idl (o ++ rs)
  | [], o, _ => by simp [feedP]
  | r :: rs, o, h => by
    rw [List.flatMap_cons, feedP_app, msg_back r (h r (by simp)) o, rows_back rs _ (fun x hx => h x (by simp [hx])), List.append_assoc]; rfl
theorem rows_raws (rs : List PRaw) (h : ∀ r ∈ rs, wrP r = true) : rawsL (rs.flatMap msgP) = (rs, 0) := by
  refine rawsL_idl ?_
  rw [rd0_idl, rows_back rs [] h]; rfl
/-- those that may be, of the first ones -/
def okL (l : List PAns) (k : Nat) : List PAns := (l.take k).filter mayA
def byL (l : List PAns) (k : Nat) : List UInt8 := ((okL l k).map rawOf).flatMap msgP
theorem okL_yes {l : List PAns} {k : Nat} (hk : k < l.length) (h : mayA l[k] = true) : okL l (k + 1) = okL l k ++ [l[k]] := by
  unfold okL
  rw [List.take_succ_eq_append_getElem hk, List.filter_append]; simp [h]
theorem okL_no {l : List PAns} {k : Nat} (hk : k < l.length) (h : mayA l[k] = false) : okL l (k + 1) = okL l k := by
  unfold okL
  rw [List.take_succ_eq_append_getElem hk, List.filter_append]; simp [h]
theorem byL_yes {l : List PAns} {k : Nat} (hk : k < l.length) (h : mayA l[k] = true) : byL l (k + 1) = byL l k ++ msgP (rawOf l[k]) := by
  unfold byL
  rw [okL_yes hk h, List.map_append, List.flatMap_append]; simp
theorem byL_no {l : List PAns} {k : Nat} (hk : k < l.length) (h : mayA l[k] = false) : byL l (k + 1) = byL l k := by
  unfold byL; rw [okL_no hk h]
theorem okL_may (l : List PAns) (k : Nat) : ∀ a ∈ okL l k, mayA a = true := fun a ha => (List.mem_filter.1 ha).2
theorem okL_len (l : List PAns) (k : Nat) : (okL l k).length ≤ k := by
  unfold okL
  have := List.length_filter_le mayA (l.take k)
  rw [List.length_take] at this; omega
theorem flat_len : ∀ (rs : List PRaw), (∀ r ∈ rs, wrP r = true) → (rs.flatMap msgP).length ≤ 20000 * rs.length
  | [], _ => by simp
  | r :: rs, h => by
    have h1 := msgP_len (h r (by simp))
    have h2 := flat_len rs (fun x hx => h x (by simp [hx]))
    rw [List.flatMap_cons, List.length_append, List.length_cons]; omega
theorem byL_len (l : List PAns) (k : Nat) : (byL l k).length ≤ 20000 * k := by
  have h1 := flat_len ((okL l k).map rawOf) (fun r hr => by obtain ⟨a, ha, rfl⟩ := List.mem_map.1 hr; exact may_wr (okL_may l k a ha))
  rw [List.length_map] at h1
  have h2 := okL_len l k
  unfold byL
  have := Nat.mul_le_mul_left 20000 h2
  omega
end Go.Proofs.YtpncekdhigappaaDoor.An

/- Answers, messages, requests: in memory, opened, as trees of data. -/
namespace Go.Proofs.YtpncekdhigappaaDoor.Rq
set_option linter.unusedVariables false
set_option linter.unusedSimpArgs false
open Go.RowKit Go.WideShapes Go.ChangeShapes Go.Joins Mem Sim Opn Hd An
def ByteC : Rel UInt8 := fun _ _ b cs => cs = [.int .u8 (b.toNat : Int)]
theorem one_byte : Tryd.prog.cellsOf 5 = 1 := by kernel_rfl
theorem one_bytes : Tryd.prog.cellsOf 24 = 1 := by kernel_rfl
theorem one_heads : Tryd.prog.cellsOf 23 = 1 := by kernel_rfl
theorem one_int : Tryd.prog.cellsOf 3 = 1 := by kernel_rfl
theorem byte_opens : Opens 5 ByteC := by
  intro H enc w base spare held fuel cs x h
  obtain ⟨n, rfl, _, hw⟩ := DataW.trod_int Tryd.underlying5 h
  have hb := bounds_u8 hw
  refine ⟨UInt8.ofNat n.toNat, ?_⟩
  unfold ByteC
  rw [UInt8.toNat_ofNat']
  congr 2; omega
theorem bytes_opens : Opens 24 (SliceC ByteC 1) := opens_slice (R := ByteC) Tryd.underlying24 one_byte (by omega) byte_opens
theorem sl_bwd {α : Type} {R : Mem.Rel α} {enc : α → List T} {sz B : Nat} {w : World} {xs : List α} {c : Value} (hsz : ∀ x, (enc x).length = sz) (hR : ∀ x cs, R B w x cs → CellsAre (allm w) (enc x) cs) (h : SliceC R sz B w xs [c]) : TR (allm w) (.sl sz (xs.map enc)) c ∧ c.oneCell' = true := by
  obtain ⟨A, cap, e, hA, h1, h2⟩ := h
  injection e with e; subst e
  exact ⟨tr_rows_bwd (allm w) hA h1 h2 hsz (fun x _ cs hr => hR x cs hr) (fun b o v _ h => h), rfl⟩
theorem int_bwd {k : IntKind} {B : Nat} {w : World} {n : Int} {c : Value} (h : IntC k B w n [c]) : TR (allm w) (.v (.int k n)) c ∧ c.oneCell' = true := by
  obtain ⟨e, _⟩ := h; injection e with e; subst e; exact ⟨.v _, rfl⟩
theorem head_bwd {B : Nat} {w : World} (x : Pl.Head) (cs : List Value) (h : HeadR B w x cs) : CellsAre (allm w) (headT x) cs := by
  obtain ⟨rfl, _⟩ := h
  exact cellsAre_cons (.v _) rfl (cellsAre_cons (.v _) rfl (cellsAre_nil _))
theorem byte_bwd {B : Nat} {w : World} (x : UInt8) (cs : List Value) (h : ByteC B w x cs) : CellsAre (allm w) (byteT x) cs := by
  obtain rfl := h
  exact cellsAre_cons (.v _) rfl (cellsAre_nil _)
theorem heads_bwdC {B : Nat} {w : World} {xs : List Pl.Head} {c : Value} (h : SliceC HeadR 2 B w xs [c]) : TR (allm w) (headsT xs) c ∧ c.oneCell' = true := sl_bwd (fun _ => rfl) head_bwd h
theorem bytes_bwdC {B : Nat} {w : World} {xs : List UInt8} {c : Value} (h : SliceC ByteC 1 B w xs [c]) : TR (allm w) (.sl 1 (xs.map byteT)) c ∧ c.oneCell' = true := sl_bwd (fun _ => rfl) byte_bwd h
theorem sl_bwdA {α : Type} {R : Mem.Rel α} {enc : α → List T} {sz B : Nat} {w : World} {A : Option Addr} {xs : List α} {cap : Nat} (hsz : ∀ x, (enc x).length = sz) (hR : ∀ x cs, R B w x cs → CellsAre (allm w) (enc x) cs) (hA : SliceAt R sz B w A xs) (h1 : xs.length ≤ cap) (h2 : cap ≤ maxLen) : TR (allm w) (.sl sz (xs.map enc)) (.slice A xs.length cap) :=
  tr_rows_bwd (allm w) hA h1 h2 hsz (fun x _ cs hr => hR x cs hr) (fun b o v _ h => h)
theorem heads_okC {B : Nat} {w : World} {xs : List Pl.Head} {cs : List Value} (h : SliceC HeadR 2 B w xs cs) : ∀ x ∈ xs, okHead x := by
  obtain ⟨A, cap, e, hA, h1, h2⟩ := h
  exact heads_ok hA
theorem body_okC {B : Nat} {w : World} {xs : List UInt8} {cs : List Value} (h : SliceC ByteC 1 B w xs cs) : xs.length ≤ maxLen := by
  obtain ⟨A, cap, e, hA, h1, h2⟩ := h
  omega
def AnsR : Rel PAns := fun B w x cs => ∃ c0 c1 c2, cs = [c0, c1, c2] ∧ (IntC .i64) B w x.code [c0] ∧ (SliceC HeadR 2) B w x.heads [c1] ∧ (SliceC ByteC 1) B w x.body [c2]
theorem cells_Ans : Tryd.prog.cellsOf 26 = 3 := by kernel_rfl
set_option maxRecDepth 100000 in
theorem ans_opens : Opens 26 AnsR := by
  intro H enc w base spare held fuel cs x h
  obtain ⟨xs, n, _, hx, hlen, hxl, hf⟩ := DataW.trod_struct Tryd.underlying26 h
  have hl := hlen.trans cells_Ans
  obtain ⟨c0, c1, c2, rfl⟩ : ∃ c0 c1 c2, cs = [c0, c1, c2] := by
    match cs, hl with
    | [c0, c1, c2], _ => exact ⟨c0, c1, c2, rfl⟩
  obtain ⟨y0, y1, y2, rfl⟩ : ∃ y0 y1 y2, xs = [y0, y1, y2] := by
    match xs, hxl with
    | [y0, y1, y2], _ => exact ⟨y0, y1, y2, rfl⟩
  have f0 : DataW.trod enc Tryd.prog w base spare held n 3 [c0] = some y0 := by
    have := hf 0 _ rfl
    simpa [one_bytes, one_heads, one_int] using this
  obtain ⟨v0, r0⟩ := (opens_int Tryd.underlying3) H enc w base spare held n [c0] y0 f0
  have f1 : DataW.trod enc Tryd.prog w base spare held n 23 [c1] = some y1 := by
    have := hf 1 _ rfl
    simpa [one_bytes, one_heads, one_int] using this
  obtain ⟨v1, r1⟩ := heads_opens H enc w base spare held n [c1] y1 f1
  have f2 : DataW.trod enc Tryd.prog w base spare held n 24 [c2] = some y2 := by
    have := hf 2 _ rfl
    simpa [one_bytes, one_heads, one_int] using this
  obtain ⟨v2, r2⟩ := bytes_opens H enc w base spare held n [c2] y2 f2
  exact ⟨⟨v0, v1, v2⟩, c0, c1, c2, rfl, r0, r1, r2⟩
theorem ans_bwd {B : Nat} {w : World} (x : PAns) (cs : List Value) (h : AnsR B w x cs) : CellsAre (allm w) (ansT x) cs := by
  obtain ⟨c0, c1, c2, rfl, h0, h1, h2⟩ := h
  exact (cellsAre_cons (int_bwd h0).1 (int_bwd h0).2 (cellsAre_cons (heads_bwdC h1).1 (heads_bwdC h1).2 (cellsAre_cons (bytes_bwdC h2).1 (bytes_bwdC h2).2 (cellsAre_nil _))))
structure okAns (a : PAns) : Prop where
  hh : ∀ h ∈ a.heads, okHead h
  hb : a.body.length ≤ maxLen
theorem ans_ok (B : Nat) (w : World) (x : PAns) (cs : List Value) (h : AnsR B w x cs) : okAns x := by
  obtain ⟨c0, c1, c2, rfl, h0, h1, h2⟩ := h
  exact ⟨heads_okC h1, body_okC h2⟩
theorem sl_ok {α : Type} {R : Mem.Rel α} {sz B : Nat} {w : World} {A : Option Addr} {xs : List α} {ok : α → Prop} (hR : ∀ B w x cs, R B w x cs → ok x) (hA : SliceAt R sz B w A xs) : ∀ x ∈ xs, ok x := fun x hx => by
  obtain ⟨k, hk⟩ := List.getElem?_of_mem hx
  obtain ⟨b, off, cs, _, _, _, _, hr⟩ := hA k x hk
  exact hR _ _ _ _ hr
theorem anss_opens : Opens 35 (SliceC AnsR 3) := opens_slice (R := AnsR) Tryd.underlying35 cells_Ans (by omega) ans_opens
end Go.Proofs.YtpncekdhigappaaDoor.Rq
