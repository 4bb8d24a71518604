/- Merged by bundles.py: SimOf4, SimAn9, SimCb, SimAn12. -/
import Derived.Test.YtpncekdhigappaaGreatDoorV31
import Derived.Test.YtpncekdhigappaaGreatDoorV33
import Derived.Test.YtpncekdhigappaaGreatDoorV34
import Derived.Test.YtpncekdhigappaaGreatDoorV13
import Derived.Test.YtpncekdhigappaaGreatDoorV10
import Derived.Test.YtpncekdhigappaaGreatDoorV4
import Derived.Lib.SlBytesConst
import Derived.Test.YtpncekdhigappaaGreatDoorV22
/- Requests: one of bytes, what may be, its bytes, the same: walks. -/
namespace Go.Proofs.YtpncekdhigappaaGreatDoor.Ro
set_option linter.unusedVariables false
set_option linter.unusedSimpArgs false
open Go.RowKit Mem Sim Opn Hd Str Pth Rq
set_option maxRecDepth 100000 in
set_option maxHeartbeats 4000000 in
theorem sameR_ (a b : PReq) (ha : a.heads.length ≤ 1000) : PCalls Tryz.prog 48 [.agg (reqT a), .agg (reqT b)] (.v (.bool (sameR a b))) := by
  have c1 := An.equalH_ a.heads b.heads ha
  unfold sameR
  generalize decide (a.heads = b.heads) = e6 at *
  refine pcalls_of Tryz.func48 rfl rfl Tryz.ntmps48 rfl ?_
  cases h1 : decide (a.method = b.method) with
  | false =>
    repeat' (first | refine rg 0 (aq81 ?_) | (refine rg 1 (aq152 ?_) <;> (first | refine sp (po_bytes_str rfl rfl (by first | exact .t _ | exact .own rfl (by rfl) | exact .nil _ | exact .emp _) byt23 (tyR rfl)) ?_ | refine oK ?_) <;> refine aq86 ?_ <;> (first | refine sp (po_bytes_str rfl rfl (by first | exact .t _ | exact .own rfl (by rfl) | exact .nil _ | exact .emp _) byt23 (tyR rfl)) ?_ | refine oK ?_) <;> refine aq87 ?_) | refine gc ?_ | refine ct ?_ | refine cf ?_ | refine sc ?_ ?_ <;> intro hc | refine rq rfl (rt .nil) ?_)
    rfl
  | true =>
    cases h2 : decide (a.target = b.target) with
    | false =>
      repeat' (first | refine rg 0 (aq81 ?_) | (refine rg 1 (aq153 ?_) <;> (first | refine sp (po_bytes_str rfl rfl (by first | exact .t _ | exact .own rfl (by rfl) | exact .nil _ | exact .emp _) byt23 (tyR rfl)) ?_ | refine oK ?_) <;> refine aq86 ?_ <;> (first | refine sp (po_bytes_str rfl rfl (by first | exact .t _ | exact .own rfl (by rfl) | exact .nil _ | exact .emp _) byt23 (tyR rfl)) ?_ | refine oK ?_) <;> refine aq87 ?_) | refine gc ?_ | refine ct ?_ | refine cf ?_ | refine sc ?_ ?_ <;> intro hc | refine rq rfl (rt .nil) ?_)
      rfl
    | true =>
      cases h3 : decide (a.path = b.path) with
      | false =>
        repeat' (first | refine rg 0 (aq81 ?_) | (refine rg 1 (aq154 ?_) <;> (first | refine sp (po_bytes_str rfl rfl (by first | exact .t _ | exact .own rfl (by rfl) | exact .nil _ | exact .emp _) byt23 (tyR rfl)) ?_ | refine oK ?_) <;> refine aq86 ?_ <;> (first | refine sp (po_bytes_str rfl rfl (by first | exact .t _ | exact .own rfl (by rfl) | exact .nil _ | exact .emp _) byt23 (tyR rfl)) ?_ | refine oK ?_) <;> refine aq87 ?_) | refine gc ?_ | refine ct ?_ | refine cf ?_ | refine sc ?_ ?_ <;> intro hc | refine rq rfl (rt .nil) ?_)
        rfl
      | true =>
        cases h4 : decide (a.query = b.query) with
        | false =>
          repeat' (first | refine rg 0 (aq81 ?_) | (refine rg 1 (aq155 ?_) <;> (first | refine sp (po_bytes_str rfl rfl (by first | exact .t _ | exact .own rfl (by rfl) | exact .nil _ | exact .emp _) byt23 (tyR rfl)) ?_ | refine oK ?_) <;> refine aq86 ?_ <;> (first | refine sp (po_bytes_str rfl rfl (by first | exact .t _ | exact .own rfl (by rfl) | exact .nil _ | exact .emp _) byt23 (tyR rfl)) ?_ | refine oK ?_) <;> refine aq87 ?_) | refine gc ?_ | refine ct ?_ | refine cf ?_ | refine sc ?_ ?_ <;> intro hc | refine rq rfl (rt .nil) ?_)
          rfl
        | true =>
          cases h5 : decide (a.host = b.host) with
          | false =>
            repeat' (first | refine rg 0 (aq81 ?_) | (refine rg 1 (aq156 ?_) <;> (first | refine sp (po_bytes_str rfl rfl (by first | exact .t _ | exact .own rfl (by rfl) | exact .nil _ | exact .emp _) byt23 (tyR rfl)) ?_ | refine oK ?_) <;> refine aq86 ?_ <;> (first | refine sp (po_bytes_str rfl rfl (by first | exact .t _ | exact .own rfl (by rfl) | exact .nil _ | exact .emp _) byt23 (tyR rfl)) ?_ | refine oK ?_) <;> refine aq87 ?_) | refine gc ?_ | refine ct ?_ | refine cf ?_ | refine sc ?_ ?_ <;> intro hc | refine rq rfl (rt .nil) ?_)
            rfl
          | true =>
            cases e6 with
            | false =>
              repeat' (first | refine rg 0 (aq81 ?_) | (refine rg 1 (aq157 ?_) <;> refine oC (c1) rfl (ac (ac .nil)) ?_ <;> refine aq85 ?_ <;> (first | refine sp (po_bytes_str rfl rfl (by first | exact .t _ | exact .own rfl (by rfl) | exact .nil _ | exact .emp _) byt23 (tyR rfl)) ?_ | refine oK ?_) <;> refine aq86 ?_ <;> (first | refine sp (po_bytes_str rfl rfl (by first | exact .t _ | exact .own rfl (by rfl) | exact .nil _ | exact .emp _) byt23 (tyR rfl)) ?_ | refine oK ?_) <;> refine aq87 ?_) | refine gc ?_ | refine ct ?_ | refine cf ?_ | refine sc ?_ ?_ <;> intro hc | refine rq rfl (rt .nil) ?_)
              rfl
            | true =>
              repeat' (first | refine rg 0 (aq81 ?_) | (refine rg 1 (aq157 ?_) <;> refine oC (c1) rfl (ac (ac .nil)) ?_ <;> refine aq83 ?_ <;> refine sp (po_bytes_str rfl rfl (by exact .t _) byt23 (tyR rfl)) ?_ <;> refine aq40 ?_ <;> refine sp (po_bytes_str rfl rfl (by exact .t _) byt23 (tyR rfl)) ?_ <;> refine aq84 ?_) | refine gc ?_ | refine ct ?_ | refine cf ?_ | refine sc ?_ ?_ <;> intro hc | refine rq rfl (rt .nil) ?_)
              rfl
structure ReqOk (x : PReq) : Prop where
  hm : x.method.size ≤ 40000
  ht : x.target.size ≤ 40000
  hn : x.heads.length ≤ 1000
  hh : ∀ h ∈ x.heads, okHead h
  hv : ∀ v ∈ valsOf hostS x.heads, v.size ≤ 200000
  hb : x.body.length ≤ 100000
theorem rawQ_size (x : PReq) (h : ReqOk x) : (rawQ x).start.size ≤ 100000 := by
  obtain ⟨h1, h2, _, _, _, _⟩ := h
  show (x.method ++ ⟨#[32]⟩ ++ x.target ++ ⟨#[32, 72, 84, 84, 80, 47, 49, 46, 49]⟩ : ByteArray).size ≤ 100000
  rw [ByteArray.size_append, ByteArray.size_append, ByteArray.size_append]
  have e1 : (⟨#[32]⟩ : ByteArray).size = 1 := rfl
  have e2 : (⟨#[32, 72, 84, 84, 80, 47, 49, 46, 49]⟩ : ByteArray).size = 9 := rfl
  omega
theorem rawQ_ok (x : PReq) (h : ReqOk x) : An.RawOk (rawQ x) := ⟨h.hn, h.hh, h.hb, by have := rawQ_size x h; unfold maxLen; omega⟩
set_option maxRecDepth 100000 in
theorem raw_ (x : PReq) (h : ReqOk x) : PCalls Tryz.prog 88 [.agg (reqT x)] (.agg (rawT (rawQ x))) := by
  obtain ⟨h1, h2, _, _, _, _⟩ := h
  have e1 : (⟨#[32]⟩ : ByteArray).size = 1 := rfl
  have e2 : (⟨#[32, 72, 84, 84, 80, 47, 49, 46, 49]⟩ : ByteArray).size = 9 := rfl
  have s1 : (x.method ++ ⟨#[32]⟩ : ByteArray).size = x.method.size + 1 := by rw [ByteArray.size_append]; rfl
  have s2 : (x.method ++ ⟨#[32]⟩ ++ x.target : ByteArray).size = x.method.size + 1 + x.target.size := by rw [ByteArray.size_append, s1]
  refine pcalls_of Tryz.func88 rfl rfl Tryz.ntmps88 rfl ?_
  repeat' (first | (refine rg 0 ?_; refine sbx ?_; refine sal str25 ?_; refine oN ?_) | (refine rg 1 (aq158 ?_); refine sp (po_buildS str25 rfl (pc (pc (pc .nil))) rfl) ?_; refine aq8 ?_) | refine gc ?_ | refine ct ?_ | refine cf ?_ | refine sc ?_ ?_ <;> intro hc | refine rq rfl (.cell rfl rfl (tyT rfl) (vc (vc (vc .nil))) rfl .nil) ?_)
  rfl
set_option maxRecDepth 100000 in
set_option maxHeartbeats 4000000 in
theorem may_ (x : PReq) (h : ReqOk x) : PCalls Tryz.prog 46 [.agg (reqT x)] (.v (.bool (mayR x))) := by
  have c1 := raw_ x h
  have c2 := of_ (rawQ x) (rawQ_ok x h) (rawQ_size x h) h.hv
  have c4 := An.rfits_ (rawQ x).start x.heads h.hn h.hh x.body h.hb
  have hsr : ∀ y, ofR (rawQ x) = some y → y.heads = x.heads := fun y hy => by
    unfold ofR at hy
    split at hy
    · unfold of3 at hy
      split at hy
      · obtain ⟨q, _, hq⟩ := Option.map_eq_some_iff.1 hy
        rw [← hq]; rfl
      · cases hy
    · cases hy
  unfold mayR
  unfold reqT at c1 ⊢
  unfold rawT at c1 c2 c4
  change PCalls _ _ [.agg [.v (.string (rawQ x).start), headsT (rawQ x).heads, .sl 1 ((rawQ x).body.map byteT)]] _ at c4
  generalize rawQ x = q at *
  refine pcalls_of Tryz.func46 rfl rfl Tryz.ntmps46 rfl ?_
  cases ho : ofR q with
  | none =>
    rw [ho] at c2
    unfold ofT reqT0 at c2
    dsimp only at c2
    repeat' (first | refine rg 0 (aq39 ?_) | (refine rg 1 (aq67 ?_); refine oC (c1) rfl (ac .nil) ?_; (first | refine oC (c1) rfl (ac .nil) ?_ | refine oC (c2) rfl (ac .nil) ?_); refine aq29 ?_; refine sal str57 ?_; refine aq62 ?_) | (refine rg 2 ?_; refine oMv ?_; refine oCm ?_; refine oMv ?_; (first | refine sp (po_load_bx_agg rfl rfl (tyT rfl) rfl (vc (vc (vc (vc (vc (vc (vc .nil))))))) rfl) ?_ | refine sp (po_load_agg rfl rfl (tyT rfl) rfl rfl) ?_ | refine oK ?_); (first | refine sp (po_load_bx_agg rfl rfl (tyT rfl) rfl (vc (vc (vc (vc (vc (vc (vc .nil))))))) rfl) ?_ | refine sp (po_load_agg rfl rfl (tyT rfl) rfl rfl) ?_ | refine oK ?_) <;> (first | refine oC (c1) rfl (ac (ac .nil)) ?_ | refine oC (c2) rfl (ac (ac .nil)) ?_ | refine oK ?_) <;> (first | refine oPt ?_ | refine oPf ?_) <;> refine oMv ?_ <;> (first | refine sp (po_load_bx_agg rfl rfl (tyT rfl) rfl (vc (vc (vc (vc (vc (vc (vc .nil))))))) rfl) ?_ | refine sp (po_load_agg rfl rfl (tyT rfl) rfl rfl) ?_ | refine oK ?_) <;> (first | refine oC (c1) rfl (ac .nil) ?_ | refine oC (c2) rfl (ac .nil) ?_ | refine oK ?_) <;> (first | refine oC (c1) rfl (ac .nil) ?_ | refine oC (c2) rfl (ac .nil) ?_ | refine oK ?_) <;> refine aq42 ?_) | refine gc ?_ | refine ct ?_ | refine cf ?_ | refine sc ?_ ?_ <;> intro hc | refine rq rfl (rt .nil) ?_)
    rfl
  | some y =>
    have c3 := sameR_ y x (by rw [hsr y ho]; exact h.hn)
    rw [ho] at c2
    unfold ofT at c2
    unfold reqT at c2 c3
    dsimp only at c2 ⊢
    generalize sameR y x = b at *
    cases b with
    | false =>
      repeat' (first | refine rg 0 (aq39 ?_) | (refine rg 1 (aq67 ?_); refine oC (c1) rfl (ac .nil) ?_; (first | refine oC (c1) rfl (ac .nil) ?_ | refine oC (c2) rfl (ac .nil) ?_); refine aq29 ?_; refine sal str57 ?_; refine aq62 ?_) | (refine rg 2 (aq159 ?_) <;> (first | refine oC (c1) rfl (ac (ac .nil)) ?_ | refine oC (c2) rfl (ac (ac .nil)) ?_ | refine oC (c3) rfl (ac (ac .nil)) ?_) <;> refine oPt ?_ <;> refine oMv ?_ <;> (first | refine sp (po_load_bx_agg rfl rfl (tyT rfl) rfl (vc (vc (vc (vc (vc (vc (vc .nil))))))) rfl) ?_ | refine sp (po_load_agg rfl rfl (tyT rfl) rfl rfl) ?_ | refine oK ?_) <;> (first | refine oC (c1) rfl (ac .nil) ?_ | refine oC (c2) rfl (ac .nil) ?_ | refine oC (c3) rfl (ac .nil) ?_ | refine oK ?_) <;> (first | refine oC (c1) rfl (ac .nil) ?_ | refine oC (c2) rfl (ac .nil) ?_ | refine oC (c3) rfl (ac .nil) ?_ | refine oK ?_) <;> refine aq42 ?_) | refine gc ?_ | refine ct ?_ | refine cf ?_ | refine sc ?_ ?_ <;> intro hc | refine rq rfl (rt .nil) ?_)
      rfl
    | true =>
      repeat' (first | refine rg 0 (aq39 ?_) | (refine rg 1 (aq67 ?_); refine oC (c1) rfl (ac .nil) ?_; (first | refine oC (c1) rfl (ac .nil) ?_ | refine oC (c2) rfl (ac .nil) ?_); refine aq29 ?_; refine sal str57 ?_; refine aq62 ?_) | (refine rg 2 (aq159 ?_) <;> (first | refine oC (c1) rfl (ac (ac .nil)) ?_ | refine oC (c2) rfl (ac (ac .nil)) ?_ | refine oC (c3) rfl (ac (ac .nil)) ?_) <;> refine oPt ?_ <;> refine oMv ?_ <;> refine sp (po_load_bx_agg rfl rfl (tyT rfl) rfl (vc (vc (vc (vc (vc (vc (vc .nil))))))) rfl) ?_ <;> refine oC (c1) rfl (ac .nil) ?_ <;> (first | refine oC (c1) rfl (ac .nil) ?_ | refine oC (c2) rfl (ac .nil) ?_ | refine oC (c3) rfl (ac .nil) ?_ | refine oC (c4) rfl (ac .nil) ?_) <;> refine aq76 ?_) | refine gc ?_ | refine ct ?_ | refine cf ?_ | refine sc ?_ ?_ <;> intro hc | refine rq rfl (rt .nil) ?_)
      rfl
def bytesT (x : PReq) : T := if mayR x then .tup [.sl 1 ((msgP (rawQ x)).map byteT), .v (.int .i64 0)] else .tup [.v (.slice none 0 0), .v (.int .i64 1)]
set_option maxRecDepth 100000 in
set_option maxHeartbeats 2000000 in
theorem bytes_ (x : PReq) (h : ReqOk x) : PCalls Tryz.prog 50 [.agg (reqT x)] (bytesT x) := by
  have c1 := may_ x h
  have c2 := raw_ x h
  have c3 := An.write_ (rawQ x) (rawQ_ok x h)
  unfold bytesT
  unfold reqT at c1 c2 ⊢
  refine pcalls_of Tryz.func50 rfl rfl Tryz.ntmps50 rfl ?_
  cases hm : mayR x with
  | false =>
    rw [hm] at c1
    repeat' (first | refine rg 0 (aq48 ?_) | (refine rg 1 (aq67 ?_); refine oC (c1) rfl (ac .nil) ?_; refine aq27 ?_) | refine rg 2 (aq49 ?_) | refine gc ?_ | refine ct ?_ | refine cf ?_ | refine sc ?_ ?_ <;> intro hc | refine rq rfl (rt (rt .nil)) ?_)
    rfl
  | true =>
    rw [hm] at c1
    have hw := (mayR_of hm).2.2
    unfold An.writeT at c3
    rw [hw, if_pos rfl] at c3
    unfold rawT at c2 c3
    repeat' (first | refine rg 0 (aq48 ?_) | (refine rg 1 (aq67 ?_); refine oC (c1) rfl (ac .nil) ?_; refine aq27 ?_) | (refine rg 3 (aq67 ?_); (first | refine oC (c1) rfl (ac .nil) ?_ | refine oC (c2) rfl (ac .nil) ?_); (first | refine oC (c1) rfl (ac .nil) ?_ | refine oC (c2) rfl (ac .nil) ?_ | refine oC (c3) rfl (ac .nil) ?_); refine aq134 ?_) | refine gc ?_ | refine ct ?_ | refine cf ?_ | refine sc ?_ ?_ <;> intro hc | refine rq rfl (rt (rt .nil)) ?_)
    rfl
def oneT (l : List UInt8) : T := match oneR l with
  | .inl x => .tup [.agg (reqT x), .v (.int .i64 0)]
  | .inr e => .tup [.agg reqT0, .v (.int .i64 e)]
set_option maxRecDepth 100000 in
set_option maxHeartbeats 4000000 in
theorem one_ (l : List UInt8) (hl : l.length ≤ 50000) (hok : ∀ r ∈ (rawsL l).1, An.RawOk r ∧ r.start.size ≤ 100000 ∧ ∀ v ∈ valsOf hostS r.heads, v.size ≤ 200000) : PCalls Tryz.prog 36 [.sl 1 (l.map byteT)] (oneT l) := by
  have c1 := raws_ l (by omega)
  unfold rawsT at c1
  unfold oneT oneR
  generalize (rawsL l).1 = x at *
  generalize (rawsL l).2 = e at *
  refine pcalls_of Tryz.func36 rfl rfl Tryz.ntmps36 rfl ?_
  by_cases he : e = 0
  · have e1 : (!decide (e = 0)) = false := by rw [decide_eq_true he]; rfl
    rw [if_pos he] at c1
    rw [if_neg (by simp [he])]
    match x, hok, c1 with
    | [], _, c1 =>
      have e2 : (!decide (((([] : List PRaw).map rawT).length : Int) = 1)) = true := rfl
      repeat' (first | (refine rg 0 ?_; refine sal str57 ?_; refine aq0 ?_) | (refine rg 1 ?_; refine oMv ?_; refine oC (c1) rfl (ac .nil) ?_; refine aq120 ?_) | refine rg 2 (aq19 ?_) | refine rg 4 (aq47 ?_) | (refine rg 5 ?_; refine sp (po_buildS str57 rfl .nil rfl) ?_; refine aq62 ?_) | refine gc ?_ | refine ct ?_ | refine cf ?_ | refine sc ?_ ?_ <;> intro hc | refine rq rfl (.cell rfl rfl (tyT rfl) (vc (vc (vc (vc (vc (vc (vc .nil))))))) rfl (rt .nil)) ?_)
      rfl
    | [r], hok, c1 =>
      obtain ⟨k1, k2, k3⟩ := hok r (by simp)
      have c2 := of_ r k1 k2 k3
      have e2 : (!decide ((([r].map rawT).length : Int) = 1)) = false := rfl
      unfold rawT at c2
      cases ho : ofR r with
      | none =>
        rw [ho] at c2
        unfold ofT reqT0 at c2
        dsimp only at c2 ⊢
        repeat' (first | (refine rg 0 ?_; refine sal str57 ?_; refine aq0 ?_) | (refine rg 1 ?_; refine oMv ?_; refine oC (c1) rfl (ac .nil) ?_; refine aq120 ?_) | refine rg 2 (aq19 ?_) | refine rg 4 (aq47 ?_) | (refine rg 6 (aq141 ?_); (first | refine oC (c1) rfl (ac .nil) ?_ | refine oC (c2) rfl (ac .nil) ?_); refine aq142 ?_) | refine gc ?_ | refine ct ?_ | refine cf ?_ | refine sc ?_ ?_ <;> intro hc | refine rq rfl (.cell rfl rfl (tyT rfl) (vc (vc (vc (vc (vc (vc (vc .nil))))))) rfl (rt .nil)) ?_)
        rw [ho]; rfl
      | some y =>
        rw [ho] at c2
        unfold ofT reqT at c2
        dsimp only at c2 ⊢
        repeat' (first | (refine rg 0 ?_; refine sal str57 ?_; refine aq0 ?_) | (refine rg 1 ?_; refine oMv ?_; refine oC (c1) rfl (ac .nil) ?_; refine aq120 ?_) | refine rg 2 (aq19 ?_) | refine rg 4 (aq47 ?_) | (refine rg 6 (aq141 ?_); (first | refine oC (c1) rfl (ac .nil) ?_ | refine oC (c2) rfl (ac .nil) ?_); refine aq142 ?_) | refine gc ?_ | refine ct ?_ | refine cf ?_ | refine sc ?_ ?_ <;> intro hc | refine rq rfl (.cell rfl rfl (tyT rfl) (vc (vc (vc (vc (vc (vc (vc .nil))))))) rfl (rt .nil)) ?_)
        rw [ho]; rfl
    | r :: r2 :: x, _, c1 =>
      have e2 : (!decide ((((r :: r2 :: x).map rawT).length : Int) = 1)) = true := by
        rw [decide_eq_false (by simp; omega)]; rfl
      repeat' (first | (refine rg 0 ?_; refine sal str57 ?_; refine aq0 ?_) | (refine rg 1 ?_; refine oMv ?_; refine oC (c1) rfl (ac .nil) ?_; refine aq120 ?_) | refine rg 2 (aq19 ?_) | refine rg 4 (aq47 ?_) | (refine rg 5 ?_; refine sp (po_buildS str57 rfl .nil rfl) ?_; refine aq62 ?_) | refine gc ?_ | refine ct ?_ | refine cf ?_ | refine sc ?_ ?_ <;> intro hc | refine rq rfl (.cell rfl rfl (tyT rfl) (vc (vc (vc (vc (vc (vc (vc .nil))))))) rfl (rt .nil)) ?_)
      rfl
  · have e1 : (!decide (e = 0)) = true := by rw [decide_eq_false he]; rfl
    rw [if_neg he] at c1
    rw [if_pos he]
    repeat' (first | (refine rg 0 ?_; refine sal str57 ?_; refine aq0 ?_) | (refine rg 1 ?_; refine oMv ?_; refine oC (c1) rfl (ac .nil) ?_; refine aq120 ?_) | refine rg 2 (aq19 ?_) | (refine rg 3 ?_; refine sp (po_buildS str57 rfl .nil rfl) ?_; refine aq143 ?_) | refine gc ?_ | refine ct ?_ | refine cf ?_ | refine sc ?_ ?_ <;> intro hc | refine rq rfl (.cell rfl rfl (tyT rfl) (vc (vc (vc (vc (vc (vc (vc .nil))))))) rfl (rt .nil)) ?_)
    rfl
end Go.Proofs.YtpncekdhigappaaGreatDoor.Ro

/- Answers: the chapter's examples; walks. -/
namespace Go.Proofs.YtpncekdhigappaaGreatDoor.An
set_option linter.unusedVariables false
set_option linter.unusedSimpArgs false
open Go.RowKit Mem Sim Opn Hd Str Rq
def r5 : PRaw := ⟨⟨#[72, 84, 84, 80, 47, 49, 46, 49, 32, 53, 48, 51, 32]⟩, [], []⟩
def r6 : PRaw := ⟨⟨#[72, 84, 84, 80, 47, 49, 46, 49, 32, 50, 48, 48]⟩, [], []⟩
end Go.Proofs.YtpncekdhigappaaGreatDoor.An

/- A logic of states: a constant text's bytes. -/
namespace Go.Proofs.YtpncekdhigappaaGreatDoor.Sim
set_option linter.unusedVariables false
set_option linter.unusedSimpArgs false
open Go.RowKit Mem
section
variable {P : Program} {N : Nat} {Q : Exit → St → Prop} {ops : Array Oper} {rest : List Oper} {o : Oper} {tm : List (Nat × A)} {bx : List (Nat × List A)} {ow : List (Nat × Own)}
structure SMk (P : Program) (N : Nat) (ops : Array Oper) (Q : Exit → St → Prop) (d e : Nat) (rows : List (List T)) (l : List Oper) (st : St) : Prop where
  go : ∀ C a w m g, RelG C N st a w m g → ∀ vs : List Value, vs.length = rows.length * 1 → (∀ r ∈ rows, r.length = 1) → CellsAre m rows.flatten vs → wpList P ops (Good C N Q) l (a.put (some d) (.slice (some ⟨w.heap.size, 0, none⟩) rows.length rows.length)) (w.alloc (.cells vs.toArray e))
theorem sops_cb1 {t e by_ len d : Nat} {xs : List (Nat × Operand)} {rows : List (List T)} (hg : GuardIs ops tm o true) (ho : o.op = .buildSlice t len xs.toArray) (hd : o.dst = some d) (hT : sliceE P t = some (e, 1, by_)) (hx : DParts ow (evA tm) 1 0 xs rows) (hlen : rows.length = len) (h0 : Nat.blt 0 len = true) (hsm : Nat.ble (len * 1) (2 ^ 24) = true)
    (k : SMk P N ops Q d e rows rest ⟨tm, bx, ow⟩) : SOps P N ops Q (o :: rest) ⟨tm, bx, ow⟩ := by
  refine .mk fun C a w ⟨m, g, hr⟩ => ?_
  obtain ⟨vs, h1, h2, h3, h4, h5⟩ := hx.ok hr.env (a := a) (fun x _ y hy => hr.ev hy)
  have hrun := built_run (P := P) hT w vs h3 (by omega) (Nat.lt_of_succ_le (Nat.le_of_ble_eq_true h0)) hsm
  refine wpList_step fun K hK => ?_
  rw [if_pos (hg.wanted (m := m) (g := g) fun j want e _ _ y hy => hr.tmps e y hy)]
  subst hlen
  refine wp_of_run (v := .slice (some ⟨w.heap.size, 0, none⟩) rows.length rows.length) (w' := w.alloc (.cells (vs.flatMap fun v => v.cells.toList).toArray e)) ?_ (hK _ _ ?_)
  · simp only [execOp, ho, List.map_toArray]
    rw [show (xs.map fun x => (x.1, a.eval x.2)) = (vs.zipIdx 0).map (fun x => (x.2, x.1)) from h1, Sem.run_bind, hrun]; rfl
  · rw [hd]
    exact k.go C a w m g hr _ (by rw [flatMap_cells_len h3, h2]) h4 h5
theorem sops_cb2 {t e d d2 : Nat} {rows : List (List T)} (hg : GuardIs ops ((d, .t (.sl 1 rows)) :: tm) o true) (ho : o.op = .convert t t (.tmp d)) (hd : o.dst = some d2) (hN : Nat.blt d N = true) (hN2 : Nat.blt d2 N = true) (hT : byE P t = some e) (hsm : Nat.ble rows.length (2 ^ 24) = true)
    (h : SOps P N ops Q rest ⟨(d2, .t (.sl 1 rows)) :: (d, .t (.sl 1 rows)) :: tm, bx, ow⟩) : SMk P N ops Q d e rows (o :: rest) ⟨tm, bx, ow⟩ := by
  refine .mk fun C a w m g hr vs hl h4 h5 => ?_
  obtain ⟨t1, t2⟩ := byE_spec hT
  have hle := Nat.le_of_ble_eq_true hsm
  have hrl : rows.length ≤ maxLen := by unfold maxLen; omega
  have hd1 : d < N := Nat.lt_of_succ_le (Nat.le_of_ble_eq_true hN)
  have hlo : Lo w (w.alloc (.cells vs.toArray e (vs.toArray.size, vs.toArray.size + 1))) := (Lo.refl w).alloc _
  have hs := upm_sub hr.env.sub hlo
  have he := ext_upm (w' := w.alloc (.cells vs.toArray e (vs.toArray.size, vs.toArray.size + 1))) hr.env.sub
  have hnew : (w.alloc (.cells vs.toArray e (vs.toArray.size, vs.toArray.size + 1))).heap[w.heap.size]? = some (.cells vs.toArray e (vs.toArray.size, vs.toArray.size + 1)) := heap_alloc_new w _
  have hTR : TR (upm m w (w.alloc (.cells vs.toArray e (vs.toArray.size, vs.toArray.size + 1)))) (.sl 1 rows) (.slice (some ⟨w.heap.size, 0, none⟩) rows.length rows.length) := by
    refine tr_owns (w := w.alloc (.cells vs.toArray e (vs.toArray.size, vs.toArray.size + 1))) (base := 0) (e := e) (vs := vs) ⟨hl, .inr ⟨w.heap.size, rows.length, vs.toArray, rfl, Nat.zero_le _, ⟨_, hnew, .inr (Nat.le_refl _)⟩, Nat.le_refl _, hrl, by simp [hl], ?_⟩⟩ h4 (h5.mono he.1) ?_
    · simp only; rw [← hl]; exact List.take_length
    · intro b hb k u hu
      injection hb with hb; subst hb
      unfold upm
      rw [if_neg (Nat.lt_irrefl _)]
      unfold World.cell?
      rw [hnew]
      simpa using hu
  have R1 := hr.put (x := .t (.sl 1 rows)) (v := .slice (some ⟨w.heap.size, 0, none⟩) rows.length rows.length) (hr.env.step hlo he hs) (fun x v h => h.mono he.1) hd1 hTR
  have R2 := R1.put (d := d2) (x := .t (.sl 1 rows)) (v := .slice (some ⟨w.heap.size, 0, none⟩) rows.length rows.length) R1.env (fun x v h => h) (Nat.lt_of_succ_le (Nat.le_of_ble_eq_true hN2)) hTR
  refine wpList_step fun K hK => ?_
  rw [if_pos (hg.wanted (m := upm m w (w.alloc (.cells vs.toArray e (vs.toArray.size, vs.toArray.size + 1)))) (g := g) fun j want e _ _ y hy => R1.tmps e y hy)]
  refine wp_of_run (v := .slice (some ⟨w.heap.size, 0, none⟩) rows.length rows.length) (w' := w.alloc (.cells vs.toArray e (vs.toArray.size, vs.toArray.size + 1))) ?_ (hK _ _ (h.go C _ _ ⟨_, _, by rw [hd]; exact R2⟩))
  have hev := eval_put_same (a := a) (.slice (some ⟨w.heap.size, 0, none⟩) rows.length rows.length) hr.size hd1
  have hc := Lib.run_convert_bytes_const (P := P) w t e vs.toArray rows.length rows.length t1 t2
  simp only [execOp, ho, hev, Sem.run_bind, hc]
  rfl
end
end Go.Proofs.YtpncekdhigappaaGreatDoor.Sim

/- Answers: the document's answer of a message, of bytes; walks. -/
namespace Go.Proofs.YtpncekdhigappaaGreatDoor.An
set_option linter.unusedVariables false
set_option linter.unusedSimpArgs false
open Go.RowKit Mem Sim Opn Hd Str Rq
theorem good_ok {h : Pl.Head} (hg : good h = true) : okHead h := by
  have := good_size hg
  unfold okHead maxLen; omega
theorem sane_ok {r : PRaw} (h : sane r) : RawOk r := by
  obtain ⟨h1, h2⟩ := h
  unfold fitsP mayL at h2
  simp only [Bool.and_eq_true, decide_eq_true_eq] at h2
  obtain ⟨⟨⟨_, h3, h4⟩, h5⟩, _⟩ := h2
  exact ⟨by omega, fun h hh => good_ok ((List.all_eq_true.1 h4) h hh), by omega, by unfold maxLen; omega⟩
theorem rawsL_sane (l : List UInt8) : ∀ r ∈ (rawsL l).1, sane r := by
  unfold rawsL
  split
  · simp
  · split
    · exact feed_sane l
    · simp
end Go.Proofs.YtpncekdhigappaaGreatDoor.An
