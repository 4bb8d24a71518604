/- Merged by bundles.py: SimOf4, SimAn9, SimCb, SimAn12, SimAnR, SimOr3, SimOa, Rel10, SimLo. -/
import Derived.Test.YtloippgblkoemaaGreatDoorB26
import Derived.Test.YtloippgblkoemaaGreatDoorB27
import Derived.Test.YtloippgblkoemaaGreatDoorB28
import Derived.Test.YtloippgblkoemaaGreatDoorB13
import Derived.Test.YtloippgblkoemaaGreatDoorB11
import Derived.Test.YtloippgblkoemaaGreatDoorB4
import Derived.Lib.SlBytesConst
import Derived.Test.YtloippgblkoemaaGreatDoorB21
import Derived.Test.YtloippgblkoemaaGreatDoorB24
import Derived.Test.YtloippgblkoemaaGreatDoorB25
import Derived.Test.YtloippgblkoemaaGreatDoorB0
import Derived.Test.YtloippgblkoemaaGreatDoorB12
import Derived.Test.YtloippgblkoemaaGreatDoorB20
import Derived.Test.YtloippgblkoemaaGreatDoorB16
import Derived.OpenShut
/- Requests: one of bytes, what may be, its bytes, the same: walks. -/
namespace Go.Proofs.YtloippgblkoemaaGreatDoor.Ro
set_option linter.unusedVariables false
set_option linter.unusedSimpArgs false
open Go.RowKit Mem Sim Opn Hd Str Pth Rq
set_option maxRecDepth 100000 in
set_option maxHeartbeats 4000000 in
theorem sameR_ (a b : PReq) (ha : a.heads.length ≤ 1000) : PCalls Tryz.prog 39 [.agg (reqT a), .agg (reqT b)] (.v (.bool (sameR a b))) := by
  have c1 := An.equalH_ a.heads b.heads ha
  unfold sameR
  generalize decide (a.heads = b.heads) = e6 at *
  refine pcalls_of Tryz.func39 rfl rfl Tryz.ntmps39 rfl ?_
  cases h1 : decide (a.method = b.method) with
  | false =>
    repeat' (first | refine rg 0 (aq77 ?_) | (refine rg 1 (aq126 ?_) <;> (first | refine sp (po_bytes_str rfl rfl (by first | exact .t _ | exact .own rfl (by rfl) | exact .nil _ | exact .emp _) byt23 (tyR rfl)) ?_ | refine oK ?_) <;> refine aq82 ?_ <;> (first | refine sp (po_bytes_str rfl rfl (by first | exact .t _ | exact .own rfl (by rfl) | exact .nil _ | exact .emp _) byt23 (tyR rfl)) ?_ | refine oK ?_) <;> refine aq83 ?_) | refine gc ?_ | refine ct ?_ | refine cf ?_ | refine sc ?_ ?_ <;> intro hc | refine rq rfl (rt .nil) ?_)
    rfl
  | true =>
    cases h2 : decide (a.target = b.target) with
    | false =>
      repeat' (first | refine rg 0 (aq77 ?_) | (refine rg 1 (aq127 ?_) <;> (first | refine sp (po_bytes_str rfl rfl (by first | exact .t _ | exact .own rfl (by rfl) | exact .nil _ | exact .emp _) byt23 (tyR rfl)) ?_ | refine oK ?_) <;> refine aq82 ?_ <;> (first | refine sp (po_bytes_str rfl rfl (by first | exact .t _ | exact .own rfl (by rfl) | exact .nil _ | exact .emp _) byt23 (tyR rfl)) ?_ | refine oK ?_) <;> refine aq83 ?_) | refine gc ?_ | refine ct ?_ | refine cf ?_ | refine sc ?_ ?_ <;> intro hc | refine rq rfl (rt .nil) ?_)
      rfl
    | true =>
      cases h3 : decide (a.path = b.path) with
      | false =>
        repeat' (first | refine rg 0 (aq77 ?_) | (refine rg 1 (aq128 ?_) <;> (first | refine sp (po_bytes_str rfl rfl (by first | exact .t _ | exact .own rfl (by rfl) | exact .nil _ | exact .emp _) byt23 (tyR rfl)) ?_ | refine oK ?_) <;> refine aq82 ?_ <;> (first | refine sp (po_bytes_str rfl rfl (by first | exact .t _ | exact .own rfl (by rfl) | exact .nil _ | exact .emp _) byt23 (tyR rfl)) ?_ | refine oK ?_) <;> refine aq83 ?_) | refine gc ?_ | refine ct ?_ | refine cf ?_ | refine sc ?_ ?_ <;> intro hc | refine rq rfl (rt .nil) ?_)
        rfl
      | true =>
        cases h4 : decide (a.query = b.query) with
        | false =>
          repeat' (first | refine rg 0 (aq77 ?_) | (refine rg 1 (aq129 ?_) <;> (first | refine sp (po_bytes_str rfl rfl (by first | exact .t _ | exact .own rfl (by rfl) | exact .nil _ | exact .emp _) byt23 (tyR rfl)) ?_ | refine oK ?_) <;> refine aq82 ?_ <;> (first | refine sp (po_bytes_str rfl rfl (by first | exact .t _ | exact .own rfl (by rfl) | exact .nil _ | exact .emp _) byt23 (tyR rfl)) ?_ | refine oK ?_) <;> refine aq83 ?_) | refine gc ?_ | refine ct ?_ | refine cf ?_ | refine sc ?_ ?_ <;> intro hc | refine rq rfl (rt .nil) ?_)
          rfl
        | true =>
          cases h5 : decide (a.host = b.host) with
          | false =>
            repeat' (first | refine rg 0 (aq77 ?_) | (refine rg 1 (aq130 ?_) <;> (first | refine sp (po_bytes_str rfl rfl (by first | exact .t _ | exact .own rfl (by rfl) | exact .nil _ | exact .emp _) byt23 (tyR rfl)) ?_ | refine oK ?_) <;> refine aq82 ?_ <;> (first | refine sp (po_bytes_str rfl rfl (by first | exact .t _ | exact .own rfl (by rfl) | exact .nil _ | exact .emp _) byt23 (tyR rfl)) ?_ | refine oK ?_) <;> refine aq83 ?_) | refine gc ?_ | refine ct ?_ | refine cf ?_ | refine sc ?_ ?_ <;> intro hc | refine rq rfl (rt .nil) ?_)
            rfl
          | true =>
            cases e6 with
            | false =>
              repeat' (first | refine rg 0 (aq77 ?_) | (refine rg 1 (aq131 ?_) <;> refine oC (c1) rfl (ac (ac .nil)) ?_ <;> refine aq81 ?_ <;> (first | refine sp (po_bytes_str rfl rfl (by first | exact .t _ | exact .own rfl (by rfl) | exact .nil _ | exact .emp _) byt23 (tyR rfl)) ?_ | refine oK ?_) <;> refine aq82 ?_ <;> (first | refine sp (po_bytes_str rfl rfl (by first | exact .t _ | exact .own rfl (by rfl) | exact .nil _ | exact .emp _) byt23 (tyR rfl)) ?_ | refine oK ?_) <;> refine aq83 ?_) | refine gc ?_ | refine ct ?_ | refine cf ?_ | refine sc ?_ ?_ <;> intro hc | refine rq rfl (rt .nil) ?_)
              rfl
            | true =>
              repeat' (first | refine rg 0 (aq77 ?_) | (refine rg 1 (aq131 ?_) <;> refine oC (c1) rfl (ac (ac .nil)) ?_ <;> refine aq79 ?_ <;> refine sp (po_bytes_str rfl rfl (by exact .t _) byt23 (tyR rfl)) ?_ <;> refine aq38 ?_ <;> refine sp (po_bytes_str rfl rfl (by exact .t _) byt23 (tyR rfl)) ?_ <;> refine aq80 ?_) | refine gc ?_ | refine ct ?_ | refine cf ?_ | refine sc ?_ ?_ <;> intro hc | refine rq rfl (rt .nil) ?_)
              rfl
structure ReqOk (x : PReq) : Prop where
  hm : x.method.size ≤ 40000
  ht : x.target.size ≤ 40000
  hn : x.heads.length ≤ 1000
  hh : ∀ h ∈ x.heads, okHead h
  hv : ∀ v ∈ valsOf hostS x.heads, v.size ≤ 200000
  hb : x.body.length ≤ 100000
theorem rawQ_size (x : PReq) (h : ReqOk x) : (rawQ x).start.size ≤ 100000 := by
  obtain ⟨h1, h2, _, _, _, _⟩ := h
  show (x.method ++ ⟨#[32]⟩ ++ x.target ++ ⟨#[32, 72, 84, 84, 80, 47, 49, 46, 49]⟩ : ByteArray).size ≤ 100000
  rw [ByteArray.size_append, ByteArray.size_append, ByteArray.size_append]
  have e1 : (⟨#[32]⟩ : ByteArray).size = 1 := rfl
  have e2 : (⟨#[32, 72, 84, 84, 80, 47, 49, 46, 49]⟩ : ByteArray).size = 9 := rfl
  omega
theorem rawQ_ok (x : PReq) (h : ReqOk x) : An.RawOk (rawQ x) := ⟨h.hn, h.hh, h.hb, by have := rawQ_size x h; unfold maxLen; omega⟩
set_option maxRecDepth 100000 in
theorem raw_ (x : PReq) (h : ReqOk x) : PCalls Tryz.prog 37 [.agg (reqT x)] (.agg (rawT (rawQ x))) := by
  obtain ⟨h1, h2, _, _, _, _⟩ := h
  have e1 : (⟨#[32]⟩ : ByteArray).size = 1 := rfl
  have e2 : (⟨#[32, 72, 84, 84, 80, 47, 49, 46, 49]⟩ : ByteArray).size = 9 := rfl
  have s1 : (x.method ++ ⟨#[32]⟩ : ByteArray).size = x.method.size + 1 := by rw [ByteArray.size_append]; rfl
  have s2 : (x.method ++ ⟨#[32]⟩ ++ x.target : ByteArray).size = x.method.size + 1 + x.target.size := by rw [ByteArray.size_append, s1]
  refine pcalls_of Tryz.func37 rfl rfl Tryz.ntmps37 rfl ?_
  repeat' (first | (refine rg 0 ?_; refine sbx ?_; refine sal str25 ?_; refine oN ?_) | (refine rg 1 ?_; refine oFb ?_; refine oLb ?_; refine sp (po_cat rfl rfl rfl (by omega)) ?_; refine oFb ?_; refine oLb ?_; refine sp (po_cat rfl rfl rfl (by omega)) ?_; refine sp (po_cat rfl rfl rfl (by omega)) ?_; refine oFb ?_; refine oLb ?_; refine oFb ?_; refine oLb ?_; refine sp (po_buildS str25 rfl (pc (pc (pc .nil))) rfl) ?_; refine aq8 ?_) | refine gc ?_ | refine ct ?_ | refine cf ?_ | refine sc ?_ ?_ <;> intro hc | refine rq rfl (.cell rfl rfl (tyT rfl) (vc (vc (vc .nil))) rfl .nil) ?_)
  rfl
set_option maxRecDepth 100000 in
set_option maxHeartbeats 4000000 in
theorem may_ (x : PReq) (h : ReqOk x) : PCalls Tryz.prog 18 [.agg (reqT x)] (.v (.bool (mayR x))) := by
  have c1 := raw_ x h
  have c2 := of_ (rawQ x) (rawQ_ok x h) (rawQ_size x h) h.hv
  have c4 := An.rfits_ (rawQ x).start x.heads h.hn h.hh x.body h.hb
  have hsr : ∀ y, ofR (rawQ x) = some y → y.heads = x.heads := fun y hy => by
    unfold ofR at hy
    split at hy
    · unfold of3 at hy
      split at hy
      · obtain ⟨q, _, hq⟩ := Option.map_eq_some_iff.1 hy
        rw [← hq]; rfl
      · cases hy
    · cases hy
  unfold mayR
  unfold reqT at c1 ⊢
  unfold rawT at c1 c2 c4
  change PCalls _ _ [.agg [.v (.string (rawQ x).start), headsT (rawQ x).heads, .sl 1 ((rawQ x).body.map byteT)]] _ at c4
  generalize rawQ x = q at *
  refine pcalls_of Tryz.func18 rfl rfl Tryz.ntmps18 rfl ?_
  cases ho : ofR q with
  | none =>
    rw [ho] at c2
    unfold ofT reqT0 at c2
    dsimp only at c2
    repeat' (first | refine rg 0 (aq37 ?_) | (refine rg 1 (aq63 ?_); refine oC (c1) rfl (ac .nil) ?_; (first | refine oC (c1) rfl (ac .nil) ?_ | refine oC (c2) rfl (ac .nil) ?_); refine aq27 ?_; refine sal str39 ?_; refine aq58 ?_) | (refine rg 2 ?_; refine oMv ?_; refine oCm ?_; refine oMv ?_; (first | refine sp (po_load_bx_agg rfl rfl (tyT rfl) rfl (vc (vc (vc (vc (vc (vc (vc .nil))))))) rfl) ?_ | refine sp (po_load_agg rfl rfl (tyT rfl) rfl rfl) ?_ | refine oK ?_); (first | refine sp (po_load_bx_agg rfl rfl (tyT rfl) rfl (vc (vc (vc (vc (vc (vc (vc .nil))))))) rfl) ?_ | refine sp (po_load_agg rfl rfl (tyT rfl) rfl rfl) ?_ | refine oK ?_) <;> (first | refine oC (c1) rfl (ac (ac .nil)) ?_ | refine oC (c2) rfl (ac (ac .nil)) ?_ | refine oK ?_) <;> (first | refine oPt ?_ | refine oPf ?_) <;> refine oMv ?_ <;> (first | refine sp (po_load_bx_agg rfl rfl (tyT rfl) rfl (vc (vc (vc (vc (vc (vc (vc .nil))))))) rfl) ?_ | refine sp (po_load_agg rfl rfl (tyT rfl) rfl rfl) ?_ | refine oK ?_) <;> (first | refine oC (c1) rfl (ac .nil) ?_ | refine oC (c2) rfl (ac .nil) ?_ | refine oK ?_) <;> (first | refine oC (c1) rfl (ac .nil) ?_ | refine oC (c2) rfl (ac .nil) ?_ | refine oK ?_) <;> refine aq40 ?_) | refine gc ?_ | refine ct ?_ | refine cf ?_ | refine sc ?_ ?_ <;> intro hc | refine rq rfl (rt .nil) ?_)
    rfl
  | some y =>
    have c3 := sameR_ y x (by rw [hsr y ho]; exact h.hn)
    rw [ho] at c2
    unfold ofT at c2
    unfold reqT at c2 c3
    dsimp only at c2 ⊢
    generalize sameR y x = b at *
    cases b with
    | false =>
      repeat' (first | refine rg 0 (aq37 ?_) | (refine rg 1 (aq63 ?_); refine oC (c1) rfl (ac .nil) ?_; (first | refine oC (c1) rfl (ac .nil) ?_ | refine oC (c2) rfl (ac .nil) ?_); refine aq27 ?_; refine sal str39 ?_; refine aq58 ?_) | (refine rg 2 (aq132 ?_) <;> (first | refine oC (c1) rfl (ac (ac .nil)) ?_ | refine oC (c2) rfl (ac (ac .nil)) ?_ | refine oC (c3) rfl (ac (ac .nil)) ?_) <;> refine oPt ?_ <;> refine oMv ?_ <;> (first | refine sp (po_load_bx_agg rfl rfl (tyT rfl) rfl (vc (vc (vc (vc (vc (vc (vc .nil))))))) rfl) ?_ | refine sp (po_load_agg rfl rfl (tyT rfl) rfl rfl) ?_ | refine oK ?_) <;> (first | refine oC (c1) rfl (ac .nil) ?_ | refine oC (c2) rfl (ac .nil) ?_ | refine oC (c3) rfl (ac .nil) ?_ | refine oK ?_) <;> (first | refine oC (c1) rfl (ac .nil) ?_ | refine oC (c2) rfl (ac .nil) ?_ | refine oC (c3) rfl (ac .nil) ?_ | refine oK ?_) <;> refine aq40 ?_) | refine gc ?_ | refine ct ?_ | refine cf ?_ | refine sc ?_ ?_ <;> intro hc | refine rq rfl (rt .nil) ?_)
      rfl
    | true =>
      repeat' (first | refine rg 0 (aq37 ?_) | (refine rg 1 (aq63 ?_); refine oC (c1) rfl (ac .nil) ?_; (first | refine oC (c1) rfl (ac .nil) ?_ | refine oC (c2) rfl (ac .nil) ?_); refine aq27 ?_; refine sal str39 ?_; refine aq58 ?_) | (refine rg 2 (aq132 ?_) <;> (first | refine oC (c1) rfl (ac (ac .nil)) ?_ | refine oC (c2) rfl (ac (ac .nil)) ?_ | refine oC (c3) rfl (ac (ac .nil)) ?_) <;> refine oPt ?_ <;> refine oMv ?_ <;> refine sp (po_load_bx_agg rfl rfl (tyT rfl) rfl (vc (vc (vc (vc (vc (vc (vc .nil))))))) rfl) ?_ <;> refine oC (c1) rfl (ac .nil) ?_ <;> (first | refine oC (c1) rfl (ac .nil) ?_ | refine oC (c2) rfl (ac .nil) ?_ | refine oC (c3) rfl (ac .nil) ?_ | refine oC (c4) rfl (ac .nil) ?_) <;> refine aq72 ?_) | refine gc ?_ | refine ct ?_ | refine cf ?_ | refine sc ?_ ?_ <;> intro hc | refine rq rfl (rt .nil) ?_)
      rfl
def bytesT (x : PReq) : T := if mayR x then .tup [.sl 1 ((msgP (rawQ x)).map byteT), .v (.int .i64 0)] else .tup [.v (.slice none 0 0), .v (.int .i64 1)]
set_option maxRecDepth 100000 in
set_option maxHeartbeats 2000000 in
theorem bytes_ (x : PReq) (h : ReqOk x) : PCalls Tryz.prog 15 [.agg (reqT x)] (bytesT x) := by
  have c1 := may_ x h
  have c2 := raw_ x h
  have c3 := An.write_ (rawQ x) (rawQ_ok x h)
  unfold bytesT
  unfold reqT at c1 c2 ⊢
  refine pcalls_of Tryz.func15 rfl rfl Tryz.ntmps15 rfl ?_
  cases hm : mayR x with
  | false =>
    rw [hm] at c1
    repeat' (first | refine rg 0 (aq46 ?_) | (refine rg 1 (aq63 ?_); refine oC (c1) rfl (ac .nil) ?_; refine aq25 ?_) | refine rg 2 (aq47 ?_) | refine gc ?_ | refine ct ?_ | refine cf ?_ | refine sc ?_ ?_ <;> intro hc | refine rq rfl (rt (rt .nil)) ?_)
    rfl
  | true =>
    rw [hm] at c1
    have hw := (mayR_of hm).2.2
    unfold An.writeT at c3
    rw [hw, if_pos rfl] at c3
    unfold rawT at c2 c3
    repeat' (first | refine rg 0 (aq46 ?_) | (refine rg 1 (aq63 ?_); refine oC (c1) rfl (ac .nil) ?_; refine aq25 ?_) | (refine rg 3 (aq63 ?_); (first | refine oC (c1) rfl (ac .nil) ?_ | refine oC (c2) rfl (ac .nil) ?_); (first | refine oC (c1) rfl (ac .nil) ?_ | refine oC (c2) rfl (ac .nil) ?_ | refine oC (c3) rfl (ac .nil) ?_); refine aq109 ?_) | refine gc ?_ | refine ct ?_ | refine cf ?_ | refine sc ?_ ?_ <;> intro hc | refine rq rfl (rt (rt .nil)) ?_)
    rfl
def oneT (l : List UInt8) : T := match oneR l with
  | .inl x => .tup [.agg (reqT x), .v (.int .i64 0)]
  | .inr e => .tup [.agg reqT0, .v (.int .i64 e)]
set_option maxRecDepth 100000 in
set_option maxHeartbeats 4000000 in
theorem one_ (l : List UInt8) (hl : l.length ≤ 50000) (hok : ∀ r ∈ (rawsL l).1, An.RawOk r ∧ r.start.size ≤ 100000 ∧ ∀ v ∈ valsOf hostS r.heads, v.size ≤ 200000) : PCalls Tryz.prog 16 [.sl 1 (l.map byteT)] (oneT l) := by
  have c1 := raws_ l (by omega)
  unfold rawsT at c1
  unfold oneT oneR
  generalize (rawsL l).1 = x at *
  generalize (rawsL l).2 = e at *
  refine pcalls_of Tryz.func16 rfl rfl Tryz.ntmps16 rfl ?_
  by_cases he : e = 0
  · have e1 : (!decide (e = 0)) = false := by rw [decide_eq_true he]; rfl
    rw [if_pos he] at c1
    rw [if_neg (by simp [he])]
    match x, hok, c1 with
    | [], _, c1 =>
      have e2 : (!decide (((([] : List PRaw).map rawT).length : Int) = 1)) = true := rfl
      repeat' (first | (refine rg 0 ?_; refine sal str39 ?_; refine aq0 ?_) | (refine rg 1 ?_; refine oMv ?_; refine oC (c1) rfl (ac .nil) ?_; refine aq104 ?_) | refine rg 2 (aq18 ?_) | refine rg 4 (aq45 ?_) | (refine rg 5 ?_; refine sp (po_buildS str39 rfl .nil rfl) ?_; refine aq58 ?_) | refine gc ?_ | refine ct ?_ | refine cf ?_ | refine sc ?_ ?_ <;> intro hc | refine rq rfl (.cell rfl rfl (tyT rfl) (vc (vc (vc (vc (vc (vc (vc .nil))))))) rfl (rt .nil)) ?_)
      rfl
    | [r], hok, c1 =>
      obtain ⟨k1, k2, k3⟩ := hok r (by simp)
      have c2 := of_ r k1 k2 k3
      have e2 : (!decide ((([r].map rawT).length : Int) = 1)) = false := rfl
      unfold rawT at c2
      cases ho : ofR r with
      | none =>
        rw [ho] at c2
        unfold ofT reqT0 at c2
        dsimp only at c2 ⊢
        repeat' (first | (refine rg 0 ?_; refine sal str39 ?_; refine aq0 ?_) | (refine rg 1 ?_; refine oMv ?_; refine oC (c1) rfl (ac .nil) ?_; refine aq104 ?_) | refine rg 2 (aq18 ?_) | refine rg 4 (aq45 ?_) | (refine rg 6 (aq116 ?_); (first | refine oC (c1) rfl (ac .nil) ?_ | refine oC (c2) rfl (ac .nil) ?_); refine aq117 ?_) | refine gc ?_ | refine ct ?_ | refine cf ?_ | refine sc ?_ ?_ <;> intro hc | refine rq rfl (.cell rfl rfl (tyT rfl) (vc (vc (vc (vc (vc (vc (vc .nil))))))) rfl (rt .nil)) ?_)
        rw [ho]; rfl
      | some y =>
        rw [ho] at c2
        unfold ofT reqT at c2
        dsimp only at c2 ⊢
        repeat' (first | (refine rg 0 ?_; refine sal str39 ?_; refine aq0 ?_) | (refine rg 1 ?_; refine oMv ?_; refine oC (c1) rfl (ac .nil) ?_; refine aq104 ?_) | refine rg 2 (aq18 ?_) | refine rg 4 (aq45 ?_) | (refine rg 6 (aq116 ?_); (first | refine oC (c1) rfl (ac .nil) ?_ | refine oC (c2) rfl (ac .nil) ?_); refine aq117 ?_) | refine gc ?_ | refine ct ?_ | refine cf ?_ | refine sc ?_ ?_ <;> intro hc | refine rq rfl (.cell rfl rfl (tyT rfl) (vc (vc (vc (vc (vc (vc (vc .nil))))))) rfl (rt .nil)) ?_)
        rw [ho]; rfl
    | r :: r2 :: x, _, c1 =>
      have e2 : (!decide ((((r :: r2 :: x).map rawT).length : Int) = 1)) = true := by
        rw [decide_eq_false (by simp; omega)]; rfl
      repeat' (first | (refine rg 0 ?_; refine sal str39 ?_; refine aq0 ?_) | (refine rg 1 ?_; refine oMv ?_; refine oC (c1) rfl (ac .nil) ?_; refine aq104 ?_) | refine rg 2 (aq18 ?_) | refine rg 4 (aq45 ?_) | (refine rg 5 ?_; refine sp (po_buildS str39 rfl .nil rfl) ?_; refine aq58 ?_) | refine gc ?_ | refine ct ?_ | refine cf ?_ | refine sc ?_ ?_ <;> intro hc | refine rq rfl (.cell rfl rfl (tyT rfl) (vc (vc (vc (vc (vc (vc (vc .nil))))))) rfl (rt .nil)) ?_)
      rfl
  · have e1 : (!decide (e = 0)) = true := by rw [decide_eq_false he]; rfl
    rw [if_neg he] at c1
    rw [if_pos he]
    repeat' (first | (refine rg 0 ?_; refine sal str39 ?_; refine aq0 ?_) | (refine rg 1 ?_; refine oMv ?_; refine oC (c1) rfl (ac .nil) ?_; refine aq104 ?_) | refine rg 2 (aq18 ?_) | (refine rg 3 ?_; refine sp (po_buildS str39 rfl .nil rfl) ?_; refine oMv ?_; refine oS ?_; refine oAs ?_; refine oN ?_) | refine gc ?_ | refine ct ?_ | refine cf ?_ | refine sc ?_ ?_ <;> intro hc | refine rq rfl (.cell rfl rfl (tyT rfl) (vc (vc (vc (vc (vc (vc (vc .nil))))))) rfl (rt .nil)) ?_)
    rfl
end Go.Proofs.YtloippgblkoemaaGreatDoor.Ro

/- Answers: the chapter's examples; walks. -/
namespace Go.Proofs.YtloippgblkoemaaGreatDoor.An
set_option linter.unusedVariables false
set_option linter.unusedSimpArgs false
open Go.RowKit Mem Sim Opn Hd Str Rq
def r5 : PRaw := ⟨⟨#[72, 84, 84, 80, 47, 49, 46, 49, 32, 53, 48, 51, 32]⟩, [], []⟩
def r6 : PRaw := ⟨⟨#[72, 84, 84, 80, 47, 49, 46, 49, 32, 50, 48, 48]⟩, [], []⟩
end Go.Proofs.YtloippgblkoemaaGreatDoor.An

/- A logic of states: a constant text's bytes. -/
namespace Go.Proofs.YtloippgblkoemaaGreatDoor.Sim
set_option linter.unusedVariables false
set_option linter.unusedSimpArgs false
open Go.RowKit Mem
section
variable {P : Program} {N : Nat} {Q : Exit → St → Prop} {ops : Array Oper} {rest : List Oper} {o : Oper} {tm : List (Nat × A)} {bx : List (Nat × List A)} {ow : List (Nat × Own)}
structure SMk (P : Program) (N : Nat) (ops : Array Oper) (Q : Exit → St → Prop) (d e : Nat) (rows : List (List T)) (l : List Oper) (st : St) : Prop where
  go : ∀ C a w m g, RelG C N st a w m g → ∀ vs : List Value, vs.length = rows.length * 1 → (∀ r ∈ rows, r.length = 1) → CellsAre m rows.flatten vs → wpList P ops (Good C N Q) l (a.put (some d) (.slice (some ⟨w.heap.size, 0, none⟩) rows.length rows.length)) (w.alloc (.cells vs.toArray e))
theorem sops_cb1 {t e by_ len d : Nat} {xs : List (Nat × Operand)} {rows : List (List T)} (hg : GuardIs ops tm o true) (ho : o.op = .buildSlice t len xs.toArray) (hd : o.dst = some d) (hT : sliceE P t = some (e, 1, by_)) (hx : DParts ow (evA tm) 1 0 xs rows) (hlen : rows.length = len) (h0 : Nat.blt 0 len = true) (hsm : Nat.ble (len * 1) (2 ^ 24) = true)
    (k : SMk P N ops Q d e rows rest ⟨tm, bx, ow⟩) : SOps P N ops Q (o :: rest) ⟨tm, bx, ow⟩ := by
  refine .mk fun C a w ⟨m, g, hr⟩ => ?_
  obtain ⟨vs, h1, h2, h3, h4, h5⟩ := hx.ok hr.env (a := a) (fun x _ y hy => hr.ev hy)
  have hrun := built_run (P := P) hT w vs h3 (by omega) (Nat.lt_of_succ_le (Nat.le_of_ble_eq_true h0)) hsm
  refine wpList_step fun K hK => ?_
  rw [if_pos (hg.wanted (m := m) (g := g) fun j want e _ _ y hy => hr.tmps e y hy)]
  subst hlen
  refine wp_of_run (v := .slice (some ⟨w.heap.size, 0, none⟩) rows.length rows.length) (w' := w.alloc (.cells (vs.flatMap fun v => v.cells.toList).toArray e)) ?_ (hK _ _ ?_)
  · simp only [execOp, ho, List.map_toArray]
    rw [show (xs.map fun x => (x.1, a.eval x.2)) = (vs.zipIdx 0).map (fun x => (x.2, x.1)) from h1, Sem.run_bind, hrun]; rfl
  · rw [hd]
    exact k.go C a w m g hr _ (by rw [flatMap_cells_len h3, h2]) h4 h5
theorem sops_cb2 {t e d d2 : Nat} {rows : List (List T)} (hg : GuardIs ops ((d, .t (.sl 1 rows)) :: tm) o true) (ho : o.op = .convert t t (.tmp d)) (hd : o.dst = some d2) (hN : Nat.blt d N = true) (hN2 : Nat.blt d2 N = true) (hT : byE P t = some e) (hsm : Nat.ble rows.length (2 ^ 24) = true)
    (h : SOps P N ops Q rest ⟨(d2, .t (.sl 1 rows)) :: (d, .t (.sl 1 rows)) :: tm, bx, ow⟩) : SMk P N ops Q d e rows (o :: rest) ⟨tm, bx, ow⟩ := by
  refine .mk fun C a w m g hr vs hl h4 h5 => ?_
  obtain ⟨t1, t2⟩ := byE_spec hT
  have hle := Nat.le_of_ble_eq_true hsm
  have hrl : rows.length ≤ maxLen := by unfold maxLen; omega
  have hd1 : d < N := Nat.lt_of_succ_le (Nat.le_of_ble_eq_true hN)
  have hlo : Lo w (w.alloc (.cells vs.toArray e (vs.toArray.size, vs.toArray.size + 1))) := (Lo.refl w).alloc _
  have hs := upm_sub hr.env.sub hlo
  have he := ext_upm (w' := w.alloc (.cells vs.toArray e (vs.toArray.size, vs.toArray.size + 1))) hr.env.sub
  have hnew : (w.alloc (.cells vs.toArray e (vs.toArray.size, vs.toArray.size + 1))).heap[w.heap.size]? = some (.cells vs.toArray e (vs.toArray.size, vs.toArray.size + 1)) := heap_alloc_new w _
  have hTR : TR (upm m w (w.alloc (.cells vs.toArray e (vs.toArray.size, vs.toArray.size + 1)))) (.sl 1 rows) (.slice (some ⟨w.heap.size, 0, none⟩) rows.length rows.length) := by
    refine tr_owns (w := w.alloc (.cells vs.toArray e (vs.toArray.size, vs.toArray.size + 1))) (base := 0) (e := e) (vs := vs) ⟨hl, .inr ⟨w.heap.size, rows.length, vs.toArray, rfl, Nat.zero_le _, ⟨_, hnew, .inr (Nat.le_refl _)⟩, Nat.le_refl _, hrl, by simp [hl], ?_⟩⟩ h4 (h5.mono he.1) ?_
    · simp only; rw [← hl]; exact List.take_length
    · intro b hb k u hu
      injection hb with hb; subst hb
      unfold upm
      rw [if_neg (Nat.lt_irrefl _)]
      unfold World.cell?
      rw [hnew]
      simpa using hu
  have R1 := hr.put (x := .t (.sl 1 rows)) (v := .slice (some ⟨w.heap.size, 0, none⟩) rows.length rows.length) (hr.env.step hlo he hs) (fun x v h => h.mono he.1) hd1 hTR
  have R2 := R1.put (d := d2) (x := .t (.sl 1 rows)) (v := .slice (some ⟨w.heap.size, 0, none⟩) rows.length rows.length) R1.env (fun x v h => h) (Nat.lt_of_succ_le (Nat.le_of_ble_eq_true hN2)) hTR
  refine wpList_step fun K hK => ?_
  rw [if_pos (hg.wanted (m := upm m w (w.alloc (.cells vs.toArray e (vs.toArray.size, vs.toArray.size + 1)))) (g := g) fun j want e _ _ y hy => R1.tmps e y hy)]
  refine wp_of_run (v := .slice (some ⟨w.heap.size, 0, none⟩) rows.length rows.length) (w' := w.alloc (.cells vs.toArray e (vs.toArray.size, vs.toArray.size + 1))) ?_ (hK _ _ (h.go C _ _ ⟨_, _, by rw [hd]; exact R2⟩))
  have hev := eval_put_same (a := a) (.slice (some ⟨w.heap.size, 0, none⟩) rows.length rows.length) hr.size hd1
  have hc := Lib.run_convert_bytes_const (P := P) w t e vs.toArray rows.length rows.length t1 t2
  simp only [execOp, ho, hev, Sem.run_bind, hc]
  rfl
end
end Go.Proofs.YtloippgblkoemaaGreatDoor.Sim

/- Answers: the document's answer of a message, of bytes; walks. -/
namespace Go.Proofs.YtloippgblkoemaaGreatDoor.An
set_option linter.unusedVariables false
set_option linter.unusedSimpArgs false
open Go.RowKit Mem Sim Opn Hd Str Rq
theorem good_ok {h : Pl.Head} (hg : good h = true) : okHead h := by
  have := good_size hg
  unfold okHead maxLen; omega
theorem sane_ok {r : PRaw} (h : sane r) : RawOk r := by
  obtain ⟨h1, h2⟩ := h
  unfold fitsP mayL at h2
  simp only [Bool.and_eq_true, decide_eq_true_eq] at h2
  obtain ⟨⟨⟨_, h3, h4⟩, h5⟩, _⟩ := h2
  exact ⟨by omega, fun h hh => good_ok ((List.all_eq_true.1 h4) h hh), by omega, by unfold maxLen; omega⟩
theorem rawsL_sane (l : List UInt8) : ∀ r ∈ (rawsL l).1, sane r := by
  unfold rawsL
  split
  · simp
  · split
    · exact feed_sane l
    · simp
end Go.Proofs.YtloippgblkoemaaGreatDoor.An

/- Answers, messages: the document's reasons, first lines, bytes; walks. -/
namespace Go.Proofs.YtloippgblkoemaaGreatDoor.An
set_option linter.unusedVariables false
set_option linter.unusedSimpArgs false
open Go.RowKit Mem Sim Opn Hd Str Rq
theorem po_andq {P : Program} {bx : List (Nat × List A)} {ow : List (Nat × Own)} {o : Oper} {ρ : Operand → Option A} {t t2 : TypeId} {x y : Operand} {k : IntKind} {i j c : Int} (hc : k.wrap (BitVec.ofInt k.bits i &&& BitVec.ofInt k.bits j).toNat = c) (ho : o.op = .binOp .and t x y t2) (hx : ρ x = some (.t (.v (.int k i)))) (hy : ρ y = some (.t (.v (.int k j)))) : PureOp P bx ow o ρ (.t (.v (.int k c))) := by
  subst hc; exact po_and ho hx hy
end Go.Proofs.YtloippgblkoemaaGreatDoor.An

/- Requests: the document's answer: one of bytes, the same, what may be: walks. -/
namespace Go.Proofs.YtloippgblkoemaaGreatDoor.Ro
set_option linter.unusedVariables false
set_option linter.unusedSimpArgs false
open Go.RowKit Mem Sim Opn Hd Str Pth Rq
theorem sane_hyp {r : PRaw} (h : sane r) : An.RawOk r ∧ r.start.size ≤ 100000 ∧ ∀ v ∈ valsOf hostS r.heads, v.size ≤ 200000 := by
  refine ⟨An.sane_ok h, by have := h.1; omega, fun v hv => ?_⟩
  obtain ⟨_, h2⟩ := h
  unfold fitsP Hd.mayL at h2
  simp only [Bool.and_eq_true, decide_eq_true_eq] at h2
  obtain ⟨⟨⟨_, h3, h4⟩, h5⟩, _⟩ := h2
  unfold valsOf at hv
  obtain ⟨x, hx, rfl⟩ := List.mem_map.1 hv
  have := good_size ((List.all_eq_true.1 h4) x (List.mem_filter.1 hx).1)
  omega
theorem one2_ (l : List UInt8) (hl : l.length ≤ 50000) : PCalls Tryz.prog 16 [.sl 1 (l.map byteT)] (oneT l) := one_ l hl fun r hr => sane_hyp (An.rawsL_sane l r hr)
end Go.Proofs.YtloippgblkoemaaGreatDoor.Ro

/- Requests: the chapter's examples: a walk. -/
namespace Go.Proofs.YtloippgblkoemaaGreatDoor.Ro
set_option linter.unusedVariables false
set_option linter.unusedSimpArgs false
open Go.RowKit Mem Sim Opn Hd Str Pth Rq
def w1 : L8 := [71, 69, 84, 32, 47, 97, 47, 47, 98, 63, 120, 32, 72, 84, 84, 80, 47, 49, 46, 49, 13, 10, 72, 111, 115, 116, 58, 32, 65, 46, 98, 13, 10, 13, 10]
def w2 : L8 := [80, 79, 83, 84, 32, 47, 32, 72, 84, 84, 80, 47, 49, 46, 49, 13, 10, 72, 111, 115, 116, 58, 32, 97, 13, 10, 84, 114, 97, 110, 115, 102, 101, 114, 45, 69, 110, 99, 111, 100, 105, 110, 103, 58, 32, 99, 104, 117, 110, 107, 101, 100, 13, 10, 13, 10, 51, 13, 10, 97, 98, 99, 13, 10, 48, 13, 10, 13, 10]
def w3 : L8 := [80, 79, 83, 84, 32, 47, 32, 72, 84, 84, 80, 47, 49, 46, 49, 13, 10, 72, 111, 115, 116, 58, 32, 97, 13, 10, 84, 114, 97, 110, 115, 102, 101, 114, 45, 69, 110, 99, 111, 100, 105, 110, 103, 58, 32, 99, 104, 117, 110, 107, 101, 100, 13, 10, 67, 111, 110, 116, 101, 110, 116, 45, 76, 101, 110, 103, 116, 104, 58, 32, 51, 13, 10, 13, 10, 51, 13, 10, 97, 98, 99, 13, 10, 48, 13, 10, 13, 10]
def w4 : L8 := [71, 69, 84, 32, 47, 32, 72, 84, 84, 80, 47, 49, 46, 49, 10, 72, 111, 115, 116, 58, 32, 97, 13, 10, 13, 10]
def w5 : L8 := [67, 79, 78, 78, 69, 67, 84, 32, 97, 46, 98, 58, 56, 48, 32, 72, 84, 84, 80, 47, 49, 46, 49, 13, 10, 72, 111, 115, 116, 58, 32, 97, 46, 98, 58, 56, 48, 13, 10, 13, 10]
def h1 : Pl.Head := ⟨hostS, ⟨#[65, 46, 98]⟩⟩
def h2 : Pl.Head := ⟨hostS, ⟨#[97]⟩⟩
def h5 : Pl.Head := ⟨hostS, ⟨#[97, 46, 98, 58, 56, 48]⟩⟩
def x1 : PReq := ⟨⟨#[71, 69, 84]⟩, ⟨#[47, 97, 47, 47, 98, 63, 120]⟩, ⟨#[47, 97, 47, 98]⟩, ⟨#[120]⟩, ⟨#[97, 46, 98]⟩, [h1], []⟩
def x2 : PReq := ⟨⟨#[80, 79, 83, 84]⟩, ⟨#[47]⟩, ⟨#[47]⟩, ⟨#[]⟩, ⟨#[97]⟩, [h2, ⟨teS, chS⟩], [97, 98, 99]⟩
def x5 : PReq := ⟨⟨#[67, 79, 78, 78, 69, 67, 84]⟩, ⟨#[97, 46, 98, 58, 56, 48]⟩, ⟨#[]⟩, ⟨#[]⟩, ⟨#[97, 46, 98, 58, 56, 48]⟩, [h5], []⟩
def r1 : PRaw := ⟨⟨#[71, 69, 84, 32, 47, 97, 47, 47, 98, 63, 120, 32, 72, 84, 84, 80, 47, 49, 46, 49]⟩, [h1], []⟩
def r2 : PRaw := ⟨⟨#[80, 79, 83, 84, 32, 47, 32, 72, 84, 84, 80, 47, 49, 46, 49]⟩, [h2, ⟨teS, chS⟩], [97, 98, 99]⟩
def r5 : PRaw := ⟨⟨#[67, 79, 78, 78, 69, 67, 84, 32, 97, 46, 98, 58, 56, 48, 32, 72, 84, 84, 80, 47, 49, 46, 49]⟩, [h5], []⟩
theorem k1 : rawsL w1 = ([r1], 0) := by kernel_rfl
theorem k2 : rawsL w2 = ([r2], 0) := by kernel_rfl
theorem k3 : rawsL w3 = ([], 2) := by kernel_rfl
theorem k4 : rawsL w4 = ([], 2) := by kernel_rfl
theorem k5 : rawsL w5 = ([r5], 0) := by kernel_rfl
theorem o1 : ofR r1 = some x1 := by kernel_rfl
theorem o2 : ofR r2 = some x2 := by kernel_rfl
theorem o5 : ofR r5 = some x5 := by kernel_rfl
theorem of1 {l : L8} {r : PRaw} {x : PReq} (h : rawsL l = ([r], 0)) (ho : ofR r = some x) : oneT l = .tup [.agg (reqT x), .v (.int .i64 0)] := by
  unfold oneT oneR; rw [h, if_neg (fun e => e rfl)]
  dsimp only
  rw [ho]
theorem of0 {l : L8} (h : rawsL l = ([], 2)) : oneT l = .tup [.agg reqT0, .v (.int .i64 2)] := by
  unfold oneT oneR; rw [h, if_pos (by decide)]
set_option maxRecDepth 100000 in
set_option maxHeartbeats 4000000 in
theorem awake_ : PCalls Tryz.prog 14 [] (.v (.bool true)) := by
  have c1 := one2_ w1 (by decide)
  have c2 := one2_ w2 (by decide)
  have c3 := one2_ w3 (by decide)
  have c4 := one2_ w4 (by decide)
  have c5 := one2_ w5 (by decide)
  rw [of1 k1 o1] at c1
  rw [of1 k2 o2] at c2
  rw [of0 k3] at c3
  rw [of0 k4] at c4
  rw [of1 k5 o5] at c5
  unfold reqT at c1 c2 c5
  unfold reqT0 at c3 c4
  refine pcalls_of Tryz.func14 rfl rfl Tryz.ntmps14 rfl ?_
  repeat' (first | refine rg 0 (aq0 ?_) | (refine rg 1 ?_; refine sops_cb1 (.free rfl rfl) rfl rfl (tyE rfl) (dc (dc (dc (dc (dc (dc (dc (dc (dc (dc (dc (dc (dc (dc (dc (dc (dc (dc (dc (dc (dc (dc (dc (dc (dc (dc (dc (dc (dc (dc (dc (dc (dc (dc (dc (.nil _)))))))))))))))))))))))))))))))))))) rfl rfl rfl ?_; refine sops_cb2 (.free rfl rfl) rfl rfl rfl rfl byt23 rfl ?_; refine oC (c1) rfl (ac .nil) ?_; refine aq27 ?_; refine sal str39 ?_; refine aq58 ?_) | (refine rg 2 ?_; refine sops_cb1 (.free rfl rfl) rfl rfl (tyE rfl) (dc (dc (dc (dc (dc (dc (dc (dc (dc (dc (dc (dc (dc (dc (dc (dc (dc (dc (dc (dc (dc (dc (dc (dc (dc (dc (dc (dc (dc (dc (dc (dc (dc (dc (dc (dc (dc (dc (dc (dc (dc (dc (dc (dc (dc (dc (dc (dc (dc (dc (dc (dc (dc (dc (dc (dc (dc (dc (dc (dc (dc (dc (dc (dc (dc (dc (dc (dc (dc (.nil _)))))))))))))))))))))))))))))))))))))))))))))))))))))))))))))))))))))) rfl rfl rfl ?_; refine sops_cb2 (.free rfl rfl) rfl rfl rfl rfl byt23 rfl ?_; (first | refine oC (c1) rfl (ac .nil) ?_ | refine oC (c2) rfl (ac .nil) ?_); refine aq27 ?_; refine sal str39 ?_; refine aq58 ?_) | (refine rg 3 ?_; refine sops_cb1 (.free rfl rfl) rfl rfl (tyE rfl) (dc (dc (dc (dc (dc (dc (dc (dc (dc (dc (dc (dc (dc (dc (dc (dc (dc (dc (dc (dc (dc (dc (dc (dc (dc (dc (dc (dc (dc (dc (dc (dc (dc (dc (dc (dc (dc (dc (dc (dc (dc (dc (dc (dc (dc (dc (dc (dc (dc (dc (dc (dc (dc (dc (dc (dc (dc (dc (dc (dc (dc (dc (dc (dc (dc (dc (dc (dc (dc (dc (dc (dc (dc (dc (dc (dc (dc (dc (dc (dc (dc (dc (dc (dc (dc (dc (dc (dc (.nil _))))))))))))))))))))))))))))))))))))))))))))))))))))))))))))))))))))))))))))))))))))))))) rfl rfl rfl ?_; refine sops_cb2 (.free rfl rfl) rfl rfl rfl rfl byt23 rfl ?_; (first | refine oC (c1) rfl (ac .nil) ?_ | refine oC (c2) rfl (ac .nil) ?_ | refine oC (c3) rfl (ac .nil) ?_); refine aq27 ?_; refine sal str39 ?_; refine aq58 ?_) | (refine rg 4 ?_; refine sops_cb1 (.free rfl rfl) rfl rfl (tyE rfl) (dc (dc (dc (dc (dc (dc (dc (dc (dc (dc (dc (dc (dc (dc (dc (dc (dc (dc (dc (dc (dc (dc (dc (dc (dc (dc (.nil _))))))))))))))))))))))))))) rfl rfl rfl ?_; refine sops_cb2 (.free rfl rfl) rfl rfl rfl rfl byt23 rfl ?_; (first | refine oC (c1) rfl (ac .nil) ?_ | refine oC (c2) rfl (ac .nil) ?_ | refine oC (c3) rfl (ac .nil) ?_ | refine oC (c4) rfl (ac .nil) ?_); refine aq27 ?_; refine sal str39 ?_; refine aq58 ?_) | (refine rg 5 ?_; refine sops_cb1 (.free rfl rfl) rfl rfl (tyE rfl) (dc (dc (dc (dc (dc (dc (dc (dc (dc (dc (dc (dc (dc (dc (dc (dc (dc (dc (dc (dc (dc (dc (dc (dc (dc (dc (dc (dc (dc (dc (dc (dc (dc (dc (dc (dc (dc (dc (dc (dc (dc (.nil _)))))))))))))))))))))))))))))))))))))))))) rfl rfl rfl ?_; refine sops_cb2 (.free rfl rfl) rfl rfl rfl rfl byt23 rfl ?_; (first | refine oC (c1) rfl (ac .nil) ?_ | refine oC (c2) rfl (ac .nil) ?_ | refine oC (c3) rfl (ac .nil) ?_ | refine oC (c4) rfl (ac .nil) ?_ | refine oC (c5) rfl (ac .nil) ?_); refine aq27 ?_; refine sal str39 ?_; refine aq58 ?_) | (refine rg 6 ?_; refine oMv ?_; refine oCm ?_; refine oMv ?_; refine oFb ?_ <;> refine oLb ?_ <;> refine sp (po_str rfl rfl rfl rfl) ?_ <;> refine oPt ?_ <;> refine oMv ?_ <;> refine oFb ?_ <;> refine oLb ?_ <;> refine sp (po_str rfl rfl rfl rfl) ?_ <;> refine oPt ?_ <;> refine oMv ?_ <;> refine oFb ?_ <;> refine oLb ?_ <;> refine sp (po_str rfl rfl rfl rfl) ?_ <;> refine oPt ?_ <;> refine oMv ?_ <;> refine oMv ?_ <;> refine oCm ?_ <;> refine oPt ?_ <;> refine oMv ?_ <;> refine oFb ?_ <;> refine oLb ?_ <;> refine sp (po_bytes_str (l := [97, 98, 99]) rfl rfl (.t _) byt23' rfl) ?_ <;> refine sp (po_str rfl rfl rfl rfl) ?_ <;> refine oPt ?_ <;> refine oMv ?_ <;> refine oMv ?_ <;> refine oCm ?_ <;> refine oPt ?_ <;> refine oMv ?_ <;> refine oMv ?_ <;> refine oCm ?_ <;> refine oPt ?_ <;> refine oMv ?_ <;> refine oMv ?_ <;> refine oCm ?_ <;> refine oPt ?_ <;> refine oMv ?_ <;> refine oFb ?_ <;> refine oLb ?_ <;> refine sp (po_str rfl rfl rfl rfl) ?_ <;> refine oPt ?_ <;> refine oMv ?_ <;> refine oFb ?_ <;> refine oLb ?_ <;> refine sp (po_str rfl rfl rfl rfl) ?_ <;> refine oPt ?_ <;> refine oAs ?_ <;> refine oN ?_) | refine gc ?_ | refine ct ?_ | refine cf ?_ | refine sc ?_ ?_ <;> intro hc | refine rq rfl (rt .nil) ?_)
  rfl
end Go.Proofs.YtloippgblkoemaaGreatDoor.Ro

/- Answers, messages, requests: in memory, opened, as trees of data. -/
namespace Go.Proofs.YtloippgblkoemaaGreatDoor.Rq
set_option linter.unusedVariables false
set_option linter.unusedSimpArgs false
open Go.RowKit Go.WideShapes Go.ChangeShapes Go.Joins Mem Sim Opn Hd An
structure PReq where
  method : ByteArray
  target : ByteArray
  path : ByteArray
  query : ByteArray
  host : ByteArray
  heads : List Pl.Head
  body : List UInt8
deriving Inhabited
def reqT (r : PReq) : List T := [.v (.string r.method), .v (.string r.target), .v (.string r.path), .v (.string r.query), .v (.string r.host), headsT r.heads, .sl 1 (r.body.map byteT)]
def ByteC : Rel UInt8 := fun _ _ b cs => cs = [.int .u8 (b.toNat : Int)]
theorem one_byte : Tryz.prog.cellsOf 5 = 1 := by kernel_rfl
theorem one_bytes : Tryz.prog.cellsOf 23 = 1 := by kernel_rfl
theorem one_heads : Tryz.prog.cellsOf 22 = 1 := by kernel_rfl
theorem byte_opens : Opens 5 ByteC := by
  intro H enc w base spare held fuel cs x h
  obtain ⟨n, rfl, _, hw⟩ := DataW.trod_int Tryz.underlying5 h
  have hb := bounds_u8 hw
  refine ⟨UInt8.ofNat n.toNat, ?_⟩
  unfold ByteC
  rw [UInt8.toNat_ofNat']
  congr 2; omega
theorem bytes_opens : Opens 23 (SliceC ByteC 1) := opens_slice (R := ByteC) Tryz.underlying23 one_byte (by omega) byte_opens
theorem sl_bwd {α : Type} {R : Mem.Rel α} {enc : α → List T} {sz B : Nat} {w : World} {xs : List α} {c : Value} (hsz : ∀ x, (enc x).length = sz) (hR : ∀ x cs, R B w x cs → CellsAre (allm w) (enc x) cs) (h : SliceC R sz B w xs [c]) : TR (allm w) (.sl sz (xs.map enc)) c ∧ c.oneCell' = true := by
  obtain ⟨A, cap, e, hA, h1, h2⟩ := h
  injection e with e; subst e
  exact ⟨tr_rows_bwd (allm w) hA h1 h2 hsz (fun x _ cs hr => hR x cs hr) (fun b o v _ h => h), rfl⟩
theorem str_bwd {B : Nat} {w : World} {s : ByteArray} {c : Value} (h : StrC B w s [c]) : TR (allm w) (.v (.string s)) c ∧ c.oneCell' = true := by
  obtain ⟨e, _⟩ := h; injection e with e; subst e; exact ⟨.v _, rfl⟩
theorem head_bwd {B : Nat} {w : World} (x : Pl.Head) (cs : List Value) (h : HeadR B w x cs) : CellsAre (allm w) (headT x) cs := by
  obtain ⟨rfl, _⟩ := h
  exact cellsAre_cons (.v _) rfl (cellsAre_cons (.v _) rfl (cellsAre_nil _))
theorem byte_bwd {B : Nat} {w : World} (x : UInt8) (cs : List Value) (h : ByteC B w x cs) : CellsAre (allm w) (byteT x) cs := by
  obtain rfl := h
  exact cellsAre_cons (.v _) rfl (cellsAre_nil _)
theorem heads_bwdC {B : Nat} {w : World} {xs : List Pl.Head} {c : Value} (h : SliceC HeadR 2 B w xs [c]) : TR (allm w) (headsT xs) c ∧ c.oneCell' = true := sl_bwd (fun _ => rfl) head_bwd h
theorem bytes_bwdC {B : Nat} {w : World} {xs : List UInt8} {c : Value} (h : SliceC ByteC 1 B w xs [c]) : TR (allm w) (.sl 1 (xs.map byteT)) c ∧ c.oneCell' = true := sl_bwd (fun _ => rfl) byte_bwd h
theorem heads_okC {B : Nat} {w : World} {xs : List Pl.Head} {cs : List Value} (h : SliceC HeadR 2 B w xs cs) : ∀ x ∈ xs, okHead x := by
  obtain ⟨A, cap, e, hA, h1, h2⟩ := h
  exact heads_ok hA
theorem body_okC {B : Nat} {w : World} {xs : List UInt8} {cs : List Value} (h : SliceC ByteC 1 B w xs cs) : xs.length ≤ maxLen := by
  obtain ⟨A, cap, e, hA, h1, h2⟩ := h
  omega
def ReqR : Rel PReq := fun B w x cs => ∃ c0 c1 c2 c3 c4 c5 c6, cs = [c0, c1, c2, c3, c4, c5, c6] ∧ StrC B w x.method [c0] ∧ StrC B w x.target [c1] ∧ StrC B w x.path [c2] ∧ StrC B w x.query [c3] ∧ StrC B w x.host [c4] ∧ (SliceC HeadR 2) B w x.heads [c5] ∧ (SliceC ByteC 1) B w x.body [c6]
theorem cells_Req : Tryz.prog.cellsOf 39 = 7 := by kernel_rfl
theorem req_bwd {B : Nat} {w : World} (x : PReq) (cs : List Value) (h : ReqR B w x cs) : CellsAre (allm w) (reqT x) cs := by
  obtain ⟨c0, c1, c2, c3, c4, c5, c6, rfl, h0, h1, h2, h3, h4, h5, h6⟩ := h
  exact (cellsAre_cons (str_bwd h0).1 (str_bwd h0).2 (cellsAre_cons (str_bwd h1).1 (str_bwd h1).2 (cellsAre_cons (str_bwd h2).1 (str_bwd h2).2 (cellsAre_cons (str_bwd h3).1 (str_bwd h3).2 (cellsAre_cons (str_bwd h4).1 (str_bwd h4).2 (cellsAre_cons (heads_bwdC h5).1 (heads_bwdC h5).2 (cellsAre_cons (bytes_bwdC h6).1 (bytes_bwdC h6).2 (cellsAre_nil _))))))))
theorem req_bwdT {w : World} {x : PReq} {cs : Array Value} (h : ReqR w.heap.size w x cs.toList) : TR (allm w) (.agg (reqT x)) (.agg cs) := by
  have := agg_bwd (req_bwd x _ h)
  simpa using this
structure okReq (a : PReq) : Prop where
  h1 : a.method.size ≤ maxLen
  h2 : a.target.size ≤ maxLen
  h3 : a.path.size ≤ maxLen
  h4 : a.query.size ≤ maxLen
  h5 : a.host.size ≤ maxLen
  hh : ∀ h ∈ a.heads, okHead h
  hb : a.body.length ≤ maxLen
theorem req_ok (B : Nat) (w : World) (x : PReq) (cs : List Value) (h : ReqR B w x cs) : okReq x := by
  obtain ⟨c0, c1, c2, c3, c4, c5, c6, rfl, h0, h1, h2, h3, h4, h5, h6⟩ := h
  exact ⟨h0.2, h1.2, h2.2, h3.2, h4.2, heads_okC h5, body_okC h6⟩
end Go.Proofs.YtloippgblkoemaaGreatDoor.Rq

/- Requests: long messages: a walk. -/
namespace Go.Proofs.YtloippgblkoemaaGreatDoor.Ro
set_option linter.unusedVariables false
set_option linter.unusedSimpArgs false
open Go.RowKit Mem Sim Opn Hd Str Pth Rq
def longW (r : PRaw) : Bool := decide (2000 < r.start.size) || (decide (3000 < r.body.length) || longH r.heads)
set_option maxRecDepth 100000 in
set_option maxHeartbeats 1000000 in
theorem longW_ (r : PRaw) : PCalls Tryz.prog 13 [.agg (rawT r)] (.v (.bool (longW r))) := by
  have hm2 : (r.body.map byteT).length = r.body.length := List.length_map _
  have c1 := long_ r.heads
  unfold longW rawT
  refine pcalls_of Tryz.func13 rfl rfl Tryz.ntmps13 rfl ?_
  by_cases h0 : 2000 < r.start.size
  · rw [decide_eq_true h0]
    repeat' (first | refine rg 0 (aq37 ?_) | (refine rg 1 ?_; refine oFb ?_; refine oLb ?_; refine sp (po_len_str rfl rfl (tyR rfl)) ?_; refine oCm ?_; refine oMv ?_; (first | refine oFb ?_ | refine oFd ?_ | refine oK ?_); (first | refine oLb ?_ | refine oLd ?_ | refine oK ?_); (first | refine sp (pln rfl (tyS rfl)) ?_ | refine oK ?_); (first | refine oCm ?_ | refine oK ?_); refine oPt ?_; refine oMv ?_; (first | refine oFb ?_ | refine oFd ?_ | refine oK ?_); (first | refine oLb ?_ | refine oLd ?_ | refine oK ?_) <;> (first | refine oC (c1) rfl (ac .nil) ?_ | refine oK ?_) <;> refine aq72 ?_) | refine gc ?_ | refine ct ?_ | refine cf ?_ | refine sc ?_ ?_ <;> intro hc | refine rq rfl (rt .nil) ?_)
    rfl
  · rw [decide_eq_false h0]
    by_cases h : 3000 < r.body.length
    · rw [decide_eq_true h]
      repeat' (first | refine rg 0 (aq37 ?_) | (refine rg 1 ?_; refine oFb ?_; refine oLb ?_; refine sp (po_len_str rfl rfl (tyR rfl)) ?_; refine oCm ?_; refine oMv ?_; refine oFb ?_; refine oLb ?_; refine sp (pln rfl (tyS rfl)) ?_; refine oCm ?_; (first | refine oPt ?_ | refine oPf ?_); refine oMv ?_; (first | refine oFb ?_ | refine oFd ?_ | refine oK ?_); (first | refine oLb ?_ | refine oLd ?_ | refine oK ?_) <;> (first | refine oC (c1) rfl (ac .nil) ?_ | refine oK ?_) <;> refine aq72 ?_) | refine gc ?_ | refine ct ?_ | refine cf ?_ | refine sc ?_ ?_ <;> intro hc | refine rq rfl (rt .nil) ?_)
      rfl
    · rw [decide_eq_false h]
      repeat' (first | refine rg 0 (aq37 ?_) | (refine rg 1 ?_; refine oFb ?_; refine oLb ?_; refine sp (po_len_str rfl rfl (tyR rfl)) ?_; refine oCm ?_; refine oMv ?_; refine oFb ?_; refine oLb ?_; refine sp (pln rfl (tyS rfl)) ?_; refine oCm ?_; (first | refine oPt ?_ | refine oPf ?_); refine oMv ?_; refine oFb ?_; refine oLb ?_ <;> refine oC (c1) rfl (ac .nil) ?_ <;> refine aq40 ?_) | refine gc ?_ | refine ct ?_ | refine cf ?_ | refine sc ?_ ?_ <;> intro hc | refine rq rfl (rt .nil) ?_)
      rfl
structure LongNo (r : PRaw) : Prop where
  hs : r.start.size ≤ 2000
  hb : r.body.length ≤ 3000
  hn : r.heads.length ≤ 100
  hl : longH r.heads = false
  hv : ∀ h ∈ r.heads, h.value.size ≤ 2000
theorem longW_no {r : PRaw} (h : longW r = false) : LongNo r := by
  unfold longW at h
  simp only [Bool.or_eq_false_iff, decide_eq_false_iff_not] at h
  obtain ⟨h1, h2, h3⟩ := h
  refine ⟨by omega, by omega, ?_, h3, ?_⟩
  · unfold longH at h3
    simp only [Bool.or_eq_false_iff, decide_eq_false_iff_not] at h3
    omega
  · intro x hx
    unfold longH at h3
    rw [Bool.or_eq_false_iff] at h3
    have := (List.any_eq_false.1 h3.2) x hx
    simp at this; omega
theorem LongNo.vals {r : PRaw} (h : LongNo r) : ∀ v ∈ valsOf hostS r.heads, v.size ≤ 200000 := fun v hv => by
  unfold valsOf at hv
  obtain ⟨x, hx, rfl⟩ := List.mem_map.1 hv
  have := h.hv x (List.mem_filter.1 hx).1
  omega
end Go.Proofs.YtloippgblkoemaaGreatDoor.Ro
