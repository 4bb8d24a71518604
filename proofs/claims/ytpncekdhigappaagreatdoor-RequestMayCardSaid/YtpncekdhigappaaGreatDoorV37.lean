/- Merged by bundles.py: SimOr3, SimOa, Rel10, SimLo, Tabs, OpenW. -/
import Derived.Test.YtpncekdhigappaaGreatDoorV32
import Derived.Test.YtpncekdhigappaaGreatDoorV35
import Derived.Test.YtpncekdhigappaaGreatDoorV36
import Derived.Test.YtpncekdhigappaaGreatDoorV13
import Derived.Test.YtpncekdhigappaaGreatDoorV12
import Derived.Test.YtpncekdhigappaaGreatDoorV22
import Derived.Test.YtpncekdhigappaaGreatDoorV17
import Derived.OpenShut
import Derived.Test.YtpncekdhigappaaGreatDoorV26
import Derived.Test.YtpncekdhigappaaGreatDoorRows
import Derived.Lib.LaidU8
import Derived.MakeChecks
/- Requests: the document's answer: one of bytes, the same, what may be: walks. -/
namespace Go.Proofs.YtpncekdhigappaaGreatDoor.Ro
set_option linter.unusedVariables false
set_option linter.unusedSimpArgs false
open Go.RowKit Mem Sim Opn Hd Str Pth Rq
theorem sane_hyp {r : PRaw} (h : sane r) : An.RawOk r ∧ r.start.size ≤ 100000 ∧ ∀ v ∈ valsOf hostS r.heads, v.size ≤ 200000 := by
  refine ⟨An.sane_ok h, by have := h.1; omega, fun v hv => ?_⟩
  obtain ⟨_, h2⟩ := h
  unfold fitsP Hd.mayL at h2
  simp only [Bool.and_eq_true, decide_eq_true_eq] at h2
  obtain ⟨⟨⟨_, h3, h4⟩, h5⟩, _⟩ := h2
  unfold valsOf at hv
  obtain ⟨x, hx, rfl⟩ := List.mem_map.1 hv
  have := good_size ((List.all_eq_true.1 h4) x (List.mem_filter.1 hx).1)
  omega
theorem one2_ (l : List UInt8) (hl : l.length ≤ 50000) : PCalls Tryz.prog 36 [.sl 1 (l.map byteT)] (oneT l) := one_ l hl fun r hr => sane_hyp (An.rawsL_sane l r hr)
set_option maxRecDepth 100000 in
set_option maxHeartbeats 4000000 in
theorem refSameR_ (a b : PReq) (ha : a.heads.length ≤ 1000) : PCalls Tryz.prog 38 [.agg (reqT a), .agg (reqT b)] (.v (.bool (sameR a b))) := by
  have c1 := An.refSameG_ a.heads b.heads ha
  unfold sameR
  generalize decide (a.heads = b.heads) = e6 at *
  refine pcalls_of Tryz.func38 rfl rfl Tryz.ntmps38 rfl ?_
  cases h1 : decide (a.method = b.method) with
  | false =>
    repeat' (first | refine rg 0 (aq81 ?_) | (refine rg 1 (aq152 ?_) <;> (first | refine sp (po_bytes_str rfl rfl (by first | exact .t _ | exact .own rfl (by rfl) | exact .nil _ | exact .emp _) byt23 (tyR rfl)) ?_ | refine oK ?_) <;> refine aq86 ?_ <;> (first | refine sp (po_bytes_str rfl rfl (by first | exact .t _ | exact .own rfl (by rfl) | exact .nil _ | exact .emp _) byt23 (tyR rfl)) ?_ | refine oK ?_) <;> refine aq87 ?_) | refine gc ?_ | refine ct ?_ | refine cf ?_ | refine sc ?_ ?_ <;> intro hc | refine rq rfl (rt .nil) ?_)
    rfl
  | true =>
    cases h2 : decide (a.target = b.target) with
    | false =>
      repeat' (first | refine rg 0 (aq81 ?_) | (refine rg 1 (aq153 ?_) <;> (first | refine sp (po_bytes_str rfl rfl (by first | exact .t _ | exact .own rfl (by rfl) | exact .nil _ | exact .emp _) byt23 (tyR rfl)) ?_ | refine oK ?_) <;> refine aq86 ?_ <;> (first | refine sp (po_bytes_str rfl rfl (by first | exact .t _ | exact .own rfl (by rfl) | exact .nil _ | exact .emp _) byt23 (tyR rfl)) ?_ | refine oK ?_) <;> refine aq87 ?_) | refine gc ?_ | refine ct ?_ | refine cf ?_ | refine sc ?_ ?_ <;> intro hc | refine rq rfl (rt .nil) ?_)
      rfl
    | true =>
      cases h3 : decide (a.path = b.path) with
      | false =>
        repeat' (first | refine rg 0 (aq81 ?_) | (refine rg 1 (aq154 ?_) <;> (first | refine sp (po_bytes_str rfl rfl (by first | exact .t _ | exact .own rfl (by rfl) | exact .nil _ | exact .emp _) byt23 (tyR rfl)) ?_ | refine oK ?_) <;> refine aq86 ?_ <;> (first | refine sp (po_bytes_str rfl rfl (by first | exact .t _ | exact .own rfl (by rfl) | exact .nil _ | exact .emp _) byt23 (tyR rfl)) ?_ | refine oK ?_) <;> refine aq87 ?_) | refine gc ?_ | refine ct ?_ | refine cf ?_ | refine sc ?_ ?_ <;> intro hc | refine rq rfl (rt .nil) ?_)
        rfl
      | true =>
        cases h4 : decide (a.query = b.query) with
        | false =>
          repeat' (first | refine rg 0 (aq81 ?_) | (refine rg 1 (aq155 ?_) <;> (first | refine sp (po_bytes_str rfl rfl (by first | exact .t _ | exact .own rfl (by rfl) | exact .nil _ | exact .emp _) byt23 (tyR rfl)) ?_ | refine oK ?_) <;> refine aq86 ?_ <;> (first | refine sp (po_bytes_str rfl rfl (by first | exact .t _ | exact .own rfl (by rfl) | exact .nil _ | exact .emp _) byt23 (tyR rfl)) ?_ | refine oK ?_) <;> refine aq87 ?_) | refine gc ?_ | refine ct ?_ | refine cf ?_ | refine sc ?_ ?_ <;> intro hc | refine rq rfl (rt .nil) ?_)
          rfl
        | true =>
          cases h5 : decide (a.host = b.host) with
          | false =>
            repeat' (first | refine rg 0 (aq81 ?_) | (refine rg 1 (aq156 ?_) <;> (first | refine sp (po_bytes_str rfl rfl (by first | exact .t _ | exact .own rfl (by rfl) | exact .nil _ | exact .emp _) byt23 (tyR rfl)) ?_ | refine oK ?_) <;> refine aq86 ?_ <;> (first | refine sp (po_bytes_str rfl rfl (by first | exact .t _ | exact .own rfl (by rfl) | exact .nil _ | exact .emp _) byt23 (tyR rfl)) ?_ | refine oK ?_) <;> refine aq87 ?_) | refine gc ?_ | refine ct ?_ | refine cf ?_ | refine sc ?_ ?_ <;> intro hc | refine rq rfl (rt .nil) ?_)
            rfl
          | true =>
            cases e6 with
            | false =>
              repeat' (first | refine rg 0 (aq81 ?_) | (refine rg 1 (aq157 ?_) <;> refine oC (c1) rfl (ac (ac .nil)) ?_ <;> refine aq85 ?_ <;> (first | refine sp (po_bytes_str rfl rfl (by first | exact .t _ | exact .own rfl (by rfl) | exact .nil _ | exact .emp _) byt23 (tyR rfl)) ?_ | refine oK ?_) <;> refine aq86 ?_ <;> (first | refine sp (po_bytes_str rfl rfl (by first | exact .t _ | exact .own rfl (by rfl) | exact .nil _ | exact .emp _) byt23 (tyR rfl)) ?_ | refine oK ?_) <;> refine aq87 ?_) | refine gc ?_ | refine ct ?_ | refine cf ?_ | refine sc ?_ ?_ <;> intro hc | refine rq rfl (rt .nil) ?_)
              rfl
            | true =>
              repeat' (first | refine rg 0 (aq81 ?_) | (refine rg 1 (aq157 ?_) <;> refine oC (c1) rfl (ac (ac .nil)) ?_ <;> refine aq83 ?_ <;> refine sp (po_bytes_str rfl rfl (by exact .t _) byt23 (tyR rfl)) ?_ <;> refine aq40 ?_ <;> refine sp (po_bytes_str rfl rfl (by exact .t _) byt23 (tyR rfl)) ?_ <;> refine aq84 ?_) | refine gc ?_ | refine ct ?_ | refine cf ?_ | refine sc ?_ ?_ <;> intro hc | refine rq rfl (rt .nil) ?_)
              rfl
set_option maxRecDepth 100000 in
set_option maxHeartbeats 2000000 in
theorem refSame0_ : PCalls Tryz.prog 38 [.agg reqT0, .agg reqT0] (.v (.bool true)) := by
  have c1 := same_ [] (by simp)
  refine pcalls_of Tryz.func38 rfl rfl Tryz.ntmps38 rfl ?_
  repeat' (first | refine rg 0 (aq81 ?_) | (refine rg 1 (aq157 ?_) <;> refine oC (c1) rfl (ac (ac .nil)) ?_ <;> refine aq83 ?_ <;> refine sp (po_bytes_str (l := []) rfl rfl (.nil 1) byt23' rfl) ?_ <;> refine aq40 ?_ <;> refine sp (po_bytes_str (l := []) rfl rfl (.nil 1) byt23' rfl) ?_ <;> refine aq84 ?_) | refine gc ?_ | refine ct ?_ | refine cf ?_ | refine sc ?_ ?_ <;> intro hc | refine rq rfl (rt .nil) ?_)
  rfl
set_option maxRecDepth 100000 in
set_option maxHeartbeats 4000000 in
theorem refMay_ (x : PReq) (h : ReqOk x) : PCalls Tryz.prog 47 [.agg (reqT x)] (.v (.bool (mayR x))) := by
  have c2 := refOf_ (rawQ x) (rawQ_ok x h) (rawQ_size x h) h.hv
  have c4 := An.refFitsR_ x.heads h.hn h.hh x.body h.hb
  have hsr : ∀ y, ofR (rawQ x) = some y → y.heads = x.heads := fun y hy => by
    obtain ⟨m, t, hi⟩ := ofR_is hy
    exact hi.xh
  obtain ⟨h1, h2, hn, _, _, _⟩ := h
  have e1 : (⟨#[32]⟩ : ByteArray).size = 1 := rfl
  have e2 : (⟨#[32, 72, 84, 84, 80, 47, 49, 46, 49]⟩ : ByteArray).size = 9 := rfl
  have s1 : (x.method ++ ⟨#[32]⟩ : ByteArray).size = x.method.size + 1 := by rw [ByteArray.size_append]; rfl
  have s2 : (x.method ++ ⟨#[32]⟩ ++ x.target : ByteArray).size = x.method.size + 1 + x.target.size := by rw [ByteArray.size_append, s1]
  unfold mayR
  unfold rawT at c2
  change PCalls _ _ [.agg [.v (.string (x.method ++ ⟨#[32]⟩ ++ x.target ++ ⟨#[32, 72, 84, 84, 80, 47, 49, 46, 49]⟩)), headsT x.heads, .sl 1 (x.body.map byteT)]] _ at c2
  unfold reqT
  refine pcalls_of Tryz.func47 rfl rfl Tryz.ntmps47 rfl ?_
  cases ho : ofR (rawQ x) with
  | none =>
    rw [ho] at c2
    unfold refOfT reqT0 at c2
    dsimp only at c2
    repeat' (first | refine rg 0 (aq39 ?_) | (refine rg 1 (aq158 ?_); refine sp (po_buildS str25 rfl (pc (pc (pc .nil))) rfl) ?_; refine oC (c2) rfl (ac .nil) ?_; refine aq29 ?_; refine sal str57 ?_; refine aq62 ?_) | (refine rg 2 ?_; refine oMv ?_; refine oMv ?_; (first | refine sp (po_load_bx_agg rfl rfl (tyT rfl) rfl (vc (vc (vc (vc (vc (vc (vc .nil))))))) rfl) ?_ | refine sp (po_load_agg rfl rfl (tyT rfl) rfl rfl) ?_ | refine oK ?_); (first | refine sp (po_load_bx_agg rfl rfl (tyT rfl) rfl (vc (vc (vc (vc (vc (vc (vc .nil))))))) rfl) ?_ | refine sp (po_load_agg rfl rfl (tyT rfl) rfl rfl) ?_ | refine oK ?_) <;> (first | refine oC (c2) rfl (ac (ac .nil)) ?_ | refine oK ?_) <;> (first | refine oPt ?_ | refine oPf ?_) <;> refine oMv ?_ <;> (first | refine oFb ?_ | refine oFd ?_ | refine oK ?_) <;> (first | refine oLb ?_ | refine oLd ?_ | refine oK ?_) <;> (first | refine oFb ?_ | refine oFd ?_ | refine oK ?_) <;> (first | refine oLb ?_ | refine oLd ?_ | refine oK ?_) <;> (first | refine oC (c2) rfl (ac (ac .nil)) ?_ | refine oK ?_) <;> refine aq42 ?_) | refine gc ?_ | refine ct ?_ | refine cf ?_ | refine sc ?_ ?_ <;> intro hc | refine rq rfl (rt .nil) ?_)
    rfl
  | some y =>
    have c3 := refSameR_ y x (by rw [hsr y ho]; exact hn)
    rw [ho] at c2
    unfold refOfT at c2
    unfold reqT at c2 c3
    dsimp only at c2 ⊢
    clear ho hsr
    generalize sameR y x = b at *
    cases b with
    | false =>
      repeat' (first | refine rg 0 (aq39 ?_) | (refine rg 1 (aq158 ?_); refine sp (po_buildS str25 rfl (pc (pc (pc .nil))) rfl) ?_; refine oC (c2) rfl (ac .nil) ?_; refine aq29 ?_; refine sal str57 ?_; refine aq62 ?_) | (refine rg 2 (aq168 ?_) <;> (first | refine oC (c2) rfl (ac (ac .nil)) ?_ | refine oC (c3) rfl (ac (ac .nil)) ?_) <;> refine oPt ?_ <;> refine oMv ?_ <;> (first | refine oFb ?_ | refine oFd ?_ | refine oK ?_) <;> (first | refine oLb ?_ | refine oLd ?_ | refine oK ?_) <;> (first | refine oFb ?_ | refine oFd ?_ | refine oK ?_) <;> (first | refine oLb ?_ | refine oLd ?_ | refine oK ?_) <;> (first | refine oC (c2) rfl (ac (ac .nil)) ?_ | refine oC (c3) rfl (ac (ac .nil)) ?_ | refine oK ?_) <;> refine aq42 ?_) | refine gc ?_ | refine ct ?_ | refine cf ?_ | refine sc ?_ ?_ <;> intro hc | refine rq rfl (rt .nil) ?_)
      rfl
    | true =>
      repeat' (first | refine rg 0 (aq39 ?_) | (refine rg 1 (aq158 ?_); refine sp (po_buildS str25 rfl (pc (pc (pc .nil))) rfl) ?_; refine oC (c2) rfl (ac .nil) ?_; refine aq29 ?_; refine sal str57 ?_; refine aq62 ?_) | (refine rg 2 (aq168 ?_) <;> (first | refine oC (c2) rfl (ac (ac .nil)) ?_ | refine oC (c3) rfl (ac (ac .nil)) ?_) <;> refine oPt ?_ <;> refine oMv ?_ <;> refine oFb ?_ <;> refine oLb ?_ <;> refine oFb ?_ <;> refine oLb ?_ <;> (first | refine oC (c2) rfl (ac (ac .nil)) ?_ | refine oC (c3) rfl (ac (ac .nil)) ?_ | refine oC (c4) rfl (ac (ac .nil)) ?_) <;> refine aq76 ?_) | refine gc ?_ | refine ct ?_ | refine cf ?_ | refine sc ?_ ?_ <;> intro hc | refine rq rfl (rt .nil) ?_)
      rfl
end Go.Proofs.YtpncekdhigappaaGreatDoor.Ro

/- Requests: the chapter's examples: a walk. -/
namespace Go.Proofs.YtpncekdhigappaaGreatDoor.Ro
set_option linter.unusedVariables false
set_option linter.unusedSimpArgs false
open Go.RowKit Mem Sim Opn Hd Str Pth Rq
def w1 : L8 := [71, 69, 84, 32, 47, 97, 47, 47, 98, 63, 120, 32, 72, 84, 84, 80, 47, 49, 46, 49, 13, 10, 72, 111, 115, 116, 58, 32, 65, 46, 98, 13, 10, 13, 10]
def w2 : L8 := [80, 79, 83, 84, 32, 47, 32, 72, 84, 84, 80, 47, 49, 46, 49, 13, 10, 72, 111, 115, 116, 58, 32, 97, 13, 10, 84, 114, 97, 110, 115, 102, 101, 114, 45, 69, 110, 99, 111, 100, 105, 110, 103, 58, 32, 99, 104, 117, 110, 107, 101, 100, 13, 10, 13, 10, 51, 13, 10, 97, 98, 99, 13, 10, 48, 13, 10, 13, 10]
def w3 : L8 := [80, 79, 83, 84, 32, 47, 32, 72, 84, 84, 80, 47, 49, 46, 49, 13, 10, 72, 111, 115, 116, 58, 32, 97, 13, 10, 84, 114, 97, 110, 115, 102, 101, 114, 45, 69, 110, 99, 111, 100, 105, 110, 103, 58, 32, 99, 104, 117, 110, 107, 101, 100, 13, 10, 67, 111, 110, 116, 101, 110, 116, 45, 76, 101, 110, 103, 116, 104, 58, 32, 51, 13, 10, 13, 10, 51, 13, 10, 97, 98, 99, 13, 10, 48, 13, 10, 13, 10]
def w4 : L8 := [71, 69, 84, 32, 47, 32, 72, 84, 84, 80, 47, 49, 46, 49, 10, 72, 111, 115, 116, 58, 32, 97, 13, 10, 13, 10]
def w5 : L8 := [67, 79, 78, 78, 69, 67, 84, 32, 97, 46, 98, 58, 56, 48, 32, 72, 84, 84, 80, 47, 49, 46, 49, 13, 10, 72, 111, 115, 116, 58, 32, 97, 46, 98, 58, 56, 48, 13, 10, 13, 10]
def h1 : Pl.Head := ⟨hostS, ⟨#[65, 46, 98]⟩⟩
def h2 : Pl.Head := ⟨hostS, ⟨#[97]⟩⟩
def h5 : Pl.Head := ⟨hostS, ⟨#[97, 46, 98, 58, 56, 48]⟩⟩
def x1 : PReq := ⟨⟨#[71, 69, 84]⟩, ⟨#[47, 97, 47, 47, 98, 63, 120]⟩, ⟨#[47, 97, 47, 98]⟩, ⟨#[120]⟩, ⟨#[97, 46, 98]⟩, [h1], []⟩
def x2 : PReq := ⟨⟨#[80, 79, 83, 84]⟩, ⟨#[47]⟩, ⟨#[47]⟩, ⟨#[]⟩, ⟨#[97]⟩, [h2, ⟨teS, chS⟩], [97, 98, 99]⟩
def x5 : PReq := ⟨⟨#[67, 79, 78, 78, 69, 67, 84]⟩, ⟨#[97, 46, 98, 58, 56, 48]⟩, ⟨#[]⟩, ⟨#[]⟩, ⟨#[97, 46, 98, 58, 56, 48]⟩, [h5], []⟩
def r1 : PRaw := ⟨⟨#[71, 69, 84, 32, 47, 97, 47, 47, 98, 63, 120, 32, 72, 84, 84, 80, 47, 49, 46, 49]⟩, [h1], []⟩
def r2 : PRaw := ⟨⟨#[80, 79, 83, 84, 32, 47, 32, 72, 84, 84, 80, 47, 49, 46, 49]⟩, [h2, ⟨teS, chS⟩], [97, 98, 99]⟩
def r5 : PRaw := ⟨⟨#[67, 79, 78, 78, 69, 67, 84, 32, 97, 46, 98, 58, 56, 48, 32, 72, 84, 84, 80, 47, 49, 46, 49]⟩, [h5], []⟩
theorem k1 : rawsL w1 = ([r1], 0) := by kernel_rfl
theorem k2 : rawsL w2 = ([r2], 0) := by kernel_rfl
theorem k3 : rawsL w3 = ([], 2) := by kernel_rfl
theorem k4 : rawsL w4 = ([], 2) := by kernel_rfl
theorem k5 : rawsL w5 = ([r5], 0) := by kernel_rfl
theorem o1 : ofR r1 = some x1 := by kernel_rfl
theorem o2 : ofR r2 = some x2 := by kernel_rfl
theorem o5 : ofR r5 = some x5 := by kernel_rfl
theorem of1 {l : L8} {r : PRaw} {x : PReq} (h : rawsL l = ([r], 0)) (ho : ofR r = some x) : oneT l = .tup [.agg (reqT x), .v (.int .i64 0)] := by
  unfold oneT oneR; rw [h, if_neg (fun e => e rfl)]
  dsimp only
  rw [ho]
theorem of0 {l : L8} (h : rawsL l = ([], 2)) : oneT l = .tup [.agg reqT0, .v (.int .i64 2)] := by
  unfold oneT oneR; rw [h, if_pos (by decide)]
set_option maxRecDepth 100000 in
set_option maxHeartbeats 4000000 in
theorem awake_ : PCalls Tryz.prog 30 [] (.v (.bool true)) := by
  have c1 := one2_ w1 (by decide)
  have c2 := one2_ w2 (by decide)
  have c3 := one2_ w3 (by decide)
  have c4 := one2_ w4 (by decide)
  have c5 := one2_ w5 (by decide)
  rw [of1 k1 o1] at c1
  rw [of1 k2 o2] at c2
  rw [of0 k3] at c3
  rw [of0 k4] at c4
  rw [of1 k5 o5] at c5
  unfold reqT at c1 c2 c5
  unfold reqT0 at c3 c4
  refine pcalls_of Tryz.func30 rfl rfl Tryz.ntmps30 rfl ?_
  repeat' (first | refine rg 0 (aq0 ?_) | (refine rg 1 ?_; refine sops_cb1 (.free rfl rfl) rfl rfl (tyE rfl) (dc (dc (dc (dc (dc (dc (dc (dc (dc (dc (dc (dc (dc (dc (dc (dc (dc (dc (dc (dc (dc (dc (dc (dc (dc (dc (dc (dc (dc (dc (dc (dc (dc (dc (dc (.nil _)))))))))))))))))))))))))))))))))))) rfl rfl rfl ?_; refine sops_cb2 (.free rfl rfl) rfl rfl rfl rfl byt23 rfl ?_; refine oC (c1) rfl (ac .nil) ?_; refine aq29 ?_; refine sal str57 ?_; refine aq62 ?_) | (refine rg 2 ?_; refine sops_cb1 (.free rfl rfl) rfl rfl (tyE rfl) (dc (dc (dc (dc (dc (dc (dc (dc (dc (dc (dc (dc (dc (dc (dc (dc (dc (dc (dc (dc (dc (dc (dc (dc (dc (dc (dc (dc (dc (dc (dc (dc (dc (dc (dc (dc (dc (dc (dc (dc (dc (dc (dc (dc (dc (dc (dc (dc (dc (dc (dc (dc (dc (dc (dc (dc (dc (dc (dc (dc (dc (dc (dc (dc (dc (dc (dc (dc (dc (.nil _)))))))))))))))))))))))))))))))))))))))))))))))))))))))))))))))))))))) rfl rfl rfl ?_; refine sops_cb2 (.free rfl rfl) rfl rfl rfl rfl byt23 rfl ?_; (first | refine oC (c1) rfl (ac .nil) ?_ | refine oC (c2) rfl (ac .nil) ?_); refine aq29 ?_; refine sal str57 ?_; refine aq62 ?_) | (refine rg 3 ?_; refine sops_cb1 (.free rfl rfl) rfl rfl (tyE rfl) (dc (dc (dc (dc (dc (dc (dc (dc (dc (dc (dc (dc (dc (dc (dc (dc (dc (dc (dc (dc (dc (dc (dc (dc (dc (dc (dc (dc (dc (dc (dc (dc (dc (dc (dc (dc (dc (dc (dc (dc (dc (dc (dc (dc (dc (dc (dc (dc (dc (dc (dc (dc (dc (dc (dc (dc (dc (dc (dc (dc (dc (dc (dc (dc (dc (dc (dc (dc (dc (dc (dc (dc (dc (dc (dc (dc (dc (dc (dc (dc (dc (dc (dc (dc (dc (dc (dc (dc (.nil _))))))))))))))))))))))))))))))))))))))))))))))))))))))))))))))))))))))))))))))))))))))))) rfl rfl rfl ?_; refine sops_cb2 (.free rfl rfl) rfl rfl rfl rfl byt23 rfl ?_; (first | refine oC (c1) rfl (ac .nil) ?_ | refine oC (c2) rfl (ac .nil) ?_ | refine oC (c3) rfl (ac .nil) ?_); refine aq29 ?_; refine sal str57 ?_; refine aq62 ?_) | (refine rg 4 ?_; refine sops_cb1 (.free rfl rfl) rfl rfl (tyE rfl) (dc (dc (dc (dc (dc (dc (dc (dc (dc (dc (dc (dc (dc (dc (dc (dc (dc (dc (dc (dc (dc (dc (dc (dc (dc (dc (.nil _))))))))))))))))))))))))))) rfl rfl rfl ?_; refine sops_cb2 (.free rfl rfl) rfl rfl rfl rfl byt23 rfl ?_; (first | refine oC (c1) rfl (ac .nil) ?_ | refine oC (c2) rfl (ac .nil) ?_ | refine oC (c3) rfl (ac .nil) ?_ | refine oC (c4) rfl (ac .nil) ?_); refine aq29 ?_; refine sal str57 ?_; refine aq62 ?_) | (refine rg 5 ?_; refine sops_cb1 (.free rfl rfl) rfl rfl (tyE rfl) (dc (dc (dc (dc (dc (dc (dc (dc (dc (dc (dc (dc (dc (dc (dc (dc (dc (dc (dc (dc (dc (dc (dc (dc (dc (dc (dc (dc (dc (dc (dc (dc (dc (dc (dc (dc (dc (dc (dc (dc (dc (.nil _)))))))))))))))))))))))))))))))))))))))))) rfl rfl rfl ?_; refine sops_cb2 (.free rfl rfl) rfl rfl rfl rfl byt23 rfl ?_; (first | refine oC (c1) rfl (ac .nil) ?_ | refine oC (c2) rfl (ac .nil) ?_ | refine oC (c3) rfl (ac .nil) ?_ | refine oC (c4) rfl (ac .nil) ?_ | refine oC (c5) rfl (ac .nil) ?_); refine aq29 ?_; refine sal str57 ?_; refine aq62 ?_) | (refine rg 6 ?_; refine oMv ?_; refine oCm ?_; refine oMv ?_; refine oFb ?_ <;> refine oLb ?_ <;> refine sp (po_str rfl rfl rfl rfl) ?_ <;> refine oPt ?_ <;> refine oMv ?_ <;> refine oFb ?_ <;> refine oLb ?_ <;> refine sp (po_str rfl rfl rfl rfl) ?_ <;> refine oPt ?_ <;> refine oMv ?_ <;> refine oFb ?_ <;> refine oLb ?_ <;> refine sp (po_str rfl rfl rfl rfl) ?_ <;> refine oPt ?_ <;> refine oMv ?_ <;> refine oMv ?_ <;> refine oCm ?_ <;> refine oPt ?_ <;> refine oMv ?_ <;> refine oFb ?_ <;> refine oLb ?_ <;> refine sp (po_bytes_str (l := [97, 98, 99]) rfl rfl (.t _) byt23' rfl) ?_ <;> refine sp (po_str rfl rfl rfl rfl) ?_ <;> refine oPt ?_ <;> refine oMv ?_ <;> refine oMv ?_ <;> refine oCm ?_ <;> refine oPt ?_ <;> refine oMv ?_ <;> refine oMv ?_ <;> refine oCm ?_ <;> refine oPt ?_ <;> refine oMv ?_ <;> refine oMv ?_ <;> refine oCm ?_ <;> refine oPt ?_ <;> refine oMv ?_ <;> refine oFb ?_ <;> refine oLb ?_ <;> refine sp (po_str rfl rfl rfl rfl) ?_ <;> refine oPt ?_ <;> refine oMv ?_ <;> refine oFb ?_ <;> refine oLb ?_ <;> refine sp (po_str rfl rfl rfl rfl) ?_ <;> refine oPt ?_ <;> refine oAs ?_ <;> refine oN ?_) | refine gc ?_ | refine ct ?_ | refine cf ?_ | refine sc ?_ ?_ <;> intro hc | refine rq rfl (rt .nil) ?_)
  rfl
end Go.Proofs.YtpncekdhigappaaGreatDoor.Ro

/- Answers, messages, requests: in memory, opened, as trees of data. -/
namespace Go.Proofs.YtpncekdhigappaaGreatDoor.Rq
set_option linter.unusedVariables false
set_option linter.unusedSimpArgs false
open Go.RowKit Go.WideShapes Go.ChangeShapes Go.Joins Mem Sim Opn Hd An
structure PReq where
  method : ByteArray
  target : ByteArray
  path : ByteArray
  query : ByteArray
  host : ByteArray
  heads : List Pl.Head
  body : List UInt8
deriving Inhabited
def reqT (r : PReq) : List T := [.v (.string r.method), .v (.string r.target), .v (.string r.path), .v (.string r.query), .v (.string r.host), headsT r.heads, .sl 1 (r.body.map byteT)]
def ByteC : Rel UInt8 := fun _ _ b cs => cs = [.int .u8 (b.toNat : Int)]
theorem one_byte : Tryz.prog.cellsOf 5 = 1 := by kernel_rfl
theorem one_bytes : Tryz.prog.cellsOf 23 = 1 := by kernel_rfl
theorem one_heads : Tryz.prog.cellsOf 22 = 1 := by kernel_rfl
theorem byte_opens : Opens 5 ByteC := by
  intro H enc w base spare held fuel cs x h
  obtain ⟨n, rfl, _, hw⟩ := DataW.trod_int Tryz.underlying5 h
  have hb := bounds_u8 hw
  refine ⟨UInt8.ofNat n.toNat, ?_⟩
  unfold ByteC
  rw [UInt8.toNat_ofNat']
  congr 2; omega
theorem bytes_opens : Opens 23 (SliceC ByteC 1) := opens_slice (R := ByteC) Tryz.underlying23 one_byte (by omega) byte_opens
theorem sl_bwd {α : Type} {R : Mem.Rel α} {enc : α → List T} {sz B : Nat} {w : World} {xs : List α} {c : Value} (hsz : ∀ x, (enc x).length = sz) (hR : ∀ x cs, R B w x cs → CellsAre (allm w) (enc x) cs) (h : SliceC R sz B w xs [c]) : TR (allm w) (.sl sz (xs.map enc)) c ∧ c.oneCell' = true := by
  obtain ⟨A, cap, e, hA, h1, h2⟩ := h
  injection e with e; subst e
  exact ⟨tr_rows_bwd (allm w) hA h1 h2 hsz (fun x _ cs hr => hR x cs hr) (fun b o v _ h => h), rfl⟩
theorem str_bwd {B : Nat} {w : World} {s : ByteArray} {c : Value} (h : StrC B w s [c]) : TR (allm w) (.v (.string s)) c ∧ c.oneCell' = true := by
  obtain ⟨e, _⟩ := h; injection e with e; subst e; exact ⟨.v _, rfl⟩
theorem head_bwd {B : Nat} {w : World} (x : Pl.Head) (cs : List Value) (h : HeadR B w x cs) : CellsAre (allm w) (headT x) cs := by
  obtain ⟨rfl, _⟩ := h
  exact cellsAre_cons (.v _) rfl (cellsAre_cons (.v _) rfl (cellsAre_nil _))
theorem byte_bwd {B : Nat} {w : World} (x : UInt8) (cs : List Value) (h : ByteC B w x cs) : CellsAre (allm w) (byteT x) cs := by
  obtain rfl := h
  exact cellsAre_cons (.v _) rfl (cellsAre_nil _)
theorem heads_bwdC {B : Nat} {w : World} {xs : List Pl.Head} {c : Value} (h : SliceC HeadR 2 B w xs [c]) : TR (allm w) (headsT xs) c ∧ c.oneCell' = true := sl_bwd (fun _ => rfl) head_bwd h
theorem bytes_bwdC {B : Nat} {w : World} {xs : List UInt8} {c : Value} (h : SliceC ByteC 1 B w xs [c]) : TR (allm w) (.sl 1 (xs.map byteT)) c ∧ c.oneCell' = true := sl_bwd (fun _ => rfl) byte_bwd h
theorem heads_okC {B : Nat} {w : World} {xs : List Pl.Head} {cs : List Value} (h : SliceC HeadR 2 B w xs cs) : ∀ x ∈ xs, okHead x := by
  obtain ⟨A, cap, e, hA, h1, h2⟩ := h
  exact heads_ok hA
theorem body_okC {B : Nat} {w : World} {xs : List UInt8} {cs : List Value} (h : SliceC ByteC 1 B w xs cs) : xs.length ≤ maxLen := by
  obtain ⟨A, cap, e, hA, h1, h2⟩ := h
  omega
def RawR : Rel PRaw := fun B w x cs => ∃ c0 c1 c2, cs = [c0, c1, c2] ∧ StrC B w x.start [c0] ∧ (SliceC HeadR 2) B w x.heads [c1] ∧ (SliceC ByteC 1) B w x.body [c2]
theorem cells_Raw : Tryz.prog.cellsOf 25 = 3 := by kernel_rfl
set_option maxRecDepth 100000 in
theorem raw_opens : Opens 25 RawR := by
  intro H enc w base spare held fuel cs x h
  obtain ⟨xs, n, _, hx, hlen, hxl, hf⟩ := DataW.trod_struct Tryz.underlying25 h
  have hl := hlen.trans cells_Raw
  obtain ⟨c0, c1, c2, rfl⟩ : ∃ c0 c1 c2, cs = [c0, c1, c2] := by
    match cs, hl with
    | [c0, c1, c2], _ => exact ⟨c0, c1, c2, rfl⟩
  obtain ⟨y0, y1, y2, rfl⟩ : ∃ y0 y1 y2, xs = [y0, y1, y2] := by
    match xs, hxl with
    | [y0, y1, y2], _ => exact ⟨y0, y1, y2, rfl⟩
  have f0 : DataW.trod enc Tryz.prog w base spare held n 9 [c0] = some y0 := by
    have := hf 0 _ rfl
    simpa [one_bytes, one_heads, one_string] using this
  obtain ⟨v0, r0⟩ := (opens_str Tryz.underlying9) H enc w base spare held n [c0] y0 f0
  have f1 : DataW.trod enc Tryz.prog w base spare held n 22 [c1] = some y1 := by
    have := hf 1 _ rfl
    simpa [one_bytes, one_heads, one_string] using this
  obtain ⟨v1, r1⟩ := heads_opens H enc w base spare held n [c1] y1 f1
  have f2 : DataW.trod enc Tryz.prog w base spare held n 23 [c2] = some y2 := by
    have := hf 2 _ rfl
    simpa [one_bytes, one_heads, one_string] using this
  obtain ⟨v2, r2⟩ := bytes_opens H enc w base spare held n [c2] y2 f2
  exact ⟨⟨v0, v1, v2⟩, c0, c1, c2, rfl, r0, r1, r2⟩
theorem raw_bwd {B : Nat} {w : World} (x : PRaw) (cs : List Value) (h : RawR B w x cs) : CellsAre (allm w) (rawT x) cs := by
  obtain ⟨c0, c1, c2, rfl, h0, h1, h2⟩ := h
  exact (cellsAre_cons (str_bwd h0).1 (str_bwd h0).2 (cellsAre_cons (heads_bwdC h1).1 (heads_bwdC h1).2 (cellsAre_cons (bytes_bwdC h2).1 (bytes_bwdC h2).2 (cellsAre_nil _))))
theorem raw_bwdT {w : World} {x : PRaw} {cs : Array Value} (h : RawR w.heap.size w x cs.toList) : TR (allm w) (.agg (rawT x)) (.agg cs) := by
  have := agg_bwd (raw_bwd x _ h)
  simpa using this
structure okRaw (a : PRaw) : Prop where
  hs : a.start.size ≤ maxLen
  hh : ∀ h ∈ a.heads, okHead h
  hb : a.body.length ≤ maxLen
theorem raw_ok (B : Nat) (w : World) (x : PRaw) (cs : List Value) (h : RawR B w x cs) : okRaw x := by
  obtain ⟨c0, c1, c2, rfl, h0, h1, h2⟩ := h
  exact ⟨h0.2, heads_okC h1, body_okC h2⟩
def ReqR : Rel PReq := fun B w x cs => ∃ c0 c1 c2 c3 c4 c5 c6, cs = [c0, c1, c2, c3, c4, c5, c6] ∧ StrC B w x.method [c0] ∧ StrC B w x.target [c1] ∧ StrC B w x.path [c2] ∧ StrC B w x.query [c3] ∧ StrC B w x.host [c4] ∧ (SliceC HeadR 2) B w x.heads [c5] ∧ (SliceC ByteC 1) B w x.body [c6]
theorem cells_Req : Tryz.prog.cellsOf 57 = 7 := by kernel_rfl
theorem req_bwd {B : Nat} {w : World} (x : PReq) (cs : List Value) (h : ReqR B w x cs) : CellsAre (allm w) (reqT x) cs := by
  obtain ⟨c0, c1, c2, c3, c4, c5, c6, rfl, h0, h1, h2, h3, h4, h5, h6⟩ := h
  exact (cellsAre_cons (str_bwd h0).1 (str_bwd h0).2 (cellsAre_cons (str_bwd h1).1 (str_bwd h1).2 (cellsAre_cons (str_bwd h2).1 (str_bwd h2).2 (cellsAre_cons (str_bwd h3).1 (str_bwd h3).2 (cellsAre_cons (str_bwd h4).1 (str_bwd h4).2 (cellsAre_cons (heads_bwdC h5).1 (heads_bwdC h5).2 (cellsAre_cons (bytes_bwdC h6).1 (bytes_bwdC h6).2 (cellsAre_nil _))))))))
theorem req_bwdT {w : World} {x : PReq} {cs : Array Value} (h : ReqR w.heap.size w x cs.toList) : TR (allm w) (.agg (reqT x)) (.agg cs) := by
  have := agg_bwd (req_bwd x _ h)
  simpa using this
structure okReq (a : PReq) : Prop where
  h1 : a.method.size ≤ maxLen
  h2 : a.target.size ≤ maxLen
  h3 : a.path.size ≤ maxLen
  h4 : a.query.size ≤ maxLen
  h5 : a.host.size ≤ maxLen
  hh : ∀ h ∈ a.heads, okHead h
  hb : a.body.length ≤ maxLen
theorem req_ok (B : Nat) (w : World) (x : PReq) (cs : List Value) (h : ReqR B w x cs) : okReq x := by
  obtain ⟨c0, c1, c2, c3, c4, c5, c6, rfl, h0, h1, h2, h3, h4, h5, h6⟩ := h
  exact ⟨h0.2, h1.2, h2.2, h3.2, h4.2, heads_okC h5, body_okC h6⟩
end Go.Proofs.YtpncekdhigappaaGreatDoor.Rq

/- Requests: long messages: a walk. -/
namespace Go.Proofs.YtpncekdhigappaaGreatDoor.Ro
set_option linter.unusedVariables false
set_option linter.unusedSimpArgs false
open Go.RowKit Mem Sim Opn Hd Str Pth Rq
def longW (r : PRaw) : Bool := decide (2000 < r.start.size) || (decide (3000 < r.body.length) || longH r.heads)
set_option maxRecDepth 100000 in
set_option maxHeartbeats 1000000 in
theorem longW_ (r : PRaw) : PCalls Tryz.prog 42 [.agg (rawT r)] (.v (.bool (longW r))) := by
  have hm2 : (r.body.map byteT).length = r.body.length := List.length_map _
  have c1 := long_ r.heads
  unfold longW rawT
  refine pcalls_of Tryz.func42 rfl rfl Tryz.ntmps42 rfl ?_
  by_cases h0 : 2000 < r.start.size
  · rw [decide_eq_true h0]
    repeat' (first | refine rg 0 (aq39 ?_) | (refine rg 1 ?_; refine oFb ?_; refine oLb ?_; refine sp (po_len_str rfl rfl (tyR rfl)) ?_; refine oCm ?_; refine oMv ?_; (first | refine oFb ?_ | refine oFd ?_ | refine oK ?_); (first | refine oLb ?_ | refine oLd ?_ | refine oK ?_); (first | refine sp (pln rfl (tyS rfl)) ?_ | refine oK ?_); (first | refine oCm ?_ | refine oK ?_); refine oPt ?_; refine oMv ?_; (first | refine oFb ?_ | refine oFd ?_ | refine oK ?_); (first | refine oLb ?_ | refine oLd ?_ | refine oK ?_) <;> (first | refine oC (c1) rfl (ac .nil) ?_ | refine oK ?_) <;> refine aq76 ?_) | refine gc ?_ | refine ct ?_ | refine cf ?_ | refine sc ?_ ?_ <;> intro hc | refine rq rfl (rt .nil) ?_)
    rfl
  · rw [decide_eq_false h0]
    by_cases h : 3000 < r.body.length
    · rw [decide_eq_true h]
      repeat' (first | refine rg 0 (aq39 ?_) | (refine rg 1 ?_; refine oFb ?_; refine oLb ?_; refine sp (po_len_str rfl rfl (tyR rfl)) ?_; refine oCm ?_; refine oMv ?_; refine oFb ?_; refine oLb ?_; refine sp (pln rfl (tyS rfl)) ?_; refine oCm ?_; (first | refine oPt ?_ | refine oPf ?_); refine oMv ?_; (first | refine oFb ?_ | refine oFd ?_ | refine oK ?_); (first | refine oLb ?_ | refine oLd ?_ | refine oK ?_) <;> (first | refine oC (c1) rfl (ac .nil) ?_ | refine oK ?_) <;> refine aq76 ?_) | refine gc ?_ | refine ct ?_ | refine cf ?_ | refine sc ?_ ?_ <;> intro hc | refine rq rfl (rt .nil) ?_)
      rfl
    · rw [decide_eq_false h]
      repeat' (first | refine rg 0 (aq39 ?_) | (refine rg 1 ?_; refine oFb ?_; refine oLb ?_; refine sp (po_len_str rfl rfl (tyR rfl)) ?_; refine oCm ?_; refine oMv ?_; refine oFb ?_; refine oLb ?_; refine sp (pln rfl (tyS rfl)) ?_; refine oCm ?_; (first | refine oPt ?_ | refine oPf ?_); refine oMv ?_; refine oFb ?_; refine oLb ?_ <;> refine oC (c1) rfl (ac .nil) ?_ <;> refine aq42 ?_) | refine gc ?_ | refine ct ?_ | refine cf ?_ | refine sc ?_ ?_ <;> intro hc | refine rq rfl (rt .nil) ?_)
      rfl
structure LongNo (r : PRaw) : Prop where
  hs : r.start.size ≤ 2000
  hb : r.body.length ≤ 3000
  hn : r.heads.length ≤ 100
  hl : longH r.heads = false
  hv : ∀ h ∈ r.heads, h.value.size ≤ 2000
theorem longW_no {r : PRaw} (h : longW r = false) : LongNo r := by
  unfold longW at h
  simp only [Bool.or_eq_false_iff, decide_eq_false_iff_not] at h
  obtain ⟨h1, h2, h3⟩ := h
  refine ⟨by omega, by omega, ?_, h3, ?_⟩
  · unfold longH at h3
    simp only [Bool.or_eq_false_iff, decide_eq_false_iff_not] at h3
    omega
  · intro x hx
    unfold longH at h3
    rw [Bool.or_eq_false_iff] at h3
    have := (List.any_eq_false.1 h3.2) x hx
    simp at this; omega
theorem LongNo.vals {r : PRaw} (h : LongNo r) : ∀ v ∈ valsOf hostS r.heads, v.size ≤ 200000 := fun v hv => by
  unfold valsOf at hv
  obtain ⟨x, hx, rfl⟩ := List.mem_map.1 hv
  have := h.hv x (List.mem_filter.1 hx).1
  omega
end Go.Proofs.YtpncekdhigappaaGreatDoor.Ro

/- utf8's tables: that they lie in memory, from what a row lays. -/
namespace Go.Proofs.YtpncekdhigappaaGreatDoor.Mp
set_option linter.unusedVariables false
set_option linter.unusedSimpArgs false
open Go.RowKit Mem Sim Go.Lib
theorem lays260 : Lays.n260 Tryz.prog rho where
  mixed := lays230.mixed
  f260 := lays230.f260
  t0 := lays230.t0
  a0 := lays230.a0
  z0 := lays230.z0
  v0 := lays230.v0
  t3 := lays230.t3
  a3 := lays230.a3
  z3 := lays230.z3
  v3 := lays230.v3
  t4 := lays230.t4
  a4 := lays230.a4
  z4 := lays230.z4
  v4 := lays230.v4
  t5 := lays230.t5
  a5 := lays230.a5
  z5 := lays230.z5
  v5 := lays230.v5
  t9 := lays230.t9
  a9 := lays230.a9
  z9 := lays230.z9
  v9 := lays230.v9
  t21 := lays230.t21
  a21 := lays230.a21
  z21 := lays230.z21
  v21 := lays230.v21
  t46 := lays230.t46
  a46 := lays230.a46
  z46 := lays230.z46
  v46 := lays230.v46
  t119 := lays230.t119
  a119 := lays230.a119
  z119 := lays230.z119
  t138 := lays230.t138
  a138 := lays230.a138
  z138 := lays230.z138
  v138 := lays230.v138
  t139 := lays230.t139
  a139 := lays230.a139
  z139 := lays230.z139
  v139 := lays230.v139
  g3 := lays230.g3
  g4 := lays230.g4
theorem u8extra : U8Extra Tryz.prog rho where
  n3 := by kernel_rfl
  n4 := by kernel_rfl
  y3 := by kernel_rfl
  y4 := by kernel_rfl
  c5 := by kernel_rfl
  c119 := by kernel_rfl
  c138 := by kernel_rfl
theorem tabs_law {w : World} (h : laidMetH Tryz.prog [("unicode/utf8.acceptRanges", Rows.laid_unicode_utf8_acceptRanges), ("unicode/utf8.first", Rows.laid_unicode_utf8_first)] w) : GT (allm w) := by
  have h2 : laidMet Tryz.prog [("unicode/utf8.acceptRanges", Rows.laid_unicode_utf8_acceptRanges), ("unicode/utf8.first", Rows.laid_unicode_utf8_first)] w := by
    rw [MakeChecks.laidMetH_plain _ _ _ (by kernel_rfl)] at h; exact h
  have e1 : (Rows.laid_unicode_utf8_first : DataW Unit) = firstData := by kernel_rfl
  have e2 : (Rows.laid_unicode_utf8_acceptRanges : DataW Unit) = acceptData := by kernel_rfl
  have r1 := laidMet.reads h2 (n := "unicode/utf8.first") (d := firstData) (by rw [← e1]; simp)
  have r2 := laidMet.reads h2 (n := "unicode/utf8.acceptRanges") (d := acceptData) (by rw [← e2]; simp)
  obtain ⟨t1, t2⟩ := utf8Tabs_of_reads lays260 u8extra r1 r2
  intro b o v hv
  unfold tabC at hv
  split at hv
  · rename_i hb
    split at hv
    · rename_i ho
      injection hv with hv; subst hv hb
      exact t1 o ho
    · cases hv
  · split at hv
    · rename_i hb
      split at hv
      · rename_i ho
        injection hv with hv; subst hv hb
        obtain ⟨u1, u2⟩ := t2 (o / 2) (by omega)
        split
        · rename_i h0
          rw [show 2 * (o / 2) = o by omega] at u1
          exact u1
        · rename_i h0
          rw [show 2 * (o / 2) + 1 = o by omega] at u2
          exact u2
      · cases hv
    · cases hv
end Go.Proofs.YtpncekdhigappaaGreatDoor.Mp

/- Readings whose texts are not longer than memory may be. -/
namespace Go.Proofs.YtpncekdhigappaaGreatDoor.Rq
set_option linter.unusedVariables false
set_option linter.unusedSimpArgs false
set_option maxRecDepth 100000
open Go.RowKit Go.WideShapes Go.ChangeShapes Go.Joins Mem Sim Opn Hd An
def lightD {H : Type} (t : TypeId) (d : DataW H) : Prop := ((d.weights Tryz.prog t).all (· ≤ reachBytes)) = true
def OpensW {α : Type} (t : TypeId) (R : Mem.Rel α) : Prop :=
  ∀ (H : Type) (enc : TypeId × Value → H) (w : World) (base : Nat) (spare : Nat → Bool) (held : Bool) (fuel : Nat) (cs : List Value) (x : DataW H × List MemPlace), DataW.trod enc Tryz.prog w base spare held fuel t cs = some x → lightD t x.1 → ∃ y, R w.heap.size w y cs
def StrW : Mem.Rel ByteArray := fun B w s cs => StrC B w s cs ∧ s.size ≤ reachBytes
theorem opensW_str {t : TypeId} (ht : Tryz.prog.underlying t = some .string) : OpensW t StrW := by
  intro H enc w base spare held fuel cs x h hw
  obtain ⟨s, rfl, hx, hl⟩ := DataW.trod_string ht h
  refine ⟨s, ⟨rfl, hl⟩, ?_⟩
  subst hx
  unfold lightD at hw
  unfold DataW.weights at hw
  rw [show s.size = s.data.toList.length from (by rw [← toList_len, ByteArray.toList_eq])]
  generalize reachBytes = rb at *
  simpa using hw
theorem light_each {H : Type} : ∀ (ts : List TypeId) (ds : List (DataW H)), ((DataW.weightsEach Tryz.prog ts ds).all (· ≤ reachBytes)) = true → ∀ (i : Nat) t d, ts[i]? = some t → ds[i]? = some d → lightD t d
  | [], _, _, i, t, d, h1, _ => by simp at h1
  | _ :: _, [], _, i, t, d, _, h2 => by simp at h2
  | t0 :: ts, d0 :: ds, h, i, t, d, h1, h2 => by
    unfold DataW.weightsEach at h
    rw [List.all_append, Bool.and_eq_true] at h
    cases i with
    | zero => simp at h1 h2; subst h1 h2; exact h.1
    | succ i => exact light_each ts ds h.2 i t d (by simpa using h1) (by simpa using h2)
def ReqW : Mem.Rel PReq := fun B w x cs => ReqR B w x cs ∧ x.method.size ≤ reachBytes ∧ x.target.size ≤ reachBytes ∧ x.path.size ≤ reachBytes ∧ x.query.size ≤ reachBytes ∧ x.host.size ≤ reachBytes
theorem req_opensW : OpensW 57 ReqW := by
  intro H enc w base spare held fuel cs x h hw
  obtain ⟨xs, n, _, hx, hlen, hxl, hf⟩ := DataW.trod_struct Tryz.underlying57 h
  have hl := hlen.trans cells_Req
  obtain ⟨c0, c1, c2, c3, c4, c5, c6, rfl⟩ : ∃ c0 c1 c2 c3 c4 c5 c6, cs = [c0, c1, c2, c3, c4, c5, c6] := by
    match cs, hl with
    | [c0, c1, c2, c3, c4, c5, c6], _ => exact ⟨c0, c1, c2, c3, c4, c5, c6, rfl⟩
  obtain ⟨y0, y1, y2, y3, y4, y5, y6, rfl⟩ : ∃ y0 y1 y2 y3 y4 y5 y6, xs = [y0, y1, y2, y3, y4, y5, y6] := by
    match xs, hxl with
    | [y0, y1, y2, y3, y4, y5, y6], _ => exact ⟨y0, y1, y2, y3, y4, y5, y6, rfl⟩
  subst hx
  unfold lightD DataW.weights at hw
  rw [Tryz.underlying57] at hw
  have hL := light_each _ _ hw
  have f0 : DataW.trod enc Tryz.prog w base spare held n 9 [c0] = some y0 := by
    have := hf 0 _ rfl
    simpa [one_bytes, one_heads, one_string] using this
  obtain ⟨v0, r0⟩ := (opensW_str Tryz.underlying9) H enc w base spare held n [c0] y0 f0 (hL 0 _ _ rfl rfl)
  have f1 : DataW.trod enc Tryz.prog w base spare held n 9 [c1] = some y1 := by
    have := hf 1 _ rfl
    simpa [one_bytes, one_heads, one_string] using this
  obtain ⟨v1, r1⟩ := (opensW_str Tryz.underlying9) H enc w base spare held n [c1] y1 f1 (hL 1 _ _ rfl rfl)
  have f2 : DataW.trod enc Tryz.prog w base spare held n 9 [c2] = some y2 := by
    have := hf 2 _ rfl
    simpa [one_bytes, one_heads, one_string] using this
  obtain ⟨v2, r2⟩ := (opensW_str Tryz.underlying9) H enc w base spare held n [c2] y2 f2 (hL 2 _ _ rfl rfl)
  have f3 : DataW.trod enc Tryz.prog w base spare held n 9 [c3] = some y3 := by
    have := hf 3 _ rfl
    simpa [one_bytes, one_heads, one_string] using this
  obtain ⟨v3, r3⟩ := (opensW_str Tryz.underlying9) H enc w base spare held n [c3] y3 f3 (hL 3 _ _ rfl rfl)
  have f4 : DataW.trod enc Tryz.prog w base spare held n 9 [c4] = some y4 := by
    have := hf 4 _ rfl
    simpa [one_bytes, one_heads, one_string] using this
  obtain ⟨v4, r4⟩ := (opensW_str Tryz.underlying9) H enc w base spare held n [c4] y4 f4 (hL 4 _ _ rfl rfl)
  have f5 : DataW.trod enc Tryz.prog w base spare held n 22 [c5] = some y5 := by
    have := hf 5 _ rfl
    simpa [one_bytes, one_heads, one_string] using this
  obtain ⟨v5, r5⟩ := heads_opens H enc w base spare held n [c5] y5 f5
  have f6 : DataW.trod enc Tryz.prog w base spare held n 23 [c6] = some y6 := by
    have := hf 6 _ rfl
    simpa [one_bytes, one_heads, one_string] using this
  obtain ⟨v6, r6⟩ := bytes_opens H enc w base spare held n [c6] y6 f6
  exact ⟨⟨v0, v1, v2, v3, v4, v5, v6⟩, ⟨c0, c1, c2, c3, c4, c5, c6, rfl, r0.1, r1.1, r2.1, r3.1, r4.1, r5, r6⟩, r0.2, r1.2, r2.2, r3.2, r4.2⟩
theorem open_struct_argW {α : Type} {t : TypeId} {fs : Array Field} {R : Mem.Rel α} (ht : Tryz.prog.underlying t = some (.struct fs)) (hO : OpensW t R) {H : Type} {enc : TypeId × Value → H} {w : World} {r : Reach} {b0 base : Nat} {spare : Nat → Bool} {held : Bool} {v : Value} {d : DataW H} {p : List MemPlace}
    (hw : lightD t d) (hv : Value.okWide Tryz.prog w r b0 t v) (h : DataW.Trod enc Tryz.prog w base spare held t v d p) :
    ∃ (cs : Array Value) (y : α), v = .agg cs ∧ R w.heap.size w y cs.toList := by
  obtain ⟨cs, rfl, _⟩ := okWide_struct ht hv
  obtain ⟨fuel, hf⟩ := h
  obtain ⟨y, hy⟩ := hO H enc w base spare held fuel _ _ hf hw
  exact ⟨cs, y, rfl, hy⟩
structure okReqW (a : PReq) : Prop where
  ok : okReq a
  hm : a.method.size ≤ reachBytes
  ht : a.target.size ≤ reachBytes
  hp : a.path.size ≤ reachBytes
  hq : a.query.size ≤ reachBytes
  hs : a.host.size ≤ reachBytes
theorem req_okW (B : Nat) (w : World) (x : PReq) (cs : List Value) (h : ReqW B w x cs) : okReqW x := ⟨req_ok _ _ _ _ h.1, h.2.1, h.2.2.1, h.2.2.2.1, h.2.2.2.2.1, h.2.2.2.2.2⟩
end Go.Proofs.YtpncekdhigappaaGreatDoor.Rq
