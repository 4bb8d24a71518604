/- Merged by bundles.py: SimOr3, SimOa, Rel10, SimLo. -/
import Derived.Test.YtpncekdhigappaaGreatDoorS26
import Derived.Test.YtpncekdhigappaaGreatDoorS28
import Derived.Test.YtpncekdhigappaaGreatDoorS0
import Derived.Test.YtpncekdhigappaaGreatDoorS29
import Derived.Test.YtpncekdhigappaaGreatDoorS33
import Derived.Test.YtpncekdhigappaaGreatDoorS32
import Derived.Test.YtpncekdhigappaaGreatDoorS13
import Derived.Test.YtpncekdhigappaaGreatDoorS21
import Derived.Test.YtpncekdhigappaaGreatDoorS16
import Derived.OpenShut
/- Requests: the document's answer: one of bytes, the same, what may be: walks. -/
namespace Go.Proofs.YtpncekdhigappaaGreatDoor.Ro
set_option linter.unusedVariables false
set_option linter.unusedSimpArgs false
open Go.RowKit Mem Sim Opn Hd Str Pth Rq
theorem sane_hyp {r : PRaw} (h : sane r) : An.RawOk r ∧ r.start.size ≤ 100000 ∧ ∀ v ∈ valsOf hostS r.heads, v.size ≤ 200000 := by
  refine ⟨An.sane_ok h, by have := h.1; omega, fun v hv => ?_⟩
  obtain ⟨_, h2⟩ := h
  unfold fitsP Hd.mayL at h2
  simp only [Bool.and_eq_true, decide_eq_true_eq] at h2
  obtain ⟨⟨⟨_, h3, h4⟩, h5⟩, _⟩ := h2
  unfold valsOf at hv
  obtain ⟨x, hx, rfl⟩ := List.mem_map.1 hv
  have := good_size ((List.all_eq_true.1 h4) x (List.mem_filter.1 hx).1)
  omega
theorem one2_ (l : List UInt8) (hl : l.length ≤ 50000) : PCalls Tryz.prog 36 [.sl 1 (l.map byteT)] (oneT l) := one_ l hl fun r hr => sane_hyp (An.rawsL_sane l r hr)
set_option maxRecDepth 100000 in
set_option maxHeartbeats 4000000 in
theorem refSameR_ (a b : PReq) (ha : a.heads.length ≤ 1000) : PCalls Tryz.prog 38 [.agg (reqT a), .agg (reqT b)] (.v (.bool (sameR a b))) := by
  have c1 := An.refSameG_ a.heads b.heads ha
  unfold sameR
  generalize decide (a.heads = b.heads) = e6 at *
  refine pcalls_of Tryz.func38 rfl rfl Tryz.ntmps38 rfl ?_
  cases h1 : decide (a.method = b.method) with
  | false =>
    repeat' (first | (refine rg 0 ?_; refine sbx ?_; refine sbx ?_; refine oAs ?_; refine oN ?_) | (refine rg 1 ?_; refine oFb ?_; refine oLb ?_; refine oFb ?_; refine oLb ?_; refine sp (po_str rfl rfl rfl rfl) ?_; refine oMv ?_; (first | refine oFb ?_ | refine oFd ?_ | refine oK ?_) <;> (first | refine oLb ?_ | refine oLd ?_ | refine oK ?_) <;> (first | refine oFb ?_ | refine oFd ?_ | refine oK ?_) <;> (first | refine oLb ?_ | refine oLd ?_ | refine oK ?_) <;> (first | refine sp (po_str rfl rfl rfl rfl) ?_ | refine oK ?_) <;> (first | refine oPt ?_ | refine oPf ?_) <;> refine oMv ?_ <;> (first | refine oFb ?_ | refine oFd ?_ | refine oK ?_) <;> (first | refine oLb ?_ | refine oLd ?_ | refine oK ?_) <;> (first | refine oFb ?_ | refine oFd ?_ | refine oK ?_) <;> (first | refine oLb ?_ | refine oLd ?_ | refine oK ?_) <;> (first | refine sp (po_str rfl rfl rfl rfl) ?_ | refine oK ?_) <;> (first | refine oPt ?_ | refine oPf ?_) <;> refine oMv ?_ <;> (first | refine oFb ?_ | refine oFd ?_ | refine oK ?_) <;> (first | refine oLb ?_ | refine oLd ?_ | refine oK ?_) <;> (first | refine oFb ?_ | refine oFd ?_ | refine oK ?_) <;> (first | refine oLb ?_ | refine oLd ?_ | refine oK ?_) <;> (first | refine sp (po_str rfl rfl rfl rfl) ?_ | refine oK ?_) <;> (first | refine oPt ?_ | refine oPf ?_) <;> refine oMv ?_ <;> (first | refine oFb ?_ | refine oFd ?_ | refine oK ?_) <;> (first | refine oLb ?_ | refine oLd ?_ | refine oK ?_) <;> (first | refine oFb ?_ | refine oFd ?_ | refine oK ?_) <;> (first | refine oLb ?_ | refine oLd ?_ | refine oK ?_) <;> (first | refine sp (po_str rfl rfl rfl rfl) ?_ | refine oK ?_) <;> (first | refine oPt ?_ | refine oPf ?_) <;> refine oMv ?_ <;> (first | refine oFb ?_ | refine oFd ?_ | refine oK ?_) <;> (first | refine oLb ?_ | refine oLd ?_ | refine oK ?_) <;> (first | refine oFb ?_ | refine oFd ?_ | refine oK ?_) <;> (first | refine oLb ?_ | refine oLd ?_ | refine oK ?_) <;> refine oK ?_ <;> (first | refine oPt ?_ | refine oPf ?_) <;> refine oMv ?_ <;> (first | refine oFb ?_ | refine oFd ?_ | refine oK ?_) <;> (first | refine oLb ?_ | refine oLd ?_ | refine oK ?_) <;> (first | refine sp (po_bytes_str rfl rfl (by first | exact .t _ | exact .own rfl (by rfl) | exact .nil _ | exact .emp _) byt23 (tyR rfl)) ?_ | refine oK ?_) <;> (first | refine oFb ?_ | refine oFd ?_ | refine oK ?_) <;> (first | refine oLb ?_ | refine oLd ?_ | refine oK ?_) <;> (first | refine sp (po_bytes_str rfl rfl (by first | exact .t _ | exact .own rfl (by rfl) | exact .nil _ | exact .emp _) byt23 (tyR rfl)) ?_ | refine oK ?_) <;> (first | refine sp (po_str rfl rfl rfl rfl) ?_ | refine oK ?_) <;> (first | refine oPt ?_ | refine oPf ?_) <;> refine oAs ?_ <;> refine oN ?_) | refine gc ?_ | refine ct ?_ | refine cf ?_ | refine swp_cond rfl (fun hc => ?_) (fun hc => ?_) | refine rq rfl (rt .nil) ?_)
    rfl
  | true =>
    cases h2 : decide (a.target = b.target) with
    | false =>
      repeat' (first | (refine rg 0 ?_; refine sbx ?_; refine sbx ?_; refine oAs ?_; refine oN ?_) | (refine rg 1 ?_; refine oFb ?_; refine oLb ?_; refine oFb ?_; refine oLb ?_; refine sp (po_str rfl rfl rfl rfl) ?_; refine oMv ?_; refine oFb ?_ <;> refine oLb ?_ <;> refine oFb ?_ <;> refine oLb ?_ <;> refine sp (po_str rfl rfl rfl rfl) ?_ <;> refine oPt ?_ <;> refine oMv ?_ <;> (first | refine oFb ?_ | refine oFd ?_ | refine oK ?_) <;> (first | refine oLb ?_ | refine oLd ?_ | refine oK ?_) <;> (first | refine oFb ?_ | refine oFd ?_ | refine oK ?_) <;> (first | refine oLb ?_ | refine oLd ?_ | refine oK ?_) <;> (first | refine sp (po_str rfl rfl rfl rfl) ?_ | refine oK ?_) <;> (first | refine oPt ?_ | refine oPf ?_) <;> refine oMv ?_ <;> (first | refine oFb ?_ | refine oFd ?_ | refine oK ?_) <;> (first | refine oLb ?_ | refine oLd ?_ | refine oK ?_) <;> (first | refine oFb ?_ | refine oFd ?_ | refine oK ?_) <;> (first | refine oLb ?_ | refine oLd ?_ | refine oK ?_) <;> (first | refine sp (po_str rfl rfl rfl rfl) ?_ | refine oK ?_) <;> (first | refine oPt ?_ | refine oPf ?_) <;> refine oMv ?_ <;> (first | refine oFb ?_ | refine oFd ?_ | refine oK ?_) <;> (first | refine oLb ?_ | refine oLd ?_ | refine oK ?_) <;> (first | refine oFb ?_ | refine oFd ?_ | refine oK ?_) <;> (first | refine oLb ?_ | refine oLd ?_ | refine oK ?_) <;> (first | refine sp (po_str rfl rfl rfl rfl) ?_ | refine oK ?_) <;> (first | refine oPt ?_ | refine oPf ?_) <;> refine oMv ?_ <;> (first | refine oFb ?_ | refine oFd ?_ | refine oK ?_) <;> (first | refine oLb ?_ | refine oLd ?_ | refine oK ?_) <;> (first | refine oFb ?_ | refine oFd ?_ | refine oK ?_) <;> (first | refine oLb ?_ | refine oLd ?_ | refine oK ?_) <;> refine oK ?_ <;> (first | refine oPt ?_ | refine oPf ?_) <;> refine oMv ?_ <;> (first | refine oFb ?_ | refine oFd ?_ | refine oK ?_) <;> (first | refine oLb ?_ | refine oLd ?_ | refine oK ?_) <;> (first | refine sp (po_bytes_str rfl rfl (by first | exact .t _ | exact .own rfl (by rfl) | exact .nil _ | exact .emp _) byt23 (tyR rfl)) ?_ | refine oK ?_) <;> (first | refine oFb ?_ | refine oFd ?_ | refine oK ?_) <;> (first | refine oLb ?_ | refine oLd ?_ | refine oK ?_) <;> (first | refine sp (po_bytes_str rfl rfl (by first | exact .t _ | exact .own rfl (by rfl) | exact .nil _ | exact .emp _) byt23 (tyR rfl)) ?_ | refine oK ?_) <;> (first | refine sp (po_str rfl rfl rfl rfl) ?_ | refine oK ?_) <;> (first | refine oPt ?_ | refine oPf ?_) <;> refine oAs ?_ <;> refine oN ?_) | refine gc ?_ | refine ct ?_ | refine cf ?_ | refine swp_cond rfl (fun hc => ?_) (fun hc => ?_) | refine rq rfl (rt .nil) ?_)
      rfl
    | true =>
      cases h3 : decide (a.path = b.path) with
      | false =>
        repeat' (first | (refine rg 0 ?_; refine sbx ?_; refine sbx ?_; refine oAs ?_; refine oN ?_) | (refine rg 1 ?_; refine oFb ?_; refine oLb ?_; refine oFb ?_; refine oLb ?_; refine sp (po_str rfl rfl rfl rfl) ?_; refine oMv ?_; refine oFb ?_ <;> refine oLb ?_ <;> refine oFb ?_ <;> refine oLb ?_ <;> refine sp (po_str rfl rfl rfl rfl) ?_ <;> refine oPt ?_ <;> refine oMv ?_ <;> refine oFb ?_ <;> refine oLb ?_ <;> refine oFb ?_ <;> refine oLb ?_ <;> refine sp (po_str rfl rfl rfl rfl) ?_ <;> refine oPt ?_ <;> refine oMv ?_ <;> (first | refine oFb ?_ | refine oFd ?_ | refine oK ?_) <;> (first | refine oLb ?_ | refine oLd ?_ | refine oK ?_) <;> (first | refine oFb ?_ | refine oFd ?_ | refine oK ?_) <;> (first | refine oLb ?_ | refine oLd ?_ | refine oK ?_) <;> (first | refine sp (po_str rfl rfl rfl rfl) ?_ | refine oK ?_) <;> (first | refine oPt ?_ | refine oPf ?_) <;> refine oMv ?_ <;> (first | refine oFb ?_ | refine oFd ?_ | refine oK ?_) <;> (first | refine oLb ?_ | refine oLd ?_ | refine oK ?_) <;> (first | refine oFb ?_ | refine oFd ?_ | refine oK ?_) <;> (first | refine oLb ?_ | refine oLd ?_ | refine oK ?_) <;> (first | refine sp (po_str rfl rfl rfl rfl) ?_ | refine oK ?_) <;> (first | refine oPt ?_ | refine oPf ?_) <;> refine oMv ?_ <;> (first | refine oFb ?_ | refine oFd ?_ | refine oK ?_) <;> (first | refine oLb ?_ | refine oLd ?_ | refine oK ?_) <;> (first | refine oFb ?_ | refine oFd ?_ | refine oK ?_) <;> (first | refine oLb ?_ | refine oLd ?_ | refine oK ?_) <;> refine oK ?_ <;> (first | refine oPt ?_ | refine oPf ?_) <;> refine oMv ?_ <;> (first | refine oFb ?_ | refine oFd ?_ | refine oK ?_) <;> (first | refine oLb ?_ | refine oLd ?_ | refine oK ?_) <;> (first | refine sp (po_bytes_str rfl rfl (by first | exact .t _ | exact .own rfl (by rfl) | exact .nil _ | exact .emp _) byt23 (tyR rfl)) ?_ | refine oK ?_) <;> (first | refine oFb ?_ | refine oFd ?_ | refine oK ?_) <;> (first | refine oLb ?_ | refine oLd ?_ | refine oK ?_) <;> (first | refine sp (po_bytes_str rfl rfl (by first | exact .t _ | exact .own rfl (by rfl) | exact .nil _ | exact .emp _) byt23 (tyR rfl)) ?_ | refine oK ?_) <;> (first | refine sp (po_str rfl rfl rfl rfl) ?_ | refine oK ?_) <;> (first | refine oPt ?_ | refine oPf ?_) <;> refine oAs ?_ <;> refine oN ?_) | refine gc ?_ | refine ct ?_ | refine cf ?_ | refine swp_cond rfl (fun hc => ?_) (fun hc => ?_) | refine rq rfl (rt .nil) ?_)
        rfl
      | true =>
        cases h4 : decide (a.query = b.query) with
        | false =>
          repeat' (first | (refine rg 0 ?_; refine sbx ?_; refine sbx ?_; refine oAs ?_; refine oN ?_) | (refine rg 1 ?_; refine oFb ?_; refine oLb ?_; refine oFb ?_; refine oLb ?_; refine sp (po_str rfl rfl rfl rfl) ?_; refine oMv ?_; refine oFb ?_ <;> refine oLb ?_ <;> refine oFb ?_ <;> refine oLb ?_ <;> refine sp (po_str rfl rfl rfl rfl) ?_ <;> refine oPt ?_ <;> refine oMv ?_ <;> refine oFb ?_ <;> refine oLb ?_ <;> refine oFb ?_ <;> refine oLb ?_ <;> refine sp (po_str rfl rfl rfl rfl) ?_ <;> refine oPt ?_ <;> refine oMv ?_ <;> refine oFb ?_ <;> refine oLb ?_ <;> refine oFb ?_ <;> refine oLb ?_ <;> refine sp (po_str rfl rfl rfl rfl) ?_ <;> refine oPt ?_ <;> refine oMv ?_ <;> (first | refine oFb ?_ | refine oFd ?_ | refine oK ?_) <;> (first | refine oLb ?_ | refine oLd ?_ | refine oK ?_) <;> (first | refine oFb ?_ | refine oFd ?_ | refine oK ?_) <;> (first | refine oLb ?_ | refine oLd ?_ | refine oK ?_) <;> (first | refine sp (po_str rfl rfl rfl rfl) ?_ | refine oK ?_) <;> (first | refine oPt ?_ | refine oPf ?_) <;> refine oMv ?_ <;> (first | refine oFb ?_ | refine oFd ?_ | refine oK ?_) <;> (first | refine oLb ?_ | refine oLd ?_ | refine oK ?_) <;> (first | refine oFb ?_ | refine oFd ?_ | refine oK ?_) <;> (first | refine oLb ?_ | refine oLd ?_ | refine oK ?_) <;> refine oK ?_ <;> (first | refine oPt ?_ | refine oPf ?_) <;> refine oMv ?_ <;> (first | refine oFb ?_ | refine oFd ?_ | refine oK ?_) <;> (first | refine oLb ?_ | refine oLd ?_ | refine oK ?_) <;> (first | refine sp (po_bytes_str rfl rfl (by first | exact .t _ | exact .own rfl (by rfl) | exact .nil _ | exact .emp _) byt23 (tyR rfl)) ?_ | refine oK ?_) <;> (first | refine oFb ?_ | refine oFd ?_ | refine oK ?_) <;> (first | refine oLb ?_ | refine oLd ?_ | refine oK ?_) <;> (first | refine sp (po_bytes_str rfl rfl (by first | exact .t _ | exact .own rfl (by rfl) | exact .nil _ | exact .emp _) byt23 (tyR rfl)) ?_ | refine oK ?_) <;> (first | refine sp (po_str rfl rfl rfl rfl) ?_ | refine oK ?_) <;> (first | refine oPt ?_ | refine oPf ?_) <;> refine oAs ?_ <;> refine oN ?_) | refine gc ?_ | refine ct ?_ | refine cf ?_ | refine swp_cond rfl (fun hc => ?_) (fun hc => ?_) | refine rq rfl (rt .nil) ?_)
          rfl
        | true =>
          cases h5 : decide (a.host = b.host) with
          | false =>
            repeat' (first | (refine rg 0 ?_; refine sbx ?_; refine sbx ?_; refine oAs ?_; refine oN ?_) | (refine rg 1 ?_; refine oFb ?_; refine oLb ?_; refine oFb ?_; refine oLb ?_; refine sp (po_str rfl rfl rfl rfl) ?_; refine oMv ?_; refine oFb ?_ <;> refine oLb ?_ <;> refine oFb ?_ <;> refine oLb ?_ <;> refine sp (po_str rfl rfl rfl rfl) ?_ <;> refine oPt ?_ <;> refine oMv ?_ <;> refine oFb ?_ <;> refine oLb ?_ <;> refine oFb ?_ <;> refine oLb ?_ <;> refine sp (po_str rfl rfl rfl rfl) ?_ <;> refine oPt ?_ <;> refine oMv ?_ <;> refine oFb ?_ <;> refine oLb ?_ <;> refine oFb ?_ <;> refine oLb ?_ <;> refine sp (po_str rfl rfl rfl rfl) ?_ <;> refine oPt ?_ <;> refine oMv ?_ <;> refine oFb ?_ <;> refine oLb ?_ <;> refine oFb ?_ <;> refine oLb ?_ <;> refine sp (po_str rfl rfl rfl rfl) ?_ <;> refine oPt ?_ <;> refine oMv ?_ <;> (first | refine oFb ?_ | refine oFd ?_ | refine oK ?_) <;> (first | refine oLb ?_ | refine oLd ?_ | refine oK ?_) <;> (first | refine oFb ?_ | refine oFd ?_ | refine oK ?_) <;> (first | refine oLb ?_ | refine oLd ?_ | refine oK ?_) <;> refine oK ?_ <;> (first | refine oPt ?_ | refine oPf ?_) <;> refine oMv ?_ <;> (first | refine oFb ?_ | refine oFd ?_ | refine oK ?_) <;> (first | refine oLb ?_ | refine oLd ?_ | refine oK ?_) <;> (first | refine sp (po_bytes_str rfl rfl (by first | exact .t _ | exact .own rfl (by rfl) | exact .nil _ | exact .emp _) byt23 (tyR rfl)) ?_ | refine oK ?_) <;> (first | refine oFb ?_ | refine oFd ?_ | refine oK ?_) <;> (first | refine oLb ?_ | refine oLd ?_ | refine oK ?_) <;> (first | refine sp (po_bytes_str rfl rfl (by first | exact .t _ | exact .own rfl (by rfl) | exact .nil _ | exact .emp _) byt23 (tyR rfl)) ?_ | refine oK ?_) <;> (first | refine sp (po_str rfl rfl rfl rfl) ?_ | refine oK ?_) <;> (first | refine oPt ?_ | refine oPf ?_) <;> refine oAs ?_ <;> refine oN ?_) | refine gc ?_ | refine ct ?_ | refine cf ?_ | refine swp_cond rfl (fun hc => ?_) (fun hc => ?_) | refine rq rfl (rt .nil) ?_)
            rfl
          | true =>
            cases e6 with
            | false =>
              repeat' (first | (refine rg 0 ?_; refine sbx ?_; refine sbx ?_; refine oAs ?_; refine oN ?_) | (refine rg 1 ?_; refine oFb ?_; refine oLb ?_; refine oFb ?_; refine oLb ?_; refine sp (po_str rfl rfl rfl rfl) ?_; refine oMv ?_; refine oFb ?_ <;> refine oLb ?_ <;> refine oFb ?_ <;> refine oLb ?_ <;> refine sp (po_str rfl rfl rfl rfl) ?_ <;> refine oPt ?_ <;> refine oMv ?_ <;> refine oFb ?_ <;> refine oLb ?_ <;> refine oFb ?_ <;> refine oLb ?_ <;> refine sp (po_str rfl rfl rfl rfl) ?_ <;> refine oPt ?_ <;> refine oMv ?_ <;> refine oFb ?_ <;> refine oLb ?_ <;> refine oFb ?_ <;> refine oLb ?_ <;> refine sp (po_str rfl rfl rfl rfl) ?_ <;> refine oPt ?_ <;> refine oMv ?_ <;> refine oFb ?_ <;> refine oLb ?_ <;> refine oFb ?_ <;> refine oLb ?_ <;> refine sp (po_str rfl rfl rfl rfl) ?_ <;> refine oPt ?_ <;> refine oMv ?_ <;> refine oFb ?_ <;> refine oLb ?_ <;> refine oFb ?_ <;> refine oLb ?_ <;> refine oC (c1) rfl (ac (ac .nil)) ?_ <;> refine oPt ?_ <;> refine oMv ?_ <;> (first | refine oFb ?_ | refine oFd ?_ | refine oK ?_) <;> (first | refine oLb ?_ | refine oLd ?_ | refine oK ?_) <;> (first | refine sp (po_bytes_str rfl rfl (by first | exact .t _ | exact .own rfl (by rfl) | exact .nil _ | exact .emp _) byt23 (tyR rfl)) ?_ | refine oK ?_) <;> (first | refine oFb ?_ | refine oFd ?_ | refine oK ?_) <;> (first | refine oLb ?_ | refine oLd ?_ | refine oK ?_) <;> (first | refine sp (po_bytes_str rfl rfl (by first | exact .t _ | exact .own rfl (by rfl) | exact .nil _ | exact .emp _) byt23 (tyR rfl)) ?_ | refine oK ?_) <;> (first | refine sp (po_str rfl rfl rfl rfl) ?_ | refine oK ?_) <;> (first | refine oPt ?_ | refine oPf ?_) <;> refine oAs ?_ <;> refine oN ?_) | refine gc ?_ | refine ct ?_ | refine cf ?_ | refine swp_cond rfl (fun hc => ?_) (fun hc => ?_) | refine rq rfl (rt .nil) ?_)
              rfl
            | true =>
              repeat' (first | (refine rg 0 ?_; refine sbx ?_; refine sbx ?_; refine oAs ?_; refine oN ?_) | (refine rg 1 ?_; refine oFb ?_; refine oLb ?_; refine oFb ?_; refine oLb ?_; refine sp (po_str rfl rfl rfl rfl) ?_; refine oMv ?_; refine oFb ?_ <;> refine oLb ?_ <;> refine oFb ?_ <;> refine oLb ?_ <;> refine sp (po_str rfl rfl rfl rfl) ?_ <;> refine oPt ?_ <;> refine oMv ?_ <;> refine oFb ?_ <;> refine oLb ?_ <;> refine oFb ?_ <;> refine oLb ?_ <;> refine sp (po_str rfl rfl rfl rfl) ?_ <;> refine oPt ?_ <;> refine oMv ?_ <;> refine oFb ?_ <;> refine oLb ?_ <;> refine oFb ?_ <;> refine oLb ?_ <;> refine sp (po_str rfl rfl rfl rfl) ?_ <;> refine oPt ?_ <;> refine oMv ?_ <;> refine oFb ?_ <;> refine oLb ?_ <;> refine oFb ?_ <;> refine oLb ?_ <;> refine sp (po_str rfl rfl rfl rfl) ?_ <;> refine oPt ?_ <;> refine oMv ?_ <;> refine oFb ?_ <;> refine oLb ?_ <;> refine oFb ?_ <;> refine oLb ?_ <;> refine oC (c1) rfl (ac (ac .nil)) ?_ <;> refine oPt ?_ <;> refine oMv ?_ <;> refine oFb ?_ <;> refine oLb ?_ <;> refine sp (po_bytes_str rfl rfl (by exact .t _) byt23 (tyR rfl)) ?_ <;> refine oFb ?_ <;> refine oLb ?_ <;> refine sp (po_bytes_str rfl rfl (by exact .t _) byt23 (tyR rfl)) ?_ <;> refine sp (po_str rfl rfl rfl rfl) ?_ <;> refine oPt ?_ <;> refine oAs ?_ <;> refine oN ?_) | refine gc ?_ | refine ct ?_ | refine cf ?_ | refine swp_cond rfl (fun hc => ?_) (fun hc => ?_) | refine rq rfl (rt .nil) ?_)
              rfl
def sameW (a b : PRaw) : Bool := decide (a.start = b.start) && (decide (a.heads = b.heads) && decide (bs a.body = bs b.body))
theorem sameW_refl (a : PRaw) : sameW a a = true := by unfold sameW; simp
set_option maxRecDepth 100000 in
set_option maxHeartbeats 2000000 in
theorem sameRaw_ (a b : PRaw) (ha : a.heads.length ≤ 1000) : PCalls Tryz.prog 68 [.agg (rawT a), .agg (rawT b)] (.v (.bool (sameW a b))) := by
  have c1 := An.refSameG_ a.heads b.heads ha
  unfold sameW
  generalize decide (a.heads = b.heads) = e6 at *
  unfold rawT
  refine pcalls_of Tryz.func68 rfl rfl Tryz.ntmps68 rfl ?_
  cases h1 : decide (a.start = b.start) with
  | false =>
    repeat' (first | (refine rg 0 ?_; refine sbx ?_; refine sbx ?_; refine oAs ?_; refine oN ?_) | (refine rg 1 ?_; refine oFb ?_; refine oLb ?_; refine oFb ?_; refine oLb ?_; refine sp (po_str rfl rfl rfl rfl) ?_; refine oMv ?_; (first | refine oFb ?_ | refine oFd ?_ | refine oK ?_) <;> (first | refine oLb ?_ | refine oLd ?_ | refine oK ?_) <;> (first | refine oFb ?_ | refine oFd ?_ | refine oK ?_) <;> (first | refine oLb ?_ | refine oLd ?_ | refine oK ?_) <;> refine oK ?_ <;> (first | refine oPt ?_ | refine oPf ?_) <;> refine oMv ?_ <;> (first | refine oFb ?_ | refine oFd ?_ | refine oK ?_) <;> (first | refine oLb ?_ | refine oLd ?_ | refine oK ?_) <;> (first | refine sp (po_bytes_str rfl rfl (by first | exact .t _ | exact .own rfl (by rfl) | exact .nil _ | exact .emp _) byt23 (tyR rfl)) ?_ | refine oK ?_) <;> (first | refine oFb ?_ | refine oFd ?_ | refine oK ?_) <;> (first | refine oLb ?_ | refine oLd ?_ | refine oK ?_) <;> (first | refine sp (po_bytes_str rfl rfl (by first | exact .t _ | exact .own rfl (by rfl) | exact .nil _ | exact .emp _) byt23 (tyR rfl)) ?_ | refine oK ?_) <;> (first | refine sp (po_str rfl rfl rfl rfl) ?_ | refine oK ?_) <;> (first | refine oPt ?_ | refine oPf ?_) <;> refine oAs ?_ <;> refine oN ?_) | refine gc ?_ | refine ct ?_ | refine cf ?_ | refine swp_cond rfl (fun hc => ?_) (fun hc => ?_) | refine rq rfl (rt .nil) ?_)
    rfl
  | true =>
    cases e6 with
    | false =>
      repeat' (first | (refine rg 0 ?_; refine sbx ?_; refine sbx ?_; refine oAs ?_; refine oN ?_) | (refine rg 1 ?_; refine oFb ?_; refine oLb ?_; refine oFb ?_; refine oLb ?_; refine sp (po_str rfl rfl rfl rfl) ?_; refine oMv ?_; refine oFb ?_ <;> refine oLb ?_ <;> refine oFb ?_ <;> refine oLb ?_ <;> refine oC (c1) rfl (ac (ac .nil)) ?_ <;> refine oPt ?_ <;> refine oMv ?_ <;> (first | refine oFb ?_ | refine oFd ?_ | refine oK ?_) <;> (first | refine oLb ?_ | refine oLd ?_ | refine oK ?_) <;> (first | refine sp (po_bytes_str rfl rfl (by first | exact .t _ | exact .own rfl (by rfl) | exact .nil _ | exact .emp _) byt23 (tyR rfl)) ?_ | refine oK ?_) <;> (first | refine oFb ?_ | refine oFd ?_ | refine oK ?_) <;> (first | refine oLb ?_ | refine oLd ?_ | refine oK ?_) <;> (first | refine sp (po_bytes_str rfl rfl (by first | exact .t _ | exact .own rfl (by rfl) | exact .nil _ | exact .emp _) byt23 (tyR rfl)) ?_ | refine oK ?_) <;> (first | refine sp (po_str rfl rfl rfl rfl) ?_ | refine oK ?_) <;> (first | refine oPt ?_ | refine oPf ?_) <;> refine oAs ?_ <;> refine oN ?_) | refine gc ?_ | refine ct ?_ | refine cf ?_ | refine swp_cond rfl (fun hc => ?_) (fun hc => ?_) | refine rq rfl (rt .nil) ?_)
      rfl
    | true =>
      repeat' (first | (refine rg 0 ?_; refine sbx ?_; refine sbx ?_; refine oAs ?_; refine oN ?_) | (refine rg 1 ?_; refine oFb ?_; refine oLb ?_; refine oFb ?_; refine oLb ?_; refine sp (po_str rfl rfl rfl rfl) ?_; refine oMv ?_; refine oFb ?_ <;> refine oLb ?_ <;> refine oFb ?_ <;> refine oLb ?_ <;> refine oC (c1) rfl (ac (ac .nil)) ?_ <;> refine oPt ?_ <;> refine oMv ?_ <;> refine oFb ?_ <;> refine oLb ?_ <;> refine sp (po_bytes_str rfl rfl (by exact .t _) byt23 (tyR rfl)) ?_ <;> refine oFb ?_ <;> refine oLb ?_ <;> refine sp (po_bytes_str rfl rfl (by exact .t _) byt23 (tyR rfl)) ?_ <;> refine sp (po_str rfl rfl rfl rfl) ?_ <;> refine oPt ?_ <;> refine oAs ?_ <;> refine oN ?_) | refine gc ?_ | refine ct ?_ | refine cf ?_ | refine swp_cond rfl (fun hc => ?_) (fun hc => ?_) | refine rq rfl (rt .nil) ?_)
      rfl
theorem raw_at {l : List PRaw} {k : Nat} (h : k < l.length) : (l.map rawT)[k]? = some (rawT l[k]) := by
  rw [List.getElem?_map, List.getElem?_eq_getElem h]; rfl
set_option maxRecDepth 100000 in
set_option maxHeartbeats 2000000 in
theorem sameRaws_ (a : List PRaw) (ha : ∀ r ∈ a, r.heads.length ≤ 1000) (hl : a.length ≤ 1000000) : PCalls Tryz.prog 33 [.sl 3 (a.map rawT), .sl 3 (a.map rawT)] (.v (.bool true)) := by
  have hm : (a.map rawT).length = a.length := List.length_map _
  have e0 : (!decide (((a.map rawT).length : Int) = ((a.map rawT).length : Int))) = false := by simp
  refine pcalls_of Tryz.func33 rfl rfl Tryz.ntmps33 rfl ?_
  repeat' (first | (refine rg 0 ?_; refine oAs ?_; refine oN ?_) | (refine rg 1 ?_; refine oMv ?_; refine sp (pln rfl (tyS rfl)) ?_; refine oMv ?_; refine sp (pln rfl (tyS rfl)) ?_; refine oCm ?_; refine oN ?_) | (refine rg 3 ?_; refine oAs ?_; refine oN ?_) | refine gc ?_ | refine ct ?_ | refine cf ?_ | refine swp_cond rfl (fun hc => ?_) (fun hc => ?_) | refine rq rfl (rt .nil) ?_)
  refine swp_for (fun k => ⟨[(0, .t (.sl 3 (a.map rawT))), (1, .t (.sl 3 (a.map rawT))), (5, .t (.v (.int .i64 (k : Int))))], [], []⟩) (fun _ => True) a.length (weak_sub (.cons rfl rfl rfl (.cons rfl rfl rfl (.cons rfl rfl rfl .nil))) .nil .nil) trivial ?_
  intro k hk _
  by_cases hlt : k < a.length
  · have c1 := sameRaw_ a[k] a[k] (ha _ (List.getElem_mem hlt))
    rw [sameW_refl] at c1
    have hr := raw_at hlt
    unfold rawT at c1 hr
    repeat' (first | refine for_next hlt (weak_sub (.cons rfl rfl rfl (.cons rfl rfl rfl (.cons rfl rfl rfl .nil))) .nil .nil) trivial | (refine rg 4 ?_; refine oMv ?_; refine oMv ?_; refine sp (pln rfl (tyS rfl)) ?_; refine oCm ?_; refine oN ?_) | (refine rd 6 ?_; refine dMv ?_; refine dMv ?_; refine dp (pix rfl (tyS rfl)) ?_; (first | refine dp (po_load_bx_agg rfl rfl (tyT rfl) rfl (vc (vc (vc .nil))) rfl) ?_ | refine dp (po_load_agg rfl rfl (tyT rfl) rfl rfl) ?_); refine dMv ?_; refine dMv ?_; refine dp (pix rfl (tyS rfl)) ?_; (first | refine dp (po_load_bx_agg rfl rfl (tyT rfl) rfl (vc (vc (vc .nil))) rfl) ?_ | refine dp (po_load_agg rfl rfl (tyT rfl) rfl rfl) ?_); refine dC (c1) rfl (ac (ac .nil)) ?_; refine dp (po_not rfl rfl) ?_; refine dN ?_; refine oN ?_) | (refine rg 5 ?_; refine oMv ?_; refine sp (xinc rfl) ?_; refine oAs ?_; refine oN ?_) | refine gc ?_ | refine ct ?_ | refine cf ?_)
  · repeat' (first | (refine rg 4 ?_; refine oMv ?_; refine oMv ?_; refine sp (pln rfl (tyS rfl)) ?_; refine oCm ?_; refine oN ?_) | (refine rg 8 ?_; refine oAs ?_; refine oN ?_) | refine gc ?_ | refine ct ?_ | refine cf ?_ | refine swp_cond rfl (fun hc => ?_) (fun hc => ?_) | refine rq rfl (rt .nil) ?_)
    rfl
end Go.Proofs.YtpncekdhigappaaGreatDoor.Ro

/- Requests: the chapter's examples: a walk. -/
namespace Go.Proofs.YtpncekdhigappaaGreatDoor.Ro
set_option linter.unusedVariables false
set_option linter.unusedSimpArgs false
open Go.RowKit Mem Sim Opn Hd Str Pth Rq
def w1 : L8 := [71, 69, 84, 32, 47, 97, 47, 47, 98, 63, 120, 32, 72, 84, 84, 80, 47, 49, 46, 49, 13, 10, 72, 111, 115, 116, 58, 32, 65, 46, 98, 13, 10, 13, 10]
def w2 : L8 := [80, 79, 83, 84, 32, 47, 32, 72, 84, 84, 80, 47, 49, 46, 49, 13, 10, 72, 111, 115, 116, 58, 32, 97, 13, 10, 84, 114, 97, 110, 115, 102, 101, 114, 45, 69, 110, 99, 111, 100, 105, 110, 103, 58, 32, 99, 104, 117, 110, 107, 101, 100, 13, 10, 13, 10, 51, 13, 10, 97, 98, 99, 13, 10, 48, 13, 10, 13, 10]
def w3 : L8 := [80, 79, 83, 84, 32, 47, 32, 72, 84, 84, 80, 47, 49, 46, 49, 13, 10, 72, 111, 115, 116, 58, 32, 97, 13, 10, 84, 114, 97, 110, 115, 102, 101, 114, 45, 69, 110, 99, 111, 100, 105, 110, 103, 58, 32, 99, 104, 117, 110, 107, 101, 100, 13, 10, 67, 111, 110, 116, 101, 110, 116, 45, 76, 101, 110, 103, 116, 104, 58, 32, 51, 13, 10, 13, 10, 51, 13, 10, 97, 98, 99, 13, 10, 48, 13, 10, 13, 10]
def w4 : L8 := [71, 69, 84, 32, 47, 32, 72, 84, 84, 80, 47, 49, 46, 49, 10, 72, 111, 115, 116, 58, 32, 97, 13, 10, 13, 10]
def w5 : L8 := [67, 79, 78, 78, 69, 67, 84, 32, 97, 46, 98, 58, 56, 48, 32, 72, 84, 84, 80, 47, 49, 46, 49, 13, 10, 72, 111, 115, 116, 58, 32, 97, 46, 98, 58, 56, 48, 13, 10, 13, 10]
def h1 : Pl.Head := ⟨hostS, ⟨#[65, 46, 98]⟩⟩
def h2 : Pl.Head := ⟨hostS, ⟨#[97]⟩⟩
def h5 : Pl.Head := ⟨hostS, ⟨#[97, 46, 98, 58, 56, 48]⟩⟩
def x1 : PReq := ⟨⟨#[71, 69, 84]⟩, ⟨#[47, 97, 47, 47, 98, 63, 120]⟩, ⟨#[47, 97, 47, 98]⟩, ⟨#[120]⟩, ⟨#[97, 46, 98]⟩, [h1], []⟩
def x2 : PReq := ⟨⟨#[80, 79, 83, 84]⟩, ⟨#[47]⟩, ⟨#[47]⟩, ⟨#[]⟩, ⟨#[97]⟩, [h2, ⟨teS, chS⟩], [97, 98, 99]⟩
def x5 : PReq := ⟨⟨#[67, 79, 78, 78, 69, 67, 84]⟩, ⟨#[97, 46, 98, 58, 56, 48]⟩, ⟨#[]⟩, ⟨#[]⟩, ⟨#[97, 46, 98, 58, 56, 48]⟩, [h5], []⟩
def r1 : PRaw := ⟨⟨#[71, 69, 84, 32, 47, 97, 47, 47, 98, 63, 120, 32, 72, 84, 84, 80, 47, 49, 46, 49]⟩, [h1], []⟩
def r2 : PRaw := ⟨⟨#[80, 79, 83, 84, 32, 47, 32, 72, 84, 84, 80, 47, 49, 46, 49]⟩, [h2, ⟨teS, chS⟩], [97, 98, 99]⟩
def r5 : PRaw := ⟨⟨#[67, 79, 78, 78, 69, 67, 84, 32, 97, 46, 98, 58, 56, 48, 32, 72, 84, 84, 80, 47, 49, 46, 49]⟩, [h5], []⟩
theorem k1 : rawsL w1 = ([r1], 0) := by kernel_rfl
theorem k2 : rawsL w2 = ([r2], 0) := by kernel_rfl
theorem k3 : rawsL w3 = ([], 2) := by kernel_rfl
theorem k4 : rawsL w4 = ([], 2) := by kernel_rfl
theorem k5 : rawsL w5 = ([r5], 0) := by kernel_rfl
theorem o1 : ofR r1 = some x1 := by kernel_rfl
theorem o2 : ofR r2 = some x2 := by kernel_rfl
theorem o5 : ofR r5 = some x5 := by kernel_rfl
theorem of1 {l : L8} {r : PRaw} {x : PReq} (h : rawsL l = ([r], 0)) (ho : ofR r = some x) : oneT l = .tup [.agg (reqT x), .v (.int .i64 0)] := by
  unfold oneT oneR; rw [h, if_neg (fun e => e rfl)]
  dsimp only
  rw [ho]
theorem of0 {l : L8} (h : rawsL l = ([], 2)) : oneT l = .tup [.agg reqT0, .v (.int .i64 2)] := by
  unfold oneT oneR; rw [h, if_pos (by decide)]
set_option maxRecDepth 100000 in
set_option maxHeartbeats 4000000 in
theorem awake_ : PCalls Tryz.prog 30 [] (.v (.bool true)) := by
  have c1 := one2_ w1 (by decide)
  have c2 := one2_ w2 (by decide)
  have c3 := one2_ w3 (by decide)
  have c4 := one2_ w4 (by decide)
  have c5 := one2_ w5 (by decide)
  rw [of1 k1 o1] at c1
  rw [of1 k2 o2] at c2
  rw [of0 k3] at c3
  rw [of0 k4] at c4
  rw [of1 k5 o5] at c5
  unfold reqT at c1 c2 c5
  unfold reqT0 at c3 c4
  refine pcalls_of Tryz.func30 rfl rfl Tryz.ntmps30 rfl ?_
  repeat' (first | (refine rg 0 ?_; refine oAs ?_; refine oN ?_) | (refine rg 1 ?_; refine sops_cb1 (.free rfl rfl) rfl rfl (tyE rfl) (dc (dc (dc (dc (dc (dc (dc (dc (dc (dc (dc (dc (dc (dc (dc (dc (dc (dc (dc (dc (dc (dc (dc (dc (dc (dc (dc (dc (dc (dc (dc (dc (dc (dc (dc (.nil _)))))))))))))))))))))))))))))))))))) rfl rfl rfl ?_; refine sops_cb2 (.free rfl rfl) rfl rfl rfl rfl byt23 rfl ?_; refine oC (c1) rfl (ac .nil) ?_; refine oMv ?_; refine oEx ?_; refine oEx ?_; refine sal str57 ?_; refine oS ?_; refine oAs ?_; refine oN ?_) | (refine rg 2 ?_; refine sops_cb1 (.free rfl rfl) rfl rfl (tyE rfl) (dc (dc (dc (dc (dc (dc (dc (dc (dc (dc (dc (dc (dc (dc (dc (dc (dc (dc (dc (dc (dc (dc (dc (dc (dc (dc (dc (dc (dc (dc (dc (dc (dc (dc (dc (dc (dc (dc (dc (dc (dc (dc (dc (dc (dc (dc (dc (dc (dc (dc (dc (dc (dc (dc (dc (dc (dc (dc (dc (dc (dc (dc (dc (dc (dc (dc (dc (dc (dc (.nil _)))))))))))))))))))))))))))))))))))))))))))))))))))))))))))))))))))))) rfl rfl rfl ?_; refine sops_cb2 (.free rfl rfl) rfl rfl rfl rfl byt23 rfl ?_; (first | refine oC (c1) rfl (ac .nil) ?_ | refine oC (c2) rfl (ac .nil) ?_); refine oMv ?_; refine oEx ?_; refine oEx ?_; refine sal str57 ?_; refine oS ?_; refine oAs ?_; refine oN ?_) | (refine rg 3 ?_; refine sops_cb1 (.free rfl rfl) rfl rfl (tyE rfl) (dc (dc (dc (dc (dc (dc (dc (dc (dc (dc (dc (dc (dc (dc (dc (dc (dc (dc (dc (dc (dc (dc (dc (dc (dc (dc (dc (dc (dc (dc (dc (dc (dc (dc (dc (dc (dc (dc (dc (dc (dc (dc (dc (dc (dc (dc (dc (dc (dc (dc (dc (dc (dc (dc (dc (dc (dc (dc (dc (dc (dc (dc (dc (dc (dc (dc (dc (dc (dc (dc (dc (dc (dc (dc (dc (dc (dc (dc (dc (dc (dc (dc (dc (dc (dc (dc (dc (dc (.nil _))))))))))))))))))))))))))))))))))))))))))))))))))))))))))))))))))))))))))))))))))))))))) rfl rfl rfl ?_; refine sops_cb2 (.free rfl rfl) rfl rfl rfl rfl byt23 rfl ?_; (first | refine oC (c1) rfl (ac .nil) ?_ | refine oC (c2) rfl (ac .nil) ?_ | refine oC (c3) rfl (ac .nil) ?_); refine oMv ?_; refine oEx ?_; refine oEx ?_; refine sal str57 ?_; refine oS ?_; refine oAs ?_; refine oN ?_) | (refine rg 4 ?_; refine sops_cb1 (.free rfl rfl) rfl rfl (tyE rfl) (dc (dc (dc (dc (dc (dc (dc (dc (dc (dc (dc (dc (dc (dc (dc (dc (dc (dc (dc (dc (dc (dc (dc (dc (dc (dc (.nil _))))))))))))))))))))))))))) rfl rfl rfl ?_; refine sops_cb2 (.free rfl rfl) rfl rfl rfl rfl byt23 rfl ?_; (first | refine oC (c1) rfl (ac .nil) ?_ | refine oC (c2) rfl (ac .nil) ?_ | refine oC (c3) rfl (ac .nil) ?_ | refine oC (c4) rfl (ac .nil) ?_); refine oMv ?_; refine oEx ?_; refine oEx ?_; refine sal str57 ?_; refine oS ?_; refine oAs ?_; refine oN ?_) | (refine rg 5 ?_; refine sops_cb1 (.free rfl rfl) rfl rfl (tyE rfl) (dc (dc (dc (dc (dc (dc (dc (dc (dc (dc (dc (dc (dc (dc (dc (dc (dc (dc (dc (dc (dc (dc (dc (dc (dc (dc (dc (dc (dc (dc (dc (dc (dc (dc (dc (dc (dc (dc (dc (dc (dc (.nil _)))))))))))))))))))))))))))))))))))))))))) rfl rfl rfl ?_; refine sops_cb2 (.free rfl rfl) rfl rfl rfl rfl byt23 rfl ?_; (first | refine oC (c1) rfl (ac .nil) ?_ | refine oC (c2) rfl (ac .nil) ?_ | refine oC (c3) rfl (ac .nil) ?_ | refine oC (c4) rfl (ac .nil) ?_ | refine oC (c5) rfl (ac .nil) ?_); refine oMv ?_; refine oEx ?_; refine oEx ?_; refine sal str57 ?_; refine oS ?_; refine oAs ?_; refine oN ?_) | (refine rg 6 ?_; refine oMv ?_; refine oCm ?_; refine oMv ?_; refine oFb ?_ <;> refine oLb ?_ <;> refine sp (po_str rfl rfl rfl rfl) ?_ <;> refine oPt ?_ <;> refine oMv ?_ <;> refine oFb ?_ <;> refine oLb ?_ <;> refine sp (po_str rfl rfl rfl rfl) ?_ <;> refine oPt ?_ <;> refine oMv ?_ <;> refine oFb ?_ <;> refine oLb ?_ <;> refine sp (po_str rfl rfl rfl rfl) ?_ <;> refine oPt ?_ <;> refine oMv ?_ <;> refine oMv ?_ <;> refine oCm ?_ <;> refine oPt ?_ <;> refine oMv ?_ <;> refine oFb ?_ <;> refine oLb ?_ <;> refine sp (po_bytes_str (l := [97, 98, 99]) rfl rfl (.t _) byt23' rfl) ?_ <;> refine sp (po_str rfl rfl rfl rfl) ?_ <;> refine oPt ?_ <;> refine oMv ?_ <;> refine oMv ?_ <;> refine oCm ?_ <;> refine oPt ?_ <;> refine oMv ?_ <;> refine oMv ?_ <;> refine oCm ?_ <;> refine oPt ?_ <;> refine oMv ?_ <;> refine oMv ?_ <;> refine oCm ?_ <;> refine oPt ?_ <;> refine oMv ?_ <;> refine oFb ?_ <;> refine oLb ?_ <;> refine sp (po_str rfl rfl rfl rfl) ?_ <;> refine oPt ?_ <;> refine oMv ?_ <;> refine oFb ?_ <;> refine oLb ?_ <;> refine sp (po_str rfl rfl rfl rfl) ?_ <;> refine oPt ?_ <;> refine oAs ?_ <;> refine oN ?_) | refine gc ?_ | refine ct ?_ | refine cf ?_ | refine swp_cond rfl (fun hc => ?_) (fun hc => ?_) | refine rq rfl (rt .nil) ?_)
  rfl
end Go.Proofs.YtpncekdhigappaaGreatDoor.Ro

/- Answers, messages, requests: in memory, opened, as trees of data. -/
namespace Go.Proofs.YtpncekdhigappaaGreatDoor.Rq
set_option linter.unusedVariables false
set_option linter.unusedSimpArgs false
open Go.RowKit Go.WideShapes Go.ChangeShapes Go.Joins Mem Sim Opn Hd An
structure PReq where
  method : ByteArray
  target : ByteArray
  path : ByteArray
  query : ByteArray
  host : ByteArray
  heads : List Pl.Head
  body : List UInt8
deriving Inhabited
def reqT (r : PReq) : List T := [.v (.string r.method), .v (.string r.target), .v (.string r.path), .v (.string r.query), .v (.string r.host), headsT r.heads, .sl 1 (r.body.map byteT)]
def ByteC : Rel UInt8 := fun _ _ b cs => cs = [.int .u8 (b.toNat : Int)]
theorem one_byte : Tryz.prog.cellsOf 5 = 1 := by kernel_rfl
theorem one_bytes : Tryz.prog.cellsOf 23 = 1 := by kernel_rfl
theorem one_heads : Tryz.prog.cellsOf 22 = 1 := by kernel_rfl
theorem one_int : Tryz.prog.cellsOf 3 = 1 := by kernel_rfl
theorem byte_opens : Opens 5 ByteC := by
  intro H enc w base spare held fuel cs x h
  obtain ⟨n, rfl, _, hw⟩ := DataW.trod_int Tryz.underlying5 h
  have hb := bounds_u8 hw
  refine ⟨UInt8.ofNat n.toNat, ?_⟩
  unfold ByteC
  rw [UInt8.toNat_ofNat']
  congr 2; omega
theorem bytes_opens : Opens 23 (SliceC ByteC 1) := opens_slice (R := ByteC) Tryz.underlying23 one_byte (by omega) byte_opens
theorem ints_opens : Opens 43 (SliceC (IntC .i64) 1) := opens_slice (R := IntC .i64) Tryz.underlying43 one_int (by omega) (opens_int Tryz.underlying3)
theorem sl_bwd {α : Type} {R : Mem.Rel α} {enc : α → List T} {sz B : Nat} {w : World} {xs : List α} {c : Value} (hsz : ∀ x, (enc x).length = sz) (hR : ∀ x cs, R B w x cs → CellsAre (allm w) (enc x) cs) (h : SliceC R sz B w xs [c]) : TR (allm w) (.sl sz (xs.map enc)) c ∧ c.oneCell' = true := by
  obtain ⟨A, cap, e, hA, h1, h2⟩ := h
  injection e with e; subst e
  exact ⟨tr_rows_bwd (allm w) hA h1 h2 hsz (fun x _ cs hr => hR x cs hr) (fun b o v _ h => h), rfl⟩
theorem str_bwd {B : Nat} {w : World} {s : ByteArray} {c : Value} (h : StrC B w s [c]) : TR (allm w) (.v (.string s)) c ∧ c.oneCell' = true := by
  obtain ⟨e, _⟩ := h; injection e with e; subst e; exact ⟨.v _, rfl⟩
theorem head_bwd {B : Nat} {w : World} (x : Pl.Head) (cs : List Value) (h : HeadR B w x cs) : CellsAre (allm w) (headT x) cs := by
  obtain ⟨rfl, _⟩ := h
  exact cellsAre_cons (.v _) rfl (cellsAre_cons (.v _) rfl (cellsAre_nil _))
theorem byte_bwd {B : Nat} {w : World} (x : UInt8) (cs : List Value) (h : ByteC B w x cs) : CellsAre (allm w) (byteT x) cs := by
  obtain rfl := h
  exact cellsAre_cons (.v _) rfl (cellsAre_nil _)
def intT (n : Int) : List T := [.v (.int .i64 n)]
theorem int_bwd' {B : Nat} {w : World} (x : Int) (cs : List Value) (h : IntC .i64 B w x cs) : CellsAre (allm w) (intT x) cs := by
  obtain ⟨rfl, _⟩ := h
  exact cellsAre_cons (.v _) rfl (cellsAre_nil _)
theorem heads_bwdC {B : Nat} {w : World} {xs : List Pl.Head} {c : Value} (h : SliceC HeadR 2 B w xs [c]) : TR (allm w) (headsT xs) c ∧ c.oneCell' = true := sl_bwd (fun _ => rfl) head_bwd h
theorem bytes_bwdC {B : Nat} {w : World} {xs : List UInt8} {c : Value} (h : SliceC ByteC 1 B w xs [c]) : TR (allm w) (.sl 1 (xs.map byteT)) c ∧ c.oneCell' = true := sl_bwd (fun _ => rfl) byte_bwd h
theorem sl_bwdA {α : Type} {R : Mem.Rel α} {enc : α → List T} {sz B : Nat} {w : World} {A : Option Addr} {xs : List α} {cap : Nat} (hsz : ∀ x, (enc x).length = sz) (hR : ∀ x cs, R B w x cs → CellsAre (allm w) (enc x) cs) (hA : SliceAt R sz B w A xs) (h1 : xs.length ≤ cap) (h2 : cap ≤ maxLen) : TR (allm w) (.sl sz (xs.map enc)) (.slice A xs.length cap) :=
  tr_rows_bwd (allm w) hA h1 h2 hsz (fun x _ cs hr => hR x cs hr) (fun b o v _ h => h)
theorem heads_okC {B : Nat} {w : World} {xs : List Pl.Head} {cs : List Value} (h : SliceC HeadR 2 B w xs cs) : ∀ x ∈ xs, okHead x := by
  obtain ⟨A, cap, e, hA, h1, h2⟩ := h
  exact heads_ok hA
theorem body_okC {B : Nat} {w : World} {xs : List UInt8} {cs : List Value} (h : SliceC ByteC 1 B w xs cs) : xs.length ≤ maxLen := by
  obtain ⟨A, cap, e, hA, h1, h2⟩ := h
  omega
def ReqR : Rel PReq := fun B w x cs => ∃ c0 c1 c2 c3 c4 c5 c6, cs = [c0, c1, c2, c3, c4, c5, c6] ∧ StrC B w x.method [c0] ∧ StrC B w x.target [c1] ∧ StrC B w x.path [c2] ∧ StrC B w x.query [c3] ∧ StrC B w x.host [c4] ∧ (SliceC HeadR 2) B w x.heads [c5] ∧ (SliceC ByteC 1) B w x.body [c6]
theorem cells_Req : Tryz.prog.cellsOf 57 = 7 := by kernel_rfl
theorem req_bwd {B : Nat} {w : World} (x : PReq) (cs : List Value) (h : ReqR B w x cs) : CellsAre (allm w) (reqT x) cs := by
  obtain ⟨c0, c1, c2, c3, c4, c5, c6, rfl, h0, h1, h2, h3, h4, h5, h6⟩ := h
  exact (cellsAre_cons (str_bwd h0).1 (str_bwd h0).2 (cellsAre_cons (str_bwd h1).1 (str_bwd h1).2 (cellsAre_cons (str_bwd h2).1 (str_bwd h2).2 (cellsAre_cons (str_bwd h3).1 (str_bwd h3).2 (cellsAre_cons (str_bwd h4).1 (str_bwd h4).2 (cellsAre_cons (heads_bwdC h5).1 (heads_bwdC h5).2 (cellsAre_cons (bytes_bwdC h6).1 (bytes_bwdC h6).2 (cellsAre_nil _))))))))
theorem req_bwdT {w : World} {x : PReq} {cs : Array Value} (h : ReqR w.heap.size w x cs.toList) : TR (allm w) (.agg (reqT x)) (.agg cs) := by
  have := agg_bwd (req_bwd x _ h)
  simpa using this
structure okReq (a : PReq) : Prop where
  h1 : a.method.size ≤ maxLen
  h2 : a.target.size ≤ maxLen
  h3 : a.path.size ≤ maxLen
  h4 : a.query.size ≤ maxLen
  h5 : a.host.size ≤ maxLen
  hh : ∀ h ∈ a.heads, okHead h
  hb : a.body.length ≤ maxLen
theorem req_ok (B : Nat) (w : World) (x : PReq) (cs : List Value) (h : ReqR B w x cs) : okReq x := by
  obtain ⟨c0, c1, c2, c3, c4, c5, c6, rfl, h0, h1, h2, h3, h4, h5, h6⟩ := h
  exact ⟨h0.2, h1.2, h2.2, h3.2, h4.2, heads_okC h5, body_okC h6⟩
theorem sl_ok {α : Type} {R : Mem.Rel α} {sz B : Nat} {w : World} {A : Option Addr} {xs : List α} {ok : α → Prop} (hR : ∀ B w x cs, R B w x cs → ok x) (hA : SliceAt R sz B w A xs) : ∀ x ∈ xs, ok x := fun x hx => by
  obtain ⟨k, hk⟩ := List.getElem?_of_mem hx
  obtain ⟨b, off, cs, _, _, _, _, hr⟩ := hA k x hk
  exact hR _ _ _ _ hr
end Go.Proofs.YtpncekdhigappaaGreatDoor.Rq

/- Requests: long messages: a walk. -/
namespace Go.Proofs.YtpncekdhigappaaGreatDoor.Ro
set_option linter.unusedVariables false
set_option linter.unusedSimpArgs false
open Go.RowKit Mem Sim Opn Hd Str Pth Rq
def longW (r : PRaw) : Bool := decide (2000 < r.start.size) || (decide (3000 < r.body.length) || longH r.heads)
set_option maxRecDepth 100000 in
set_option maxHeartbeats 1000000 in
theorem longW_ (r : PRaw) : PCalls Tryz.prog 42 [.agg (rawT r)] (.v (.bool (longW r))) := by
  have hm2 : (r.body.map byteT).length = r.body.length := List.length_map _
  have c1 := long_ r.heads
  unfold longW rawT
  refine pcalls_of Tryz.func42 rfl rfl Tryz.ntmps42 rfl ?_
  by_cases h0 : 2000 < r.start.size
  · rw [decide_eq_true h0]
    repeat' (first | (refine rg 0 ?_; refine sbx ?_; refine oAs ?_; refine oN ?_) | (refine rg 1 ?_; refine oFb ?_; refine oLb ?_; refine sp (po_len_str rfl rfl (tyR rfl)) ?_; refine oCm ?_; refine oMv ?_; (first | refine oFb ?_ | refine oFd ?_ | refine oK ?_) <;> (first | refine oLb ?_ | refine oLd ?_ | refine oK ?_) <;> (first | refine sp (pln rfl (tyS rfl)) ?_ | refine oK ?_) <;> (first | refine oCm ?_ | refine oK ?_) <;> refine oPt ?_ <;> refine oMv ?_ <;> (first | refine oFb ?_ | refine oFd ?_ | refine oK ?_) <;> (first | refine oLb ?_ | refine oLd ?_ | refine oK ?_) <;> (first | refine oC (c1) rfl (ac .nil) ?_ | refine oK ?_) <;> refine oPt ?_ <;> refine oAs ?_ <;> refine oN ?_) | refine gc ?_ | refine ct ?_ | refine cf ?_ | refine swp_cond rfl (fun hc => ?_) (fun hc => ?_) | refine rq rfl (rt .nil) ?_)
    rfl
  · rw [decide_eq_false h0]
    by_cases h : 3000 < r.body.length
    · rw [decide_eq_true h]
      repeat' (first | (refine rg 0 ?_; refine sbx ?_; refine oAs ?_; refine oN ?_) | (refine rg 1 ?_; refine oFb ?_; refine oLb ?_; refine sp (po_len_str rfl rfl (tyR rfl)) ?_; refine oCm ?_; refine oMv ?_; refine oFb ?_ <;> refine oLb ?_ <;> refine sp (pln rfl (tyS rfl)) ?_ <;> refine oCm ?_ <;> (first | refine oPt ?_ | refine oPf ?_) <;> refine oMv ?_ <;> (first | refine oFb ?_ | refine oFd ?_ | refine oK ?_) <;> (first | refine oLb ?_ | refine oLd ?_ | refine oK ?_) <;> (first | refine oC (c1) rfl (ac .nil) ?_ | refine oK ?_) <;> refine oPt ?_ <;> refine oAs ?_ <;> refine oN ?_) | refine gc ?_ | refine ct ?_ | refine cf ?_ | refine swp_cond rfl (fun hc => ?_) (fun hc => ?_) | refine rq rfl (rt .nil) ?_)
      rfl
    · rw [decide_eq_false h]
      repeat' (first | (refine rg 0 ?_; refine sbx ?_; refine oAs ?_; refine oN ?_) | (refine rg 1 ?_; refine oFb ?_; refine oLb ?_; refine sp (po_len_str rfl rfl (tyR rfl)) ?_; refine oCm ?_; refine oMv ?_; refine oFb ?_ <;> refine oLb ?_ <;> refine sp (pln rfl (tyS rfl)) ?_ <;> refine oCm ?_ <;> (first | refine oPt ?_ | refine oPf ?_) <;> refine oMv ?_ <;> refine oFb ?_ <;> refine oLb ?_ <;> refine oC (c1) rfl (ac .nil) ?_ <;> (first | refine oPt ?_ | refine oPf ?_) <;> refine oAs ?_ <;> refine oN ?_) | refine gc ?_ | refine ct ?_ | refine cf ?_ | refine swp_cond rfl (fun hc => ?_) (fun hc => ?_) | refine rq rfl (rt .nil) ?_)
      rfl
structure LongNo (r : PRaw) : Prop where
  hs : r.start.size ≤ 2000
  hb : r.body.length ≤ 3000
  hn : r.heads.length ≤ 100
  hl : longH r.heads = false
  hv : ∀ h ∈ r.heads, h.value.size ≤ 2000
theorem longW_no {r : PRaw} (h : longW r = false) : LongNo r := by
  unfold longW at h
  simp only [Bool.or_eq_false_iff, decide_eq_false_iff_not] at h
  obtain ⟨h1, h2, h3⟩ := h
  refine ⟨by omega, by omega, ?_, h3, ?_⟩
  · unfold longH at h3
    simp only [Bool.or_eq_false_iff, decide_eq_false_iff_not] at h3
    omega
  · intro x hx
    unfold longH at h3
    rw [Bool.or_eq_false_iff] at h3
    have := (List.any_eq_false.1 h3.2) x hx
    simp at this; omega
theorem LongNo.vals {r : PRaw} (h : LongNo r) : ∀ v ∈ valsOf hostS r.heads, v.size ≤ 200000 := fun v hv => by
  unfold valsOf at hv
  obtain ⟨x, hx, rfl⟩ := List.mem_map.1 hv
  have := h.hv x (List.mem_filter.1 hx).1
  omega
end Go.Proofs.YtpncekdhigappaaGreatDoor.Ro
