/- Merged by bundles.py: SimOf4, SimAnR, SimOr3, Rel10. -/
import Derived.Test.YtpncekdhigappaaGreatDoorT35
import Derived.Test.YtpncekdhigappaaGreatDoorT25
import Derived.Test.YtpncekdhigappaaGreatDoorT32
import Derived.Test.YtpncekdhigappaaGreatDoorT34
import Derived.Test.YtpncekdhigappaaGreatDoorT27
import Derived.Test.YtpncekdhigappaaGreatDoorT14
import Derived.Test.YtpncekdhigappaaGreatDoorT22
import Derived.Test.YtpncekdhigappaaGreatDoorT17
import Derived.OpenShut
/- Requests: one of bytes, what may be, its bytes, the same: walks. -/
namespace Go.Proofs.YtpncekdhigappaaGreatDoor.Ro
set_option linter.unusedVariables false
set_option linter.unusedSimpArgs false
open Go.RowKit Mem Sim Opn Hd Str Pth Rq
set_option maxRecDepth 100000 in
set_option maxHeartbeats 4000000 in
theorem sameR_ (a b : PReq) (ha : a.heads.length ≤ 1000) : PCalls Tryz.prog 48 [.agg (reqT a), .agg (reqT b)] (.v (.bool (sameR a b))) := by
  have c1 := An.equalH_ a.heads b.heads ha
  unfold sameR
  generalize decide (a.heads = b.heads) = e6 at *
  refine pcalls_of Tryz.func48 rfl rfl Tryz.ntmps48 rfl ?_
  cases h1 : decide (a.method = b.method) with
  | false =>
    repeat' (first | (refine rg 0 ?_; refine sbx ?_; refine sbx ?_; refine oAs ?_; refine oN ?_) | (refine rg 1 ?_; refine oFb ?_; refine oLb ?_; refine oFb ?_; refine oLb ?_; refine sp (po_str rfl rfl rfl rfl) ?_; refine oMv ?_; (first | refine oFb ?_ | refine oFd ?_ | refine oK ?_) <;> (first | refine oLb ?_ | refine oLd ?_ | refine oK ?_) <;> (first | refine oFb ?_ | refine oFd ?_ | refine oK ?_) <;> (first | refine oLb ?_ | refine oLd ?_ | refine oK ?_) <;> (first | refine sp (po_str rfl rfl rfl rfl) ?_ | refine oK ?_) <;> (first | refine oPt ?_ | refine oPf ?_) <;> refine oMv ?_ <;> (first | refine oFb ?_ | refine oFd ?_ | refine oK ?_) <;> (first | refine oLb ?_ | refine oLd ?_ | refine oK ?_) <;> (first | refine oFb ?_ | refine oFd ?_ | refine oK ?_) <;> (first | refine oLb ?_ | refine oLd ?_ | refine oK ?_) <;> (first | refine sp (po_str rfl rfl rfl rfl) ?_ | refine oK ?_) <;> (first | refine oPt ?_ | refine oPf ?_) <;> refine oMv ?_ <;> (first | refine oFb ?_ | refine oFd ?_ | refine oK ?_) <;> (first | refine oLb ?_ | refine oLd ?_ | refine oK ?_) <;> (first | refine oFb ?_ | refine oFd ?_ | refine oK ?_) <;> (first | refine oLb ?_ | refine oLd ?_ | refine oK ?_) <;> (first | refine sp (po_str rfl rfl rfl rfl) ?_ | refine oK ?_) <;> (first | refine oPt ?_ | refine oPf ?_) <;> refine oMv ?_ <;> (first | refine oFb ?_ | refine oFd ?_ | refine oK ?_) <;> (first | refine oLb ?_ | refine oLd ?_ | refine oK ?_) <;> (first | refine oFb ?_ | refine oFd ?_ | refine oK ?_) <;> (first | refine oLb ?_ | refine oLd ?_ | refine oK ?_) <;> (first | refine sp (po_str rfl rfl rfl rfl) ?_ | refine oK ?_) <;> (first | refine oPt ?_ | refine oPf ?_) <;> refine oMv ?_ <;> (first | refine oFb ?_ | refine oFd ?_ | refine oK ?_) <;> (first | refine oLb ?_ | refine oLd ?_ | refine oK ?_) <;> (first | refine oFb ?_ | refine oFd ?_ | refine oK ?_) <;> (first | refine oLb ?_ | refine oLd ?_ | refine oK ?_) <;> refine oK ?_ <;> (first | refine oPt ?_ | refine oPf ?_) <;> refine oMv ?_ <;> (first | refine oFb ?_ | refine oFd ?_ | refine oK ?_) <;> (first | refine oLb ?_ | refine oLd ?_ | refine oK ?_) <;> (first | refine sp (po_bytes_str rfl rfl (by first | exact .t _ | exact .own rfl (by rfl) | exact .nil _ | exact .emp _) byt23 (tyR rfl)) ?_ | refine oK ?_) <;> (first | refine oFb ?_ | refine oFd ?_ | refine oK ?_) <;> (first | refine oLb ?_ | refine oLd ?_ | refine oK ?_) <;> (first | refine sp (po_bytes_str rfl rfl (by first | exact .t _ | exact .own rfl (by rfl) | exact .nil _ | exact .emp _) byt23 (tyR rfl)) ?_ | refine oK ?_) <;> (first | refine sp (po_str rfl rfl rfl rfl) ?_ | refine oK ?_) <;> (first | refine oPt ?_ | refine oPf ?_) <;> refine oAs ?_ <;> refine oN ?_) | refine gc ?_ | refine ct ?_ | refine cf ?_ | refine swp_cond rfl (fun hc => ?_) (fun hc => ?_) | refine rq rfl (rt .nil) ?_)
    rfl
  | true =>
    cases h2 : decide (a.target = b.target) with
    | false =>
      repeat' (first | (refine rg 0 ?_; refine sbx ?_; refine sbx ?_; refine oAs ?_; refine oN ?_) | (refine rg 1 ?_; refine oFb ?_; refine oLb ?_; refine oFb ?_; refine oLb ?_; refine sp (po_str rfl rfl rfl rfl) ?_; refine oMv ?_; refine oFb ?_ <;> refine oLb ?_ <;> refine oFb ?_ <;> refine oLb ?_ <;> refine sp (po_str rfl rfl rfl rfl) ?_ <;> refine oPt ?_ <;> refine oMv ?_ <;> (first | refine oFb ?_ | refine oFd ?_ | refine oK ?_) <;> (first | refine oLb ?_ | refine oLd ?_ | refine oK ?_) <;> (first | refine oFb ?_ | refine oFd ?_ | refine oK ?_) <;> (first | refine oLb ?_ | refine oLd ?_ | refine oK ?_) <;> (first | refine sp (po_str rfl rfl rfl rfl) ?_ | refine oK ?_) <;> (first | refine oPt ?_ | refine oPf ?_) <;> refine oMv ?_ <;> (first | refine oFb ?_ | refine oFd ?_ | refine oK ?_) <;> (first | refine oLb ?_ | refine oLd ?_ | refine oK ?_) <;> (first | refine oFb ?_ | refine oFd ?_ | refine oK ?_) <;> (first | refine oLb ?_ | refine oLd ?_ | refine oK ?_) <;> (first | refine sp (po_str rfl rfl rfl rfl) ?_ | refine oK ?_) <;> (first | refine oPt ?_ | refine oPf ?_) <;> refine oMv ?_ <;> (first | refine oFb ?_ | refine oFd ?_ | refine oK ?_) <;> (first | refine oLb ?_ | refine oLd ?_ | refine oK ?_) <;> (first | refine oFb ?_ | refine oFd ?_ | refine oK ?_) <;> (first | refine oLb ?_ | refine oLd ?_ | refine oK ?_) <;> (first | refine sp (po_str rfl rfl rfl rfl) ?_ | refine oK ?_) <;> (first | refine oPt ?_ | refine oPf ?_) <;> refine oMv ?_ <;> (first | refine oFb ?_ | refine oFd ?_ | refine oK ?_) <;> (first | refine oLb ?_ | refine oLd ?_ | refine oK ?_) <;> (first | refine oFb ?_ | refine oFd ?_ | refine oK ?_) <;> (first | refine oLb ?_ | refine oLd ?_ | refine oK ?_) <;> refine oK ?_ <;> (first | refine oPt ?_ | refine oPf ?_) <;> refine oMv ?_ <;> (first | refine oFb ?_ | refine oFd ?_ | refine oK ?_) <;> (first | refine oLb ?_ | refine oLd ?_ | refine oK ?_) <;> (first | refine sp (po_bytes_str rfl rfl (by first | exact .t _ | exact .own rfl (by rfl) | exact .nil _ | exact .emp _) byt23 (tyR rfl)) ?_ | refine oK ?_) <;> (first | refine oFb ?_ | refine oFd ?_ | refine oK ?_) <;> (first | refine oLb ?_ | refine oLd ?_ | refine oK ?_) <;> (first | refine sp (po_bytes_str rfl rfl (by first | exact .t _ | exact .own rfl (by rfl) | exact .nil _ | exact .emp _) byt23 (tyR rfl)) ?_ | refine oK ?_) <;> (first | refine sp (po_str rfl rfl rfl rfl) ?_ | refine oK ?_) <;> (first | refine oPt ?_ | refine oPf ?_) <;> refine oAs ?_ <;> refine oN ?_) | refine gc ?_ | refine ct ?_ | refine cf ?_ | refine swp_cond rfl (fun hc => ?_) (fun hc => ?_) | refine rq rfl (rt .nil) ?_)
      rfl
    | true =>
      cases h3 : decide (a.path = b.path) with
      | false =>
        repeat' (first | (refine rg 0 ?_; refine sbx ?_; refine sbx ?_; refine oAs ?_; refine oN ?_) | (refine rg 1 ?_; refine oFb ?_; refine oLb ?_; refine oFb ?_; refine oLb ?_; refine sp (po_str rfl rfl rfl rfl) ?_; refine oMv ?_; refine oFb ?_ <;> refine oLb ?_ <;> refine oFb ?_ <;> refine oLb ?_ <;> refine sp (po_str rfl rfl rfl rfl) ?_ <;> refine oPt ?_ <;> refine oMv ?_ <;> refine oFb ?_ <;> refine oLb ?_ <;> refine oFb ?_ <;> refine oLb ?_ <;> refine sp (po_str rfl rfl rfl rfl) ?_ <;> refine oPt ?_ <;> refine oMv ?_ <;> (first | refine oFb ?_ | refine oFd ?_ | refine oK ?_) <;> (first | refine oLb ?_ | refine oLd ?_ | refine oK ?_) <;> (first | refine oFb ?_ | refine oFd ?_ | refine oK ?_) <;> (first | refine oLb ?_ | refine oLd ?_ | refine oK ?_) <;> (first | refine sp (po_str rfl rfl rfl rfl) ?_ | refine oK ?_) <;> (first | refine oPt ?_ | refine oPf ?_) <;> refine oMv ?_ <;> (first | refine oFb ?_ | refine oFd ?_ | refine oK ?_) <;> (first | refine oLb ?_ | refine oLd ?_ | refine oK ?_) <;> (first | refine oFb ?_ | refine oFd ?_ | refine oK ?_) <;> (first | refine oLb ?_ | refine oLd ?_ | refine oK ?_) <;> (first | refine sp (po_str rfl rfl rfl rfl) ?_ | refine oK ?_) <;> (first | refine oPt ?_ | refine oPf ?_) <;> refine oMv ?_ <;> (first | refine oFb ?_ | refine oFd ?_ | refine oK ?_) <;> (first | refine oLb ?_ | refine oLd ?_ | refine oK ?_) <;> (first | refine oFb ?_ | refine oFd ?_ | refine oK ?_) <;> (first | refine oLb ?_ | refine oLd ?_ | refine oK ?_) <;> refine oK ?_ <;> (first | refine oPt ?_ | refine oPf ?_) <;> refine oMv ?_ <;> (first | refine oFb ?_ | refine oFd ?_ | refine oK ?_) <;> (first | refine oLb ?_ | refine oLd ?_ | refine oK ?_) <;> (first | refine sp (po_bytes_str rfl rfl (by first | exact .t _ | exact .own rfl (by rfl) | exact .nil _ | exact .emp _) byt23 (tyR rfl)) ?_ | refine oK ?_) <;> (first | refine oFb ?_ | refine oFd ?_ | refine oK ?_) <;> (first | refine oLb ?_ | refine oLd ?_ | refine oK ?_) <;> (first | refine sp (po_bytes_str rfl rfl (by first | exact .t _ | exact .own rfl (by rfl) | exact .nil _ | exact .emp _) byt23 (tyR rfl)) ?_ | refine oK ?_) <;> (first | refine sp (po_str rfl rfl rfl rfl) ?_ | refine oK ?_) <;> (first | refine oPt ?_ | refine oPf ?_) <;> refine oAs ?_ <;> refine oN ?_) | refine gc ?_ | refine ct ?_ | refine cf ?_ | refine swp_cond rfl (fun hc => ?_) (fun hc => ?_) | refine rq rfl (rt .nil) ?_)
        rfl
      | true =>
        cases h4 : decide (a.query = b.query) with
        | false =>
          repeat' (first | (refine rg 0 ?_; refine sbx ?_; refine sbx ?_; refine oAs ?_; refine oN ?_) | (refine rg 1 ?_; refine oFb ?_; refine oLb ?_; refine oFb ?_; refine oLb ?_; refine sp (po_str rfl rfl rfl rfl) ?_; refine oMv ?_; refine oFb ?_ <;> refine oLb ?_ <;> refine oFb ?_ <;> refine oLb ?_ <;> refine sp (po_str rfl rfl rfl rfl) ?_ <;> refine oPt ?_ <;> refine oMv ?_ <;> refine oFb ?_ <;> refine oLb ?_ <;> refine oFb ?_ <;> refine oLb ?_ <;> refine sp (po_str rfl rfl rfl rfl) ?_ <;> refine oPt ?_ <;> refine oMv ?_ <;> refine oFb ?_ <;> refine oLb ?_ <;> refine oFb ?_ <;> refine oLb ?_ <;> refine sp (po_str rfl rfl rfl rfl) ?_ <;> refine oPt ?_ <;> refine oMv ?_ <;> (first | refine oFb ?_ | refine oFd ?_ | refine oK ?_) <;> (first | refine oLb ?_ | refine oLd ?_ | refine oK ?_) <;> (first | refine oFb ?_ | refine oFd ?_ | refine oK ?_) <;> (first | refine oLb ?_ | refine oLd ?_ | refine oK ?_) <;> (first | refine sp (po_str rfl rfl rfl rfl) ?_ | refine oK ?_) <;> (first | refine oPt ?_ | refine oPf ?_) <;> refine oMv ?_ <;> (first | refine oFb ?_ | refine oFd ?_ | refine oK ?_) <;> (first | refine oLb ?_ | refine oLd ?_ | refine oK ?_) <;> (first | refine oFb ?_ | refine oFd ?_ | refine oK ?_) <;> (first | refine oLb ?_ | refine oLd ?_ | refine oK ?_) <;> refine oK ?_ <;> (first | refine oPt ?_ | refine oPf ?_) <;> refine oMv ?_ <;> (first | refine oFb ?_ | refine oFd ?_ | refine oK ?_) <;> (first | refine oLb ?_ | refine oLd ?_ | refine oK ?_) <;> (first | refine sp (po_bytes_str rfl rfl (by first | exact .t _ | exact .own rfl (by rfl) | exact .nil _ | exact .emp _) byt23 (tyR rfl)) ?_ | refine oK ?_) <;> (first | refine oFb ?_ | refine oFd ?_ | refine oK ?_) <;> (first | refine oLb ?_ | refine oLd ?_ | refine oK ?_) <;> (first | refine sp (po_bytes_str rfl rfl (by first | exact .t _ | exact .own rfl (by rfl) | exact .nil _ | exact .emp _) byt23 (tyR rfl)) ?_ | refine oK ?_) <;> (first | refine sp (po_str rfl rfl rfl rfl) ?_ | refine oK ?_) <;> (first | refine oPt ?_ | refine oPf ?_) <;> refine oAs ?_ <;> refine oN ?_) | refine gc ?_ | refine ct ?_ | refine cf ?_ | refine swp_cond rfl (fun hc => ?_) (fun hc => ?_) | refine rq rfl (rt .nil) ?_)
          rfl
        | true =>
          cases h5 : decide (a.host = b.host) with
          | false =>
            repeat' (first | (refine rg 0 ?_; refine sbx ?_; refine sbx ?_; refine oAs ?_; refine oN ?_) | (refine rg 1 ?_; refine oFb ?_; refine oLb ?_; refine oFb ?_; refine oLb ?_; refine sp (po_str rfl rfl rfl rfl) ?_; refine oMv ?_; refine oFb ?_ <;> refine oLb ?_ <;> refine oFb ?_ <;> refine oLb ?_ <;> refine sp (po_str rfl rfl rfl rfl) ?_ <;> refine oPt ?_ <;> refine oMv ?_ <;> refine oFb ?_ <;> refine oLb ?_ <;> refine oFb ?_ <;> refine oLb ?_ <;> refine sp (po_str rfl rfl rfl rfl) ?_ <;> refine oPt ?_ <;> refine oMv ?_ <;> refine oFb ?_ <;> refine oLb ?_ <;> refine oFb ?_ <;> refine oLb ?_ <;> refine sp (po_str rfl rfl rfl rfl) ?_ <;> refine oPt ?_ <;> refine oMv ?_ <;> refine oFb ?_ <;> refine oLb ?_ <;> refine oFb ?_ <;> refine oLb ?_ <;> refine sp (po_str rfl rfl rfl rfl) ?_ <;> refine oPt ?_ <;> refine oMv ?_ <;> (first | refine oFb ?_ | refine oFd ?_ | refine oK ?_) <;> (first | refine oLb ?_ | refine oLd ?_ | refine oK ?_) <;> (first | refine oFb ?_ | refine oFd ?_ | refine oK ?_) <;> (first | refine oLb ?_ | refine oLd ?_ | refine oK ?_) <;> refine oK ?_ <;> (first | refine oPt ?_ | refine oPf ?_) <;> refine oMv ?_ <;> (first | refine oFb ?_ | refine oFd ?_ | refine oK ?_) <;> (first | refine oLb ?_ | refine oLd ?_ | refine oK ?_) <;> (first | refine sp (po_bytes_str rfl rfl (by first | exact .t _ | exact .own rfl (by rfl) | exact .nil _ | exact .emp _) byt23 (tyR rfl)) ?_ | refine oK ?_) <;> (first | refine oFb ?_ | refine oFd ?_ | refine oK ?_) <;> (first | refine oLb ?_ | refine oLd ?_ | refine oK ?_) <;> (first | refine sp (po_bytes_str rfl rfl (by first | exact .t _ | exact .own rfl (by rfl) | exact .nil _ | exact .emp _) byt23 (tyR rfl)) ?_ | refine oK ?_) <;> (first | refine sp (po_str rfl rfl rfl rfl) ?_ | refine oK ?_) <;> (first | refine oPt ?_ | refine oPf ?_) <;> refine oAs ?_ <;> refine oN ?_) | refine gc ?_ | refine ct ?_ | refine cf ?_ | refine swp_cond rfl (fun hc => ?_) (fun hc => ?_) | refine rq rfl (rt .nil) ?_)
            rfl
          | true =>
            cases e6 with
            | false =>
              repeat' (first | (refine rg 0 ?_; refine sbx ?_; refine sbx ?_; refine oAs ?_; refine oN ?_) | (refine rg 1 ?_; refine oFb ?_; refine oLb ?_; refine oFb ?_; refine oLb ?_; refine sp (po_str rfl rfl rfl rfl) ?_; refine oMv ?_; refine oFb ?_ <;> refine oLb ?_ <;> refine oFb ?_ <;> refine oLb ?_ <;> refine sp (po_str rfl rfl rfl rfl) ?_ <;> refine oPt ?_ <;> refine oMv ?_ <;> refine oFb ?_ <;> refine oLb ?_ <;> refine oFb ?_ <;> refine oLb ?_ <;> refine sp (po_str rfl rfl rfl rfl) ?_ <;> refine oPt ?_ <;> refine oMv ?_ <;> refine oFb ?_ <;> refine oLb ?_ <;> refine oFb ?_ <;> refine oLb ?_ <;> refine sp (po_str rfl rfl rfl rfl) ?_ <;> refine oPt ?_ <;> refine oMv ?_ <;> refine oFb ?_ <;> refine oLb ?_ <;> refine oFb ?_ <;> refine oLb ?_ <;> refine sp (po_str rfl rfl rfl rfl) ?_ <;> refine oPt ?_ <;> refine oMv ?_ <;> refine oFb ?_ <;> refine oLb ?_ <;> refine oFb ?_ <;> refine oLb ?_ <;> refine oC (c1) rfl (ac (ac .nil)) ?_ <;> refine oPt ?_ <;> refine oMv ?_ <;> (first | refine oFb ?_ | refine oFd ?_ | refine oK ?_) <;> (first | refine oLb ?_ | refine oLd ?_ | refine oK ?_) <;> (first | refine sp (po_bytes_str rfl rfl (by first | exact .t _ | exact .own rfl (by rfl) | exact .nil _ | exact .emp _) byt23 (tyR rfl)) ?_ | refine oK ?_) <;> (first | refine oFb ?_ | refine oFd ?_ | refine oK ?_) <;> (first | refine oLb ?_ | refine oLd ?_ | refine oK ?_) <;> (first | refine sp (po_bytes_str rfl rfl (by first | exact .t _ | exact .own rfl (by rfl) | exact .nil _ | exact .emp _) byt23 (tyR rfl)) ?_ | refine oK ?_) <;> (first | refine sp (po_str rfl rfl rfl rfl) ?_ | refine oK ?_) <;> (first | refine oPt ?_ | refine oPf ?_) <;> refine oAs ?_ <;> refine oN ?_) | refine gc ?_ | refine ct ?_ | refine cf ?_ | refine swp_cond rfl (fun hc => ?_) (fun hc => ?_) | refine rq rfl (rt .nil) ?_)
              rfl
            | true =>
              repeat' (first | (refine rg 0 ?_; refine sbx ?_; refine sbx ?_; refine oAs ?_; refine oN ?_) | (refine rg 1 ?_; refine oFb ?_; refine oLb ?_; refine oFb ?_; refine oLb ?_; refine sp (po_str rfl rfl rfl rfl) ?_; refine oMv ?_; refine oFb ?_ <;> refine oLb ?_ <;> refine oFb ?_ <;> refine oLb ?_ <;> refine sp (po_str rfl rfl rfl rfl) ?_ <;> refine oPt ?_ <;> refine oMv ?_ <;> refine oFb ?_ <;> refine oLb ?_ <;> refine oFb ?_ <;> refine oLb ?_ <;> refine sp (po_str rfl rfl rfl rfl) ?_ <;> refine oPt ?_ <;> refine oMv ?_ <;> refine oFb ?_ <;> refine oLb ?_ <;> refine oFb ?_ <;> refine oLb ?_ <;> refine sp (po_str rfl rfl rfl rfl) ?_ <;> refine oPt ?_ <;> refine oMv ?_ <;> refine oFb ?_ <;> refine oLb ?_ <;> refine oFb ?_ <;> refine oLb ?_ <;> refine sp (po_str rfl rfl rfl rfl) ?_ <;> refine oPt ?_ <;> refine oMv ?_ <;> refine oFb ?_ <;> refine oLb ?_ <;> refine oFb ?_ <;> refine oLb ?_ <;> refine oC (c1) rfl (ac (ac .nil)) ?_ <;> refine oPt ?_ <;> refine oMv ?_ <;> refine oFb ?_ <;> refine oLb ?_ <;> refine sp (po_bytes_str rfl rfl (by exact .t _) byt23 (tyR rfl)) ?_ <;> refine oFb ?_ <;> refine oLb ?_ <;> refine sp (po_bytes_str rfl rfl (by exact .t _) byt23 (tyR rfl)) ?_ <;> refine sp (po_str rfl rfl rfl rfl) ?_ <;> refine oPt ?_ <;> refine oAs ?_ <;> refine oN ?_) | refine gc ?_ | refine ct ?_ | refine cf ?_ | refine swp_cond rfl (fun hc => ?_) (fun hc => ?_) | refine rq rfl (rt .nil) ?_)
              rfl
structure ReqOk (x : PReq) : Prop where
  hm : x.method.size ≤ 40000
  ht : x.target.size ≤ 40000
  hn : x.heads.length ≤ 1000
  hh : ∀ h ∈ x.heads, okHead h
  hv : ∀ v ∈ valsOf hostS x.heads, v.size ≤ 200000
  hb : x.body.length ≤ 100000
theorem rawQ_size (x : PReq) (h : ReqOk x) : (rawQ x).start.size ≤ 100000 := by
  obtain ⟨h1, h2, _, _, _, _⟩ := h
  show (x.method ++ ⟨#[32]⟩ ++ x.target ++ ⟨#[32, 72, 84, 84, 80, 47, 49, 46, 49]⟩ : ByteArray).size ≤ 100000
  rw [ByteArray.size_append, ByteArray.size_append, ByteArray.size_append]
  have e1 : (⟨#[32]⟩ : ByteArray).size = 1 := rfl
  have e2 : (⟨#[32, 72, 84, 84, 80, 47, 49, 46, 49]⟩ : ByteArray).size = 9 := rfl
  omega
theorem rawQ_ok (x : PReq) (h : ReqOk x) : An.RawOk (rawQ x) := ⟨h.hn, h.hh, h.hb, by have := rawQ_size x h; unfold maxLen; omega⟩
set_option maxRecDepth 100000 in
theorem raw_ (x : PReq) (h : ReqOk x) : PCalls Tryz.prog 88 [.agg (reqT x)] (.agg (rawT (rawQ x))) := by
  obtain ⟨h1, h2, _, _, _, _⟩ := h
  have e1 : (⟨#[32]⟩ : ByteArray).size = 1 := rfl
  have e2 : (⟨#[32, 72, 84, 84, 80, 47, 49, 46, 49]⟩ : ByteArray).size = 9 := rfl
  have s1 : (x.method ++ ⟨#[32]⟩ : ByteArray).size = x.method.size + 1 := by rw [ByteArray.size_append]; rfl
  have s2 : (x.method ++ ⟨#[32]⟩ ++ x.target : ByteArray).size = x.method.size + 1 + x.target.size := by rw [ByteArray.size_append, s1]
  refine pcalls_of Tryz.func88 rfl rfl Tryz.ntmps88 rfl ?_
  repeat' (first | (refine rg 0 ?_; refine sbx ?_; refine sal str25 ?_; refine oN ?_) | (refine rg 1 ?_; refine oFb ?_; refine oLb ?_; refine sp (po_cat rfl rfl rfl (by omega)) ?_; refine oFb ?_; refine oLb ?_; refine sp (po_cat rfl rfl rfl (by omega)) ?_; refine sp (po_cat rfl rfl rfl (by omega)) ?_; refine oFb ?_; refine oLb ?_; refine oFb ?_; refine oLb ?_; refine sp (po_buildS str25 rfl (pc (pc (pc .nil))) rfl) ?_; refine oS ?_; refine oN ?_) | refine gc ?_ | refine ct ?_ | refine cf ?_ | refine swp_cond rfl (fun hc => ?_) (fun hc => ?_) | refine rq rfl (.cell rfl rfl (tyT rfl) (vc (vc (vc .nil))) rfl .nil) ?_)
  rfl
set_option maxRecDepth 100000 in
set_option maxHeartbeats 4000000 in
theorem may_ (x : PReq) (h : ReqOk x) : PCalls Tryz.prog 46 [.agg (reqT x)] (.v (.bool (mayR x))) := by
  have c1 := raw_ x h
  have c2 := of_ (rawQ x) (rawQ_ok x h) (rawQ_size x h) h.hv
  have c4 := An.rfits_ (rawQ x).start x.heads h.hn h.hh x.body h.hb
  have hsr : ∀ y, ofR (rawQ x) = some y → y.heads = x.heads := fun y hy => by
    unfold ofR at hy
    split at hy
    · unfold of3 at hy
      split at hy
      · obtain ⟨q, _, hq⟩ := Option.map_eq_some_iff.1 hy
        rw [← hq]; rfl
      · cases hy
    · cases hy
  unfold mayR
  unfold reqT at c1 ⊢
  unfold rawT at c1 c2 c4
  change PCalls _ _ [.agg [.v (.string (rawQ x).start), headsT (rawQ x).heads, .sl 1 ((rawQ x).body.map byteT)]] _ at c4
  generalize rawQ x = q at *
  refine pcalls_of Tryz.func46 rfl rfl Tryz.ntmps46 rfl ?_
  cases ho : ofR q with
  | none =>
    rw [ho] at c2
    unfold ofT reqT0 at c2
    dsimp only at c2
    repeat' (first | (refine rg 0 ?_; refine sbx ?_; refine oAs ?_; refine oN ?_) | (refine rg 1 ?_; (refine sp (po_load_bx_agg rfl rfl (tyT rfl) rfl (vc (vc (vc (vc (vc (vc (vc .nil))))))) rfl) ?_); refine oC (c1) rfl (ac .nil) ?_; (first | refine oC (c1) rfl (ac .nil) ?_ | refine oC (c2) rfl (ac .nil) ?_); refine oMv ?_; refine oEx ?_; refine oEx ?_; refine sal str57 ?_; refine oS ?_; refine oAs ?_; refine oN ?_) | (refine rg 2 ?_; refine oMv ?_; refine oCm ?_; refine oMv ?_; (first | refine sp (po_load_bx_agg rfl rfl (tyT rfl) rfl (vc (vc (vc (vc (vc (vc (vc .nil))))))) rfl) ?_ | refine sp (po_load_agg rfl rfl (tyT rfl) rfl rfl) ?_ | refine oK ?_) <;> (first | refine sp (po_load_bx_agg rfl rfl (tyT rfl) rfl (vc (vc (vc (vc (vc (vc (vc .nil))))))) rfl) ?_ | refine sp (po_load_agg rfl rfl (tyT rfl) rfl rfl) ?_ | refine oK ?_) <;> (first | refine oC (c1) rfl (ac (ac .nil)) ?_ | refine oC (c2) rfl (ac (ac .nil)) ?_ | refine oK ?_) <;> (first | refine oPt ?_ | refine oPf ?_) <;> refine oMv ?_ <;> (first | refine sp (po_load_bx_agg rfl rfl (tyT rfl) rfl (vc (vc (vc (vc (vc (vc (vc .nil))))))) rfl) ?_ | refine sp (po_load_agg rfl rfl (tyT rfl) rfl rfl) ?_ | refine oK ?_) <;> (first | refine oC (c1) rfl (ac .nil) ?_ | refine oC (c2) rfl (ac .nil) ?_ | refine oK ?_) <;> (first | refine oC (c1) rfl (ac .nil) ?_ | refine oC (c2) rfl (ac .nil) ?_ | refine oK ?_) <;> (first | refine oPt ?_ | refine oPf ?_) <;> refine oAs ?_ <;> refine oN ?_) | refine gc ?_ | refine ct ?_ | refine cf ?_ | refine swp_cond rfl (fun hc => ?_) (fun hc => ?_) | refine rq rfl (rt .nil) ?_)
    rfl
  | some y =>
    have c3 := sameR_ y x (by rw [hsr y ho]; exact h.hn)
    rw [ho] at c2
    unfold ofT at c2
    unfold reqT at c2 c3
    dsimp only at c2 ⊢
    generalize sameR y x = b at *
    cases b with
    | false =>
      repeat' (first | (refine rg 0 ?_; refine sbx ?_; refine oAs ?_; refine oN ?_) | (refine rg 1 ?_; (refine sp (po_load_bx_agg rfl rfl (tyT rfl) rfl (vc (vc (vc (vc (vc (vc (vc .nil))))))) rfl) ?_); refine oC (c1) rfl (ac .nil) ?_; (first | refine oC (c1) rfl (ac .nil) ?_ | refine oC (c2) rfl (ac .nil) ?_); refine oMv ?_; refine oEx ?_; refine oEx ?_; refine sal str57 ?_; refine oS ?_; refine oAs ?_; refine oN ?_) | (refine rg 2 ?_; refine oMv ?_; refine oCm ?_; refine oMv ?_; (refine sp (po_load_bx_agg rfl rfl (tyT rfl) rfl (vc (vc (vc (vc (vc (vc (vc .nil))))))) rfl) ?_) <;> (refine sp (po_load_bx_agg rfl rfl (tyT rfl) rfl (vc (vc (vc (vc (vc (vc (vc .nil))))))) rfl) ?_) <;> (first | refine oC (c1) rfl (ac (ac .nil)) ?_ | refine oC (c2) rfl (ac (ac .nil)) ?_ | refine oC (c3) rfl (ac (ac .nil)) ?_) <;> refine oPt ?_ <;> refine oMv ?_ <;> (first | refine sp (po_load_bx_agg rfl rfl (tyT rfl) rfl (vc (vc (vc (vc (vc (vc (vc .nil))))))) rfl) ?_ | refine sp (po_load_agg rfl rfl (tyT rfl) rfl rfl) ?_ | refine oK ?_) <;> (first | refine oC (c1) rfl (ac .nil) ?_ | refine oC (c2) rfl (ac .nil) ?_ | refine oC (c3) rfl (ac .nil) ?_ | refine oK ?_) <;> (first | refine oC (c1) rfl (ac .nil) ?_ | refine oC (c2) rfl (ac .nil) ?_ | refine oC (c3) rfl (ac .nil) ?_ | refine oK ?_) <;> (first | refine oPt ?_ | refine oPf ?_) <;> refine oAs ?_ <;> refine oN ?_) | refine gc ?_ | refine ct ?_ | refine cf ?_ | refine swp_cond rfl (fun hc => ?_) (fun hc => ?_) | refine rq rfl (rt .nil) ?_)
      rfl
    | true =>
      repeat' (first | (refine rg 0 ?_; refine sbx ?_; refine oAs ?_; refine oN ?_) | (refine rg 1 ?_; (refine sp (po_load_bx_agg rfl rfl (tyT rfl) rfl (vc (vc (vc (vc (vc (vc (vc .nil))))))) rfl) ?_); refine oC (c1) rfl (ac .nil) ?_; (first | refine oC (c1) rfl (ac .nil) ?_ | refine oC (c2) rfl (ac .nil) ?_); refine oMv ?_; refine oEx ?_; refine oEx ?_; refine sal str57 ?_; refine oS ?_; refine oAs ?_; refine oN ?_) | (refine rg 2 ?_; refine oMv ?_; refine oCm ?_; refine oMv ?_; (refine sp (po_load_bx_agg rfl rfl (tyT rfl) rfl (vc (vc (vc (vc (vc (vc (vc .nil))))))) rfl) ?_) <;> (refine sp (po_load_bx_agg rfl rfl (tyT rfl) rfl (vc (vc (vc (vc (vc (vc (vc .nil))))))) rfl) ?_) <;> (first | refine oC (c1) rfl (ac (ac .nil)) ?_ | refine oC (c2) rfl (ac (ac .nil)) ?_ | refine oC (c3) rfl (ac (ac .nil)) ?_) <;> refine oPt ?_ <;> refine oMv ?_ <;> (refine sp (po_load_bx_agg rfl rfl (tyT rfl) rfl (vc (vc (vc (vc (vc (vc (vc .nil))))))) rfl) ?_) <;> refine oC (c1) rfl (ac .nil) ?_ <;> (first | refine oC (c1) rfl (ac .nil) ?_ | refine oC (c2) rfl (ac .nil) ?_ | refine oC (c3) rfl (ac .nil) ?_ | refine oC (c4) rfl (ac .nil) ?_) <;> refine oPt ?_ <;> refine oAs ?_ <;> refine oN ?_) | refine gc ?_ | refine ct ?_ | refine cf ?_ | refine swp_cond rfl (fun hc => ?_) (fun hc => ?_) | refine rq rfl (rt .nil) ?_)
      rfl
def bytesT (x : PReq) : T := if mayR x then .tup [.sl 1 ((msgP (rawQ x)).map byteT), .v (.int .i64 0)] else .tup [.v (.slice none 0 0), .v (.int .i64 1)]
set_option maxRecDepth 100000 in
set_option maxHeartbeats 2000000 in
theorem bytes_ (x : PReq) (h : ReqOk x) : PCalls Tryz.prog 50 [.agg (reqT x)] (bytesT x) := by
  have c1 := may_ x h
  have c2 := raw_ x h
  have c3 := An.write_ (rawQ x) (rawQ_ok x h)
  unfold bytesT
  unfold reqT at c1 c2 ⊢
  refine pcalls_of Tryz.func50 rfl rfl Tryz.ntmps50 rfl ?_
  cases hm : mayR x with
  | false =>
    rw [hm] at c1
    repeat' (first | (refine rg 0 ?_; refine sbx ?_; refine oAs ?_; refine oAs ?_; refine oN ?_) | (refine rg 1 ?_; (refine sp (po_load_bx_agg rfl rfl (tyT rfl) rfl (vc (vc (vc (vc (vc (vc (vc .nil))))))) rfl) ?_); refine oC (c1) rfl (ac .nil) ?_; refine sp (po_not rfl rfl) ?_; refine oN ?_) | (refine rg 2 ?_; refine oAs ?_; refine oAs ?_; refine oN ?_) | refine gc ?_ | refine ct ?_ | refine cf ?_ | refine swp_cond rfl (fun hc => ?_) (fun hc => ?_) | refine rq rfl (rt (rt .nil)) ?_)
    rfl
  | true =>
    rw [hm] at c1
    have hw := (mayR_of hm).2.2
    unfold An.writeT at c3
    rw [hw, if_pos rfl] at c3
    unfold rawT at c2 c3
    repeat' (first | (refine rg 0 ?_; refine sbx ?_; refine oAs ?_; refine oAs ?_; refine oN ?_) | (refine rg 1 ?_; (refine sp (po_load_bx_agg rfl rfl (tyT rfl) rfl (vc (vc (vc (vc (vc (vc (vc .nil))))))) rfl) ?_); refine oC (c1) rfl (ac .nil) ?_; refine sp (po_not rfl rfl) ?_; refine oN ?_) | (refine rg 3 ?_; (refine sp (po_load_bx_agg rfl rfl (tyT rfl) rfl (vc (vc (vc (vc (vc (vc (vc .nil))))))) rfl) ?_); (first | refine oC (c1) rfl (ac .nil) ?_ | refine oC (c2) rfl (ac .nil) ?_); (first | refine oC (c1) rfl (ac .nil) ?_ | refine oC (c2) rfl (ac .nil) ?_ | refine oC (c3) rfl (ac .nil) ?_); refine oEx ?_; refine oEx ?_; refine oAs ?_; refine oAs ?_; refine oN ?_) | refine gc ?_ | refine ct ?_ | refine cf ?_ | refine swp_cond rfl (fun hc => ?_) (fun hc => ?_) | refine rq rfl (rt (rt .nil)) ?_)
    rfl
def oneT (l : List UInt8) : T := match oneR l with
  | .inl x => .tup [.agg (reqT x), .v (.int .i64 0)]
  | .inr e => .tup [.agg reqT0, .v (.int .i64 e)]
set_option maxRecDepth 100000 in
set_option maxHeartbeats 4000000 in
theorem one_ (l : List UInt8) (hl : l.length ≤ 50000) (hok : ∀ r ∈ (rawsL l).1, An.RawOk r ∧ r.start.size ≤ 100000 ∧ ∀ v ∈ valsOf hostS r.heads, v.size ≤ 200000) : PCalls Tryz.prog 36 [.sl 1 (l.map byteT)] (oneT l) := by
  have c1 := raws_ l (by omega)
  unfold rawsT at c1
  unfold oneT oneR
  generalize (rawsL l).1 = x at *
  generalize (rawsL l).2 = e at *
  refine pcalls_of Tryz.func36 rfl rfl Tryz.ntmps36 rfl ?_
  by_cases he : e = 0
  · have e1 : (!decide (e = 0)) = false := by rw [decide_eq_true he]; rfl
    rw [if_pos he] at c1
    rw [if_neg (by simp [he])]
    match x, hok, c1 with
    | [], _, c1 =>
      have e2 : (!decide (((([] : List PRaw).map rawT).length : Int) = 1)) = true := rfl
      repeat' (first | (refine rg 0 ?_; refine sal str57 ?_; refine oAs ?_; refine oN ?_) | (refine rg 1 ?_; refine oMv ?_; refine oC (c1) rfl (ac .nil) ?_; refine oMv ?_; refine oEx ?_; refine oEx ?_; refine oAs ?_; refine oAs ?_; refine oN ?_) | (refine rg 2 ?_; refine oMv ?_; refine oCm ?_; refine oAs ?_; refine oN ?_) | (refine rg 4 ?_; refine oMv ?_; refine sp (pln rfl (tyS rfl)) ?_; refine oCm ?_; refine oAs ?_; refine oN ?_) | (refine rg 5 ?_; refine sp (po_buildS str57 rfl .nil rfl) ?_; refine oS ?_; refine oAs ?_; refine oN ?_) | refine gc ?_ | refine ct ?_ | refine cf ?_ | refine swp_cond rfl (fun hc => ?_) (fun hc => ?_) | refine rq rfl (.cell rfl rfl (tyT rfl) (vc (vc (vc (vc (vc (vc (vc .nil))))))) rfl (rt .nil)) ?_)
      rfl
    | [r], hok, c1 =>
      obtain ⟨k1, k2, k3⟩ := hok r (by simp)
      have c2 := of_ r k1 k2 k3
      have e2 : (!decide ((([r].map rawT).length : Int) = 1)) = false := rfl
      unfold rawT at c2
      cases ho : ofR r with
      | none =>
        rw [ho] at c2
        unfold ofT reqT0 at c2
        dsimp only at c2 ⊢
        repeat' (first | (refine rg 0 ?_; refine sal str57 ?_; refine oAs ?_; refine oN ?_) | (refine rg 1 ?_; refine oMv ?_; refine oC (c1) rfl (ac .nil) ?_; refine oMv ?_; refine oEx ?_; refine oEx ?_; refine oAs ?_; refine oAs ?_; refine oN ?_) | (refine rg 2 ?_; refine oMv ?_; refine oCm ?_; refine oAs ?_; refine oN ?_) | (refine rg 4 ?_; refine oMv ?_; refine sp (pln rfl (tyS rfl)) ?_; refine oCm ?_; refine oAs ?_; refine oN ?_) | (refine rg 6 ?_; refine oMv ?_; refine sp (pix rfl (tyS rfl)) ?_; (first | refine sp (po_load_bx_agg rfl rfl (tyT rfl) rfl (vc (vc (vc .nil))) rfl) ?_ | refine sp (po_load_agg rfl rfl (tyT rfl) rfl rfl) ?_); (first | refine oC (c1) rfl (ac .nil) ?_ | refine oC (c2) rfl (ac .nil) ?_); refine oEx ?_; refine oEx ?_; refine oS ?_; refine oAs ?_; refine oN ?_) | refine gc ?_ | refine ct ?_ | refine cf ?_ | refine swp_cond rfl (fun hc => ?_) (fun hc => ?_) | refine rq rfl (.cell rfl rfl (tyT rfl) (vc (vc (vc (vc (vc (vc (vc .nil))))))) rfl (rt .nil)) ?_)
        rw [ho]; rfl
      | some y =>
        rw [ho] at c2
        unfold ofT reqT at c2
        dsimp only at c2 ⊢
        repeat' (first | (refine rg 0 ?_; refine sal str57 ?_; refine oAs ?_; refine oN ?_) | (refine rg 1 ?_; refine oMv ?_; refine oC (c1) rfl (ac .nil) ?_; refine oMv ?_; refine oEx ?_; refine oEx ?_; refine oAs ?_; refine oAs ?_; refine oN ?_) | (refine rg 2 ?_; refine oMv ?_; refine oCm ?_; refine oAs ?_; refine oN ?_) | (refine rg 4 ?_; refine oMv ?_; refine sp (pln rfl (tyS rfl)) ?_; refine oCm ?_; refine oAs ?_; refine oN ?_) | (refine rg 6 ?_; refine oMv ?_; refine sp (pix rfl (tyS rfl)) ?_; (first | refine sp (po_load_bx_agg rfl rfl (tyT rfl) rfl (vc (vc (vc .nil))) rfl) ?_ | refine sp (po_load_agg rfl rfl (tyT rfl) rfl rfl) ?_); (first | refine oC (c1) rfl (ac .nil) ?_ | refine oC (c2) rfl (ac .nil) ?_); refine oEx ?_; refine oEx ?_; refine oS ?_; refine oAs ?_; refine oN ?_) | refine gc ?_ | refine ct ?_ | refine cf ?_ | refine swp_cond rfl (fun hc => ?_) (fun hc => ?_) | refine rq rfl (.cell rfl rfl (tyT rfl) (vc (vc (vc (vc (vc (vc (vc .nil))))))) rfl (rt .nil)) ?_)
        rw [ho]; rfl
    | r :: r2 :: x, _, c1 =>
      have e2 : (!decide ((((r :: r2 :: x).map rawT).length : Int) = 1)) = true := by
        rw [decide_eq_false (by simp; omega)]; rfl
      repeat' (first | (refine rg 0 ?_; refine sal str57 ?_; refine oAs ?_; refine oN ?_) | (refine rg 1 ?_; refine oMv ?_; refine oC (c1) rfl (ac .nil) ?_; refine oMv ?_; refine oEx ?_; refine oEx ?_; refine oAs ?_; refine oAs ?_; refine oN ?_) | (refine rg 2 ?_; refine oMv ?_; refine oCm ?_; refine oAs ?_; refine oN ?_) | (refine rg 4 ?_; refine oMv ?_; refine sp (pln rfl (tyS rfl)) ?_; refine oCm ?_; refine oAs ?_; refine oN ?_) | (refine rg 5 ?_; refine sp (po_buildS str57 rfl .nil rfl) ?_; refine oS ?_; refine oAs ?_; refine oN ?_) | refine gc ?_ | refine ct ?_ | refine cf ?_ | refine swp_cond rfl (fun hc => ?_) (fun hc => ?_) | refine rq rfl (.cell rfl rfl (tyT rfl) (vc (vc (vc (vc (vc (vc (vc .nil))))))) rfl (rt .nil)) ?_)
      rfl
  · have e1 : (!decide (e = 0)) = true := by rw [decide_eq_false he]; rfl
    rw [if_neg he] at c1
    rw [if_pos he]
    repeat' (first | (refine rg 0 ?_; refine sal str57 ?_; refine oAs ?_; refine oN ?_) | (refine rg 1 ?_; refine oMv ?_; refine oC (c1) rfl (ac .nil) ?_; refine oMv ?_; refine oEx ?_; refine oEx ?_; refine oAs ?_; refine oAs ?_; refine oN ?_) | (refine rg 2 ?_; refine oMv ?_; refine oCm ?_; refine oAs ?_; refine oN ?_) | (refine rg 3 ?_; refine sp (po_buildS str57 rfl .nil rfl) ?_; refine oMv ?_; refine oS ?_; refine oAs ?_; refine oN ?_) | refine gc ?_ | refine ct ?_ | refine cf ?_ | refine swp_cond rfl (fun hc => ?_) (fun hc => ?_) | refine rq rfl (.cell rfl rfl (tyT rfl) (vc (vc (vc (vc (vc (vc (vc .nil))))))) rfl (rt .nil)) ?_)
    rfl
end Go.Proofs.YtpncekdhigappaaGreatDoor.Ro

/- Answers, messages: the document's reasons, first lines, bytes; walks. -/
namespace Go.Proofs.YtpncekdhigappaaGreatDoor.An
set_option linter.unusedVariables false
set_option linter.unusedSimpArgs false
open Go.RowKit Mem Sim Opn Hd Str Rq
theorem po_andq {P : Program} {bx : List (Nat × List A)} {ow : List (Nat × Own)} {o : Oper} {ρ : Operand → Option A} {t t2 : TypeId} {x y : Operand} {k : IntKind} {i j c : Int} (hc : k.wrap (BitVec.ofInt k.bits i &&& BitVec.ofInt k.bits j).toNat = c) (ho : o.op = .binOp .and t x y t2) (hx : ρ x = some (.t (.v (.int k i)))) (hy : ρ y = some (.t (.v (.int k j)))) : PureOp P bx ow o ρ (.t (.v (.int k c))) := by
  subst hc; exact po_and ho hx hy
end Go.Proofs.YtpncekdhigappaaGreatDoor.An

/- Requests: the document's answer: one of bytes, the same, what may be: walks. -/
namespace Go.Proofs.YtpncekdhigappaaGreatDoor.Ro
set_option linter.unusedVariables false
set_option linter.unusedSimpArgs false
open Go.RowKit Mem Sim Opn Hd Str Pth Rq
theorem sane_hyp {r : PRaw} (h : sane r) : An.RawOk r ∧ r.start.size ≤ 100000 ∧ ∀ v ∈ valsOf hostS r.heads, v.size ≤ 200000 := by
  refine ⟨An.sane_ok h, by have := h.1; omega, fun v hv => ?_⟩
  obtain ⟨_, h2⟩ := h
  unfold fitsP Hd.mayL at h2
  simp only [Bool.and_eq_true, decide_eq_true_eq] at h2
  obtain ⟨⟨⟨_, h3, h4⟩, h5⟩, _⟩ := h2
  unfold valsOf at hv
  obtain ⟨x, hx, rfl⟩ := List.mem_map.1 hv
  have := good_size ((List.all_eq_true.1 h4) x (List.mem_filter.1 hx).1)
  omega
theorem one2_ (l : List UInt8) (hl : l.length ≤ 50000) : PCalls Tryz.prog 36 [.sl 1 (l.map byteT)] (oneT l) := one_ l hl fun r hr => sane_hyp (An.rawsL_sane l r hr)
end Go.Proofs.YtpncekdhigappaaGreatDoor.Ro

/- Answers, messages, requests: in memory, opened, as trees of data. -/
namespace Go.Proofs.YtpncekdhigappaaGreatDoor.Rq
set_option linter.unusedVariables false
set_option linter.unusedSimpArgs false
open Go.RowKit Go.WideShapes Go.ChangeShapes Go.Joins Mem Sim Opn Hd An
structure PReq where
  method : ByteArray
  target : ByteArray
  path : ByteArray
  query : ByteArray
  host : ByteArray
  heads : List Pl.Head
  body : List UInt8
deriving Inhabited
def reqT (r : PReq) : List T := [.v (.string r.method), .v (.string r.target), .v (.string r.path), .v (.string r.query), .v (.string r.host), headsT r.heads, .sl 1 (r.body.map byteT)]
def ByteC : Rel UInt8 := fun _ _ b cs => cs = [.int .u8 (b.toNat : Int)]
theorem one_byte : Tryz.prog.cellsOf 5 = 1 := by kernel_rfl
theorem one_bytes : Tryz.prog.cellsOf 23 = 1 := by kernel_rfl
theorem one_heads : Tryz.prog.cellsOf 22 = 1 := by kernel_rfl
theorem one_int : Tryz.prog.cellsOf 3 = 1 := by kernel_rfl
theorem byte_opens : Opens 5 ByteC := by
  intro H enc w base spare held fuel cs x h
  obtain ⟨n, rfl, _, hw⟩ := DataW.trod_int Tryz.underlying5 h
  have hb := bounds_u8 hw
  refine ⟨UInt8.ofNat n.toNat, ?_⟩
  unfold ByteC
  rw [UInt8.toNat_ofNat']
  congr 2; omega
theorem bytes_opens : Opens 23 (SliceC ByteC 1) := opens_slice (R := ByteC) Tryz.underlying23 one_byte (by omega) byte_opens
theorem sl_bwd {α : Type} {R : Mem.Rel α} {enc : α → List T} {sz B : Nat} {w : World} {xs : List α} {c : Value} (hsz : ∀ x, (enc x).length = sz) (hR : ∀ x cs, R B w x cs → CellsAre (allm w) (enc x) cs) (h : SliceC R sz B w xs [c]) : TR (allm w) (.sl sz (xs.map enc)) c ∧ c.oneCell' = true := by
  obtain ⟨A, cap, e, hA, h1, h2⟩ := h
  injection e with e; subst e
  exact ⟨tr_rows_bwd (allm w) hA h1 h2 hsz (fun x _ cs hr => hR x cs hr) (fun b o v _ h => h), rfl⟩
theorem str_bwd {B : Nat} {w : World} {s : ByteArray} {c : Value} (h : StrC B w s [c]) : TR (allm w) (.v (.string s)) c ∧ c.oneCell' = true := by
  obtain ⟨e, _⟩ := h; injection e with e; subst e; exact ⟨.v _, rfl⟩
theorem int_bwd {k : IntKind} {B : Nat} {w : World} {n : Int} {c : Value} (h : IntC k B w n [c]) : TR (allm w) (.v (.int k n)) c ∧ c.oneCell' = true := by
  obtain ⟨e, _⟩ := h; injection e with e; subst e; exact ⟨.v _, rfl⟩
theorem head_bwd {B : Nat} {w : World} (x : Pl.Head) (cs : List Value) (h : HeadR B w x cs) : CellsAre (allm w) (headT x) cs := by
  obtain ⟨rfl, _⟩ := h
  exact cellsAre_cons (.v _) rfl (cellsAre_cons (.v _) rfl (cellsAre_nil _))
theorem byte_bwd {B : Nat} {w : World} (x : UInt8) (cs : List Value) (h : ByteC B w x cs) : CellsAre (allm w) (byteT x) cs := by
  obtain rfl := h
  exact cellsAre_cons (.v _) rfl (cellsAre_nil _)
theorem heads_bwdC {B : Nat} {w : World} {xs : List Pl.Head} {c : Value} (h : SliceC HeadR 2 B w xs [c]) : TR (allm w) (headsT xs) c ∧ c.oneCell' = true := sl_bwd (fun _ => rfl) head_bwd h
theorem bytes_bwdC {B : Nat} {w : World} {xs : List UInt8} {c : Value} (h : SliceC ByteC 1 B w xs [c]) : TR (allm w) (.sl 1 (xs.map byteT)) c ∧ c.oneCell' = true := sl_bwd (fun _ => rfl) byte_bwd h
theorem sl_bwdA {α : Type} {R : Mem.Rel α} {enc : α → List T} {sz B : Nat} {w : World} {A : Option Addr} {xs : List α} {cap : Nat} (hsz : ∀ x, (enc x).length = sz) (hR : ∀ x cs, R B w x cs → CellsAre (allm w) (enc x) cs) (hA : SliceAt R sz B w A xs) (h1 : xs.length ≤ cap) (h2 : cap ≤ maxLen) : TR (allm w) (.sl sz (xs.map enc)) (.slice A xs.length cap) :=
  tr_rows_bwd (allm w) hA h1 h2 hsz (fun x _ cs hr => hR x cs hr) (fun b o v _ h => h)
theorem heads_okC {B : Nat} {w : World} {xs : List Pl.Head} {cs : List Value} (h : SliceC HeadR 2 B w xs cs) : ∀ x ∈ xs, okHead x := by
  obtain ⟨A, cap, e, hA, h1, h2⟩ := h
  exact heads_ok hA
theorem body_okC {B : Nat} {w : World} {xs : List UInt8} {cs : List Value} (h : SliceC ByteC 1 B w xs cs) : xs.length ≤ maxLen := by
  obtain ⟨A, cap, e, hA, h1, h2⟩ := h
  omega
def AnsR : Rel PAns := fun B w x cs => ∃ c0 c1 c2, cs = [c0, c1, c2] ∧ (IntC .i64) B w x.code [c0] ∧ (SliceC HeadR 2) B w x.heads [c1] ∧ (SliceC ByteC 1) B w x.body [c2]
theorem cells_Ans : Tryz.prog.cellsOf 28 = 3 := by kernel_rfl
set_option maxRecDepth 100000 in
theorem ans_opens : Opens 28 AnsR := by
  intro H enc w base spare held fuel cs x h
  obtain ⟨xs, n, _, hx, hlen, hxl, hf⟩ := DataW.trod_struct Tryz.underlying28 h
  have hl := hlen.trans cells_Ans
  obtain ⟨c0, c1, c2, rfl⟩ : ∃ c0 c1 c2, cs = [c0, c1, c2] := by
    match cs, hl with
    | [c0, c1, c2], _ => exact ⟨c0, c1, c2, rfl⟩
  obtain ⟨y0, y1, y2, rfl⟩ : ∃ y0 y1 y2, xs = [y0, y1, y2] := by
    match xs, hxl with
    | [y0, y1, y2], _ => exact ⟨y0, y1, y2, rfl⟩
  have f0 : DataW.trod enc Tryz.prog w base spare held n 3 [c0] = some y0 := by
    have := hf 0 _ rfl
    simpa [one_bytes, one_heads, one_int] using this
  obtain ⟨v0, r0⟩ := (opens_int Tryz.underlying3) H enc w base spare held n [c0] y0 f0
  have f1 : DataW.trod enc Tryz.prog w base spare held n 22 [c1] = some y1 := by
    have := hf 1 _ rfl
    simpa [one_bytes, one_heads, one_int] using this
  obtain ⟨v1, r1⟩ := heads_opens H enc w base spare held n [c1] y1 f1
  have f2 : DataW.trod enc Tryz.prog w base spare held n 23 [c2] = some y2 := by
    have := hf 2 _ rfl
    simpa [one_bytes, one_heads, one_int] using this
  obtain ⟨v2, r2⟩ := bytes_opens H enc w base spare held n [c2] y2 f2
  exact ⟨⟨v0, v1, v2⟩, c0, c1, c2, rfl, r0, r1, r2⟩
theorem ans_bwd {B : Nat} {w : World} (x : PAns) (cs : List Value) (h : AnsR B w x cs) : CellsAre (allm w) (ansT x) cs := by
  obtain ⟨c0, c1, c2, rfl, h0, h1, h2⟩ := h
  exact (cellsAre_cons (int_bwd h0).1 (int_bwd h0).2 (cellsAre_cons (heads_bwdC h1).1 (heads_bwdC h1).2 (cellsAre_cons (bytes_bwdC h2).1 (bytes_bwdC h2).2 (cellsAre_nil _))))
theorem ans_bwdT {w : World} {x : PAns} {cs : Array Value} (h : AnsR w.heap.size w x cs.toList) : TR (allm w) (.agg (ansT x)) (.agg cs) := by
  have := agg_bwd (ans_bwd x _ h)
  simpa using this
structure okAns (a : PAns) : Prop where
  hh : ∀ h ∈ a.heads, okHead h
  hb : a.body.length ≤ maxLen
theorem ans_ok (B : Nat) (w : World) (x : PAns) (cs : List Value) (h : AnsR B w x cs) : okAns x := by
  obtain ⟨c0, c1, c2, rfl, h0, h1, h2⟩ := h
  exact ⟨heads_okC h1, body_okC h2⟩
def ReqR : Rel PReq := fun B w x cs => ∃ c0 c1 c2 c3 c4 c5 c6, cs = [c0, c1, c2, c3, c4, c5, c6] ∧ StrC B w x.method [c0] ∧ StrC B w x.target [c1] ∧ StrC B w x.path [c2] ∧ StrC B w x.query [c3] ∧ StrC B w x.host [c4] ∧ (SliceC HeadR 2) B w x.heads [c5] ∧ (SliceC ByteC 1) B w x.body [c6]
theorem cells_Req : Tryz.prog.cellsOf 57 = 7 := by kernel_rfl
theorem req_bwd {B : Nat} {w : World} (x : PReq) (cs : List Value) (h : ReqR B w x cs) : CellsAre (allm w) (reqT x) cs := by
  obtain ⟨c0, c1, c2, c3, c4, c5, c6, rfl, h0, h1, h2, h3, h4, h5, h6⟩ := h
  exact (cellsAre_cons (str_bwd h0).1 (str_bwd h0).2 (cellsAre_cons (str_bwd h1).1 (str_bwd h1).2 (cellsAre_cons (str_bwd h2).1 (str_bwd h2).2 (cellsAre_cons (str_bwd h3).1 (str_bwd h3).2 (cellsAre_cons (str_bwd h4).1 (str_bwd h4).2 (cellsAre_cons (heads_bwdC h5).1 (heads_bwdC h5).2 (cellsAre_cons (bytes_bwdC h6).1 (bytes_bwdC h6).2 (cellsAre_nil _))))))))
theorem req_bwdT {w : World} {x : PReq} {cs : Array Value} (h : ReqR w.heap.size w x cs.toList) : TR (allm w) (.agg (reqT x)) (.agg cs) := by
  have := agg_bwd (req_bwd x _ h)
  simpa using this
structure okReq (a : PReq) : Prop where
  h1 : a.method.size ≤ maxLen
  h2 : a.target.size ≤ maxLen
  h3 : a.path.size ≤ maxLen
  h4 : a.query.size ≤ maxLen
  h5 : a.host.size ≤ maxLen
  hh : ∀ h ∈ a.heads, okHead h
  hb : a.body.length ≤ maxLen
theorem req_ok (B : Nat) (w : World) (x : PReq) (cs : List Value) (h : ReqR B w x cs) : okReq x := by
  obtain ⟨c0, c1, c2, c3, c4, c5, c6, rfl, h0, h1, h2, h3, h4, h5, h6⟩ := h
  exact ⟨h0.2, h1.2, h2.2, h3.2, h4.2, heads_okC h5, body_okC h6⟩
end Go.Proofs.YtpncekdhigappaaGreatDoor.Rq
