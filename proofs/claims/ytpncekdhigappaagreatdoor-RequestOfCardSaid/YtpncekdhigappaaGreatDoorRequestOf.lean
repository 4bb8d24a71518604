/- The law RequestOf: a walk. -/
import Derived.Test.YtpncekdhigappaaGreatDoorV37
import Derived.Test.YtpncekdhigappaaGreatDoorV13
namespace Go.Proofs.YtpncekdhigappaaGreatDoor.RequestOf
set_option linter.unusedVariables false
set_option linter.unusedSimpArgs false
open Go.RowKit Mem Sim Opn Hd Str Pth Rq Ro
set_option maxRecDepth 100000 in
set_option maxHeartbeats 8000000 in
theorem law_ (r : PRaw) (hr : okRaw r) : PCalls Tryz.prog 9 [.agg (rawT r)] (.v (.bool true)) := by
  have c0 := awake_
  have k1 := longW_ r
  unfold rawT at k1 ⊢
  refine pcalls_of Tryz.func9 rfl rfl Tryz.ntmps9 rfl ?_
  cases hlong : longW r with
  | true =>
    rw [hlong] at k1
    repeat' (first | refine rg 0 (aq39 ?_) | (refine rg 1 (aq149 ?_); (first | refine oC (c0) rfl (ac .nil) ?_ | refine oC (k1) rfl (ac .nil) ?_); refine oN ?_) | (refine rg 2 ?_; refine oC (c0) rfl .nil ?_; refine aq0 ?_) | refine gc ?_ | refine ct ?_ | refine cf ?_ | refine sc ?_ ?_ <;> intro hc | refine rq rfl (rt .nil) ?_)
    rfl
  | false =>
    rw [hlong] at k1
    have hl := longW_no hlong
    have hro : An.RawOk r := ⟨by have := hl.hn; omega, hr.hh, by have := hl.hb; omega, hr.hs⟩
    have c1 := of_ r hro (by have := hl.hs; omega) hl.vals
    have c2 := refOf_ r hro (by have := hl.hs; omega) hl.vals
    have c3 := An.write_ r hro
    have c4 := An.refWrite_ r hro
    unfold rawT at c1 c2 c3 c4
    unfold An.writeT at c3
    unfold An.refWriteT at c4
    have em : decide (bs (msgP r) = bs (msgP r)) = true := decide_eq_true rfl
    have hn := hro.hn
    clear hl hro hr hlong
    cases ho : ofR r with
    | none =>
      have c5 := refSame0_
      rw [ho] at c1 c2
      unfold ofT at c1
      unfold refOfT at c2
      dsimp only at c1 c2
      unfold Ro.reqT0 at c1 c2 c5
      cases hw : wrP r with
      | false =>
        rw [hw, if_neg (by simp)] at c3 c4
        repeat' (first | refine rg 0 (aq39 ?_) | (refine rg 1 (aq149 ?_); (first | refine oC (c0) rfl (ac .nil) ?_ | refine oC (k1) rfl (ac .nil) ?_); refine oN ?_) | (refine rg 3 (aq149 ?_); (first | refine oC (c0) rfl (ac .nil) ?_ | refine oC (k1) rfl (ac .nil) ?_ | refine oC (c1) rfl (ac .nil) ?_); refine aq29 ?_; refine sal str57 ?_; refine aq62 ?_) | (refine rg 4 (aq149 ?_); (first | refine oC (c0) rfl (ac .nil) ?_ | refine oC (k1) rfl (ac .nil) ?_ | refine oC (c1) rfl (ac .nil) ?_ | refine oC (c2) rfl (ac .nil) ?_); refine aq29 ?_; refine sal str57 ?_; refine aq62 ?_) | (refine rg 5 (aq169 ?_); (first | refine oC (c0) rfl (ac (ac .nil)) ?_ | refine oC (k1) rfl (ac (ac .nil)) ?_ | refine oC (c1) rfl (ac (ac .nil)) ?_ | refine oC (c2) rfl (ac (ac .nil)) ?_ | refine oC (c3) rfl (ac (ac .nil)) ?_ | refine oC (c4) rfl (ac (ac .nil)) ?_ | refine oC (c5) rfl (ac (ac .nil)) ?_); refine aq170 ?_ <;> refine sp (po_boolq rfl rfl rfl (by kernel_rfl) (by first | exact .inl rfl | exact .inr rfl)) ?_ <;> refine aq171 ?_) | (refine rg 7 (aq149 ?_); (first | refine oC (c0) rfl (ac .nil) ?_ | refine oC (k1) rfl (ac .nil) ?_ | refine oC (c1) rfl (ac .nil) ?_ | refine oC (c2) rfl (ac .nil) ?_ | refine oC (c3) rfl (ac .nil) ?_); refine aq120 ?_) | (refine rg 8 (aq149 ?_); (first | refine oC (c0) rfl (ac .nil) ?_ | refine oC (k1) rfl (ac .nil) ?_ | refine oC (c1) rfl (ac .nil) ?_ | refine oC (c2) rfl (ac .nil) ?_ | refine oC (c3) rfl (ac .nil) ?_ | refine oC (c4) rfl (ac .nil) ?_); refine aq120 ?_) | (refine rg 9 ?_; refine oMv ?_; refine sp (po_bytes_str (l := []) rfl rfl (.nil 1) byt23' rfl) ?_; refine oMv ?_; refine sp (po_bytes_str (l := []) rfl rfl (.nil 1) byt23' rfl) ?_; refine aq172 ?_ <;> refine sp (po_boolq rfl rfl rfl (by kernel_rfl) (by exact .inl rfl)) ?_ <;> refine aq173 ?_ <;> refine oC (c0) rfl .nil ?_ <;> refine aq76 ?_) | refine gc ?_ | refine ct ?_ | refine cf ?_ | refine sc ?_ ?_ <;> intro hc | refine rq rfl (rt .nil) ?_)
        rfl
      | true =>
        rw [hw, if_pos rfl] at c3 c4
        repeat' (first | refine rg 0 (aq39 ?_) | (refine rg 1 (aq149 ?_); (first | refine oC (c0) rfl (ac .nil) ?_ | refine oC (k1) rfl (ac .nil) ?_); refine oN ?_) | (refine rg 3 (aq149 ?_); (first | refine oC (c0) rfl (ac .nil) ?_ | refine oC (k1) rfl (ac .nil) ?_ | refine oC (c1) rfl (ac .nil) ?_); refine aq29 ?_; refine sal str57 ?_; refine aq62 ?_) | (refine rg 4 (aq149 ?_); (first | refine oC (c0) rfl (ac .nil) ?_ | refine oC (k1) rfl (ac .nil) ?_ | refine oC (c1) rfl (ac .nil) ?_ | refine oC (c2) rfl (ac .nil) ?_); refine aq29 ?_; refine sal str57 ?_; refine aq62 ?_) | (refine rg 5 (aq169 ?_); (first | refine oC (c0) rfl (ac (ac .nil)) ?_ | refine oC (k1) rfl (ac (ac .nil)) ?_ | refine oC (c1) rfl (ac (ac .nil)) ?_ | refine oC (c2) rfl (ac (ac .nil)) ?_ | refine oC (c3) rfl (ac (ac .nil)) ?_ | refine oC (c4) rfl (ac (ac .nil)) ?_ | refine oC (c5) rfl (ac (ac .nil)) ?_); refine aq170 ?_ <;> refine sp (po_boolq rfl rfl rfl (by kernel_rfl) (by first | exact .inl rfl | exact .inr rfl)) ?_ <;> refine aq171 ?_) | (refine rg 7 (aq149 ?_); (first | refine oC (c0) rfl (ac .nil) ?_ | refine oC (k1) rfl (ac .nil) ?_ | refine oC (c1) rfl (ac .nil) ?_ | refine oC (c2) rfl (ac .nil) ?_ | refine oC (c3) rfl (ac .nil) ?_); refine aq120 ?_) | (refine rg 8 (aq149 ?_); (first | refine oC (c0) rfl (ac .nil) ?_ | refine oC (k1) rfl (ac .nil) ?_ | refine oC (c1) rfl (ac .nil) ?_ | refine oC (c2) rfl (ac .nil) ?_ | refine oC (c3) rfl (ac .nil) ?_ | refine oC (c4) rfl (ac .nil) ?_); refine aq120 ?_) | (refine rg 9 ?_; refine oMv ?_; refine sp (po_bytes_str (l := msgP r) rfl rfl (.t _) byt23' rfl) ?_; refine oMv ?_; refine sp (po_bytes_str (l := msgP r) rfl rfl (.t _) byt23' rfl) ?_; refine aq172 ?_ <;> refine sp (po_boolq rfl rfl rfl (by kernel_rfl) (by exact .inl rfl)) ?_ <;> refine aq174 ?_ <;> refine oC (c0) rfl .nil ?_ <;> refine aq76 ?_) | refine gc ?_ | refine ct ?_ | refine cf ?_ | refine sc ?_ ?_ <;> intro hc | refine rq rfl (rt .nil) ?_)
        rfl
    | some x =>
      obtain ⟨m, t, hi⟩ := ofR_is ho
      have c5 := refSameR_ x x (by rw [hi.xh]; exact hn)
      rw [(sameR_iff x x).2 rfl] at c5
      rw [ho] at c1 c2
      unfold ofT at c1
      unfold refOfT at c2
      dsimp only at c1 c2
      unfold Ro.reqT at c1 c2 c5
      clear hi ho
      cases hw : wrP r with
      | false =>
        rw [hw, if_neg (by simp)] at c3 c4
        repeat' (first | refine rg 0 (aq39 ?_) | (refine rg 1 (aq149 ?_); (first | refine oC (c0) rfl (ac .nil) ?_ | refine oC (k1) rfl (ac .nil) ?_); refine oN ?_) | (refine rg 3 (aq149 ?_); (first | refine oC (c0) rfl (ac .nil) ?_ | refine oC (k1) rfl (ac .nil) ?_ | refine oC (c1) rfl (ac .nil) ?_); refine aq29 ?_; refine sal str57 ?_; refine aq62 ?_) | (refine rg 4 (aq149 ?_); (first | refine oC (c0) rfl (ac .nil) ?_ | refine oC (k1) rfl (ac .nil) ?_ | refine oC (c1) rfl (ac .nil) ?_ | refine oC (c2) rfl (ac .nil) ?_); refine aq29 ?_; refine sal str57 ?_; refine aq62 ?_) | (refine rg 5 (aq169 ?_); (first | refine oC (c0) rfl (ac (ac .nil)) ?_ | refine oC (k1) rfl (ac (ac .nil)) ?_ | refine oC (c1) rfl (ac (ac .nil)) ?_ | refine oC (c2) rfl (ac (ac .nil)) ?_ | refine oC (c3) rfl (ac (ac .nil)) ?_ | refine oC (c4) rfl (ac (ac .nil)) ?_ | refine oC (c5) rfl (ac (ac .nil)) ?_); refine aq170 ?_ <;> refine sp (po_boolq rfl rfl rfl (by kernel_rfl) (by first | exact .inl rfl | exact .inr rfl)) ?_ <;> refine aq175 ?_) | (refine rg 7 (aq149 ?_); (first | refine oC (c0) rfl (ac .nil) ?_ | refine oC (k1) rfl (ac .nil) ?_ | refine oC (c1) rfl (ac .nil) ?_ | refine oC (c2) rfl (ac .nil) ?_ | refine oC (c3) rfl (ac .nil) ?_); refine aq120 ?_) | (refine rg 8 (aq149 ?_); (first | refine oC (c0) rfl (ac .nil) ?_ | refine oC (k1) rfl (ac .nil) ?_ | refine oC (c1) rfl (ac .nil) ?_ | refine oC (c2) rfl (ac .nil) ?_ | refine oC (c3) rfl (ac .nil) ?_ | refine oC (c4) rfl (ac .nil) ?_); refine aq120 ?_) | (refine rg 9 ?_; refine oMv ?_; refine sp (po_bytes_str (l := []) rfl rfl (.nil 1) byt23' rfl) ?_; refine oMv ?_; refine sp (po_bytes_str (l := []) rfl rfl (.nil 1) byt23' rfl) ?_; refine aq172 ?_ <;> refine sp (po_boolq rfl rfl rfl (by kernel_rfl) (by exact .inl rfl)) ?_ <;> refine aq173 ?_ <;> refine oC (c0) rfl .nil ?_ <;> refine aq76 ?_) | refine gc ?_ | refine ct ?_ | refine cf ?_ | refine sc ?_ ?_ <;> intro hc | refine rq rfl (rt .nil) ?_)
        rfl
      | true =>
        rw [hw, if_pos rfl] at c3 c4
        repeat' (first | refine rg 0 (aq39 ?_) | (refine rg 1 (aq149 ?_); (first | refine oC (c0) rfl (ac .nil) ?_ | refine oC (k1) rfl (ac .nil) ?_); refine oN ?_) | (refine rg 3 (aq149 ?_); (first | refine oC (c0) rfl (ac .nil) ?_ | refine oC (k1) rfl (ac .nil) ?_ | refine oC (c1) rfl (ac .nil) ?_); refine aq29 ?_; refine sal str57 ?_; refine aq62 ?_) | (refine rg 4 (aq149 ?_); (first | refine oC (c0) rfl (ac .nil) ?_ | refine oC (k1) rfl (ac .nil) ?_ | refine oC (c1) rfl (ac .nil) ?_ | refine oC (c2) rfl (ac .nil) ?_); refine aq29 ?_; refine sal str57 ?_; refine aq62 ?_) | (refine rg 5 (aq169 ?_); (first | refine oC (c0) rfl (ac (ac .nil)) ?_ | refine oC (k1) rfl (ac (ac .nil)) ?_ | refine oC (c1) rfl (ac (ac .nil)) ?_ | refine oC (c2) rfl (ac (ac .nil)) ?_ | refine oC (c3) rfl (ac (ac .nil)) ?_ | refine oC (c4) rfl (ac (ac .nil)) ?_ | refine oC (c5) rfl (ac (ac .nil)) ?_); refine aq170 ?_ <;> refine sp (po_boolq rfl rfl rfl (by kernel_rfl) (by first | exact .inl rfl | exact .inr rfl)) ?_ <;> refine aq175 ?_) | (refine rg 7 (aq149 ?_); (first | refine oC (c0) rfl (ac .nil) ?_ | refine oC (k1) rfl (ac .nil) ?_ | refine oC (c1) rfl (ac .nil) ?_ | refine oC (c2) rfl (ac .nil) ?_ | refine oC (c3) rfl (ac .nil) ?_); refine aq120 ?_) | (refine rg 8 (aq149 ?_); (first | refine oC (c0) rfl (ac .nil) ?_ | refine oC (k1) rfl (ac .nil) ?_ | refine oC (c1) rfl (ac .nil) ?_ | refine oC (c2) rfl (ac .nil) ?_ | refine oC (c3) rfl (ac .nil) ?_ | refine oC (c4) rfl (ac .nil) ?_); refine aq120 ?_) | (refine rg 9 ?_; refine oMv ?_; refine sp (po_bytes_str (l := msgP r) rfl rfl (.t _) byt23' rfl) ?_; refine oMv ?_; refine sp (po_bytes_str (l := msgP r) rfl rfl (.t _) byt23' rfl) ?_; refine aq172 ?_ <;> refine sp (po_boolq rfl rfl rfl (by kernel_rfl) (by exact .inl rfl)) ?_ <;> refine aq174 ?_ <;> refine oC (c0) rfl .nil ?_ <;> refine aq76 ?_) | refine gc ?_ | refine ct ?_ | refine cf ?_ | refine sc ?_ ?_ <;> intro hc | refine rq rfl (rt .nil) ?_)
        rfl
end Go.Proofs.YtpncekdhigappaaGreatDoor.RequestOf
