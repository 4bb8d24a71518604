/- The law RequestOne: a walk. -/
import Derived.Test.YtpncekdhigappaaGreatDoorU35
import Derived.Test.YtpncekdhigappaaGreatDoorU13
namespace Go.Proofs.YtpncekdhigappaaGreatDoor.RequestOne
set_option linter.unusedVariables false
set_option linter.unusedSimpArgs false
open Go.RowKit Mem Sim Opn Hd Str Pth Rq Ro
set_option maxRecDepth 100000 in
set_option maxHeartbeats 4000000 in
theorem law_ (b : L8) (_ : b.length ≤ maxLen) : PCalls Tryz.prog 6 [.sl 1 (b.map byteT)] (.v (.bool true)) := by
  have c0 := awake_
  have hmb : (b.map byteT).length = b.length := List.length_map _
  refine pcalls_of Tryz.func6 rfl rfl Tryz.ntmps6 rfl ?_
  by_cases hl : 8000 < b.length
  · repeat' (first | refine rg 0 (aq0 ?_) | refine rg 1 (aq10 ?_) | (refine rg 2 ?_; refine oC (c0) rfl .nil ?_; refine aq0 ?_) | refine gc ?_ | refine ct ?_ | refine cf ?_ | refine sc ?_ ?_ <;> intro hc | refine rq rfl (rt .nil) ?_)
    rfl
  · have c1 := one2_ b (by omega)
    have c2 := refOne_ b (by omega)
    cases ho : oneR b with
    | inl x =>
      obtain ⟨r, h1, h2⟩ := oneR_ok ho
      obtain ⟨m, t, hi⟩ := ofR_is h2
      have hn := (sane_hyp (An.rawsL_sane b r (by rw [h1]; simp))).1.hn
      have c3 := refSameR_ x x (by rw [hi.xh]; exact hn)
      rw [(sameR_iff x x).2 rfl] at c3
      have hT : oneT b = .tup [.agg (Ro.reqT x), .v (.int .i64 0)] := by unfold oneT; rw [ho]
      rw [hT] at c1 c2
      unfold Ro.reqT at c1 c2 c3
      clear hT h1 h2 hi hn ho
      repeat' (first | refine rg 0 (aq0 ?_) | refine rg 1 (aq10 ?_) | (refine rg 3 ?_; refine oMv ?_; (first | refine oC (c0) rfl (ac .nil) ?_ | refine oC (c1) rfl (ac .nil) ?_); refine aq29 ?_; refine sal str57 ?_; refine aq54 ?_) | (refine rg 4 ?_; refine oMv ?_; (first | refine oC (c0) rfl (ac .nil) ?_ | refine oC (c1) rfl (ac .nil) ?_ | refine oC (c2) rfl (ac .nil) ?_); refine aq29 ?_; refine sal str57 ?_; refine aq54 ?_) | (refine rg 5 (aq218 ?_); (first | refine oC (c0) rfl (ac (ac .nil)) ?_ | refine oC (c1) rfl (ac (ac .nil)) ?_ | refine oC (c2) rfl (ac (ac .nil)) ?_ | refine oC (c3) rfl (ac (ac .nil)) ?_); refine oMv ?_; refine oMv ?_; refine oMv ?_; refine oCm ?_; refine oPt ?_; refine oMv ?_ <;> refine oC (c0) rfl .nil ?_ <;> refine aq114 ?_) | refine gc ?_ | refine ct ?_ | refine cf ?_ | refine sc ?_ ?_ <;> intro hc | refine rq rfl (rt .nil) ?_)
      rfl
    | inr e =>
      have c3 := refSame0_
      have e1 : decide (e = e) = true := by simp
      have hT : oneT b = .tup [.agg Ro.reqT0, .v (.int .i64 e)] := by unfold oneT; rw [ho]
      rw [hT] at c1 c2
      unfold Ro.reqT0 at c1 c2 c3
      clear hT ho
      repeat' (first | refine rg 0 (aq0 ?_) | refine rg 1 (aq10 ?_) | (refine rg 3 ?_; refine oMv ?_; (first | refine oC (c0) rfl (ac .nil) ?_ | refine oC (c1) rfl (ac .nil) ?_); refine aq29 ?_; refine sal str57 ?_; refine aq54 ?_) | (refine rg 4 ?_; refine oMv ?_; (first | refine oC (c0) rfl (ac .nil) ?_ | refine oC (c1) rfl (ac .nil) ?_ | refine oC (c2) rfl (ac .nil) ?_); refine aq29 ?_; refine sal str57 ?_; refine aq54 ?_) | (refine rg 5 (aq218 ?_); (first | refine oC (c0) rfl (ac (ac .nil)) ?_ | refine oC (c1) rfl (ac (ac .nil)) ?_ | refine oC (c2) rfl (ac (ac .nil)) ?_ | refine oC (c3) rfl (ac (ac .nil)) ?_); refine oMv ?_; refine oMv ?_; refine oMv ?_; refine oCm ?_; refine oPt ?_; refine oMv ?_ <;> refine oC (c0) rfl .nil ?_ <;> refine aq114 ?_) | refine gc ?_ | refine ct ?_ | refine cf ?_ | refine sc ?_ ?_ <;> intro hc | refine rq rfl (rt .nil) ?_)
      rfl
end Go.Proofs.YtpncekdhigappaaGreatDoor.RequestOne
