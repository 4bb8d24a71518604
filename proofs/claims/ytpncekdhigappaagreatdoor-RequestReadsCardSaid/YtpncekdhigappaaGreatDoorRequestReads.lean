/- The law RequestReads: a walk. -/
import Derived.Test.YtpncekdhigappaaGreatDoorU35
import Derived.Test.YtpncekdhigappaaGreatDoorU36
import Derived.Test.YtpncekdhigappaaGreatDoorU13
namespace Go.Proofs.YtpncekdhigappaaGreatDoor.RequestReads
set_option linter.unusedVariables false
set_option linter.unusedSimpArgs false
open Go.RowKit Mem Sim Opn Hd Str Pth Rq Ro
set_option maxRecDepth 100000 in
set_option maxHeartbeats 8000000 in
theorem law_ (b : L8) (cuts : List Int) (_ : b.length ≤ maxLen) (hi' : ∀ c ∈ cuts, (Lit.int .i64 c).wf = true) : PCalls Tryz.prog 5 [.sl 1 (b.map byteT), .sl 1 (cuts.map intT)] (.v (.bool true)) := by
  have hi := fun c hc => wf_i64 (hi' c hc)
  have c0 := awake_
  have hmb : (b.map byteT).length = b.length := List.length_map _
  have hmc : (cuts.map intT).length = cuts.length := List.length_map _
  refine pcalls_of Tryz.func5 rfl rfl Tryz.ntmps5 rfl ?_
  by_cases hl : 8000 < b.length
  · repeat' (first | refine rg 0 (aq0 ?_) | (refine rg 1 ?_; refine oMv ?_; refine sp (pln rfl (tyS rfl)) ?_; refine oCm ?_; refine oMv ?_; (first | refine oMv ?_ | refine oK ?_) <;> (first | refine sp (pln rfl (tyS rfl)) ?_ | refine oK ?_) <;> (first | refine oCm ?_ | refine oK ?_) <;> refine oPt ?_ <;> refine oN ?_) | (refine rg 2 ?_; refine oC (c0) rfl .nil ?_; refine aq0 ?_) | refine gc ?_ | refine ct ?_ | refine cf ?_ | refine sc ?_ ?_ <;> intro hc | refine rq rfl (rt .nil) ?_)
    rfl
  by_cases hlc : 200 < cuts.length
  · repeat' (first | refine rg 0 (aq0 ?_) | refine rg 1 (aq220 ?_) | (refine rg 2 ?_; refine oC (c0) rfl .nil ?_; refine aq0 ?_) | refine gc ?_ | refine ct ?_ | refine cf ?_ | refine sc ?_ ?_ <;> intro hc | refine rq rfl (rt .nil) ?_)
    rfl
  have c1 := pieces_ b cuts (by omega) (by omega) hi
  have c2 := refAllM_ b (by omega)
  have c3 := raws_ b (by omega)
  obtain ⟨a1, a2, a3⟩ := all_feed b.length [] b (Nat.le_refl _)
  rw [← rd0_idl] at a1 a2 a3
  have hM : allT (allM b.length [] b) = .tup [.sl 3 ((feedP rd0 b).out.map rawT), .v (.bool (idleP (feedP rd0 b))), .v (.int .i64 (feedP rd0 b).err)] := by rw [a1, a2, a3]; rfl
  rw [hM] at c2
  have hI := inv_all b (by omega)
  have hs := feed_sane b
  unfold piecesT at c1
  unfold rawsL at c3
  clear hM a1 a2 a3
  generalize feedP rd0 b = q at *
  have c4 := sameRaws_ q.out (fun r hr => (An.sane_ok (hs r hr)).hn) (by have := hI.ho; omega)
  have c5 := idle_ q (by have := hI.hl; omega)
  have e1 : (!decide (q.err = q.err)) = false := by simp
  have e2 : decide (q.err = q.err) = true := by simp
  clear hI hs hi hi'
  unfold parsC at c1 c5
  by_cases he : q.err = 0
  · have e3 : decide (q.err = 0) = true := decide_eq_true he
    rw [if_neg (by simp [he])] at c3
    cases hid : idleP q with
    | true =>
      rw [hid, if_pos rfl] at c3
      rw [hid] at c2 c5
      unfold rawsT at c3
      rw [if_pos rfl] at c3
      dsimp only at c3
      have e4 : (!decide (q.err = 0)) = false := by rw [e3]; rfl
      clear hid
      repeat' (first | refine rg 0 (aq0 ?_) | refine rg 1 (aq220 ?_) | (refine rg 3 (aq16 ?_); (first | refine oC (c0) rfl (ac (ac .nil)) ?_ | refine oC (c1) rfl (ac (ac .nil)) ?_); refine oMv ?_; refine oEx ?_; refine oEx ?_; refine oEx ?_; refine sal str45 ?_; refine oS ?_; refine oAs ?_; refine oAs ?_; refine oN ?_) | (refine rg 4 ?_; refine oMv ?_; (first | refine oC (c0) rfl (ac .nil) ?_ | refine oC (c1) rfl (ac .nil) ?_ | refine oC (c2) rfl (ac .nil) ?_); refine aq51 ?_) | (refine rg 5 (aq221 ?_) <;> (first | refine oC (c0) rfl (ac (ac .nil)) ?_ | refine oC (c1) rfl (ac (ac .nil)) ?_ | refine oC (c2) rfl (ac (ac .nil)) ?_ | refine oC (c3) rfl (ac (ac .nil)) ?_ | refine oC (c4) rfl (ac (ac .nil)) ?_) <;> refine aq222 ?_ <;> (first | refine oC (c0) rfl (ac .nil) ?_ | refine oC (c1) rfl (ac .nil) ?_ | refine oC (c2) rfl (ac .nil) ?_ | refine oC (c3) rfl (ac .nil) ?_ | refine oC (c4) rfl (ac .nil) ?_ | refine oC (c5) rfl (ac .nil) ?_) <;> refine oMv ?_ <;> refine sp (po_boolq rfl rfl rfl (by kernel_rfl) (by first | exact .inl rfl | exact .inr rfl)) ?_ <;> (first | refine oPt ?_ | refine oPf ?_) <;> refine oN ?_) | (refine rg 7 ?_; refine oMv ?_; (first | refine oC (c0) rfl (ac .nil) ?_ | refine oC (c1) rfl (ac .nil) ?_ | refine oC (c2) rfl (ac .nil) ?_ | refine oC (c3) rfl (ac .nil) ?_); refine aq65 ?_) | refine rg 8 (aq223 ?_) | refine rg 10 (aq22 ?_) | (refine rg 12 ?_; refine oMv ?_; refine oCm ?_; refine oMv ?_; refine oMv ?_; refine oMv ?_ <;> (first | refine oC (c0) rfl (ac (ac .nil)) ?_ | refine oC (c1) rfl (ac (ac .nil)) ?_ | refine oC (c2) rfl (ac (ac .nil)) ?_ | refine oC (c3) rfl (ac (ac .nil)) ?_ | refine oC (c4) rfl (ac (ac .nil)) ?_) <;> refine oPt ?_ <;> refine oMv ?_ <;> refine oC (c0) rfl .nil ?_ <;> refine aq114 ?_) | refine gc ?_ | refine ct ?_ | refine cf ?_ | refine sc ?_ ?_ <;> intro hc | refine rq rfl (rt .nil) ?_)
      rfl
    | false =>
      rw [hid, if_neg (by simp)] at c3
      rw [hid] at c2 c5
      unfold rawsT at c3
      rw [if_neg (by decide)] at c3
      dsimp only at c3
      clear hid
      repeat' (first | refine rg 0 (aq0 ?_) | refine rg 1 (aq220 ?_) | (refine rg 3 (aq16 ?_); (first | refine oC (c0) rfl (ac (ac .nil)) ?_ | refine oC (c1) rfl (ac (ac .nil)) ?_); refine oMv ?_; refine oEx ?_; refine oEx ?_; refine oEx ?_; refine sal str45 ?_; refine oS ?_; refine oAs ?_; refine oAs ?_; refine oN ?_) | (refine rg 4 ?_; refine oMv ?_; (first | refine oC (c0) rfl (ac .nil) ?_ | refine oC (c1) rfl (ac .nil) ?_ | refine oC (c2) rfl (ac .nil) ?_); refine aq51 ?_) | (refine rg 5 (aq221 ?_) <;> (first | refine oC (c0) rfl (ac (ac .nil)) ?_ | refine oC (c1) rfl (ac (ac .nil)) ?_ | refine oC (c2) rfl (ac (ac .nil)) ?_ | refine oC (c3) rfl (ac (ac .nil)) ?_ | refine oC (c4) rfl (ac (ac .nil)) ?_) <;> refine aq222 ?_ <;> (first | refine oC (c0) rfl (ac .nil) ?_ | refine oC (c1) rfl (ac .nil) ?_ | refine oC (c2) rfl (ac .nil) ?_ | refine oC (c3) rfl (ac .nil) ?_ | refine oC (c4) rfl (ac .nil) ?_ | refine oC (c5) rfl (ac .nil) ?_) <;> refine oMv ?_ <;> refine sp (po_boolq rfl rfl rfl (by kernel_rfl) (by first | exact .inl rfl | exact .inr rfl)) ?_ <;> (first | refine oPt ?_ | refine oPf ?_) <;> refine oN ?_) | (refine rg 7 ?_; refine oMv ?_; (first | refine oC (c0) rfl (ac .nil) ?_ | refine oC (c1) rfl (ac .nil) ?_ | refine oC (c2) rfl (ac .nil) ?_ | refine oC (c3) rfl (ac .nil) ?_); refine aq65 ?_) | refine rg 8 (aq223 ?_) | refine rg 9 (aq0 ?_) | refine rg 10 (aq22 ?_) | (refine rg 11 (aq224 ?_) <;> refine oC (c0) rfl .nil ?_ <;> refine aq114 ?_) | refine gc ?_ | refine ct ?_ | refine cf ?_ | refine sc ?_ ?_ <;> intro hc | refine rq rfl (rt .nil) ?_)
      rfl
  · have e3 : decide (q.err = 0) = false := decide_eq_false he
    have e4 : (!decide (q.err = 0)) = true := by rw [e3]; rfl
    have hid : idleP q = false := by unfold idleP; rw [e3]; rfl
    rw [if_pos he] at c3
    rw [hid] at c2 c5
    unfold rawsT at c3
    rw [if_neg he] at c3
    dsimp only at c3
    clear hid
    repeat' (first | refine rg 0 (aq0 ?_) | refine rg 1 (aq220 ?_) | (refine rg 3 (aq16 ?_); (first | refine oC (c0) rfl (ac (ac .nil)) ?_ | refine oC (c1) rfl (ac (ac .nil)) ?_); refine oMv ?_; refine oEx ?_; refine oEx ?_; refine oEx ?_; refine sal str45 ?_; refine oS ?_; refine oAs ?_; refine oAs ?_; refine oN ?_) | (refine rg 4 ?_; refine oMv ?_; (first | refine oC (c0) rfl (ac .nil) ?_ | refine oC (c1) rfl (ac .nil) ?_ | refine oC (c2) rfl (ac .nil) ?_); refine aq51 ?_) | (refine rg 5 (aq221 ?_) <;> (first | refine oC (c0) rfl (ac (ac .nil)) ?_ | refine oC (c1) rfl (ac (ac .nil)) ?_ | refine oC (c2) rfl (ac (ac .nil)) ?_ | refine oC (c3) rfl (ac (ac .nil)) ?_ | refine oC (c4) rfl (ac (ac .nil)) ?_) <;> refine aq222 ?_ <;> (first | refine oC (c0) rfl (ac .nil) ?_ | refine oC (c1) rfl (ac .nil) ?_ | refine oC (c2) rfl (ac .nil) ?_ | refine oC (c3) rfl (ac .nil) ?_ | refine oC (c4) rfl (ac .nil) ?_ | refine oC (c5) rfl (ac .nil) ?_) <;> refine oMv ?_ <;> refine sp (po_boolq rfl rfl rfl (by kernel_rfl) (by first | exact .inl rfl | exact .inr rfl)) ?_ <;> (first | refine oPt ?_ | refine oPf ?_) <;> refine oN ?_) | (refine rg 7 ?_; refine oMv ?_; (first | refine oC (c0) rfl (ac .nil) ?_ | refine oC (c1) rfl (ac .nil) ?_ | refine oC (c2) rfl (ac .nil) ?_ | refine oC (c3) rfl (ac .nil) ?_); refine aq65 ?_) | (refine rg 8 ?_; refine oMv ?_; refine oCm ?_; refine oMv ?_; (first | refine oMv ?_ | refine oK ?_) <;> (first | refine sp (po_not rfl rfl) ?_ | refine oK ?_) <;> (first | refine oPt ?_ | refine oPf ?_) <;> refine oN ?_) | refine rg 10 (aq22 ?_) | (refine rg 11 (aq224 ?_) <;> refine oC (c0) rfl .nil ?_ <;> refine aq114 ?_) | refine gc ?_ | refine ct ?_ | refine cf ?_ | refine sc ?_ ?_ <;> intro hc | refine rq rfl (rt .nil) ?_)
    rfl
end Go.Proofs.YtpncekdhigappaaGreatDoor.RequestReads
