/- The law RequestAlone: a walk. -/
import Derived.Test.YtpncekdhigappaaGreatDoorS34
import Derived.Test.YtpncekdhigappaaGreatDoorS35
namespace Go.Proofs.YtpncekdhigappaaGreatDoor.RequestAlone
set_option linter.unusedVariables false
set_option linter.unusedSimpArgs false
open Go.RowKit Mem Sim Opn Hd Str Pth Rq Ro
set_option maxRecDepth 100000 in
set_option maxHeartbeats 8000000 in
theorem law_ (b more : L8) (at_ : Int) (_ : b.length ≤ maxLen) (_ : more.length ≤ maxLen) (hat' : (Lit.int .i64 at_).wf = true) : PCalls Tryz.prog 8 [.sl 1 (b.map byteT), .sl 1 (more.map byteT), .v (.int .i64 at_)] (.v (.bool true)) := by
  have hat := wf_i64 hat'
  have c0 := awake_
  have hmb : (b.map byteT).length = b.length := List.length_map _
  have hmc : (more.map byteT).length = more.length := List.length_map _
  refine pcalls_of Tryz.func8 rfl rfl Tryz.ntmps8 rfl ?_
  by_cases hl : 8000 < b.length
  · repeat' (first | (refine rg 0 ?_; refine oAs ?_; refine oN ?_) | (refine rg 1 ?_; refine oMv ?_; refine sp (pln rfl (tyS rfl)) ?_; refine oCm ?_; refine oMv ?_; (first | refine oMv ?_ | refine oK ?_) <;> (first | refine sp (pln rfl (tyS rfl)) ?_ | refine oK ?_) <;> (first | refine oCm ?_ | refine oK ?_) <;> refine oPt ?_ <;> refine oN ?_) | (refine rg 2 ?_; refine oC (c0) rfl .nil ?_; refine oAs ?_; refine oN ?_) | refine gc ?_ | refine ct ?_ | refine cf ?_ | refine swp_cond rfl (fun hc => ?_) (fun hc => ?_) | refine rq rfl (rt .nil) ?_)
    rfl
  by_cases hlc : 8000 < more.length
  · repeat' (first | (refine rg 0 ?_; refine oAs ?_; refine oN ?_) | (refine rg 1 ?_; refine oMv ?_; refine sp (pln rfl (tyS rfl)) ?_; refine oCm ?_; refine oMv ?_; refine oMv ?_ <;> refine sp (pln rfl (tyS rfl)) ?_ <;> refine oCm ?_ <;> (first | refine oPt ?_ | refine oPf ?_) <;> refine oN ?_) | (refine rg 2 ?_; refine oC (c0) rfl .nil ?_; refine oAs ?_; refine oN ?_) | refine gc ?_ | refine ct ?_ | refine cf ?_ | refine swp_cond rfl (fun hc => ?_) (fun hc => ?_) | refine rq rfl (rt .nil) ?_)
    rfl
  have c1 := one2_ b (by omega)
  cases ho : oneR b with
  | inr e =>
    have hT : oneT b = .tup [.agg Ro.reqT0, .v (.int .i64 e)] := by unfold oneT; rw [ho]
    rw [hT] at c1
    unfold Ro.reqT0 at c1
    have he := oneR_err ho
    have e1 : decide (e = 0) = false := decide_eq_false he
    have e2 : (!decide (e = 0)) = true := by rw [e1]; rfl
    clear hT ho
    by_cases h0 : b.length = 0
    · have e3 : (decide (e = 0) == decide (((b.map byteT).length : Int) > 0)) = true := by
        rw [e1, decide_eq_false (by omega)]; rfl
      repeat' (first | (refine rg 0 ?_; refine oAs ?_; refine oN ?_) | (refine rg 1 ?_; refine oMv ?_; refine sp (pln rfl (tyS rfl)) ?_; refine oCm ?_; refine oMv ?_; refine oMv ?_ <;> refine sp (pln rfl (tyS rfl)) ?_ <;> refine oCm ?_ <;> (first | refine oPt ?_ | refine oPf ?_) <;> refine oN ?_) | (refine rg 3 ?_; refine oMv ?_; (first | refine oC (c0) rfl (ac .nil) ?_ | refine oC (c1) rfl (ac .nil) ?_); refine oMv ?_; refine oEx ?_; refine oEx ?_; refine sal str57 ?_; refine oS ?_; refine oAs ?_; refine oN ?_) | (refine rg 4 ?_; refine oMv ?_; refine oCm ?_; refine oMv ?_; (first | refine oMv ?_ | refine oK ?_) <;> (first | refine sp (pln rfl (tyS rfl)) ?_ | refine oK ?_) <;> (first | refine oCm ?_ | refine oK ?_) <;> refine oPt ?_ <;> refine oN ?_) | (refine rg 5 ?_; refine oMv ?_; refine oCm ?_; refine oMv ?_; refine sp (pln rfl (tyS rfl)) ?_; refine oCm ?_; refine sp (po_boolq rfl rfl rfl (by kernel_rfl) (by exact .inl rfl)) ?_; refine oMv ?_; (first | refine oC (c0) rfl .nil ?_ | refine oC (c1) rfl .nil ?_ | refine oK ?_) <;> (first | refine oMv ?_ | refine oK ?_) <;> (first | refine oMv ?_ | refine oK ?_) <;> (first | refine oCm ?_ | refine oK ?_) <;> (first | refine oPt ?_ | refine oPf ?_ | refine oK ?_) <;> refine oPt ?_ <;> refine oAs ?_ <;> refine oN ?_) | refine gc ?_ | refine ct ?_ | refine cf ?_ | refine swp_cond rfl (fun hc => ?_) (fun hc => ?_) | refine rq rfl (rt .nil) ?_)
      rfl
    · have e3 : (decide (e = 0) == decide (((b.map byteT).length : Int) > 0)) = false := by
        rw [e1, decide_eq_true (by omega)]; rfl
      repeat' (first | (refine rg 0 ?_; refine oAs ?_; refine oN ?_) | (refine rg 1 ?_; refine oMv ?_; refine sp (pln rfl (tyS rfl)) ?_; refine oCm ?_; refine oMv ?_; refine oMv ?_ <;> refine sp (pln rfl (tyS rfl)) ?_ <;> refine oCm ?_ <;> (first | refine oPt ?_ | refine oPf ?_) <;> refine oN ?_) | (refine rg 3 ?_; refine oMv ?_; (first | refine oC (c0) rfl (ac .nil) ?_ | refine oC (c1) rfl (ac .nil) ?_); refine oMv ?_; refine oEx ?_; refine oEx ?_; refine sal str57 ?_; refine oS ?_; refine oAs ?_; refine oN ?_) | (refine rg 4 ?_; refine oMv ?_; refine oCm ?_; refine oMv ?_; (first | refine oMv ?_ | refine oK ?_) <;> (first | refine sp (pln rfl (tyS rfl)) ?_ | refine oK ?_) <;> (first | refine oCm ?_ | refine oK ?_) <;> refine oPt ?_ <;> refine oN ?_) | (refine rg 5 ?_; refine oMv ?_; refine oCm ?_; refine oMv ?_; refine sp (pln rfl (tyS rfl)) ?_; refine oCm ?_; refine sp (po_boolq rfl rfl rfl (by kernel_rfl) (by exact .inl rfl)) ?_; refine oMv ?_; refine oC (c0) rfl .nil ?_ <;> refine oMv ?_ <;> refine oMv ?_ <;> refine oCm ?_ <;> refine oPt ?_ <;> (first | refine oPt ?_ | refine oPf ?_) <;> refine oAs ?_ <;> refine oN ?_) | refine gc ?_ | refine ct ?_ | refine cf ?_ | refine swp_cond rfl (fun hc => ?_) (fun hc => ?_) | refine rq rfl (rt .nil) ?_)
      all_goals first | rfl | (rw [e2]; rfl)
  | inl x =>
    obtain ⟨r, h1, h2⟩ := oneR_ok ho
    obtain ⟨m, t, hi⟩ := ofR_is h2
    obtain ⟨s1, s2, s3⟩ := sane_hyp (An.rawsL_sane b r (by rw [h1]; simp))
    have hb0 : 0 < b.length := by
      cases b with
      | nil =>
        rw [show rawsL [] = ([], 0) from rfl] at h1
        injection h1 with h1; cases h1
      | cons _ _ => simp
    have hT : oneT b = .tup [.agg (Ro.reqT x), .v (.int .i64 0)] := by unfold oneT; rw [ho]
    rw [hT] at c1
    have c3 := refSameR_ x x (by rw [hi.xh]; exact s1.hn)
    rw [(sameR_iff x x).2 rfl] at c3
    have c5 := of_ r s1 s2 s3
    rw [h2] at c5
    unfold ofT at c5
    dsimp only at c5
    generalize hk : (max 0 at_).toNat % b.length = k
    have hkb : k < b.length := by rw [← hk]; exact Nat.mod_lt _ hb0
    have hkr : (max 0 at_).tmod ((b.map byteT).length : Int) = (k : Int) := by
      rw [hmb, ← hk, show max 0 at_ = (((max 0 at_).toNat : Nat) : Int) by omega, ← Int.ofNat_tmod]; simp
    have hsl : ((b.map byteT).take k).drop 0 = (b.take k).map byteT := by rw [List.drop_zero, List.map_take]
    have c4 := one2_ (b.take k) (by rw [List.length_take]; omega)
    have c6 := feed_ rd0 inv0 rfl (b ++ more) (by rw [List.length_append]; omega)
    have c7 := new_
    obtain ⟨xs, hxs⟩ := alone_more h1 more
    unfold feedT at c6
    rw [hxs, List.map_append] at c6
    have g1 : (0 + (b.map byteT).length) * 1 ≤ 140737488355328 := by omega
    have g2 : 0 + (b.map byteT).length ≤ maxLen := by unfold maxLen; omega
    have g3 : ((b.map byteT).length + (more.map byteT).length) * 1 ≤ 140737488355328 := by omega
    have g4 : (b.map byteT).length + (more.map byteT).length ≤ maxLen := by unfold maxLen; omega
    cases hq : oneR (b.take k) with
    | inl y =>
      obtain ⟨r', h3, _⟩ := oneR_ok hq
      exact absurd h3 (alone_less h1 hkb r')
    | inr e =>
      have he := oneR_err hq
      have e1 : decide (e = 0) = false := decide_eq_false he
      have hT2 : oneT (b.take k) = .tup [.agg Ro.reqT0, .v (.int .i64 e)] := by unfold oneT; rw [hq]
      rw [hT2] at c4
      unfold parsC at c6 c7
      unfold Ro.reqT at c1 c3 c5
      unfold rawT at c5
      unfold Ro.reqT0 at c4
      have e5 : decide ((((r :: xs).map rawT).length : Int) < 1) = false := by rw [decide_eq_false]; simp; omega
      clear hT2 hq hT ho h1 hi s1 s2 s3 hxs h2 hk
      generalize feedP rd0 (b ++ more) = q at *
      repeat' (first | (refine rg 0 ?_; refine oAs ?_; refine oN ?_) | (refine rg 1 ?_; refine oMv ?_; refine sp (pln rfl (tyS rfl)) ?_; refine oCm ?_; refine oMv ?_; refine oMv ?_ <;> refine sp (pln rfl (tyS rfl)) ?_ <;> refine oCm ?_ <;> (first | refine oPt ?_ | refine oPf ?_) <;> refine oN ?_) | (refine rg 3 ?_; refine oMv ?_; (first | refine oC (c0) rfl (ac .nil) ?_ | refine oC (c1) rfl (ac .nil) ?_); refine oMv ?_; refine oEx ?_; refine oEx ?_; refine sal str57 ?_; refine oS ?_; refine oAs ?_; refine oN ?_) | (refine rg 4 ?_; refine oMv ?_; refine oCm ?_; refine oMv ?_; refine oMv ?_ <;> refine sp (pln rfl (tyS rfl)) ?_ <;> refine oCm ?_ <;> (first | refine oPt ?_ | refine oPf ?_) <;> refine oN ?_) | (refine rg 6 ?_; refine oMv ?_; refine oMv ?_; refine sp (po_max rfl rfl rfl) ?_; refine oMv ?_; refine sp (pln rfl (tyS rfl)) ?_; refine sp (po_remc hkr rfl rfl rfl (by omega)) ?_; refine sp (po_sl hsl (po_slice rfl rfl (.t _) (tyS rfl) rfl ⟨_, rfl⟩ (by omega) (by omega))) ?_; (first | refine oC (c0) rfl (ac .nil) ?_ | refine oC (c1) rfl (ac .nil) ?_ | refine oC (c3) rfl (ac .nil) ?_ | refine oC (c4) rfl (ac .nil) ?_); refine oMv ?_; refine oEx ?_; refine oEx ?_; refine sal str57 ?_; refine oS ?_; refine oAs ?_; refine oN ?_) | (refine rg 7 ?_; (first | refine oC (c0) rfl .nil ?_ | refine oC (c1) rfl .nil ?_ | refine oC (c3) rfl .nil ?_ | refine oC (c4) rfl .nil ?_ | refine oC (c5) rfl .nil ?_ | refine oC (c6) rfl .nil ?_ | refine oC (c7) rfl .nil ?_); refine sops_build0 (.free rfl rfl) rfl rfl rfl (tyE rfl) rfl ?_; refine oMv ?_; refine sap rfl (tyE rfl) ?_; refine oMv ?_; refine sap rfl (tyE rfl) ?_; (first | refine oC (c0) rfl (ac (ac .nil)) ?_ | refine oC (c1) rfl (ac (ac .nil)) ?_ | refine oC (c3) rfl (ac (ac .nil)) ?_ | refine oC (c4) rfl (ac (ac .nil)) ?_ | refine oC (c5) rfl (ac (ac .nil)) ?_ | refine oC (c6) rfl (ac (ac .nil)) ?_); refine oMv ?_; refine oEx ?_; refine oEx ?_; refine sal str45 ?_; refine oS ?_; refine oAs ?_; refine oN ?_) | (refine rg 8 ?_; refine oMv ?_; refine oCm ?_; refine oMv ?_; refine oMv ?_ <;> refine sp (pln rfl (tyS rfl)) ?_ <;> refine oCm ?_ <;> (first | refine oPt ?_ | refine oPf ?_) <;> refine oN ?_) | (refine rg 10 ?_; refine oMv ?_; refine sp (pix rfl (tyS rfl)) ?_; (first | refine sp (po_load_bx_agg rfl rfl (tyT rfl) rfl (vc (vc (vc .nil))) rfl) ?_ | refine sp (po_load_agg rfl rfl (tyT rfl) rfl rfl) ?_); (first | refine oC (c0) rfl (ac .nil) ?_ | refine oC (c1) rfl (ac .nil) ?_ | refine oC (c3) rfl (ac .nil) ?_ | refine oC (c4) rfl (ac .nil) ?_ | refine oC (c5) rfl (ac .nil) ?_); refine oMv ?_; refine oEx ?_; refine oEx ?_; refine sal str57 ?_; refine oS ?_; refine oAs ?_; refine oN ?_) | (refine rg 11 ?_; refine oMv ?_; refine oCm ?_; refine oMv ?_; (refine sp (po_load_bx_agg rfl rfl (tyT rfl) rfl (vc (vc (vc (vc (vc (vc (vc .nil))))))) rfl) ?_) <;> (refine sp (po_load_bx_agg rfl rfl (tyT rfl) rfl (vc (vc (vc (vc (vc (vc (vc .nil))))))) rfl) ?_) <;> (first | refine oC (c0) rfl (ac (ac .nil)) ?_ | refine oC (c1) rfl (ac (ac .nil)) ?_ | refine oC (c3) rfl (ac (ac .nil)) ?_) <;> refine oPt ?_ <;> refine oMv ?_ <;> refine oC (c0) rfl .nil ?_ <;> refine oPt ?_ <;> refine oAs ?_ <;> refine oN ?_) | refine gc ?_ | refine ct ?_ | refine cf ?_ | refine swp_cond rfl (fun hc => ?_) (fun hc => ?_) | refine rq rfl (rt .nil) ?_)
      rfl
end Go.Proofs.YtpncekdhigappaaGreatDoor.RequestAlone
