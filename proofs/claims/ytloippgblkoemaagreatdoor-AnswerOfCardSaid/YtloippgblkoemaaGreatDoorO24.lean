/- Merged by bundles.py: SimAn6, SimAn7, SimAst. -/
import Derived.Test.YtloippgblkoemaaGreatDoorO23
import Derived.Test.YtloippgblkoemaaGreatDoorO11
import Derived.Test.YtloippgblkoemaaGreatDoorO5
import Derived.Lib.AppendStr
/- Answers: of a message; walks. -/
namespace Go.Proofs.YtloippgblkoemaaGreatDoor.An
set_option linter.unusedVariables false
set_option linter.unusedSimpArgs false
open Go.RowKit Mem Sim Opn Hd Str Rq
set_option maxRecDepth 100000 in
set_option maxHeartbeats 1000000 in
theorem cloneBytesV (rows : List (List T)) (hbd : rows.length * 1 ≤ 140737488355328) (hmx : rows.length ≤ maxLen) : LCalls Tryz.prog 28 [.t (.sl 1 rows)] [] [] (.own 101 rows.length) [] [(101, ⟨5, 1, rows⟩)] := by
  have hbd' : 0 + rows.length * 1 ≤ 140737488355328 := by omega
  refine lcalls_of Tryz.func28 rfl rfl Tryz.ntmps28 rfl ?_
  repeat' (first | (refine rg 0 ?_; refine oAs ?_; refine oN ?_) | (refine rg 1 ?_; refine oMv ?_; refine sops_isnil (.free rfl rfl) rfl rfl rfl rfl (.t _) (tyS rfl) (fun b hnil => ?_); refine oN ?_) | refine gc ?_ | refine ct ?_ | refine cf ?_ | refine swp_cond rfl (fun hc => ?_) (fun hc => ?_) | refine rq rfl (rt .nil) ?_)
  · obtain rfl := hnil hc
    repeat' (first | refine then_go ?_ | refine swp_seq ?_ | refine swp_ret_weak (weak_own0 (i := 101) 5 1 (s := 2) rfl rfl) ?_ | (refine rg 2 ?_; refine oAs ?_; refine oN ?_) | refine swp_ret ?_ | refine swp_skip ?_ | refine swp_block ?_ | refine swp_exit ?_ | refine block_go ?_ | refine block_exit ?_ | refine block_far rfl ?_ | refine block_ret ?_ | refine then_ret ?_ | refine then_exit ?_ | refine for_ret ?_ | refine for_exit ?_ | refine ct ?_ | refine cf ?_ | refine swp_cond rfl (fun hc => ?_) (fun hc => ?_) | exact retl1 (by exact .inr rfl) rfl (.tmp rfl rfl .nil) rfl .nil (.cons rfl (by rfl) .nil))
  · repeat' (first | (refine rg 3 ?_; refine sops_build0i 101 (.free rfl rfl) rfl rfl rfl (tyE rfl) rfl ?_; refine oMv ?_; refine sap rfl (tyE rfl) ?_; refine oAs ?_; refine oN ?_) | refine gc ?_ | refine ct ?_ | refine cf ?_ | refine swp_cond rfl (fun hc => ?_) (fun hc => ?_) | refine retl (by exact .inr rfl) rfl (.tmp rfl rfl .nil) ?_ rfl .nil (.cons rfl (by rfl) .nil))
    rfl
def restS (s : ByteArray) : ByteArray := if hasP s befS then s.extract befS.size s.size else s
def codeS (s : ByteArray) : ByteArray := if fidx (restS s) 32 < (restS s).size then (restS s).extract 0 (fidx (restS s) 32) else restS s
def reasS (s : ByteArray) : ByteArray := if fidx (restS s) 32 < (restS s).size then (restS s).extract (fidx (restS s) 32 + 1) (restS s).size else ⟨#[]⟩
def isS (s : ByteArray) : Bool := decide (fidx (restS s) 32 < (restS s).size)
def ansOf (r : PRaw) : PAns := ⟨num3 (codeS r.start), r.heads, r.body⟩
def ofP (r : PRaw) : Bool := hasP r.start befS && isS r.start && plainP (reasS r.start) && mayA (ansOf r)
def ansT0 : List T := [.v (.int .i64 0), .v (.slice none 0 0), .v (.slice none 0 0)]
def ofT (r : PRaw) : T := if ofP r then .tup [.agg (ansT (ansOf r)), .v (.int .i64 0)] else .tup [.agg ansT0, .v (.int .i64 2)]
theorem cutP_eq (s : ByteArray) : cutP s befS = .tup [.v (.string (restS s)), .v (.bool (hasP s befS))] := by
  unfold cutP restS
  cases hasP s befS <;> simp
theorem cutT_eq (s : ByteArray) : cutT (restS s) 32 = .tup [.v (.string (codeS s)), .v (.string (reasS s)), .v (.bool (isS s))] := by
  unfold cutT codeS reasS isS
  split
  · rename_i h; rw [decide_eq_true h]
  · rename_i h; rw [decide_eq_false h]
theorem ext_le (s : ByteArray) (a b : Nat) : (s.extract a b).size ≤ s.size := by rw [ByteArray.size_extract]; omega
theorem restS_le (s : ByteArray) : (restS s).size ≤ s.size := by
  unfold restS; split
  · exact ext_le _ _ _
  · exact Nat.le_refl _
theorem codeS_le (s : ByteArray) : (codeS s).size ≤ s.size := by
  unfold codeS; split
  · exact Nat.le_trans (ext_le _ _ _) (restS_le s)
  · exact restS_le s
theorem reasS_le (s : ByteArray) : (reasS s).size ≤ s.size := by
  unfold reasS; split
  · exact Nat.le_trans (ext_le _ _ _) (restS_le s)
  · exact Nat.zero_le _
structure RawOk (r : PRaw) : Prop where
  hn : r.heads.length ≤ 1000
  hh : ∀ h ∈ r.heads, okHead h
  hb : r.body.length ≤ 100000
  hs : r.start.size ≤ maxLen
set_option maxRecDepth 100000 in
set_option maxHeartbeats 4000000 in
theorem of_ (r : PRaw) (hr : RawOk r) : PCalls Tryz.prog 8 [.agg (rawT r)] (ofT r) := by
  obtain ⟨hn, hh, hb, hs⟩ := hr
  have hm1 : (r.heads.map headT).length = r.heads.length := List.length_map _
  have hm2 : (r.body.map byteT).length = r.body.length := List.length_map _
  have c1 := cutPrefix_ r.start befS hs
  rw [cutP_eq] at c1
  have c2 := cut_ (restS r.start) 32 (Nat.le_trans (restS_le _) hs)
  rw [cutT_eq] at c2
  have c3 := num_ (codeS r.start) (Nat.le_trans (codeS_le _) hs)
  have c4 := cloneHeads 100 (.inl rfl) (r.heads.map headT) (by rw [hm1]; omega) (by rw [hm1]; unfold maxLen; omega)
  have c5 := cloneBytesV (r.body.map byteT) (by rw [hm2]; omega) (by rw [hm2]; unfold maxLen; omega)
  have c6 := containsFunc_ 30 of1_ (reasS r.start) (Nat.le_trans (reasS_le _) hs)
  have c7 := may_ (ansOf r) hn hh hb
  unfold ansT at c7
  unfold ofT ofP
  unfold rawT
  refine pcalls_of Tryz.func8 rfl rfl Tryz.ntmps8 rfl ?_
  generalize hasP r.start befS = b1 at *
  generalize isS r.start = b2 at *
  generalize plainP (reasS r.start) = b3 at *
  generalize mayA (ansOf r) = b4 at *
  unfold befS at c1
  repeat' (first | (refine rg 0 ?_; refine sbx ?_; refine sal str28 ?_; refine oAs ?_; refine oN ?_) | (refine rg 1 ?_; refine oFb ?_; refine oLb ?_; (first | refine sops_lcall (c5) (fun i => i) (fun i => i) (fun _ => false) (.free rfl rfl) rfl rfl rfl (by first | ((repeat' (first | exact .nil | refine .cons rfl rfl rfl ?_ | refine .vw rfl (by exact .t _) ?_)) <;> fail) | fail) .nil .nil rfl rfl (fun _ h => Bool.noConfusion h) ?_ | refine sops_lcall (c4) (fun i => i) (fun i => i) (fun _ => false) (.free rfl rfl) rfl rfl rfl (by first | ((repeat' (first | exact .nil | refine .cons rfl rfl rfl ?_ | refine .vw rfl (by exact .t _) ?_)) <;> fail) | fail) .nil .nil rfl rfl (fun _ h => Bool.noConfusion h) ?_ | refine oC (c1) rfl (ac (ac .nil)) ?_); refine oMv ?_; refine oEx ?_; refine oEx ?_; refine oAs ?_; refine oAs ?_; refine oN ?_) | (refine rg 2 ?_; refine oMv ?_; (first | refine sops_lcall (c5) (fun i => i) (fun i => i) (fun _ => false) (.free rfl rfl) rfl rfl rfl (by first | ((repeat' (first | exact .nil | refine .cons rfl rfl rfl ?_ | refine .vw rfl (by exact .t _) ?_)) <;> fail) | fail) .nil .nil rfl rfl (fun _ h => Bool.noConfusion h) ?_ | refine sops_lcall (c4) (fun i => i) (fun i => i) (fun _ => false) (.free rfl rfl) rfl rfl rfl (by first | ((repeat' (first | exact .nil | refine .cons rfl rfl rfl ?_ | refine .vw rfl (by exact .t _) ?_)) <;> fail) | fail) .nil .nil rfl rfl (fun _ h => Bool.noConfusion h) ?_ | refine oC (c1) rfl (ac (ac .nil)) ?_ | refine oC (c2) rfl (ac (ac .nil)) ?_); refine oMv ?_; refine oEx ?_; refine oEx ?_; refine oEx ?_; refine oAs ?_; refine oAs ?_; refine oAs ?_; refine oN ?_) | ((refine swp_any (id := 3) [[], [], [], [], [100], [], [], [101], [], [9], [9]] [[9], [9], [9], [9], [9], [100, 9], [100, 9], [9], [9], [100, 101], []] mixed (by kernel_rfl) ?_) <;> refine yp (fun _ _ => po_move rfl rfl) ?_ <;> (first | refine yp (fun _ _ => po_call (c1) rfl (ac .nil)) ?_ | refine yp (fun _ _ => po_call (c2) rfl (ac .nil)) ?_ | refine yp (fun _ _ => po_call (c3) rfl (ac .nil)) ?_) <;> refine yp (fun _ _ => po_field_bx rfl rfl (tyF rfl)) ?_ <;> refine yp (fun _ _ => po_load_bx rfl rfl (tyT rfl) rfl rfl) ?_ <;> (refine sany_eff [] [(100, _)] (.free rfl rfl) rfl rfl (fun _ _ hb ho => e_lcall (c4) (fun i => i) (fun i => i) rfl (by ((repeat' (first | exact .nil | refine .cons rfl rfl rfl ?_)) <;> fail)) .nil .nil rfl rfl (by ((repeat' (exact .nil)) <;> fail)) (by ((repeat' (first | exact .nil | refine .old rfl ?_ | refine .new (ho _ rfl rfl) ?_)) <;> fail)) .nil) ?_) <;> refine yp (fun _ _ => po_field_bx rfl rfl (tyF rfl)) ?_ <;> refine yp (fun _ _ => po_load_bx rfl rfl (tyT rfl) rfl rfl) ?_ <;> (first | refine sany_eff [] [(101, _)] (.free rfl rfl) rfl rfl (fun _ _ hb ho => e_lcall (c4) (fun i => i) (fun i => i) rfl (by first | ((repeat' (first | exact .nil | refine .cons rfl rfl rfl ?_ | refine .vw rfl (by first | exact .t _ | exact .own rfl (by rfl) | exact .nil _ | exact .emp _ | exact .fn _) ?_)) <;> fail) | fail) .nil .nil rfl rfl (by first | ((repeat' (first | exact .nil | refine .old rfl ?_ | refine .new (hb _ rfl rfl) ?_)) <;> fail) | fail) (by first | ((repeat' (first | exact .nil | refine .old rfl ?_ | refine .new (ho _ rfl rfl) ?_)) <;> fail) | fail) .nil) ?_ | refine sany_eff [] [(101, _)] (.free rfl rfl) rfl rfl (fun _ _ hb ho => e_lcall (c5) (fun i => i) (fun i => i) rfl (by ((repeat' (first | exact .nil | refine .cons rfl rfl rfl ?_)) <;> fail)) .nil .nil rfl rfl (by ((repeat' (exact .nil)) <;> fail)) (by ((repeat' (first | exact .nil | refine .old rfl ?_ | refine .new (ho _ rfl rfl) ?_)) <;> fail)) .nil) ?_) <;> (refine yp (fun _ _ => po_buildS str28 rfl (pc (pc (pc .nil))) rfl) ?_) <;> refine sany_eff [(9, _)] [] (.free rfl rfl) rfl rfl (fun _ _ hb _ => e_allocS str28 rfl (hb 9 rfl rfl)) ?_ <;> refine sany_eff [(9, _)] [] (.free rfl rfl) rfl rfl (fun _ _ _ _ => e_store rfl rfl rfl rfl rfl rfl (tyT rfl) rfl rfl) ?_ <;> refine sany_nil ?_) | (refine rg 4 ?_; refine oMv ?_; (first | refine sops_lcall (c5) (fun i => i) (fun i => i) (fun _ => false) (.free rfl rfl) rfl rfl rfl (by first | ((repeat' (first | exact .nil | refine .cons rfl rfl rfl ?_ | refine .vw rfl (by exact .t _) ?_)) <;> fail) | fail) .nil .nil rfl rfl (fun _ h => Bool.noConfusion h) ?_ | refine sops_lcall (c4) (fun i => i) (fun i => i) (fun _ => false) (.free rfl rfl) rfl rfl rfl (by first | ((repeat' (first | exact .nil | refine .cons rfl rfl rfl ?_ | refine .vw rfl (by exact .t _) ?_)) <;> fail) | fail) .nil .nil rfl rfl (fun _ h => Bool.noConfusion h) ?_ | refine oC (c1) rfl (ac (ac .nil)) ?_ | refine oC (c2) rfl (ac (ac .nil)) ?_ | refine oC (c3) rfl (ac (ac .nil)) ?_ | refine oC (c6) rfl (ac (ac .nil)) ?_); refine sp (po_not rfl rfl) ?_; refine oAs ?_; refine oN ?_) | refine gc ?_ | refine ct ?_ | refine cf ?_ | refine swp_cond rfl (fun hc => ?_) (fun hc => ?_) | refine rq rfl (.cell rfl rfl (tyT rfl) (vc (vc (vc .nil))) rfl (rt .nil)) ?_)
  cases b1 with
  | false =>
    repeat' (first | (refine rg 5 ?_; refine oMv ?_; refine sp (po_not rfl rfl) ?_; refine oMv ?_; (first | refine oMv ?_ | refine oK ?_) <;> (first | refine sp (po_not rfl rfl) ?_ | refine oK ?_) <;> refine oPt ?_ <;> refine oMv ?_ <;> (first | refine oMv ?_ | refine oK ?_) <;> (first | refine sp (po_not rfl rfl) ?_ | refine oK ?_) <;> refine oPt ?_ <;> refine oMv ?_ <;> (first | refine sp (po_load_bx_agg rfl rfl (tyT rfl) rfl (vc (vc (vc .nil))) rfl) ?_ | refine sp (po_load_agg rfl rfl (tyT rfl) rfl rfl) ?_ | refine oK ?_) <;> (first | refine oC (c7) rfl (ac .nil) ?_ | refine oK ?_) <;> (first | refine sp (po_not rfl rfl) ?_ | refine oK ?_) <;> refine oPt ?_ <;> refine oN ?_) | (refine rg 6 ?_; refine sp (po_buildS str28 rfl .nil rfl) ?_; refine oS ?_; refine oAs ?_; refine oN ?_) | refine gc ?_ | refine ct ?_ | refine cf ?_ | refine swp_cond rfl (fun hc => ?_) (fun hc => ?_) | refine rq rfl (.cell rfl rfl (tyT rfl) (vc (vc (vc .nil))) rfl (rt .nil)) ?_)
    rfl
  | true =>
    cases b2 with
    | false =>
      repeat' (first | (refine rg 5 ?_; refine oMv ?_; refine sp (po_not rfl rfl) ?_; refine oMv ?_; refine oMv ?_ <;> refine sp (po_not rfl rfl) ?_ <;> (first | refine oPt ?_ | refine oPf ?_) <;> refine oMv ?_ <;> (first | refine oMv ?_ | refine oK ?_) <;> (first | refine sp (po_not rfl rfl) ?_ | refine oK ?_) <;> refine oPt ?_ <;> refine oMv ?_ <;> (first | refine sp (po_load_bx_agg rfl rfl (tyT rfl) rfl (vc (vc (vc .nil))) rfl) ?_ | refine sp (po_load_agg rfl rfl (tyT rfl) rfl rfl) ?_ | refine oK ?_) <;> (first | refine oC (c7) rfl (ac .nil) ?_ | refine oK ?_) <;> (first | refine sp (po_not rfl rfl) ?_ | refine oK ?_) <;> refine oPt ?_ <;> refine oN ?_) | (refine rg 6 ?_; refine sp (po_buildS str28 rfl .nil rfl) ?_; refine oS ?_; refine oAs ?_; refine oN ?_) | refine gc ?_ | refine ct ?_ | refine cf ?_ | refine swp_cond rfl (fun hc => ?_) (fun hc => ?_) | refine rq rfl (.cell rfl rfl (tyT rfl) (vc (vc (vc .nil))) rfl (rt .nil)) ?_)
      rfl
    | true =>
      cases b3 with
      | false =>
        repeat' (first | (refine rg 5 ?_; refine oMv ?_; refine sp (po_not rfl rfl) ?_; refine oMv ?_; refine oMv ?_ <;> refine sp (po_not rfl rfl) ?_ <;> (first | refine oPt ?_ | refine oPf ?_) <;> refine oMv ?_ <;> refine oMv ?_ <;> refine sp (po_not rfl rfl) ?_ <;> (first | refine oPt ?_ | refine oPf ?_) <;> refine oMv ?_ <;> (first | refine sp (po_load_bx_agg rfl rfl (tyT rfl) rfl (vc (vc (vc .nil))) rfl) ?_ | refine sp (po_load_agg rfl rfl (tyT rfl) rfl rfl) ?_ | refine oK ?_) <;> (first | refine oC (c7) rfl (ac .nil) ?_ | refine oK ?_) <;> (first | refine sp (po_not rfl rfl) ?_ | refine oK ?_) <;> refine oPt ?_ <;> refine oN ?_) | (refine rg 6 ?_; refine sp (po_buildS str28 rfl .nil rfl) ?_; refine oS ?_; refine oAs ?_; refine oN ?_) | refine gc ?_ | refine ct ?_ | refine cf ?_ | refine swp_cond rfl (fun hc => ?_) (fun hc => ?_) | refine rq rfl (.cell rfl rfl (tyT rfl) (vc (vc (vc .nil))) rfl (rt .nil)) ?_)
        rfl
      | true =>
        cases b4 with
        | false =>
          repeat' (first | (refine rg 5 ?_; refine oMv ?_; refine sp (po_not rfl rfl) ?_; refine oMv ?_; refine oMv ?_ <;> refine sp (po_not rfl rfl) ?_ <;> (first | refine oPt ?_ | refine oPf ?_) <;> refine oMv ?_ <;> refine oMv ?_ <;> refine sp (po_not rfl rfl) ?_ <;> (first | refine oPt ?_ | refine oPf ?_) <;> refine oMv ?_ <;> (refine sp (po_load_bx_agg rfl rfl (tyT rfl) rfl (vc (vc (vc .nil))) rfl) ?_) <;> refine oC (c7) rfl (ac .nil) ?_ <;> refine sp (po_not rfl rfl) ?_ <;> (first | refine oPt ?_ | refine oPf ?_) <;> refine oN ?_) | (refine rg 6 ?_; refine sp (po_buildS str28 rfl .nil rfl) ?_; refine oS ?_; refine oAs ?_; refine oN ?_) | refine gc ?_ | refine ct ?_ | refine cf ?_ | refine swp_cond rfl (fun hc => ?_) (fun hc => ?_) | refine rq rfl (.cell rfl rfl (tyT rfl) (vc (vc (vc .nil))) rfl (rt .nil)) ?_)
          rfl
        | true =>
          repeat' (first | (refine rg 5 ?_; refine oMv ?_; refine sp (po_not rfl rfl) ?_; refine oMv ?_; refine oMv ?_ <;> refine sp (po_not rfl rfl) ?_ <;> (first | refine oPt ?_ | refine oPf ?_) <;> refine oMv ?_ <;> refine oMv ?_ <;> refine sp (po_not rfl rfl) ?_ <;> (first | refine oPt ?_ | refine oPf ?_) <;> refine oMv ?_ <;> (refine sp (po_load_bx_agg rfl rfl (tyT rfl) rfl (vc (vc (vc .nil))) rfl) ?_) <;> refine oC (c7) rfl (ac .nil) ?_ <;> refine sp (po_not rfl rfl) ?_ <;> (first | refine oPt ?_ | refine oPf ?_) <;> refine oN ?_) | (refine rg 7 ?_; (refine sp (po_load_bx_agg rfl rfl (tyT rfl) rfl (vc (vc (vc .nil))) rfl) ?_); refine oS ?_; refine oAs ?_; refine oN ?_) | refine gc ?_ | refine ct ?_ | refine cf ?_ | refine swp_cond rfl (fun hc => ?_) (fun hc => ?_) | refine rq rfl (.cell rfl rfl (tyT rfl) (vc (vc (vc .nil))) rfl (rt .nil)) ?_)
          rfl
/-- the answer that bytes are -/
def oneT (l : List UInt8) : T := if (rawsL l).2 ≠ 0 then .tup [.agg ansT0, .v (.int .i64 (rawsL l).2)] else match (rawsL l).1 with
  | [r] => ofT r
  | _ => .tup [.agg ansT0, .v (.int .i64 2)]
theorem ofT_tup (r : PRaw) : ∃ a e, ofT r = .tup [.agg a, .v (.int .i64 e)] ∧ a.length = 3 := by
  unfold ofT
  split
  · exact ⟨_, _, rfl, rfl⟩
  · exact ⟨_, _, rfl, rfl⟩
set_option maxRecDepth 100000 in
set_option maxHeartbeats 4000000 in
theorem one_ (l : List UInt8) (hl : l.length ≤ 50000) (hok : ∀ r ∈ (rawsL l).1, RawOk r) : PCalls Tryz.prog 11 [.sl 1 (l.map byteT)] (oneT l) := by
  have c1 := raws_ l (by omega)
  unfold rawsT at c1
  unfold oneT
  generalize (rawsL l).1 = x at *
  generalize (rawsL l).2 = e at *
  refine pcalls_of Tryz.func11 rfl rfl Tryz.ntmps11 rfl ?_
  by_cases he : e = 0
  · have e1 : (!decide (e = 0)) = false := by rw [decide_eq_true he]; rfl
    rw [if_pos he] at c1
    rw [if_neg (by simp [he])]
    match x, hok, c1 with
    | [], _, c1 =>
      have e2 : (!decide ((([] : List PRaw).map rawT).length = (1 : Int))) = true := rfl
      repeat' (first | (refine rg 0 ?_; refine sal str28 ?_; refine oAs ?_; refine oN ?_) | (refine rg 1 ?_; refine oMv ?_; refine oC (c1) rfl (ac .nil) ?_; refine oMv ?_; refine oEx ?_; refine oEx ?_; refine oAs ?_; refine oAs ?_; refine oN ?_) | (refine rg 2 ?_; refine oMv ?_; refine oCm ?_; refine oAs ?_; refine oN ?_) | (refine rg 4 ?_; refine oMv ?_; refine sp (pln rfl (tyS rfl)) ?_; refine oCm ?_; refine oAs ?_; refine oN ?_) | (refine rg 5 ?_; refine sp (po_buildS str28 rfl .nil rfl) ?_; refine oS ?_; refine oAs ?_; refine oN ?_) | refine gc ?_ | refine ct ?_ | refine cf ?_ | refine swp_cond rfl (fun hc => ?_) (fun hc => ?_) | refine rq rfl (.cell rfl rfl (tyT rfl) (vc (vc (vc .nil))) rfl (rt .nil)) ?_)
      rfl
    | [r], hok, c1 =>
      have c2 := of_ r (hok r (by simp))
      obtain ⟨a, e3, hof, ha⟩ := ofT_tup r
      rw [hof] at c2
      show SWp _ _ _ (RetQ _ _ (ofT r)) _
      rw [hof]
      match a, ha with
      | [a0, a1, a2], _ =>
        unfold rawT at c2
        have e2 : (!decide ((([r].map rawT).length : Int) = 1)) = false := rfl
        repeat' (first | (refine rg 0 ?_; refine sal str28 ?_; refine oAs ?_; refine oN ?_) | (refine rg 1 ?_; refine oMv ?_; refine oC (c1) rfl (ac .nil) ?_; refine oMv ?_; refine oEx ?_; refine oEx ?_; refine oAs ?_; refine oAs ?_; refine oN ?_) | (refine rg 2 ?_; refine oMv ?_; refine oCm ?_; refine oAs ?_; refine oN ?_) | (refine rg 4 ?_; refine oMv ?_; refine sp (pln rfl (tyS rfl)) ?_; refine oCm ?_; refine oAs ?_; refine oN ?_) | (refine rg 6 ?_; refine oMv ?_; refine sp (pix rfl (tyS rfl)) ?_; (first | refine sp (po_load_bx_agg rfl rfl (tyT rfl) rfl (vc (vc (vc .nil))) rfl) ?_ | refine sp (po_load_agg rfl rfl (tyT rfl) rfl rfl) ?_); (first | refine oC (c1) rfl (ac .nil) ?_ | refine oC (c2) rfl (ac .nil) ?_); refine oEx ?_; refine oEx ?_; refine oS ?_; refine oAs ?_; refine oN ?_) | refine gc ?_ | refine ct ?_ | refine cf ?_ | refine swp_cond rfl (fun hc => ?_) (fun hc => ?_) | refine rq rfl (.cell rfl rfl (tyT rfl) (vc (vc (vc .nil))) rfl (rt .nil)) ?_)
        rfl
    | r :: r2 :: q, _, c1 =>
      have e2 : (!decide ((((r :: r2 :: q).map rawT).length : Int) = 1)) = true := by
        rw [decide_eq_false (by simp; omega)]; rfl
      repeat' (first | (refine rg 0 ?_; refine sal str28 ?_; refine oAs ?_; refine oN ?_) | (refine rg 1 ?_; refine oMv ?_; refine oC (c1) rfl (ac .nil) ?_; refine oMv ?_; refine oEx ?_; refine oEx ?_; refine oAs ?_; refine oAs ?_; refine oN ?_) | (refine rg 2 ?_; refine oMv ?_; refine oCm ?_; refine oAs ?_; refine oN ?_) | (refine rg 4 ?_; refine oMv ?_; refine sp (pln rfl (tyS rfl)) ?_; refine oCm ?_; refine oAs ?_; refine oN ?_) | (refine rg 5 ?_; refine sp (po_buildS str28 rfl .nil rfl) ?_; refine oS ?_; refine oAs ?_; refine oN ?_) | refine gc ?_ | refine ct ?_ | refine cf ?_ | refine swp_cond rfl (fun hc => ?_) (fun hc => ?_) | refine rq rfl (.cell rfl rfl (tyT rfl) (vc (vc (vc .nil))) rfl (rt .nil)) ?_)
      rfl
  · have e1 : (!decide (e = 0)) = true := by rw [decide_eq_false he]; rfl
    rw [if_neg he] at c1
    rw [if_pos he]
    repeat' (first | (refine rg 0 ?_; refine sal str28 ?_; refine oAs ?_; refine oN ?_) | (refine rg 1 ?_; refine oMv ?_; refine oC (c1) rfl (ac .nil) ?_; refine oMv ?_; refine oEx ?_; refine oEx ?_; refine oAs ?_; refine oAs ?_; refine oN ?_) | (refine rg 2 ?_; refine oMv ?_; refine oCm ?_; refine oAs ?_; refine oN ?_) | (refine rg 3 ?_; refine sp (po_buildS str28 rfl .nil rfl) ?_; refine oMv ?_; refine oS ?_; refine oAs ?_; refine oN ?_) | refine gc ?_ | refine ct ?_ | refine cf ?_ | refine swp_cond rfl (fun hc => ?_) (fun hc => ?_) | refine rq rfl (.cell rfl rfl (tyT rfl) (vc (vc (vc .nil))) rfl (rt .nil)) ?_)
    rfl
end Go.Proofs.YtloippgblkoemaaGreatDoor.An

/- Answers: simple ones; whether two are the same; walks. -/
namespace Go.Proofs.YtloippgblkoemaaGreatDoor.An
set_option linter.unusedVariables false
set_option linter.unusedSimpArgs false
open Go.RowKit Mem Sim Opn Hd Str Rq
def simpA (code : Int) (s : ByteArray) : PAns := ⟨code, [⟨clS, digitsP s.size⟩], s.toList⟩
def simpT (code : Int) (s : ByteArray) : T := if mayA (simpA code s) then .tup [.agg (ansT (simpA code s)), .v (.int .i64 0)] else .tup [.agg ansT0, .v (.int .i64 1)]
theorem cl_okA : clS.size ≤ maxLen := by unfold maxLen; decide
set_option maxRecDepth 100000 in
set_option maxHeartbeats 2000000 in
theorem simple_ (code : Int) (s : ByteArray) (hs : s.size ≤ 3000) : PCalls Tryz.prog 22 [.v (.int .i64 code), .v (.string s)] (simpT code s) := by
  have hl := toList_len s
  have hm2 : (s.toList.map byteT).length = s.toList.length := List.length_map _
  have hsm : s.size ≤ maxLen := by unfold maxLen; omega
  have c1 := digits_ s.size (by omega)
  have c2 := may_ (simpA code s) (by simp [simpA]) (fun h hh => by
    simp [simpA] at hh; subst hh
    exact ⟨cl_okA, by have := digitsP_size s.size; show (digitsP s.size).size ≤ maxLen; unfold maxLen; omega⟩) (by simp [simpA]; omega)
  unfold simpT
  unfold ansT at c2 ⊢
  generalize mayA (simpA code s) = m at *
  refine pcalls_of Tryz.func22 rfl rfl Tryz.ntmps22 rfl ?_
  cases m with
  | true =>
    repeat' (first | (refine rg 0 ?_; refine sal str28 ?_; refine oAs ?_; refine oN ?_) | (refine rg 1 ?_; refine oMv ?_; refine oMv ?_; refine sp (po_len_str rfl rfl (tyR rfl)) ?_; refine oC (c1) rfl (ac .nil) ?_; refine sp (po_buildS str65 rfl (pc (pc .nil)) rfl) ?_; refine sp (po_buildSlice rfl (tyE rfl) (dc (.nil _)) rfl rfl rfl) ?_; refine oMv ?_; refine sops_str_bytes 101 (.free rfl rfl) rfl rfl rfl rfl (tyR rfl) byt23 (by assumption) rfl ?_; refine sp (po_buildS str28 rfl (pc (pc (pc .nil))) rfl) ?_; refine sal str28 ?_; refine oS ?_; refine oN ?_) | (refine rg 2 ?_; (refine sp (po_load_bx_agg rfl rfl (tyT rfl) rfl (vc (vc (vc .nil))) rfl) ?_); (first | refine oC (c1) rfl (ac .nil) ?_ | refine oC (c2) rfl (ac .nil) ?_); refine sp (po_not rfl rfl) ?_; refine oN ?_) | (refine rg 4 ?_; (refine sp (po_load_bx_agg rfl rfl (tyT rfl) rfl (vc (vc (vc .nil))) rfl) ?_); refine oS ?_; refine oAs ?_; refine oN ?_) | refine gc ?_ | refine ct ?_ | refine cf ?_ | refine swp_cond rfl (fun hc => ?_) (fun hc => ?_) | refine rq rfl (.cell rfl rfl (tyT rfl) (vc (vc (vc .nil))) rfl (rt .nil)) ?_)
    rfl
  | false =>
    repeat' (first | (refine rg 0 ?_; refine sal str28 ?_; refine oAs ?_; refine oN ?_) | (refine rg 1 ?_; refine oMv ?_; refine oMv ?_; refine sp (po_len_str rfl rfl (tyR rfl)) ?_; refine oC (c1) rfl (ac .nil) ?_; refine sp (po_buildS str65 rfl (pc (pc .nil)) rfl) ?_; refine sp (po_buildSlice rfl (tyE rfl) (dc (.nil _)) rfl rfl rfl) ?_; refine oMv ?_; refine sops_str_bytes 101 (.free rfl rfl) rfl rfl rfl rfl (tyR rfl) byt23 (by assumption) rfl ?_; refine sp (po_buildS str28 rfl (pc (pc (pc .nil))) rfl) ?_; refine sal str28 ?_; refine oS ?_; refine oN ?_) | (refine rg 2 ?_; (refine sp (po_load_bx_agg rfl rfl (tyT rfl) rfl (vc (vc (vc .nil))) rfl) ?_); (first | refine oC (c1) rfl (ac .nil) ?_ | refine oC (c2) rfl (ac .nil) ?_); refine sp (po_not rfl rfl) ?_; refine oN ?_) | (refine rg 3 ?_; refine sp (po_buildS str28 rfl .nil rfl) ?_; refine oS ?_; refine oAs ?_; refine oN ?_) | refine gc ?_ | refine ct ?_ | refine cf ?_ | refine swp_cond rfl (fun hc => ?_) (fun hc => ?_) | refine rq rfl (.cell rfl rfl (tyT rfl) (vc (vc (vc .nil))) rfl (rt .nil)) ?_)
    rfl
end Go.Proofs.YtloippgblkoemaaGreatDoor.An

/- A logic of states: a text appended to a row of bytes. -/
namespace Go.Proofs.YtloippgblkoemaaGreatDoor.Sim
set_option linter.unusedVariables false
set_option linter.unusedSimpArgs false
open Go.RowKit Mem
theorem toList_data (s : ByteArray) : s.toList = s.data.toList := by
  have h := bs_toList s.data.toList
  exact h
theorem strCells_bytes (s : ByteArray) : Lib.strCells s = s.toList.map fun b => Value.int .u8 (b.toNat : Int) := by rw [toList_data]; rfl
theorem run_append_str_roomM {P : Program} (w : World) (t u ty e : TypeId) (i : TypeInfo) (ht : P.underlying t = some (.slice e)) (hu : P.underlying u = some .string) (hi : P.info? e = some i) (hs1 : i.size = 1)
    (g sLen sCap : Nat) (cur : Array Value) (fz : Nat × Nat) (hg : w.heap[g]? = some (.cells cur e fz)) (hfz : FzOk fz cur.size) (s : ByteArray)
    (hroom : sLen + s.size ≤ sCap) (hfit : sLen + s.size ≤ cur.size) :
    (Builtin.append_ #[t, u] ty #[.slice (some ⟨g, 0, none⟩) sLen sCap, .string s]).run P w =
      .ok (.slice (some ⟨g, 0, none⟩) (sLen + s.size) sCap) (w.setRow g (cur.toList.take sLen ++ Lib.strCells s ++ cur.toList.drop (sLen + s.size)).toArray) := by
  have hf := Lib.run_firstCells_string (P := P) w 1 s
  have hst := run_storeCells_atM P g sLen e fz (Lib.strCells s) 0 cur w hg hfz (by simpa [Lib.strCells_length] using hfit) (Lib.strCells_oneCell s)
  simp only [Nat.add_zero, Lib.strCells_length] at hst
  simp [Builtin.append_, run_underlying ht, run_underlying hu, sizeOf, typeInfo, hi, hs1, Builtin.lenOf, hroom, hf, Addr.add_lit, hst]
theorem run_append_str3 {P : Program} (w : World) (base : Nat) (t u ty e : TypeId) (i : TypeInfo) (ht : P.underlying t = some (.slice e)) (hu : P.underlying u = some .string) (hi : P.info? e = some i) (hz : i.zero = some (.int .u8 0))
    (hsize : i.size = 1) (hby : i.bytes = 1) (v : Value) (n : Nat) (xs : List Value) (hown : RowM w base e 1 v n xs) (s : ByteArray)
    (h63 : n + s.size ≤ maxLen) (hbytes : n + s.size ≤ 140737488355328) (hbase : base ≤ w.heap.size) :
    ∃ v' w', (Builtin.append_ #[t, u] ty #[v, .string s]).run P w = .ok v' w' ∧ RowM w' base e 1 v' (n + s.size) (xs ++ Lib.strCells s) ∧
      ((v'.ownBlock = v.ownBlock ∧ w.grownBy w' v.ownBlock) ∨ ((∀ g, v'.ownBlock = some g → w.heap.size ≤ g) ∧ Lo w w')) := by
  obtain ⟨hxl, ⟨rfl, rfl⟩ | ⟨g, cap, cur, rfl, hbg, ⟨fz, hg, hfz⟩, hnc, hcm, hcs, htk⟩⟩ := hown
  · obtain ⟨v2, w2, hr2, h22, h3, _⟩ := Lib.run_append_own_string (P := P) w w.heap.size t u ty e i ht hu hi hz hsize hby (.slice none 0 0) 0 xs ⟨hxl, .inl ⟨rfl, rfl⟩⟩ s h63 hbytes (Nat.le_refl _)
    exact ⟨v2, w2, hr2, (RowM.of h22).low hbase, .inr ⟨fun g hg => (h22.lt g hg).1, Lo.of_grown h3⟩⟩
  · have hxl' : xs.length = n := by simpa using hxl
    have hlen : (xs ++ Lib.strCells s).length = (n + s.size) * 1 := by rw [List.length_append, hxl', Lib.strCells_length, Nat.mul_one]
    have hcs' : cap ≤ cur.size := by simpa using hcs
    by_cases hroom : n + s.size ≤ cap
    · have hr2 := run_append_str_roomM (P := P) w t u ty e i ht hu hi hsize g n cap cur fz hg hfz s hroom (by omega)
      have hcl : cur.toList.length = cur.size := by simp
      refine ⟨_, _, hr2, ⟨hlen, .inr ⟨g, cap, _, rfl, hbg, ⟨fz, setRow_heap w g cur _ e fz hg, ?_⟩, hroom, hcm, ?_, ?_⟩⟩, .inl ⟨rfl, rfl, rfl, rfl, by simp [World.setRow], fun k hk hne => setRow_other w g k _ (fun e => hne (by rw [e]; rfl))⟩⟩
      · have : (cur.toList.take n ++ Lib.strCells s ++ cur.toList.drop (n + s.size)).toArray.size = cur.size := by
          simp only [List.size_toArray, List.length_append, List.length_take, List.length_drop, Lib.strCells_length]; rw [hcl]; omega
        rw [this]; exact hfz
      · simp only [List.size_toArray, List.length_append, List.length_take, List.length_drop, Lib.strCells_length]; rw [hcl]; omega
      · have ht' : cur.toList.take n = xs := by simpa using htk
        simp only [List.append_assoc]
        rw [ht', ← List.append_assoc, ← hlen]
        exact List.take_left
    · have holds : ∀ (j : Nat) u, xs[j]? = some u → w.cell? ((⟨g, 0, none⟩ : Addr).add j) = some u := RowM.cells (base := base) (e := e) (v := .slice (some ⟨g, 0, none⟩) n cap) (n := n) ⟨hxl, .inr ⟨g, cap, cur, rfl, hbg, ⟨fz, hg, hfz⟩, hnc, hcm, hcs, htk⟩⟩ rfl
      have hsmall : n + s.size ≤ 9223372036854775807 := by simp only [maxLen] at h63; omega
      have hr2 := Lib.run_append_grow_string (P := P) w t u ty e i (.int .u8 0) ht hu hi hz ⟨g, 0, none⟩ n cap xs (by rw [hsize]; omega) holds s (by omega) (by omega) (by rw [hby]; exact growslice_fits (by omega) (by omega))
      have hge := grownCap_ge w (n + s.size) cap e
      have hcm' : grownCap w (n + s.size) cap e ≤ maxLen := grownCap_le_maxLen w (n + s.size) cap e h63
      refine ⟨_, _, hr2, ⟨hlen, .inr ⟨w.heap.size, _, _, rfl, hbase, ⟨(0, 0), heap_alloc_new w.drew _, .inl rfl⟩, hge, hcm', ?_, ?_⟩⟩, .inr ⟨fun g' hg' => ?_, ((Lo.refl w).drew).alloc _⟩⟩
      · have hz1 : (Value.int IntKind.u8 0).cells.size = 1 := rfl
        simp only [Array.size_append, List.size_toArray, size_zeroCells, hz1, hxl', Lib.strCells_length]
        omega
      · simp only [Array.toList_append, List.append_assoc]
        rw [← List.append_assoc, ← hlen]
        exact List.take_left
      · simp [Value.ownBlock] at hg'
        omega
section
variable {P : Program} {N : Nat} {Q : Exit → St → Prop} {ops : Array Oper} {rest : List Oper} {o : Oper} {tm : List (Nat × A)} {bx : List (Nat × List A)} {ow : List (Nat × Own)}
/-- a text appended to a row of the call's own -/
theorem sops_append_str {t u e : Nat} {x z : Operand} {i n d : Nat} {rows : List (List T)} {s : ByteArray} (hg : o.guard = none) (ho : o.op = .call { callee := .builtin .append, args := #[x, z], argTypes := #[t, u] }) (hd : o.dst = some d) (hN : Nat.blt d N = true)
    (hx : evA tm x = some (.own i n)) (hi : get ow i = some ⟨e, 1, rows⟩) (hn : n = rows.length) (hz : evA tm z = some (.t (.v (.string s)))) (hT : sliceE P t = some (e, 1, 1)) (hU : isStr P u = true) (hZ : (P.info? e).bind (·.zero) = some (.int .u8 0))
    (h0 : 0 < s.size) (hb : rows.length + s.size ≤ 140737488355328)
    (h : SOps P N ops Q rest ⟨(d, .own i (rows ++ s.toList.map byteT).length) :: tm, bx, (i, ⟨e, 1, rows ++ s.toList.map byteT⟩) :: ow⟩) (hp : Nat.ble 2000 i = false := by rfl) : SOps P N ops Q (o :: rest) ⟨tm, bx, ow⟩ := by
  refine sops_run (.free hg rfl) (fun C a w m g hr => ?_) h
  have he := hr.env
  obtain ⟨i', zv, hu, hi', hzz, h4, h5, h6, h7⟩ := sliceE_spec hT
  have hU' := isStr_spec hU
  rw [hi'] at hZ
  have hZ' : i'.zero = some (.int .u8 0) := by simpa using hZ
  obtain ⟨hlw, _, hAx, hgo⟩ := hr.ev hx
  have hln := he.ln i _ hi
  have hvx := hgo (by rw [hln]; exact hn)
  have hvz := tr_v (hr.ev hz)
  obtain ⟨vs, ho1, hrl, hc, hbk⟩ := he.owns i _ hi
  dsimp only at ho1 hrl hc hbk
  have hsz : s.toList.length = s.size := toList_len s
  have hexec : ∀ v' w', (Builtin.append_ #[t, u] o.type #[a.eval x, a.eval z]).run P w = .ok v' w' → (execOp a.eval o).run P w = .ok (.value v') w' := fun v' w' hh => by
    simp only [execOp, ho, resolve, invoke, builtin, Sem.run_bind, Sem.run_pure, Result.andThen_ok, List.map_toArray, List.map_cons, List.map_nil, hh]
  rw [hd]
  have hdN := Nat.lt_of_succ_le (Nat.le_of_ble_eq_true hN)
  obtain ⟨v', w', hrun, hown, hcase⟩ := run_append_str3 (P := P) w 0 t u o.type e i' hu hU' hi' hZ' h4 h5 (g.go i) rows.length vs ho1 s (by unfold maxLen; omega) hb (Nat.zero_le _)
  refine ⟨v', w', hexec _ _ (by rw [hvz, hvx]; exact hrun), ?_⟩
  have hlr : (rows ++ s.toList.map byteT).length = rows.length + s.size := by rw [List.length_append, List.length_map, hsz]
  obtain ⟨h8, h9⟩ := he.setO (hp := hp) (i := i) (v := v') (e := e) (sz := 1) (rows := rows ++ s.toList.map byteT) (vs := vs ++ Lib.strCells s) (by rw [hlr]; exact hown) (fun r hr' => by
      rcases List.mem_append.1 hr' with hr' | hr'
      · exact hrl r hr'
      · obtain ⟨b, _, rfl⟩ := List.mem_map.1 hr'; rfl) (by rw [List.flatten_append, strCells_bytes]; exact hc.app (cells_bytes m s.toList)) (.inl ⟨_, hi, by rw [hlr]; show rows.length < _; omega⟩) (by
      rcases hcase with ⟨e1, e2⟩ | hf
      · exact .inl ⟨_, vis i vs, hi, e1, e2, vis_pre fun k u hk => by rw [List.getElem?_append_left (List.getElem?_eq_some_iff.1 hk).1]; exact hk, fun b hb k => (hbk b hb).1 k⟩
      · exact .inr hf)
  refine ⟨_, _, hr.put h8 (fun x u h => h.setO h9 (.inr (by rw [hln, hlr]; show rows.length < _; omega))) hdN ?_⟩
  refine ⟨by simp [Gh.setO], by simp [Gh.setO], ?_, fun _ => by simp [Gh.setO]⟩
  obtain ⟨_, hq⟩ := hown
  rcases hq with ⟨rfl, e2⟩ | ⟨q, cap, cur, rfl, _⟩
  · omega
  · exact ⟨some ⟨q, 0, none⟩, cap, by rw [hlr]⟩
end
end Go.Proofs.YtloippgblkoemaaGreatDoor.Sim
