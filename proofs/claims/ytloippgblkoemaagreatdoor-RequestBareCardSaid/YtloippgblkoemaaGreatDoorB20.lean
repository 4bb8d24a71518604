/- Merged by bundles.py: SimRq6, SimRq7, PlWr, SimAn1. -/
import Derived.Test.YtloippgblkoemaaGreatDoorB19
import Derived.Test.YtloippgblkoemaaGreatDoorB13
import Derived.Test.YtloippgblkoemaaGreatDoorB18
/- The reader of messages: bytes, walked. -/
namespace Go.Proofs.YtloippgblkoemaaGreatDoor.Rq
set_option linter.unusedVariables false
set_option linter.unusedSimpArgs false
open Go.RowKit Mem Sim Opn Hd Str
def FS (r : PRd) (l : List UInt8) (k : Nat) : St := ⟨[(6, .bp 12 0), (29, .t (.sl 1 (l.map byteT))), (30, .t (.v (.int .i64 ((l.map byteT).length : Int)))), (31, .t (.v (.int .i64 (k : Int)))), (4, .bp 4 0)], [(12, rdA (feedP r (l.take k))), (4, [.t (.v (.int .i64 0)), .t (.v (.slice none 0 0)), .t (.v (.string ⟨#[]⟩)), .t (.v (.slice none 0 0)), .t (.v (.slice none 0 0)), .t (.v (.int .i64 0)), .t (.v (.int .i64 0))])], rdO (feedP r (l.take k))⟩
def feedT (r : PRd) : T := .tup [.agg (parsC r), .sl 3 (r.out.map rawT)]
set_option maxRecDepth 100000 in
set_option maxHeartbeats 8000000 in
theorem feed_ {m : Nat} (r : PRd) (h0 : Inv m r) (hout : r.out = []) (l : List UInt8) (hl : m + l.length ≤ 500000) : PCalls Tryz.prog 19 [.agg (parsC r), .sl 1 (l.map byteT)] (feedT (feedP r l)) := by
  have hml : (l.map byteT).length = l.length := List.length_map _
  have co := own_ r (h0.ok (by omega))
  obtain ⟨hp1, hp2⟩ := h0.hp
  refine pcalls_of Tryz.func19 rfl rfl Tryz.ntmps19 rfl ?_
  repeat' (first | refine then_go ?_ | refine swp_seq ?_ | refine swp_scope ?_ | refine swp_label ?_ | refine nog_r ?_ | (refine rg 0 ?_; refine sbx ?_; refine sal str49 ?_; refine aq0 ?_) | (refine rg 1 (aq63 ?_); refine sops_lcall (co) (fun i => i) (fun i => i) (fun _ => false) (.free rfl rfl) rfl rfl rfl (by ((repeat' (first | exact .nil | refine .cons rfl rfl rfl ?_)) <;> fail)) .nil .nil rfl rfl (fun _ h => Bool.noConfusion h) ?_; refine sp (po_build_ag str80 rfl rfl rfl rfl) ?_; refine aq37 ?_) | (refine rg 2 ?_; refine oMv ?_; refine sp (po_nilcheck rfl rfl) ?_; refine oFb ?_; refine oFb ?_; refine oLb ?_; refine oCm ?_; refine oMv ?_; refine oMv ?_ <;> refine sp (po_nilcheck rfl rfl) ?_ <;> refine oFb ?_ <;> refine oFb ?_ <;> refine oLb ?_ <;> refine oCm ?_ <;> (first | refine oPt ?_ | refine oPf ?_) <;> refine oN ?_) | (refine rg 4 ?_; refine oMv ?_; (first | refine sp (po_len_own rfl rfl (tyS rfl)) ?_ | refine sp (pln rfl (tyS rfl)) ?_); refine oMv ?_; refine oN ?_) | refine swp_ret ?_ | refine swp_skip ?_ | refine swp_block ?_ | refine swp_exit ?_ | refine block_go ?_ | refine block_exit ?_ | refine block_far rfl ?_ | refine block_ret ?_ | refine then_ret ?_ | refine then_exit ?_ | refine for_ret ?_ | refine for_exit ?_ | refine ct ?_ | refine cf ?_ | refine sc ?_ ?_ <;> intro hc | refine rq rfl (.cell rfl rfl (tyT rfl) (vc (vc (vc (vc (vc (vc (vc .nil))))))) rfl (rt .nil)) ?_)
  refine swp_weak (weak_own0_bx 25 3 (i := 12) (j := 7) (q := 1003) rfl rfl rfl) ?_
  have e0 : feedP r (l.take 0) = r := rfl
  refine swp_for (FS r l) (fun _ => True) l.length (weak_sub (.cons rfl (by first | rfl | ((first | (rw [e0]; unfold rdA; rw [hout]; rfl) | (rw [e0, hout]; rfl) | (show _ = Own.mk _ _ (List.map rawT (feedP r (l.take 0)).out); rw [e0, hout]; rfl)))) rfl (.cons rfl (by first | rfl | ((first | (rw [e0]; unfold rdA; rw [hout]; rfl) | (rw [e0, hout]; rfl) | (show _ = Own.mk _ _ (List.map rawT (feedP r (l.take 0)).out); rw [e0, hout]; rfl)))) rfl (.cons rfl (by first | rfl | ((first | (rw [e0]; unfold rdA; rw [hout]; rfl) | (rw [e0, hout]; rfl) | (show _ = Own.mk _ _ (List.map rawT (feedP r (l.take 0)).out); rw [e0, hout]; rfl)))) rfl (.cons rfl (by first | rfl | ((first | (rw [e0]; unfold rdA; rw [hout]; rfl) | (rw [e0, hout]; rfl) | (show _ = Own.mk _ _ (List.map rawT (feedP r (l.take 0)).out); rw [e0, hout]; rfl)))) rfl (.cons rfl (by first | rfl | ((first | (rw [e0]; unfold rdA; rw [hout]; rfl) | (rw [e0, hout]; rfl) | (show _ = Own.mk _ _ (List.map rawT (feedP r (l.take 0)).out); rw [e0, hout]; rfl)))) rfl .nil))))) (.cons rfl (by first | rfl | ((first | (rw [e0]; unfold rdA; rw [hout]; rfl) | (rw [e0, hout]; rfl) | (show _ = Own.mk _ _ (List.map rawT (feedP r (l.take 0)).out); rw [e0, hout]; rfl)))) rfl (.cons rfl (by first | rfl | ((first | (rw [e0]; unfold rdA; rw [hout]; rfl) | (rw [e0, hout]; rfl) | (show _ = Own.mk _ _ (List.map rawT (feedP r (l.take 0)).out); rw [e0, hout]; rfl)))) rfl .nil)) (.cons rfl (by first | rfl | ((first | (rw [e0]; unfold rdA; rw [hout]; rfl) | (rw [e0, hout]; rfl) | (show _ = Own.mk _ _ (List.map rawT (feedP r (l.take 0)).out); rw [e0, hout]; rfl)))) (.cons rfl (by first | rfl | ((first | (rw [e0]; unfold rdA; rw [hout]; rfl) | (rw [e0, hout]; rfl) | (show _ = Own.mk _ _ (List.map rawT (feedP r (l.take 0)).out); rw [e0, hout]; rfl)))) (.cons rfl (by first | rfl | ((first | (rw [e0]; unfold rdA; rw [hout]; rfl) | (rw [e0, hout]; rfl) | (show _ = Own.mk _ _ (List.map rawT (feedP r (l.take 0)).out); rw [e0, hout]; rfl)))) .nil)))) trivial ?_
  intro k hk _
  have hI := h0.feed l hl k hk
  unfold FS
  by_cases hlt : k < l.length
  · have hsn := feed_snoc r l hlt
    have hst := feed_stop r l k
    have hmk : (l.map byteT)[k]? = some (byteT l[k]) := map_at hlt
    generalize feedP r (l.take k) = q at *
    generalize l[k] = c at hsn hmk
    have hok := hI.ok (by omega)
    have hf := hI.hf
    have hp := hI.hp
    by_cases he : q.err = 0
    · have e1 : (!decide (q.err = 0)) = false := by rw [decide_eq_true he]; rfl
      by_cases hph : q.phase ≠ 2 ∧ q.phase ≠ 4
      · have hb : byteP q c = takeP q c := by unfold byteP; rw [if_neg (by simp [he]), if_pos hph]
        rw [hb] at hsn
        obtain ⟨hph2, hph4⟩ := hph
        have e2 : (!decide (q.phase = 2)) = true := by rw [decide_eq_false hph2]; rfl
        have e4 : (!decide (q.phase = 4)) = true := by rw [decide_eq_false hph4]; rfl
        have c9 := take_ q (by unfold LineP; omega) hok c
        repeat' (first | refine for_next hlt (weak_sub (.cons rfl (by rfl) rfl (.cons rfl (by rfl) rfl (.cons rfl (by rfl) rfl (.cons rfl (by rfl) rfl (.cons rfl (by rfl) rfl .nil))))) (.cons rfl (by first | rfl | ((rw [hsn]; try rfl))) rfl (.cons rfl (by rfl) rfl .nil)) (.cons rfl (by first | rfl | ((rw [hsn]; try rfl))) (.cons rfl (by first | rfl | ((rw [hsn]; try rfl))) (.cons rfl (by first | rfl | ((rw [hsn]; try rfl))) .nil)))) trivial | refine rg 5 (aq6 ?_) | refine rg 6 (aq64 ?_) | refine rg 7 (aq56 ?_) | refine rg 8 (aq65 ?_) | (refine rg 9 (aq15 ?_); refine sops_lcall (c9) (fun i => bif Nat.beq i 2000 then 12 else i) (fun i => i) (fun _ => false) (.free rfl rfl) rfl rfl rfl (by ((repeat' (first | exact .nil | refine .cons rfl rfl rfl ?_)) <;> fail)) (.cons rfl rfl .nil) (.cons rfl rfl (.cons rfl rfl (.cons rfl rfl .nil))) rfl rfl (fun _ h => Bool.noConfusion h) ?_; refine oN ?_) | refine rg 16 (aq9 ?_) | refine gc ?_ | refine ct ?_ | refine cf ?_)
      · have hb : byteP q c = bodyByte q c := by unfold byteP; rw [if_neg (by simp [he]), if_neg hph]
        rw [hb, bodyByte_eq] at hsn
        have hmq : (q.raw.body.map byteT).length = q.raw.body.length := List.length_map _
        have hbb := hok.hb
        have hbd : ((q.raw.body.map byteT).length + 1) * 1 ≤ 140737488355328 := by omega
        have hbm : (q.raw.body.map byteT).length + 1 ≤ maxLen := by unfold maxLen; omega
        have hA : rdA (bodyR q c) = [.t (.v (.int .i64 q.phase)), .own 1001 (q.line.map byteT).length, .t (.v (.string q.raw.start)), .t (headsT q.raw.heads), .own 1002 (q.raw.body.map byteT ++ [byteT c]).length, .t (.v (.int .i64 (q.left - 1))), .t (.v (.int .i64 q.err)), .own 1003 (q.out.map rawT).length] := by
          unfold rdA bodyR; rw [List.map_append]; rfl
        have hO : rdO (bodyR q c) = [(1001, ⟨5, 1, q.line.map byteT⟩), (1002, ⟨5, 1, q.raw.body.map byteT ++ [byteT c]⟩), (1003, ⟨25, 3, q.out.map rawT⟩)] := by
          unfold rdO bodyR; rw [List.map_append]; rfl
        have hA5 : rdA { bodyR q c with phase := 5, left := 0 } = [.t (.v (.int .i64 5)), .own 1001 (q.line.map byteT).length, .t (.v (.string q.raw.start)), .t (headsT q.raw.heads), .own 1002 (q.raw.body.map byteT ++ [byteT c]).length, .t (.v (.int .i64 0)), .t (.v (.int .i64 q.err)), .own 1003 (q.out.map rawT).length] := by
          unfold rdA bodyR; rw [List.map_append]; rfl
        have hO5 : rdO { bodyR q c with phase := 5, left := 0 } = [(1001, ⟨5, 1, q.line.map byteT⟩), (1002, ⟨5, 1, q.raw.body.map byteT ++ [byteT c]⟩), (1003, ⟨25, 3, q.out.map rawT⟩)] := by
          unfold rdO bodyR; rw [List.map_append]; rfl
        have hB : (bodyR q c).raw.body.map byteT = q.raw.body.map byteT ++ [byteT c] := by unfold bodyR; rw [List.map_append]; rfl
        have c15 := whole_ (bodyR q c) hok.ho
        rw [hA, hO] at c15
        have hl1 : (bodyR q c).left = q.left - 1 := rfl
        have hl2 : (bodyR q c).phase = q.phase := rfl
        rw [hl1, hl2] at hsn
        have hph' : (q.phase = 2 ∧ (!decide (q.phase = 2)) = false) ∨ (q.phase = 4 ∧ q.phase ≠ 2 ∧ (!decide (q.phase = 2)) = true ∧ (!decide (q.phase = 4)) = false) := by
          by_cases h2 : q.phase = 2
          · exact .inl ⟨h2, by rw [decide_eq_true h2]; rfl⟩
          · have h4 : q.phase = 4 := by omega
            exact .inr ⟨h4, h2, by rw [decide_eq_false h2]; rfl, by rw [decide_eq_true h4]; rfl⟩
        by_cases hleft : 0 < q.left - 1
        · rw [if_pos hleft] at hsn
          rcases hph' with ⟨h2, e2⟩ | ⟨h4, h2, e2, e4⟩
          · repeat' (first | refine for_next hlt (weak_sub (.cons rfl (by rfl) rfl (.cons rfl (by rfl) rfl (.cons rfl (by rfl) rfl (.cons rfl (by rfl) rfl (.cons rfl (by rfl) rfl .nil))))) (.cons rfl (by first | rfl | ((rw [hsn]; first | rfl | exact hA.symm))) rfl (.cons rfl (by rfl) rfl .nil)) (.cons rfl (by first | rfl | ((rw [hsn]; rfl))) (.cons rfl (by first | rfl | ((rw [hsn]; first | rfl | exact hA.symm | exact hA | exact congrArg (fun x => Own.mk _ _ x) hB.symm))) (.cons rfl (by first | rfl | ((rw [hsn]; rfl))) .nil)))) trivial | refine rg 5 (aq6 ?_) | refine rg 6 (aq64 ?_) | refine rg 7 (aq56 ?_) | refine rg 8 (aq66 ?_) | refine rg 10 (aq67 ?_) | (refine rg 11 (aq68 ?_); (first | refine sp (po_dec rfl rfl rfl (by omega)) ?_ | refine sp (po_arith rfl rfl rfl (ar_sub (by first | rfl | (refine wrap_i64 ?_; omega)) rfl)) ?_); refine aq69 ?_) | refine rg 13 (aq56 ?_) | refine rg 16 (aq9 ?_) | refine gc ?_ | refine ct ?_ | refine cf ?_)
          · repeat' (first | refine for_next hlt (weak_sub (.cons rfl (by rfl) rfl (.cons rfl (by rfl) rfl (.cons rfl (by rfl) rfl (.cons rfl (by rfl) rfl (.cons rfl (by rfl) rfl .nil))))) (.cons rfl (by first | rfl | ((rw [hsn]; first | rfl | exact hA.symm))) rfl (.cons rfl (by rfl) rfl .nil)) (.cons rfl (by first | rfl | ((rw [hsn]; rfl))) (.cons rfl (by first | rfl | ((rw [hsn]; first | rfl | exact hA.symm | exact hA | exact congrArg (fun x => Own.mk _ _ x) hB.symm))) (.cons rfl (by first | rfl | ((rw [hsn]; rfl))) .nil)))) trivial | refine rg 5 (aq6 ?_) | refine rg 6 (aq64 ?_) | refine rg 7 (aq56 ?_) | refine rg 8 (aq65 ?_) | refine rg 10 (aq67 ?_) | (refine rg 11 (aq68 ?_); (first | refine sp (po_dec rfl rfl rfl (by omega)) ?_ | refine sp (po_arith rfl rfl rfl (ar_sub (by first | rfl | (refine wrap_i64 ?_; omega)) rfl)) ?_); refine aq69 ?_) | refine rg 13 (aq56 ?_) | refine rg 16 (aq9 ?_) | refine gc ?_ | refine ct ?_ | refine cf ?_)
        · rw [if_neg hleft] at hsn
          rcases hph' with ⟨h2, e2⟩ | ⟨h4, h2, e2, e4⟩
          · rw [if_pos h2] at hsn
            repeat' (first | refine for_next hlt (weak_sub (.cons rfl (by rfl) rfl (.cons rfl (by rfl) rfl (.cons rfl (by rfl) rfl (.cons rfl (by rfl) rfl (.cons rfl (by rfl) rfl .nil))))) (.cons rfl (by first | rfl | ((rw [hsn]; try rfl))) rfl (.cons rfl (by rfl) rfl .nil)) (.cons rfl (by first | rfl | ((rw [hsn]; try rfl))) (.cons rfl (by first | rfl | ((rw [hsn]; try rfl))) (.cons rfl (by first | rfl | ((rw [hsn]; try rfl))) .nil)))) trivial | refine rg 5 (aq6 ?_) | refine rg 6 (aq64 ?_) | refine rg 7 (aq56 ?_) | refine rg 8 (aq66 ?_) | refine rg 10 (aq67 ?_) | (refine rg 11 (aq68 ?_); (first | refine sp (po_dec rfl rfl rfl (by omega)) ?_ | refine sp (po_arith rfl rfl rfl (ar_sub (by first | rfl | (refine wrap_i64 ?_; omega)) rfl)) ?_); refine aq69 ?_) | refine rg 13 (aq56 ?_) | refine rg 14 (aq56 ?_) | (refine rg 15 ?_; refine oMv ?_; refine sops_lcall (c15) (fun i => bif Nat.beq i 2000 then 12 else i) (fun i => i) (fun _ => false) (.free rfl rfl) rfl rfl rfl (by ((repeat' (first | exact .nil | refine .cons rfl rfl rfl ?_)) <;> fail)) (.cons rfl rfl .nil) (.cons rfl rfl (.cons rfl rfl (.cons rfl rfl .nil))) rfl rfl (fun _ h => Bool.noConfusion h) ?_; refine oN ?_) | refine rg 16 (aq9 ?_) | refine gc ?_ | refine ct ?_ | refine cf ?_)
          · rw [if_neg h2] at hsn
            repeat' (first | refine for_next hlt (weak_sub (.cons rfl (by rfl) rfl (.cons rfl (by rfl) rfl (.cons rfl (by rfl) rfl (.cons rfl (by rfl) rfl (.cons rfl (by rfl) rfl .nil))))) (.cons rfl (by first | rfl | ((rw [hsn]; first | rfl | exact hA5.symm))) rfl (.cons rfl (by rfl) rfl .nil)) (.cons rfl (by first | rfl | ((rw [hsn]; rfl))) (.cons rfl (by first | rfl | ((rw [hsn]; first | rfl | exact hA5.symm | exact hA5 | exact congrArg (fun x => Own.mk _ _ x) hB.symm))) (.cons rfl (by first | rfl | ((rw [hsn]; rfl))) .nil)))) trivial | refine rg 5 (aq6 ?_) | refine rg 6 (aq64 ?_) | refine rg 7 (aq56 ?_) | refine rg 8 (aq65 ?_) | refine rg 10 (aq67 ?_) | (refine rg 11 (aq68 ?_); (first | refine sp (po_dec rfl rfl rfl (by omega)) ?_ | refine sp (po_arith rfl rfl rfl (ar_sub (by first | rfl | (refine wrap_i64 ?_; omega)) rfl)) ?_); refine aq69 ?_) | refine rg 13 (aq56 ?_) | refine rg 14 (aq56 ?_) | (refine rg 12 ?_; refine oMv ?_; refine oMv ?_; refine sp (po_nilcheck rfl rfl) ?_; refine oFb ?_; refine oFb ?_; refine oS ?_; refine sp (po_nilcheck rfl rfl) ?_; refine oFb ?_; refine oFb ?_; refine oS ?_; refine oN ?_) | refine rg 16 (aq9 ?_) | refine gc ?_ | refine ct ?_ | refine cf ?_)
    · have e1 : (!decide (q.err = 0)) = true := by rw [decide_eq_false he]; rfl
      rw [hst he]
      repeat' (first | refine rg 5 (aq6 ?_) | refine rg 6 (aq64 ?_) | refine rg 7 (aq56 ?_) | refine gc ?_ | refine ct ?_ | refine cf ?_ | refine sc ?_ ?_ <;> intro hc | refine rq rfl (.cell rfl rfl (tyT rfl) (vc (vc (vc (vc (vc (vc (vc .nil))))))) rfl (rt .nil)) ?_)
      refine swp_weak (st' := ⟨[(4, .bp 4 0), (6, .bp 12 0)], [(12, rdA q), (4, [.t (.v (.int .i64 0)), .t (.v (.slice none 0 0)), .t (.v (.string ⟨#[]⟩)), .t (.v (.slice none 0 0)), .t (.v (.slice none 0 0)), .t (.v (.int .i64 0)), .t (.v (.int .i64 0))])], rdO q⟩) (weak_sub (.cons rfl rfl rfl (.cons rfl rfl rfl .nil)) (.cons rfl rfl rfl (.cons rfl rfl rfl .nil)) (.cons rfl rfl (.cons rfl rfl (.cons rfl rfl .nil)))) ?_
      refine swp_weak (weak_ren 1001 1 rfl rfl rfl rfl rfl rfl rfl) ?_
      refine swp_weak (weak_ren 1002 2 rfl rfl rfl rfl rfl rfl rfl) ?_
      refine swp_weak (weak_ren 1003 3 rfl rfl rfl rfl rfl rfl rfl) ?_
      repeat' (first | refine gc ?_ | refine nog_r ?_ | ((refine swp_any (id := 17) [[], [], [], [], [], [], [], [], [4], []] [[], [], [], [], [4], [4], [4], [4], [], []] mixed (by kernel_rfl) ?_) <;> refine yp (fun _ _ => po_move rfl rfl) ?_ <;> refine yp (fun _ _ => po_nilcheck rfl rfl) ?_ <;> refine yp (fun _ _ => po_field_bx rfl rfl (tyF rfl)) ?_ <;> (refine yp (fun _ _ => po_load_bx_agg rfl rfl (tyT rfl) rfl (vc (vc (vc (vc (vc (vc (vc .nil))))))) rfl) ?_) <;> refine yp (fun _ _ => po_move rfl rfl) ?_ <;> refine yp (fun _ _ => po_nilcheck rfl rfl) ?_ <;> refine yp (fun _ _ => po_field_bx rfl rfl (tyF rfl)) ?_ <;> refine yp (fun _ _ => po_load_bx rfl rfl (tyT rfl) rfl rfl) ?_ <;> refine sany_eff [(4, _)] [] (.free rfl rfl) rfl rfl (fun _ _ _ _ => e_store rfl rfl rfl rfl rfl rfl (tyT rfl) rfl rfl) ?_ <;> refine yp (fun _ _ => po_assign rfl rfl) ?_ <;> refine sany_nil ?_) | refine ct ?_ | refine cf ?_ | refine sc ?_ ?_ <;> intro hc | refine rq rfl (.cell rfl rfl (tyT rfl) (vc (vc (vc (vc (vc (vc (vc .nil))))))) rfl (rt .nil)) ?_)
      rfl
  · obtain rfl : k = l.length := by omega
    rw [List.take_length]
    generalize feedP r l = q at *
    repeat' (first | refine rg 5 (aq6 ?_) | refine gc ?_ | refine ct ?_ | refine cf ?_ | refine sc ?_ ?_ <;> intro hc | refine rq rfl (.cell rfl rfl (tyT rfl) (vc (vc (vc (vc (vc (vc (vc .nil))))))) rfl (rt .nil)) ?_)
    refine swp_weak (st' := ⟨[(4, .bp 4 0), (6, .bp 12 0)], [(12, rdA q), (4, [.t (.v (.int .i64 0)), .t (.v (.slice none 0 0)), .t (.v (.string ⟨#[]⟩)), .t (.v (.slice none 0 0)), .t (.v (.slice none 0 0)), .t (.v (.int .i64 0)), .t (.v (.int .i64 0))])], rdO q⟩) (weak_sub (.cons rfl rfl rfl (.cons rfl rfl rfl .nil)) (.cons rfl rfl rfl (.cons rfl rfl rfl .nil)) (.cons rfl rfl (.cons rfl rfl (.cons rfl rfl .nil)))) ?_
    refine swp_weak (weak_ren 1001 1 rfl rfl rfl rfl rfl rfl rfl) ?_
    refine swp_weak (weak_ren 1002 2 rfl rfl rfl rfl rfl rfl rfl) ?_
    refine swp_weak (weak_ren 1003 3 rfl rfl rfl rfl rfl rfl rfl) ?_
    repeat' (first | refine gc ?_ | refine nog_r ?_ | ((refine swp_any (id := 17) [[], [], [], [], [], [], [], [], [4], []] [[], [], [], [], [4], [4], [4], [4], [], []] mixed (by kernel_rfl) ?_) <;> refine yp (fun _ _ => po_move rfl rfl) ?_ <;> refine yp (fun _ _ => po_nilcheck rfl rfl) ?_ <;> refine yp (fun _ _ => po_field_bx rfl rfl (tyF rfl)) ?_ <;> (refine yp (fun _ _ => po_load_bx_agg rfl rfl (tyT rfl) rfl (vc (vc (vc (vc (vc (vc (vc .nil))))))) rfl) ?_) <;> refine yp (fun _ _ => po_move rfl rfl) ?_ <;> refine yp (fun _ _ => po_nilcheck rfl rfl) ?_ <;> refine yp (fun _ _ => po_field_bx rfl rfl (tyF rfl)) ?_ <;> refine yp (fun _ _ => po_load_bx rfl rfl (tyT rfl) rfl rfl) ?_ <;> refine sany_eff [(4, _)] [] (.free rfl rfl) rfl rfl (fun _ _ _ _ => e_store rfl rfl rfl rfl rfl rfl (tyT rfl) rfl rfl) ?_ <;> refine yp (fun _ _ => po_assign rfl rfl) ?_ <;> refine sany_nil ?_) | refine ct ?_ | refine cf ?_ | refine sc ?_ ?_ <;> intro hc | refine rq rfl (.cell rfl rfl (tyT rfl) (vc (vc (vc (vc (vc (vc (vc .nil))))))) rfl (rt .nil)) ?_)
    rfl
end Go.Proofs.YtloippgblkoemaaGreatDoor.Rq

/- The reader of messages: all that bytes are, walked. -/
namespace Go.Proofs.YtloippgblkoemaaGreatDoor.Rq
set_option linter.unusedVariables false
set_option linter.unusedSimpArgs false
open Go.RowKit Mem Sim Opn Hd Str
def rawsL (l : List UInt8) : List PRaw × Int := if (feedP rd0 l).err ≠ 0 then ([], (feedP rd0 l).err) else if idleP (feedP rd0 l) then ((feedP rd0 l).out, 0) else ([], 2)
def rawsT (x : List PRaw × Int) : T := if x.2 = 0 then .tup [.sl 3 (x.1.map rawT), .v (.int .i64 x.2)] else .tup [.v (.slice none 0 0), .v (.int .i64 x.2)]
theorem inv_all (l : List UInt8) (hl : l.length ≤ 500000) : Inv l.length (feedP rd0 l) := by
  have := inv0.feed l (by omega) l.length (Nat.le_refl _)
  rwa [List.take_length, Nat.zero_add] at this
set_option maxRecDepth 100000 in
set_option maxHeartbeats 2000000 in
theorem raws_ (l : List UInt8) (hl : l.length ≤ 500000) : PCalls Tryz.prog 34 [.sl 1 (l.map byteT)] (rawsT (rawsL l)) := by
  have hI := inv_all l hl
  have c0 := new_
  have c1 := feed_ rd0 inv0 rfl l (by omega)
  unfold feedT at c1
  have c2 := idle_ (feedP rd0 l) (by have := hI.hl; omega)
  unfold rawsL
  generalize feedP rd0 l = q at *
  refine pcalls_of Tryz.func34 rfl rfl Tryz.ntmps34 rfl ?_
  by_cases he : q.err = 0
  · rw [if_neg (by simp [he])]
    have e1 : (!decide (q.err = 0)) = false := by rw [decide_eq_true he]; rfl
    cases hi : idleP q with
    | true =>
      rw [hi] at c2
      rw [if_pos rfl]
      repeat' (first | refine rg 0 (aq47 ?_) | (refine rg 1 ?_; refine oC (c0) rfl .nil ?_; refine oMv ?_; (first | refine oC (c0) rfl (ac (ac .nil)) ?_ | refine oC (c1) rfl (ac (ac .nil)) ?_); refine aq27 ?_; refine sal str49 ?_; refine aq58 ?_) | refine rg 2 (aq59 ?_) | (refine rg 4 (aq63 ?_); (first | refine oC (c0) rfl (ac .nil) ?_ | refine oC (c1) rfl (ac .nil) ?_ | refine oC (c2) rfl (ac .nil) ?_); refine aq42 ?_) | refine rg 6 (aq49 ?_) | refine gc ?_ | refine ct ?_ | refine cf ?_ | refine sc ?_ ?_ <;> intro hc | refine rq rfl (rt (rt .nil)) ?_)
      rfl
    | false =>
      rw [hi] at c2
      rw [if_neg (by simp)]
      repeat' (first | refine rg 0 (aq47 ?_) | (refine rg 1 ?_; refine oC (c0) rfl .nil ?_; refine oMv ?_; (first | refine oC (c0) rfl (ac (ac .nil)) ?_ | refine oC (c1) rfl (ac (ac .nil)) ?_); refine aq27 ?_; refine sal str49 ?_; refine aq58 ?_) | refine rg 2 (aq59 ?_) | (refine rg 4 (aq63 ?_); (first | refine oC (c0) rfl (ac .nil) ?_ | refine oC (c1) rfl (ac .nil) ?_ | refine oC (c2) rfl (ac .nil) ?_); refine aq42 ?_) | refine rg 5 (aq47 ?_) | refine gc ?_ | refine ct ?_ | refine cf ?_ | refine sc ?_ ?_ <;> intro hc | refine rq rfl (rt (rt .nil)) ?_)
      rfl
  · rw [if_pos he]
    have e1 : (!decide (q.err = 0)) = true := by rw [decide_eq_false he]; rfl
    repeat' (first | refine rg 0 (aq47 ?_) | (refine rg 1 ?_; refine oC (c0) rfl .nil ?_; refine oMv ?_; (first | refine oC (c0) rfl (ac (ac .nil)) ?_ | refine oC (c1) rfl (ac (ac .nil)) ?_); refine aq27 ?_; refine sal str49 ?_; refine aq58 ?_) | refine rg 2 (aq59 ?_) | (refine rd 3 ?_; refine dFb ?_; refine dLb ?_; refine dAs ?_; refine dAs ?_; refine dN ?_; refine oN ?_) | refine gc ?_ | refine ct ?_ | refine cf ?_ | refine sc ?_ ?_ <;> intro hc | refine rq rfl (rt (rt .nil)) ?_)
    unfold rawsT; rw [if_neg he]; rfl
end Go.Proofs.YtloippgblkoemaaGreatDoor.Rq

/- A message's bytes, and that they are read back as it; plain. -/
namespace Go.Proofs.YtloippgblkoemaaGreatDoor.Rq
set_option linter.unusedVariables false
set_option linter.unusedSimpArgs false
open Go.RowKit Mem Sim Opn Hd Str
abbrev crlf : ByteArray := ⟨#[13, 10]⟩
def oddR (c : Nat) : Bool := decide (c < 32) || decide (126 < c)
def oddB (b : UInt8) : Bool := oddR b.toNat
def evenB (b : UInt8) : Bool := !oddB b
def plainP (s : ByteArray) : Bool := s.toList.all evenB
def fitsP (l : List Pl.Head) (b : List UInt8) : Bool := decide ((fram l).2 = 0) && mayL l && decide (b.length ≤ 1024) && (decide ((fram l).1.chunked = 1) || decide ((b.length : Int) = (fram l).1.length))
def wL (r : PRaw) (k : Nat) : List UInt8 := (r.start ++ crlf).toList ++ ((r.heads.take k).flatMap fun h => (lineS h ++ crlf).toList)
theorem wL_succ (r : PRaw) {k : Nat} (hk : k < r.heads.length) : wL r (k + 1) = wL r k ++ (lineS r.heads[k] ++ crlf).toList := by
  unfold wL
  rw [List.take_succ_eq_append_getElem hk, List.flatMap_append, List.append_assoc]; simp
theorem lineS_size {h : Pl.Head} (hg : good h = true) : (lineS h).size ≤ 578 := by
  unfold good at hg
  simp only [Bool.and_eq_true] at hg
  have h1 := mayName_size hg.1
  have h2 := mayValue_size hg.2
  have h3 : (⟨#[58, 32]⟩ : ByteArray).size = 2 := rfl
  unfold lineS
  rw [ByteArray.size_append, ByteArray.size_append, h3]; omega
theorem wL_len (r : PRaw) (hg : ∀ h ∈ r.heads, good h = true) (hs : r.start.size ≤ 578) : ∀ k, k ≤ r.heads.length → (wL r k).length ≤ 600 + 600 * k
  | 0, _ => by
    unfold wL
    have h3 : crlf.size = 2 := rfl
    simp only [List.take_zero, List.flatMap_nil, List.append_nil, toList_len, ByteArray.size_append, h3]; omega
  | k + 1, hk => by
    have ih := wL_len r hg hs k (by omega)
    have h3 : crlf.size = 2 := rfl
    have h4 := lineS_size (hg r.heads[k] (List.getElem_mem _))
    rw [wL_succ r (by omega), List.length_append, toList_len, ByteArray.size_append, h3]; omega
def hexC (n : Nat) : UInt8 := if n % 16 < 10 then UInt8.ofNat (48 + n % 16) else UInt8.ofNat (87 + n % 16)
def hexK (n : Nat) : Nat → List UInt8
  | 0 => []
  | k + 1 => hexC (n / 16 ^ k) :: hexK n k
theorem hexK_len (n : Nat) : ∀ k, (hexK n k).length = k
  | 0 => rfl
  | k + 1 => by unfold hexK; rw [List.length_cons, hexK_len n k]
def hm (n : Nat) : Nat := if n = 0 then 0 else if n ≤ 15 then 1 else if n ≤ 255 then 2 else 3
def hexL (n : Nat) : List UInt8 := hexK n (hm n)
def clean (c : UInt8) : Bool := decide (c.toNat ≠ 10) && decide (c.toNat ≠ 13)
theorem hex_all : (List.range 1025).all (fun n => decide (n = 0) || (decide (sizeP (bs (hexL n)) = (n : Int)) && (hexL n).all clean)) = true := by kernel_rfl
theorem hex_at {n : Nat} (h0 : n ≠ 0) (h : n ≤ 1024) : sizeP (bs (hexL n)) = (n : Int) ∧ (hexL n).all clean = true := by
  have := (List.all_eq_true.1 hex_all) n (List.mem_range.2 (by omega))
  simp only [Bool.or_eq_true, Bool.and_eq_true, decide_eq_true_eq] at this
  rcases this with h1 | h1
  · exact absurd h1 h0
  · exact h1
theorem hm_3 (n : Nat) : hm n ≤ 3 := by unfold hm; repeat' split <;> try omega
def tailL (ch : Int) (b : List UInt8) : List UInt8 := if ch = 0 then b else (if b = [] then [] else hexL b.length ++ [13, 10] ++ b ++ [13, 10]) ++ [48, 13, 10, 13, 10]
def msgP (r : PRaw) : List UInt8 := wL r r.heads.length ++ [13, 10] ++ tailL (fram r.heads).1.chunked r.body
def wrP (r : PRaw) : Bool := plainP r.start && decide (1 ≤ r.start.size) && decide (r.start.size ≤ 578) && fitsP r.heads r.body
theorem feedP_app (r : PRd) (a b : List UInt8) : feedP r (a ++ b) = feedP (feedP r a) b := by unfold feedP; rw [List.foldl_append]
theorem crP_snoc (l : List UInt8) (c : UInt8) : crP (l ++ [c]) = decide (c.toNat = 13) := by unfold crP; simp
theorem clean_iff {c : UInt8} (h : clean c = true) : c.toNat ≠ 10 ∧ c.toNat ≠ 13 := by
  unfold clean at h
  simpa only [Bool.and_eq_true, decide_eq_true_eq] using h
theorem byte_take (r : PRd) (he : r.err = 0) (h2 : r.phase ≠ 2) (h4 : r.phase ≠ 4) (c : UInt8) : byteP r c = takeP r c := by
  unfold byteP
  rw [if_neg (by simp [he]), if_pos ⟨h2, h4⟩]
theorem feed_text (r : PRd) (he : r.err = 0) (h2 : r.phase ≠ 2) (h4 : r.phase ≠ 4) : ∀ (s acc : List UInt8), s.all clean = true → crP acc = false → acc.length + s.length ≤ 578 → feedP { r with line := acc } s = { r with line := acc ++ s }
  | [], acc, _, _, _ => by simp [feedP]
  | c :: s, acc, hs, hc, hl => by
    rw [List.all_cons, Bool.and_eq_true] at hs
    obtain ⟨h10, h13⟩ := clean_iff hs.1
    rw [List.length_cons] at hl
    have e1 : byteP { r with line := acc } c = { r with line := acc ++ [c] } := by
      rw [byte_take { r with line := acc } he h2 h4]
      unfold takeP
      have hx : ¬ (578 ≤ acc.length) := by omega
      simp [h10, hc, hx]
    have ih := feed_text r he h2 h4 s (acc ++ [c]) hs.2 (by rw [crP_snoc]; simp [h13]) (by rw [List.length_append]; simp; omega)
    show feedP (byteP { r with line := acc } c) s = _
    rw [e1, ih, List.append_assoc]; rfl
theorem feed_line (r : PRd) (he : r.err = 0) (h2 : r.phase ≠ 2) (h4 : r.phase ≠ 4) (hl : r.line = []) (s : List UInt8) (hs : s.all clean = true) (hn : s.length ≤ 578) : feedP r (s ++ [13, 10]) = lineP r (bs s) := by
  obtain ⟨ph, ln, raw, left, err, out⟩ := r
  simp only at he h2 h4 hl
  subst he hl
  rw [feedP_app]
  have h1 := feed_text ⟨ph, [], raw, left, 0, out⟩ rfl h2 h4 s [] hs rfl (by simpa using hn)
  simp only [List.nil_append] at h1
  rw [h1]
  have hcs : crP s = false := by
    rcases List.eq_nil_or_concat s with rfl | ⟨t, c, rfl⟩
    · rfl
    · rw [List.concat_eq_append] at hs ⊢
      rw [crP_snoc]
      rw [List.all_append, Bool.and_eq_true] at hs
      have := (clean_iff (by simpa using hs.2)).2
      simp [this]
  show byteP (byteP ⟨ph, s, raw, left, 0, out⟩ 13) 10 = _
  have e1 : byteP ⟨ph, s, raw, left, 0, out⟩ 13 = ⟨ph, s ++ [13], raw, left, 0, out⟩ := by
    rw [byte_take _ rfl h2 h4]
    unfold takeP
    simp [hcs]
  rw [e1, byte_take _ rfl h2 h4]
  unfold takeP
  rw [if_pos ⟨rfl, by rw [crP_snoc]; rfl⟩, List.dropLast_concat]
theorem even_clean {c : UInt8} (h : evenB c = true) : clean c = true := by
  unfold evenB oddB oddR at h
  simp at h
  unfold clean
  simp; omega
theorem plain_clean {s : ByteArray} (h : plainP s = true) : s.toList.all clean = true := List.all_eq_true.2 fun c hc => even_clean ((List.all_eq_true.1 h) c hc)
theorem tok_clean : tokL.all clean = true := by decide
theorem inB_mem {cs : List UInt8} {b : UInt8} (h : inB cs b = true) : b ∈ cs := by
  unfold inB at h
  obtain ⟨x, hx, he⟩ := List.any_eq_true.1 h
  have : x = b := UInt8.toNat_inj.1 (by simpa using he)
  exact this ▸ hx
theorem value_clean {v : List UInt8} (h : mayValueL v = true) : v.all clean = true := by
  unfold mayValueL at h
  rw [Bool.and_eq_true] at h
  refine List.all_eq_true.2 fun c hc => ?_
  obtain ⟨i, hi, rfl⟩ := List.getElem_of_mem hc
  have h1 := (List.all_eq_true.1 h.1) i (List.mem_range.2 hi)
  rw [List.getD_eq_getElem?_getD, List.getElem?_eq_getElem hi] at h1
  simp [vcN] at h1
  unfold clean
  simp; omega
theorem line_clean {h : Pl.Head} (hg : good h = true) : (lineS h).toList.all clean = true := by
  obtain ⟨hn, hv⟩ := good_lists hg
  rw [line_list, bs_toList, List.all_append, Bool.and_eq_true]
  refine ⟨List.all_eq_true.2 fun c hc => (List.all_eq_true.1 tok_clean) c (inB_mem (name_toks hn c hc)), ?_⟩
  rw [List.all_cons, Bool.and_eq_true]
  refine ⟨rfl, ?_⟩
  rw [List.append_nil, List.all_append, Bool.and_eq_true]
  exact ⟨rfl, value_clean hv⟩
theorem bs_list (s : ByteArray) : bs s.toList = s := bs_inj (by rw [bs_toList])
def hst (o : List PRaw) (r : PRaw) (k : Nat) : PRd := ⟨1, [], ⟨r.start, r.heads.take k, []⟩, 0, 0, o⟩
def idl (o : List PRaw) : PRd := ⟨0, [], raw0, 0, 0, o⟩
theorem crlf_list (s : ByteArray) : (s ++ crlf).toList = s.toList ++ [13, 10] := by
  rw [toList_append]
  exact congrArg (s.toList ++ ·) (bs_toList [13, 10])
theorem feed_heads (o : List PRaw) (r : PRaw) (hp : plainP r.start = true) (h1 : 1 ≤ r.start.size) (hs : r.start.size ≤ 578) (hg : ∀ h ∈ r.heads, good h = true) (h24 : r.heads.length ≤ 24) : ∀ k, k ≤ r.heads.length → feedP (idl o) (wL r k) = hst o r k
  | 0, _ => by
    have e : wL r 0 = r.start.toList ++ [13, 10] := by
      unfold wL
      rw [List.take_zero, List.flatMap_nil, List.append_nil, crlf_list]
    rw [e, feed_line (idl o) rfl (by unfold idl; simp) (by unfold idl; simp) rfl r.start.toList (plain_clean hp) (by rw [toList_len]; exact hs), bs_list]
    rfl
  | k + 1, hk => by
    have hgk := hg r.heads[k] (List.getElem_mem _)
    rw [wL_succ r (by omega), feedP_app, feed_heads o r hp h1 hs hg h24 k (by omega), crlf_list]
    rw [feed_line (hst o r k) rfl (by unfold hst; simp) (by unfold hst; simp) rfl _ (line_clean hgk) (by rw [toList_len]; exact lineS_size hgk), bs_list]
    have hne : lineS r.heads[k] ≠ ⟨#[]⟩ := by
      intro h
      have h2 := congrArg ByteArray.size h
      unfold lineS at h2
      have h3 : (⟨#[58, 32]⟩ : ByteArray).size = 2 := rfl
      have h4 : (⟨#[]⟩ : ByteArray).size = 0 := rfl
      rw [ByteArray.size_append, ByteArray.size_append, h3, h4] at h2; omega
    show headerP (hst o r k) (lineS r.heads[k]) = _
    unfold headerP
    rw [if_neg hne, read_back hgk, if_neg (by simp), if_pos hgk]
    have hlen : (hst o r k).raw.heads.length < 24 := by unfold hst; simp; omega
    rw [if_pos hlen]
    unfold hst
    rw [List.take_succ_eq_append_getElem (by omega)]
theorem feed_body : ∀ (b : List UInt8) (r : PRd), r.err = 0 → (r.phase = 2 ∨ r.phase = 4) → b ≠ [] → r.left = (b.length : Int) → feedP r b = if r.phase = 2 then ⟨0, [], raw0, 0, 0, r.out ++ [{ r.raw with body := r.raw.body ++ b }]⟩ else { r with raw := { r.raw with body := r.raw.body ++ b }, phase := 5, left := 0 }
  | [], _, _, _, hb, _ => absurd rfl hb
  | c :: b, r, he, hp, _, hl => by
    have e1 : byteP r c = bodyByte r c := by
      unfold byteP
      rw [if_neg (by simp [he]), if_neg (by omega)]
    show feedP (byteP r c) b = _
    rw [e1, bodyByte_eq]
    rw [List.length_cons] at hl
    have hl1 : (bodyR r c).left = (b.length : Int) := by show r.left - 1 = _; omega
    rw [hl1]
    cases b with
    | nil =>
      rw [if_neg (by simp)]
      by_cases h2 : r.phase = 2
      · rw [if_pos (show (bodyR r c).phase = 2 from h2), if_pos h2]; rfl
      · rw [if_neg (show ¬ (bodyR r c).phase = 2 from h2), if_neg h2]; rfl
    | cons d b =>
      rw [if_pos (by rw [List.length_cons]; omega)]
      have ih := feed_body (d :: b) (bodyR r c) he hp (by simp) hl1
      rw [ih]
      have e2 : (bodyR r c).raw.body ++ d :: b = r.raw.body ++ c :: d :: b := by show r.raw.body ++ [c] ++ d :: b = _; simp
      rw [e2]; rfl
theorem msg_back (r : PRaw) (hw : wrP r = true) (o : List PRaw) : feedP (idl o) (msgP r) = idl (o ++ [r]) := by
  unfold wrP fitsP at hw
  simp only [Bool.and_eq_true, decide_eq_true_eq, Bool.or_eq_true] at hw
  obtain ⟨⟨⟨hp, h1⟩, hs⟩, ⟨⟨hf, hm⟩, hb⟩, hlen⟩ := hw
  have hm' := hm
  unfold mayL at hm'
  simp only [Bool.and_eq_true, decide_eq_true_eq] at hm'
  have hg := fun h hh => (List.all_eq_true.1 hm'.2) h hh
  unfold msgP
  rw [feedP_app, feedP_app, feed_heads o r hp h1 hs hg hm'.1 _ (Nat.le_refl _)]
  have e0 : feedP (hst o r r.heads.length) [13, 10] = bodyP (hst o r r.heads.length) := by
    have := feed_line (hst o r r.heads.length) rfl (by unfold hst; simp) (by unfold hst; simp) rfl [] rfl (by simp)
    simp only [List.nil_append] at this
    rw [this]; rfl
  rw [e0]
  have eh : (hst o r r.heads.length).raw = ⟨r.start, r.heads, []⟩ := by unfold hst; rw [List.take_length]
  have er : hst o r r.heads.length = ⟨1, [], ⟨r.start, r.heads, []⟩, 0, 0, o⟩ := by unfold hst; rw [List.take_length]
  rw [er]
  unfold bodyP
  simp only [hf]
  rw [if_neg (by simp)]
  rcases fram_ch r.heads with hc | hc
  · rw [hc] at hlen ⊢
    have hl : (r.body.length : Int) = (fram r.heads).1.length := by rcases hlen with h | h; · cases h
                                                                    · exact h
    rw [if_neg (by decide)]
    unfold tailL
    rw [if_pos rfl]
    by_cases h0 : (fram r.heads).1.length = 0
    · rw [if_pos h0]
      have : r.body = [] := List.eq_nil_of_length_eq_zero (by omega)
      obtain ⟨rs, rh, rb⟩ := r
      simp only at this; subst this
      rfl
    · rw [if_neg h0]
      have hne : r.body ≠ [] := by intro h; rw [h] at hl; simp at hl; omega
      rw [feed_body r.body _ rfl (.inl rfl) hne hl.symm, if_pos rfl]
      rfl
  · rw [hc] at ⊢
    rw [if_pos rfl]
    unfold tailL
    rw [if_neg (by decide), feedP_app]
    have last : ∀ b, feedP ⟨3, [], ⟨r.start, r.heads, b⟩, 0, 0, o⟩ [48, 13, 10, 13, 10] = idl (o ++ [⟨r.start, r.heads, b⟩]) := by
      intro b
      have q1 := feed_line ⟨3, [], ⟨r.start, r.heads, b⟩, 0, 0, o⟩ rfl (by simp) (by simp) rfl [48] (by decide) (by decide)
      have q2 := feed_line ⟨6, [], ⟨r.start, r.heads, b⟩, 0, 0, o⟩ rfl (by simp) (by simp) rfl [] (by decide) (by decide)
      have : ([48, 13, 10, 13, 10] : List UInt8) = ([48] ++ [13, 10]) ++ ([] ++ [13, 10]) := rfl
      rw [this, feedP_app, q1]
      have z : sizeP (bs [48]) = 0 := by kernel_rfl
      have e3 : lineP ⟨3, [], ⟨r.start, r.heads, b⟩, 0, 0, o⟩ (bs [48]) = ⟨6, [], ⟨r.start, r.heads, b⟩, 0, 0, o⟩ := by
        unfold lineP
        rw [if_neg (by simp), if_neg (by simp), if_pos rfl]
        unfold chunkP
        rw [z, if_neg (by decide), if_pos rfl]
      rw [e3, q2]
      rfl
    by_cases hne : r.body = []
    · rw [if_pos hne]
      have := last []
      show feedP ⟨3, [], ⟨r.start, r.heads, []⟩, 0, 0, o⟩ _ = _
      rw [this]
      obtain ⟨rs, rh, rb⟩ := r
      simp only at hne; subst hne
      rfl
    · rw [if_neg hne]
      have hn0 : r.body.length ≠ 0 := fun h => hne (List.eq_nil_of_length_eq_zero h)
      obtain ⟨hz, hcl⟩ := hex_at hn0 hb
      have q1 := feed_line ⟨3, [], ⟨r.start, r.heads, []⟩, 0, 0, o⟩ rfl (by simp) (by simp) rfl (hexL r.body.length) hcl (by unfold hexL; rw [hexK_len]; have := hm_3 r.body.length; omega)
      have q2 := feed_line ⟨5, [], ⟨r.start, r.heads, r.body⟩, 0, 0, o⟩ rfl (by simp) (by simp) rfl [] (by decide) (by decide)
      rw [List.append_assoc, feedP_app]
      have e3 : feedP (feedP ⟨3, [], ⟨r.start, r.heads, []⟩, 0, 0, o⟩ (hexL r.body.length ++ [13, 10])) (r.body ++ [13, 10]) = ⟨3, [], ⟨r.start, r.heads, r.body⟩, 0, 0, o⟩ := by
        rw [q1, feedP_app]
        have e4 : lineP ⟨3, [], ⟨r.start, r.heads, []⟩, 0, 0, o⟩ (bs (hexL r.body.length)) = ⟨4, [], ⟨r.start, r.heads, []⟩, (r.body.length : Int), 0, o⟩ := by
          unfold lineP
          rw [if_neg (by simp), if_neg (by simp), if_pos rfl]
          unfold chunkP
          rw [hz, if_neg (by omega), if_neg (by omega), if_neg (by simp; omega)]
        rw [e4, feed_body r.body _ rfl (.inr rfl) hne rfl, if_neg (by simp)]
        exact q2
      show feedP (feedP (feedP ⟨3, [], ⟨r.start, r.heads, []⟩, 0, 0, o⟩ _) _) _ = _
      rw [e3, last r.body]
end Go.Proofs.YtloippgblkoemaaGreatDoor.Rq

/- Answers: whether they may be; digits; walks. -/
namespace Go.Proofs.YtloippgblkoemaaGreatDoor.An
set_option linter.unusedVariables false
set_option linter.unusedSimpArgs false
open Go.RowKit Mem Sim Opn Hd Str Rq
set_option maxRecDepth 100000 in
set_option maxHeartbeats 2000000 in
theorem rfits_ (s : ByteArray) (l : List Pl.Head) (hn : l.length ≤ 1000) (hh : ∀ h ∈ l, okHead h) (b : List UInt8) (hb : b.length ≤ 100000) : PCalls Tryz.prog 40 [.agg (rawT ⟨s, l, b⟩)] (.v (.bool (fitsP l b))) := by
  have hm2 : (b.map byteT).length = b.length := List.length_map _
  have c1 := framing_ l hn hh
  have c2 := Hd.mayL_ l hn hh
  unfold framT endT at c1
  unfold fitsP rawT
  generalize (fram l).2 = e at *
  generalize (fram l).1 = f at *
  have hlast : decide (((b.map byteT).length : Int) = f.length) = decide ((b.length : Int) = f.length) := by rw [hm2]
  refine pcalls_of Tryz.func40 rfl rfl Tryz.ntmps40 rfl ?_
  by_cases he : e = 0
  · rw [decide_eq_true he]
    cases hmy : Hd.mayL l with
    | false =>
      rw [hmy] at c2
      repeat' (first | refine rg 0 (aq37 ?_) | (refine rg 1 (aq38 ?_); refine oC (c1) rfl (ac .nil) ?_; refine aq27 ?_; refine sal str89 ?_; refine aq58 ?_) | (refine rg 2 (aq71 ?_) <;> (first | refine oC (c1) rfl (ac .nil) ?_ | refine oC (c2) rfl (ac .nil) ?_) <;> refine oPt ?_ <;> refine oMv ?_ <;> (first | refine oFb ?_ | refine oFd ?_ | refine oK ?_) <;> (first | refine oLb ?_ | refine oLd ?_ | refine oK ?_) <;> (first | refine sp (pln rfl (tyS rfl)) ?_ | refine oK ?_) <;> (first | refine oCm ?_ | refine oK ?_) <;> (first | refine oPt ?_ | refine oPf ?_) <;> refine oMv ?_ <;> (first | refine oFb ?_ | refine oFd ?_ | refine oK ?_) <;> (first | refine oLb ?_ | refine oLd ?_ | refine oK ?_) <;> (first | refine oCm ?_ | refine oK ?_) <;> (first | refine oMv ?_ | refine oK ?_) <;> (first | refine oFb ?_ | refine oFd ?_ | refine oK ?_) <;> (first | refine oLb ?_ | refine oLd ?_ | refine oK ?_) <;> (first | refine sp (pln rfl (tyS rfl)) ?_ | refine oK ?_) <;> (first | refine oFb ?_ | refine oFd ?_ | refine oK ?_) <;> (first | refine oLb ?_ | refine oLd ?_ | refine oK ?_) <;> (first | refine oCm ?_ | refine oK ?_) <;> (first | refine oPt ?_ | refine oPf ?_ | refine oK ?_) <;> (first | refine oPt ?_ | refine oPf ?_) <;> refine oAs ?_ <;> refine oN ?_) | refine gc ?_ | refine ct ?_ | refine cf ?_ | refine sc ?_ ?_ <;> intro hc | refine rq rfl (rt .nil) ?_)
      rfl
    | true =>
      rw [hmy] at c2
      by_cases hbl : b.length ≤ 1024
      · rw [decide_eq_true hbl]
        by_cases hc : f.chunked = 1
        · rw [decide_eq_true hc]
          repeat' (first | refine rg 0 (aq37 ?_) | (refine rg 1 (aq38 ?_); refine oC (c1) rfl (ac .nil) ?_; refine aq27 ?_; refine sal str89 ?_; refine aq58 ?_) | (refine rg 2 (aq71 ?_) <;> (first | refine oC (c1) rfl (ac .nil) ?_ | refine oC (c2) rfl (ac .nil) ?_) <;> refine oPt ?_ <;> refine oMv ?_ <;> refine oFb ?_ <;> refine oLb ?_ <;> refine sp (pln rfl (tyS rfl)) ?_ <;> refine oCm ?_ <;> refine oPt ?_ <;> refine oMv ?_ <;> refine oFb ?_ <;> refine oLb ?_ <;> refine oCm ?_ <;> refine oMv ?_ <;> (first | refine oFb ?_ | refine oFd ?_ | refine oK ?_) <;> (first | refine oLb ?_ | refine oLd ?_ | refine oK ?_) <;> (first | refine sp (pln rfl (tyS rfl)) ?_ | refine oK ?_) <;> (first | refine oFb ?_ | refine oFd ?_ | refine oK ?_) <;> (first | refine oLb ?_ | refine oLd ?_ | refine oK ?_) <;> (first | refine oCm ?_ | refine oK ?_) <;> refine oPt ?_ <;> refine oPt ?_ <;> refine oAs ?_ <;> refine oN ?_) | refine gc ?_ | refine ct ?_ | refine cf ?_ | refine sc ?_ ?_ <;> intro hc | refine rq rfl (rt .nil) ?_)
          rfl
        · rw [decide_eq_false hc]
          repeat' (first | refine rg 0 (aq37 ?_) | (refine rg 1 (aq38 ?_); refine oC (c1) rfl (ac .nil) ?_; refine aq27 ?_; refine sal str89 ?_; refine aq58 ?_) | (refine rg 2 (aq71 ?_) <;> (first | refine oC (c1) rfl (ac .nil) ?_ | refine oC (c2) rfl (ac .nil) ?_) <;> refine oPt ?_ <;> refine oMv ?_ <;> refine oFb ?_ <;> refine oLb ?_ <;> refine sp (pln rfl (tyS rfl)) ?_ <;> refine oCm ?_ <;> refine oPt ?_ <;> refine oMv ?_ <;> refine oFb ?_ <;> refine oLb ?_ <;> refine oCm ?_ <;> refine oMv ?_ <;> refine oFb ?_ <;> refine oLb ?_ <;> refine sp (pln rfl (tyS rfl)) ?_ <;> refine oFb ?_ <;> refine oLb ?_ <;> refine oCm ?_ <;> (first | refine oPt ?_ | refine oPf ?_) <;> refine oPt ?_ <;> refine oAs ?_ <;> refine oN ?_) | refine gc ?_ | refine ct ?_ | refine cf ?_ | refine sc ?_ ?_ <;> intro hc | refine rq rfl (rt .nil) ?_)
          rw [← hlast]; rfl
      · rw [decide_eq_false hbl]
        repeat' (first | refine rg 0 (aq37 ?_) | (refine rg 1 (aq38 ?_); refine oC (c1) rfl (ac .nil) ?_; refine aq27 ?_; refine sal str89 ?_; refine aq58 ?_) | (refine rg 2 (aq71 ?_) <;> (first | refine oC (c1) rfl (ac .nil) ?_ | refine oC (c2) rfl (ac .nil) ?_) <;> refine oPt ?_ <;> refine oMv ?_ <;> refine oFb ?_ <;> refine oLb ?_ <;> refine sp (pln rfl (tyS rfl)) ?_ <;> refine oCm ?_ <;> refine oPt ?_ <;> refine oMv ?_ <;> (first | refine oFb ?_ | refine oFd ?_ | refine oK ?_) <;> (first | refine oLb ?_ | refine oLd ?_ | refine oK ?_) <;> (first | refine oCm ?_ | refine oK ?_) <;> (first | refine oMv ?_ | refine oK ?_) <;> (first | refine oFb ?_ | refine oFd ?_ | refine oK ?_) <;> (first | refine oLb ?_ | refine oLd ?_ | refine oK ?_) <;> (first | refine sp (pln rfl (tyS rfl)) ?_ | refine oK ?_) <;> (first | refine oFb ?_ | refine oFd ?_ | refine oK ?_) <;> (first | refine oLb ?_ | refine oLd ?_ | refine oK ?_) <;> (first | refine oCm ?_ | refine oK ?_) <;> (first | refine oPt ?_ | refine oPf ?_ | refine oK ?_) <;> (first | refine oPt ?_ | refine oPf ?_) <;> refine oAs ?_ <;> refine oN ?_) | refine gc ?_ | refine ct ?_ | refine cf ?_ | refine sc ?_ ?_ <;> intro hc | refine rq rfl (rt .nil) ?_)
        rfl
  · rw [decide_eq_false he]
    repeat' (first | refine rg 0 (aq37 ?_) | (refine rg 1 (aq38 ?_); refine oC (c1) rfl (ac .nil) ?_; refine aq27 ?_; refine sal str89 ?_; refine aq58 ?_) | (refine rg 2 ?_; refine oMv ?_; refine oCm ?_; refine oMv ?_; (first | refine oFb ?_ | refine oFd ?_ | refine oK ?_) <;> (first | refine oLb ?_ | refine oLd ?_ | refine oK ?_) <;> (first | refine oC (c1) rfl (ac .nil) ?_ | refine oK ?_) <;> (first | refine oPt ?_ | refine oPf ?_) <;> refine oMv ?_ <;> (first | refine oFb ?_ | refine oFd ?_ | refine oK ?_) <;> (first | refine oLb ?_ | refine oLd ?_ | refine oK ?_) <;> (first | refine sp (pln rfl (tyS rfl)) ?_ | refine oK ?_) <;> (first | refine oCm ?_ | refine oK ?_) <;> (first | refine oPt ?_ | refine oPf ?_) <;> refine oMv ?_ <;> (first | refine oFb ?_ | refine oFd ?_ | refine oK ?_) <;> (first | refine oLb ?_ | refine oLd ?_ | refine oK ?_) <;> (first | refine oCm ?_ | refine oK ?_) <;> (first | refine oMv ?_ | refine oK ?_) <;> (first | refine oFb ?_ | refine oFd ?_ | refine oK ?_) <;> (first | refine oLb ?_ | refine oLd ?_ | refine oK ?_) <;> (first | refine sp (pln rfl (tyS rfl)) ?_ | refine oK ?_) <;> (first | refine oFb ?_ | refine oFd ?_ | refine oK ?_) <;> (first | refine oLb ?_ | refine oLd ?_ | refine oK ?_) <;> (first | refine oCm ?_ | refine oK ?_) <;> (first | refine oPt ?_ | refine oPf ?_ | refine oK ?_) <;> (first | refine oPt ?_ | refine oPf ?_) <;> refine oAs ?_ <;> refine oN ?_) | refine gc ?_ | refine ct ?_ | refine cf ?_ | refine sc ?_ ?_ <;> intro hc | refine rq rfl (rt .nil) ?_)
    rfl
end Go.Proofs.YtloippgblkoemaaGreatDoor.An
