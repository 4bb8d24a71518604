/- Merged by bundles.py: SimMs2. -/
import Derived.Test.YtloippgblkoemaaGreatDoorO28
/- The document's reader of messages: messages, all; walks. -/
namespace Go.Proofs.YtloippgblkoemaaGreatDoor.Rq
set_option linter.unusedVariables false
set_option linter.unusedSimpArgs false
open Go.RowKit Mem Sim Opn Hd Str
open An (vws_eq)
def zR (r : PRaw) : List T := [.v (.string r.start), headsT r.heads, .v (.slice none 0 0)]
def msgZ (l : List UInt8) : List T := match scan [] l with
  | .wait => z3
  | .bad _ => z3
  | .ok s rest => match (headsM 25 [] rest).2 with
    | .wait => zR ⟨bs s, (headsM 25 [] rest).1, []⟩
    | .bad _ => zR ⟨bs s, (headsM 25 [] rest).1, []⟩
    | .ok rest2 => if (fram (headsM 25 [] rest).1).2 ≠ 0 then zR ⟨bs s, (headsM 25 [] rest).1, []⟩ else if (fram (headsM 25 [] rest).1).1.chunked = 1 then rawT ⟨bs s, (headsM 25 [] rest).1, (chunksM 1025 [] rest2).1⟩ else zR ⟨bs s, (headsM 25 [] rest).1, []⟩
theorem msgZ_len (l : List UInt8) : ∃ a b c, msgZ l = [a, b, c] := by
  unfold msgZ
  repeat' split
  all_goals exact ⟨_, _, _, rfl⟩
def HS (b : List UInt8) (st : ByteArray) (x : List Pl.Head × Nat) : St := ⟨[(0, .t (.sl 1 (b.map byteT))), (10, .t (.v (.int .i64 (x.2 : Int)))), (4, .bp 4 0), (8, .bp 8 0)], [(8, [.t (.v (.string st)), .own 100 (x.1.map headT).length, .t (.v (.slice none 0 0))]), (4, [.t (.v (.string ⟨#[]⟩)), .t (.v (.slice none 0 0)), .t (.v (.slice none 0 0))])], [(100, ⟨65, 2, x.1.map headT⟩)]⟩
set_option maxRecDepth 100000 in
set_option maxHeartbeats 16000000 in
theorem refMessage_ (b : List UInt8) (hb : b.length ≤ 100000) (p0 : Nat) (hp0 : p0 ≤ b.length) : PCalls Tryz.prog 54 [.sl 1 (b.map byteT), .v (.int .i64 (p0 : Int))] (msgT b.length (msgZ (b.drop p0)) (msgM (b.drop p0))) := by
  have hml : (b.map byteT).length = b.length := List.length_map _
  have c1 := refLine_ b hb p0 hp0
  obtain ⟨M, hM⟩ : ∃ M, msgM (b.drop p0) = M := ⟨_, rfl⟩
  obtain ⟨Z, hZ⟩ : ∃ Z, msgZ (b.drop p0) = Z := ⟨_, rfl⟩
  rw [hM, hZ]
  unfold msgM at hM
  unfold msgZ at hZ
  refine pcalls_of Tryz.func54 rfl rfl Tryz.ntmps54 rfl ?_
  cases hsc : scan [] (b.drop p0) with
  | wait =>
    rw [hsc] at hM hZ c1
    simp only at hM hZ
    rw [← hM, ← hZ]
    have c2 := refFault_ 0
    rw [lineT_wait] at c1
    repeat' (first | (refine rg 0 ?_; refine sal str25 ?_; refine oAs ?_; refine oAs ?_; refine oAs ?_; refine oN ?_) | (refine rg 1 ?_; refine sal str25 ?_; refine oN ?_) | (refine rg 2 ?_; refine oMv ?_; refine oMv ?_; refine oC (c1) rfl (ac (ac .nil)) ?_; refine oMv ?_; refine oEx ?_; refine oEx ?_; refine oEx ?_; refine oAs ?_; refine oAs ?_; refine oAs ?_; refine oN ?_) | (refine rg 3 ?_; refine oMv ?_; refine oCm ?_; refine oN ?_) | ((refine swp_any (id := 4) [[], [], [], [4], [], [], []] [[], [], [], [], [], [], []] mixed (by kernel_rfl) ?_) <;> (refine yp (fun _ _ => po_load_bx_agg rfl rfl (tyT rfl) rfl (vc (vc (vc .nil))) rfl) ?_) <;> refine yp (fun _ _ => po_move rfl rfl) ?_ <;> (first | refine yp (fun _ _ => po_call (c1) rfl (ac .nil)) ?_ | refine yp (fun _ _ => po_call (c2) rfl (ac .nil)) ?_) <;> refine sany_eff [(4, _)] [] (.free rfl rfl) rfl rfl (fun _ _ _ _ => e_store rfl rfl rfl rfl rfl rfl (tyT rfl) rfl rfl) ?_ <;> refine yp (fun _ _ => po_assign rfl rfl) ?_ <;> refine yp (fun _ _ => po_assign rfl rfl) ?_ <;> refine yp (fun _ _ => po_assign rfl rfl) ?_ <;> refine sany_nil ?_) | refine gc ?_ | refine ct ?_ | refine cf ?_ | refine swp_cond rfl (fun hc => ?_) (fun hc => ?_) | refine rq rfl (.cell rfl rfl (tyT rfl) (vc (vc (vc .nil))) rfl (rt (rt (rt .nil)))) ?_)
    rfl
  | bad e =>
    have hbad := scan_bad _ _ _ hsc
    rw [hsc] at hM hZ c1
    simp only at hM hZ
    rw [← hM, ← hZ]
    rcases hbad with rfl | rfl
    · have c2 := refFault_ 2
      have c1 : PCalls Tryz.prog 78 [.sl 1 (b.map byteT), .v (.int .i64 (p0 : Int))] (.tup [.v (.string ⟨#[]⟩), .v (.int .i64 0), .v (.int .i64 2)]) := c1
      repeat' (first | (refine rg 0 ?_; refine sal str25 ?_; refine oAs ?_; refine oAs ?_; refine oAs ?_; refine oN ?_) | (refine rg 1 ?_; refine sal str25 ?_; refine oN ?_) | (refine rg 2 ?_; refine oMv ?_; refine oMv ?_; refine oC (c1) rfl (ac (ac .nil)) ?_; refine oMv ?_; refine oEx ?_; refine oEx ?_; refine oEx ?_; refine oAs ?_; refine oAs ?_; refine oAs ?_; refine oN ?_) | (refine rg 3 ?_; refine oMv ?_; refine oCm ?_; refine oN ?_) | ((refine swp_any (id := 4) [[], [], [], [4], [], [], []] [[], [], [], [], [], [], []] mixed (by kernel_rfl) ?_) <;> (refine yp (fun _ _ => po_load_bx_agg rfl rfl (tyT rfl) rfl (vc (vc (vc .nil))) rfl) ?_) <;> refine yp (fun _ _ => po_move rfl rfl) ?_ <;> (first | refine yp (fun _ _ => po_call (c1) rfl (ac .nil)) ?_ | refine yp (fun _ _ => po_call (c2) rfl (ac .nil)) ?_) <;> refine sany_eff [(4, _)] [] (.free rfl rfl) rfl rfl (fun _ _ _ _ => e_store rfl rfl rfl rfl rfl rfl (tyT rfl) rfl rfl) ?_ <;> refine yp (fun _ _ => po_assign rfl rfl) ?_ <;> refine yp (fun _ _ => po_assign rfl rfl) ?_ <;> refine yp (fun _ _ => po_assign rfl rfl) ?_ <;> refine sany_nil ?_) | refine gc ?_ | refine ct ?_ | refine cf ?_ | refine swp_cond rfl (fun hc => ?_) (fun hc => ?_) | refine rq rfl (.cell rfl rfl (tyT rfl) (vc (vc (vc .nil))) rfl (rt (rt (rt .nil)))) ?_)
      rfl
    · have c2 := refFault_ 3
      have c1 : PCalls Tryz.prog 78 [.sl 1 (b.map byteT), .v (.int .i64 (p0 : Int))] (.tup [.v (.string ⟨#[]⟩), .v (.int .i64 0), .v (.int .i64 3)]) := c1
      repeat' (first | (refine rg 0 ?_; refine sal str25 ?_; refine oAs ?_; refine oAs ?_; refine oAs ?_; refine oN ?_) | (refine rg 1 ?_; refine sal str25 ?_; refine oN ?_) | (refine rg 2 ?_; refine oMv ?_; refine oMv ?_; refine oC (c1) rfl (ac (ac .nil)) ?_; refine oMv ?_; refine oEx ?_; refine oEx ?_; refine oEx ?_; refine oAs ?_; refine oAs ?_; refine oAs ?_; refine oN ?_) | (refine rg 3 ?_; refine oMv ?_; refine oCm ?_; refine oN ?_) | ((refine swp_any (id := 4) [[], [], [], [4], [], [], []] [[], [], [], [], [], [], []] mixed (by kernel_rfl) ?_) <;> (refine yp (fun _ _ => po_load_bx_agg rfl rfl (tyT rfl) rfl (vc (vc (vc .nil))) rfl) ?_) <;> refine yp (fun _ _ => po_move rfl rfl) ?_ <;> (first | refine yp (fun _ _ => po_call (c1) rfl (ac .nil)) ?_ | refine yp (fun _ _ => po_call (c2) rfl (ac .nil)) ?_) <;> refine sany_eff [(4, _)] [] (.free rfl rfl) rfl rfl (fun _ _ _ _ => e_store rfl rfl rfl rfl rfl rfl (tyT rfl) rfl rfl) ?_ <;> refine yp (fun _ _ => po_assign rfl rfl) ?_ <;> refine yp (fun _ _ => po_assign rfl rfl) ?_ <;> refine yp (fun _ _ => po_assign rfl rfl) ?_ <;> refine sany_nil ?_) | refine gc ?_ | refine ct ?_ | refine cf ?_ | refine swp_cond rfl (fun hc => ?_) (fun hc => ?_) | refine rq rfl (.cell rfl rfl (tyT rfl) (vc (vc (vc .nil))) rfl (rt (rt (rt .nil)))) ?_)
      rfl
  | ok s rest =>
    obtain ⟨hrd, hrl⟩ := rest_drop hsc
    rw [hsc] at hM hZ c1
    simp only at hM hZ
    rw [lineT_ok] at c1
    repeat' (first | (refine rg 0 ?_; refine sal str25 ?_; refine oAs ?_; refine oAs ?_; refine oAs ?_; refine oN ?_) | (refine rg 1 ?_; refine sal str25 ?_; refine oN ?_) | (refine rg 2 ?_; refine oMv ?_; refine oMv ?_; refine oC (c1) rfl (ac (ac .nil)) ?_; refine oMv ?_; refine oEx ?_; refine oEx ?_; refine oEx ?_; refine oAs ?_; refine oAs ?_; refine oAs ?_; refine oN ?_) | (refine rg 3 ?_; refine oMv ?_; refine oCm ?_; refine oN ?_) | (refine rg 5 ?_; refine oMv ?_; refine oFb ?_; refine oS ?_; refine oN ?_) | refine gc ?_ | refine ct ?_ | refine cf ?_ | refine swp_cond rfl (fun hc => ?_) (fun hc => ?_) | refine rq rfl (.cell rfl rfl (tyT rfl) (vc (vc (vc .nil))) rfl (rt (rt (rt .nil)))) ?_)
    clear c1
    refine swp_weak (weak_own0_bx 65 2 (i := 8) (j := 1) (q := 100) rfl rfl rfl) ?_
    obtain ⟨Hr, hHr⟩ : ∃ Hr, headsM 25 [] rest = Hr := ⟨_, rfl⟩
    rw [hHr] at hM hZ
    refine swp_fam (HS b (bs s)) (fun x => x.2 ≤ b.length ∧ x.1.length ≤ 24 ∧ (∀ h ∈ x.1, okHead h) ∧ ∃ f, f + x.1.length = 25 ∧ headsM f x.1 (b.drop x.2) = Hr) (fun x => 25 - x.1.length) ([], b.length - rest.length) (weak_sub (.cons rfl rfl rfl (.cons rfl rfl rfl (.cons rfl rfl rfl (.cons rfl rfl rfl .nil)))) (.cons rfl rfl rfl (.cons rfl rfl rfl .nil)) (.cons rfl rfl .nil)) ⟨hrl, by simp, by simp, 25, by simp, by rw [← hrd]; exact hHr⟩ ?_
    rintro ⟨hs, p⟩ ⟨hp, hn24, hok, f, hf, hH⟩
    simp only at hp hn24 hok hf hH
    have c1 := refLine_ b hb p hp
    have hmh : (hs.map headT).length = hs.length := List.length_map _
    obtain ⟨f, rfl⟩ : ∃ f', f = f' + 1 := ⟨f - 1, by omega⟩
    unfold headsM at hH
    unfold HS
    simp only
    cases hsc2 : scan [] (b.drop p) with
    | wait =>
      rw [hsc2] at hH c1
      simp only at hH
      rw [← hH] at hM hZ
      simp only at hM hZ
      rw [← hM, ← hZ]
      have c2 := refFault_ 0
      rw [lineT_wait] at c1
      repeat' (first | refine fam_ret ?_ | refine fam_exit ?_ | (refine rg 6 ?_; refine oMv ?_; refine oAs ?_; refine oN ?_) | (refine rg 7 ?_; refine oMv ?_; refine oMv ?_; refine oC (c1) rfl (ac (ac .nil)) ?_; refine oMv ?_; refine oEx ?_; refine oEx ?_; refine oEx ?_; refine oAs ?_; refine oAs ?_; refine oAs ?_; refine oN ?_) | (refine rg 8 ?_; refine oMv ?_; refine oCm ?_; refine oN ?_) | ((refine swp_any (id := 9) [[], [], [], [4], [], [], []] [[], [], [], [], [], [], []] mixed (by kernel_rfl) ?_) <;> (refine yp (fun _ _ => po_load_bx_agg rfl rfl (tyT rfl) rfl (vc (vc (vc .nil))) rfl) ?_) <;> refine yp (fun _ _ => po_move rfl rfl) ?_ <;> (first | refine yp (fun _ _ => po_call (c1) rfl (ac .nil)) ?_ | refine yp (fun _ _ => po_call (c2) rfl (ac .nil)) ?_) <;> refine sany_eff [(4, _)] [] (.free rfl rfl) rfl rfl (fun _ _ _ _ => e_store rfl rfl rfl rfl rfl rfl (tyT rfl) rfl rfl) ?_ <;> refine yp (fun _ _ => po_assign rfl rfl) ?_ <;> refine yp (fun _ _ => po_assign rfl rfl) ?_ <;> refine yp (fun _ _ => po_assign rfl rfl) ?_ <;> refine sany_nil ?_) | refine gc ?_ | refine ct ?_ | refine cf ?_ | refine swp_cond rfl (fun hc => ?_) (fun hc => ?_) | refine rq rfl (.cell rfl rfl (tyT rfl) (vc (vc (vc .nil))) rfl (rt (rt (rt .nil)))) ?_)
      rfl
    | bad e =>
      have hbad := scan_bad _ _ _ hsc2
      rw [hsc2] at hH c1
      simp only at hH
      rw [← hH] at hM hZ
      simp only at hM hZ
      rw [← hM, ← hZ]
      rcases hbad with rfl | rfl
      · have c2 := refFault_ 2
        have c1 : PCalls Tryz.prog 78 [.sl 1 (b.map byteT), .v (.int .i64 (p : Int))] (.tup [.v (.string ⟨#[]⟩), .v (.int .i64 0), .v (.int .i64 2)]) := c1
        repeat' (first | refine fam_ret ?_ | refine fam_exit ?_ | (refine rg 6 ?_; refine oMv ?_; refine oAs ?_; refine oN ?_) | (refine rg 7 ?_; refine oMv ?_; refine oMv ?_; refine oC (c1) rfl (ac (ac .nil)) ?_; refine oMv ?_; refine oEx ?_; refine oEx ?_; refine oEx ?_; refine oAs ?_; refine oAs ?_; refine oAs ?_; refine oN ?_) | (refine rg 8 ?_; refine oMv ?_; refine oCm ?_; refine oN ?_) | ((refine swp_any (id := 9) [[], [], [], [4], [], [], []] [[], [], [], [], [], [], []] mixed (by kernel_rfl) ?_) <;> (refine yp (fun _ _ => po_load_bx_agg rfl rfl (tyT rfl) rfl (vc (vc (vc .nil))) rfl) ?_) <;> refine yp (fun _ _ => po_move rfl rfl) ?_ <;> (first | refine yp (fun _ _ => po_call (c1) rfl (ac .nil)) ?_ | refine yp (fun _ _ => po_call (c2) rfl (ac .nil)) ?_) <;> refine sany_eff [(4, _)] [] (.free rfl rfl) rfl rfl (fun _ _ _ _ => e_store rfl rfl rfl rfl rfl rfl (tyT rfl) rfl rfl) ?_ <;> refine yp (fun _ _ => po_assign rfl rfl) ?_ <;> refine yp (fun _ _ => po_assign rfl rfl) ?_ <;> refine yp (fun _ _ => po_assign rfl rfl) ?_ <;> refine sany_nil ?_) | refine gc ?_ | refine ct ?_ | refine cf ?_ | refine swp_cond rfl (fun hc => ?_) (fun hc => ?_) | refine rq rfl (.cell rfl rfl (tyT rfl) (vc (vc (vc .nil))) rfl (rt (rt (rt .nil)))) ?_)
        rfl
      · have c2 := refFault_ 3
        have c1 : PCalls Tryz.prog 78 [.sl 1 (b.map byteT), .v (.int .i64 (p : Int))] (.tup [.v (.string ⟨#[]⟩), .v (.int .i64 0), .v (.int .i64 3)]) := c1
        repeat' (first | refine fam_ret ?_ | refine fam_exit ?_ | (refine rg 6 ?_; refine oMv ?_; refine oAs ?_; refine oN ?_) | (refine rg 7 ?_; refine oMv ?_; refine oMv ?_; refine oC (c1) rfl (ac (ac .nil)) ?_; refine oMv ?_; refine oEx ?_; refine oEx ?_; refine oEx ?_; refine oAs ?_; refine oAs ?_; refine oAs ?_; refine oN ?_) | (refine rg 8 ?_; refine oMv ?_; refine oCm ?_; refine oN ?_) | ((refine swp_any (id := 9) [[], [], [], [4], [], [], []] [[], [], [], [], [], [], []] mixed (by kernel_rfl) ?_) <;> (refine yp (fun _ _ => po_load_bx_agg rfl rfl (tyT rfl) rfl (vc (vc (vc .nil))) rfl) ?_) <;> refine yp (fun _ _ => po_move rfl rfl) ?_ <;> (first | refine yp (fun _ _ => po_call (c1) rfl (ac .nil)) ?_ | refine yp (fun _ _ => po_call (c2) rfl (ac .nil)) ?_) <;> refine sany_eff [(4, _)] [] (.free rfl rfl) rfl rfl (fun _ _ _ _ => e_store rfl rfl rfl rfl rfl rfl (tyT rfl) rfl rfl) ?_ <;> refine yp (fun _ _ => po_assign rfl rfl) ?_ <;> refine yp (fun _ _ => po_assign rfl rfl) ?_ <;> refine yp (fun _ _ => po_assign rfl rfl) ?_ <;> refine sany_nil ?_) | refine gc ?_ | refine ct ?_ | refine cf ?_ | refine swp_cond rfl (fun hc => ?_) (fun hc => ?_) | refine rq rfl (.cell rfl rfl (tyT rfl) (vc (vc (vc .nil))) rfl (rt (rt (rt .nil)))) ?_)
        rfl
    | ok s2 rest2 =>
      have hss := scan_size _ _ _ _ hsc2 (by simp)
      obtain ⟨hrd2, hrl2⟩ := rest_drop hsc2
      rw [hsc2] at hH c1
      simp only at hH
      rw [lineT_ok] at c1
      have hne : decide (bs s2 = ⟨#[]⟩) = decide (s2 = []) := by rw [decide_eq_decide]; exact bs_nil_iff s2
      by_cases he : s2 = []
      · rw [if_pos he] at hH
        rw [← hH] at hM hZ
        simp only at hM hZ
        have e1 : decide (bs s2 = ⟨#[]⟩) = true := by rw [hne, decide_eq_true he]
        have c5 := refFraming_ hs (by omega) hok
        have hfl := fram_len hs
        unfold framT endT at c5
        by_cases hfe : (fram hs).2 ≠ 0
        · rw [if_pos hfe] at hM hZ
          rw [← hM, ← hZ]
          generalize (fram hs).2 = e at *
          generalize (fram hs).1 = fr at *
          have e2 : (!decide (e = 0)) = true := by rw [decide_eq_false hfe]; rfl
          repeat' (first | refine fam_ret ?_ | refine fam_exit ?_ | (refine rg 6 ?_; refine oMv ?_; refine oAs ?_; refine oN ?_) | (refine rg 7 ?_; refine oMv ?_; refine oMv ?_; refine oC (c1) rfl (ac (ac .nil)) ?_; refine oMv ?_; refine oEx ?_; refine oEx ?_; refine oEx ?_; refine oAs ?_; refine oAs ?_; refine oAs ?_; refine oN ?_) | (refine rg 8 ?_; refine oMv ?_; refine oCm ?_; refine oN ?_) | (refine rg 10 ?_; refine oMv ?_; refine sp (po_str rfl rfl rfl rfl) ?_; refine oN ?_) | (refine rg 17 ?_; refine oFb ?_; refine oLb ?_; (first | refine oC (c1) rfl (ac .nil) ?_ | refine oC (c5) rfl (ac .nil) ?_); refine oMv ?_; refine oEx ?_; refine oEx ?_; refine sal str89 ?_; refine oS ?_; refine oAs ?_; refine oN ?_) | (refine rg 18 ?_; refine oMv ?_; refine oCm ?_; refine oN ?_) | (refine rg 19 ?_; (refine sp (po_load_bx_agg rfl rfl (tyT rfl) rfl (vc (vc (vc .nil))) rfl) ?_); refine oMv ?_; refine oS ?_; refine oAs ?_; refine oAs ?_; refine oAs ?_; refine oN ?_) | refine gc ?_ | refine ct ?_ | refine cf ?_ | refine swp_cond rfl (fun hc => ?_) (fun hc => ?_) | refine rq rfl (.cell rfl rfl (tyT rfl) (vc (vc (vc .nil))) rfl (rt (rt (rt .nil)))) ?_)
          rfl
        · rw [if_neg hfe] at hM hZ
          have hfe0 : (fram hs).2 = 0 := by omega
          have e2 : (!decide ((fram hs).2 = 0)) = false := by rw [decide_eq_true hfe0]; rfl
          by_cases hc : (fram hs).1.chunked = 1
          · rw [if_pos hc] at hM hZ
            rw [← hM, ← hZ]
            have c6 := chunks_ b hb (b.length - rest2.length) hrl2 (bs s) hs (chunksM 1025 [] rest2) (by rw [← hrd2])
            generalize chunksM 1025 [] rest2 = cm at *
            generalize (fram hs).2 = e at *
            generalize (fram hs).1 = fr at *
            obtain ⟨cb, cr⟩ := cm
            unfold rawT headsT at c6
            cases cr with
            | wait =>
              unfold msgT at c6 ⊢
              repeat' (first | refine fam_ret ?_ | refine fam_exit ?_ | (refine rg 6 ?_; refine oMv ?_; refine oAs ?_; refine oN ?_) | (refine rg 7 ?_; refine oMv ?_; refine oMv ?_; refine oC (c1) rfl (ac (ac .nil)) ?_; refine oMv ?_; refine oEx ?_; refine oEx ?_; refine oEx ?_; refine oAs ?_; refine oAs ?_; refine oAs ?_; refine oN ?_) | (refine rg 8 ?_; refine oMv ?_; refine oCm ?_; refine oN ?_) | (refine rg 10 ?_; refine oMv ?_; refine sp (po_str rfl rfl rfl rfl) ?_; refine oN ?_) | (refine rg 17 ?_; refine oFb ?_; refine oLb ?_; (first | refine oC (c1) rfl (ac .nil) ?_ | refine oC (c5) rfl (ac .nil) ?_); refine oMv ?_; refine oEx ?_; refine oEx ?_; refine sal str89 ?_; refine oS ?_; refine oAs ?_; refine oN ?_) | (refine rg 18 ?_; refine oMv ?_; refine oCm ?_; refine oN ?_) | (refine rg 20 ?_; refine oFb ?_; refine oLb ?_; refine oCm ?_; refine oN ?_) | (refine rg 21 ?_; refine oMv ?_; refine oMv ?_; (refine sp (po_load_bx_agg rfl rfl (tyT rfl) rfl (vc (vc (vc .nil))) rfl) ?_); (first | refine oC (c1) rfl (ac (ac (ac .nil))) ?_ | refine oC (c5) rfl (ac (ac (ac .nil))) ?_ | refine oC (c6) rfl (ac (ac (ac .nil))) ?_); refine oEx ?_; refine oEx ?_; refine oEx ?_; refine oEx ?_; refine oS ?_; refine oAs ?_; refine oAs ?_; refine oAs ?_; refine oN ?_) | refine gc ?_ | refine ct ?_ | refine cf ?_ | refine swp_cond rfl (fun hc => ?_) (fun hc => ?_) | refine rq rfl (.cell rfl rfl (tyT rfl) (vc (vc (vc .nil))) rfl (rt (rt (rt .nil)))) ?_)
              rfl
            | bad e3 =>
              unfold msgT at c6 ⊢
              repeat' (first | refine fam_ret ?_ | refine fam_exit ?_ | (refine rg 6 ?_; refine oMv ?_; refine oAs ?_; refine oN ?_) | (refine rg 7 ?_; refine oMv ?_; refine oMv ?_; refine oC (c1) rfl (ac (ac .nil)) ?_; refine oMv ?_; refine oEx ?_; refine oEx ?_; refine oEx ?_; refine oAs ?_; refine oAs ?_; refine oAs ?_; refine oN ?_) | (refine rg 8 ?_; refine oMv ?_; refine oCm ?_; refine oN ?_) | (refine rg 10 ?_; refine oMv ?_; refine sp (po_str rfl rfl rfl rfl) ?_; refine oN ?_) | (refine rg 17 ?_; refine oFb ?_; refine oLb ?_; (first | refine oC (c1) rfl (ac .nil) ?_ | refine oC (c5) rfl (ac .nil) ?_); refine oMv ?_; refine oEx ?_; refine oEx ?_; refine sal str89 ?_; refine oS ?_; refine oAs ?_; refine oN ?_) | (refine rg 18 ?_; refine oMv ?_; refine oCm ?_; refine oN ?_) | (refine rg 20 ?_; refine oFb ?_; refine oLb ?_; refine oCm ?_; refine oN ?_) | (refine rg 21 ?_; refine oMv ?_; refine oMv ?_; (refine sp (po_load_bx_agg rfl rfl (tyT rfl) rfl (vc (vc (vc .nil))) rfl) ?_); (first | refine oC (c1) rfl (ac (ac (ac .nil))) ?_ | refine oC (c5) rfl (ac (ac (ac .nil))) ?_ | refine oC (c6) rfl (ac (ac (ac .nil))) ?_); refine oEx ?_; refine oEx ?_; refine oEx ?_; refine oEx ?_; refine oS ?_; refine oAs ?_; refine oAs ?_; refine oAs ?_; refine oN ?_) | refine gc ?_ | refine ct ?_ | refine cf ?_ | refine swp_cond rfl (fun hc => ?_) (fun hc => ?_) | refine rq rfl (.cell rfl rfl (tyT rfl) (vc (vc (vc .nil))) rfl (rt (rt (rt .nil)))) ?_)
              rfl
            | ok rest3 =>
              unfold msgT at c6 ⊢
              unfold rawT headsT at c6
              repeat' (first | refine fam_ret ?_ | refine fam_exit ?_ | (refine rg 6 ?_; refine oMv ?_; refine oAs ?_; refine oN ?_) | (refine rg 7 ?_; refine oMv ?_; refine oMv ?_; refine oC (c1) rfl (ac (ac .nil)) ?_; refine oMv ?_; refine oEx ?_; refine oEx ?_; refine oEx ?_; refine oAs ?_; refine oAs ?_; refine oAs ?_; refine oN ?_) | (refine rg 8 ?_; refine oMv ?_; refine oCm ?_; refine oN ?_) | (refine rg 10 ?_; refine oMv ?_; refine sp (po_str rfl rfl rfl rfl) ?_; refine oN ?_) | (refine rg 17 ?_; refine oFb ?_; refine oLb ?_; (first | refine oC (c1) rfl (ac .nil) ?_ | refine oC (c5) rfl (ac .nil) ?_); refine oMv ?_; refine oEx ?_; refine oEx ?_; refine sal str89 ?_; refine oS ?_; refine oAs ?_; refine oN ?_) | (refine rg 18 ?_; refine oMv ?_; refine oCm ?_; refine oN ?_) | (refine rg 20 ?_; refine oFb ?_; refine oLb ?_; refine oCm ?_; refine oN ?_) | (refine rg 21 ?_; refine oMv ?_; refine oMv ?_; (refine sp (po_load_bx_agg rfl rfl (tyT rfl) rfl (vc (vc (vc .nil))) rfl) ?_); (first | refine oC (c1) rfl (ac (ac (ac .nil))) ?_ | refine oC (c5) rfl (ac (ac (ac .nil))) ?_ | refine oC (c6) rfl (ac (ac (ac .nil))) ?_); refine oEx ?_; refine oEx ?_; refine oEx ?_; refine oEx ?_; refine oS ?_; refine oAs ?_; refine oAs ?_; refine oAs ?_; refine oN ?_) | refine gc ?_ | refine ct ?_ | refine cf ?_ | refine swp_cond rfl (fun hc => ?_) (fun hc => ?_) | refine rq rfl (.cell rfl rfl (tyT rfl) (vc (vc (vc .nil))) rfl (rt (rt (rt .nil)))) ?_)
              rfl
          · rw [if_neg hc] at hM hZ
            have hrest : rest2.length ≤ b.length := by rw [hrd2, List.length_drop]; omega
            generalize hq : b.length - rest2.length = q at *
            generalize (fram hs).2 = e at *
            generalize (fram hs).1 = fr at *
            by_cases hsh : (rest2.length : Int) < fr.length
            · rw [if_pos hsh] at hM
              rw [← hM, ← hZ]
              repeat' (first | refine fam_ret ?_ | refine fam_exit ?_ | (refine rg 6 ?_; refine oMv ?_; refine oAs ?_; refine oN ?_) | (refine rg 7 ?_; refine oMv ?_; refine oMv ?_; refine oC (c1) rfl (ac (ac .nil)) ?_; refine oMv ?_; refine oEx ?_; refine oEx ?_; refine oEx ?_; refine oAs ?_; refine oAs ?_; refine oAs ?_; refine oN ?_) | (refine rg 8 ?_; refine oMv ?_; refine oCm ?_; refine oN ?_) | (refine rg 10 ?_; refine oMv ?_; refine sp (po_str rfl rfl rfl rfl) ?_; refine oN ?_) | (refine rg 17 ?_; refine oFb ?_; refine oLb ?_; (first | refine oC (c1) rfl (ac .nil) ?_ | refine oC (c5) rfl (ac .nil) ?_); refine oMv ?_; refine oEx ?_; refine oEx ?_; refine sal str89 ?_; refine oS ?_; refine oAs ?_; refine oN ?_) | (refine rg 18 ?_; refine oMv ?_; refine oCm ?_; refine oN ?_) | (refine rg 20 ?_; refine oFb ?_; refine oLb ?_; refine oCm ?_; refine oN ?_) | (refine rg 22 ?_; refine oMv ?_; refine sp (pln rfl (tyS rfl)) ?_; refine oMv ?_; (first | refine sp (po_dec rfl rfl rfl (by omega)) ?_ | refine sp (po_arith rfl rfl rfl (ar_sub (by first | rfl | (refine wrap_i64 ?_; omega)) rfl)) ?_); refine oFb ?_; refine oLb ?_; refine oCm ?_; refine oN ?_) | (refine rg 23 ?_; (refine sp (po_load_bx_agg rfl rfl (tyT rfl) rfl (vc (vc (vc .nil))) rfl) ?_); refine oS ?_; refine oAs ?_; refine oAs ?_; refine oAs ?_; refine oN ?_) | refine gc ?_ | refine ct ?_ | refine cf ?_ | refine swp_cond rfl (fun hc => ?_) (fun hc => ?_) | refine rq rfl (.cell rfl rfl (tyT rfl) (vc (vc (vc .nil))) rfl (rt (rt (rt .nil)))) ?_)
              rfl
            · rw [if_neg hsh] at hM
              rw [← hM]
              obtain ⟨m, hm⟩ : ∃ m : Nat, fr.length = (m : Int) := ⟨fr.length.toNat, by omega⟩
              rw [hm] at c5 ⊢
              rw [hm] at hsh
              rw [Int.toNat_natCast]
              have hqm : q + m ≤ b.length := by omega
              have hrows := rows_at b q m
              have htk : rest2.take m = (b.drop q).take m := by rw [← hrd2]
              have htl : ((b.drop q).take m).length = m := by rw [← htk, List.length_take]; omega
              have htm : (((b.drop q).take m).map byteT).length = m := by rw [List.length_map, htl]
              have hdl : b.length - (rest2.drop m).length = q + m := by rw [List.length_drop]; omega
              have hbd : (0 + (((b.map byteT).take (q + m)).drop q).length) * 1 ≤ 140737488355328 := by rw [hrows, htm]; omega
              have hbm : 0 + (((b.map byteT).take (q + m)).drop q).length ≤ maxLen := by rw [hrows, htm]; unfold maxLen; omega
              have hB : [] ++ ((b.map byteT).take (q + m)).drop q = (rest2.take m).map byteT := by rw [hrows, htk]; rfl
              unfold msgT
              simp only
              rw [hdl]
              repeat' (first | refine fam_ret ?_ | refine fam_exit ?_ | (refine rg 6 ?_; refine oMv ?_; refine oAs ?_; refine oN ?_) | (refine rg 7 ?_; refine oMv ?_; refine oMv ?_; refine oC (c1) rfl (ac (ac .nil)) ?_; refine oMv ?_; refine oEx ?_; refine oEx ?_; refine oEx ?_; refine oAs ?_; refine oAs ?_; refine oAs ?_; refine oN ?_) | (refine rg 8 ?_; refine oMv ?_; refine oCm ?_; refine oN ?_) | (refine rg 10 ?_; refine oMv ?_; refine sp (po_str rfl rfl rfl rfl) ?_; refine oN ?_) | (refine rg 17 ?_; refine oFb ?_; refine oLb ?_; (first | refine oC (c1) rfl (ac .nil) ?_ | refine oC (c5) rfl (ac .nil) ?_); refine oMv ?_; refine oEx ?_; refine oEx ?_; refine sal str89 ?_; refine oS ?_; refine oAs ?_; refine oN ?_) | (refine rg 18 ?_; refine oMv ?_; refine oCm ?_; refine oN ?_) | (refine rg 20 ?_; refine oFb ?_; refine oLb ?_; refine oCm ?_; refine oN ?_) | (refine rg 22 ?_; refine oMv ?_; (first | refine sp (po_len_own rfl rfl (tyS rfl)) ?_ | refine sp (pln rfl (tyS rfl)) ?_); refine oMv ?_; (first | refine sp (po_dec rfl rfl rfl (by omega)) ?_ | refine sp (po_arith rfl rfl rfl (ar_sub (by first | rfl | (refine wrap_i64 ?_; omega)) rfl)) ?_); refine oFb ?_; refine oLb ?_; refine oCm ?_; refine oN ?_) | (refine rg 24 ?_; refine sops_build0 (.free rfl rfl) rfl rfl rfl (tyE rfl) rfl ?_; refine oMv ?_; refine oMv ?_; refine oMv ?_; refine oFb ?_; refine oLb ?_; (first | refine sp (xinc rfl) ?_ | refine sp (xadd rfl) ?_); (first | refine sp (po_slice_sfx rfl rfl rfl (by rfl) (tyS rfl) rfl (by omega) (by omega)) ?_ | refine sops_shrink (by rfl) (by rfl) (.free rfl rfl) rfl rfl rfl rfl rfl (by first | rfl | assumption | omega | (simp; done) | (simp; omega) | (simp at *; omega)) (tyS rfl) rfl (by omega) ?_ | refine sp (po_slice rfl rfl (by exact .t _) (tyS rfl) (by first | rfl | exact ⟨_, rfl⟩) (by first | rfl | exact ⟨_, rfl⟩) (by omega) (by omega)) ?_); refine sap rfl (tyE rfl) ?_; refine oFb ?_; refine oS ?_; refine oN ?_) | refine gc ?_ | refine ct ?_ | refine cf ?_ | refine swp_cond rfl (fun hc => ?_) (fun hc => ?_) | refine rq rfl (.cell rfl rfl (tyT rfl) (vc (vc (vc .nil))) rfl (rt (rt (rt .nil)))) ?_)
              rw [hB]
              repeat' (first | refine fam_ret ?_ | refine fam_exit ?_ | ((refine swp_any (id := 25) [[], [], [], [], [], [4], [], [], []] [[], [4], [4], [4], [4], [], [], [], []] mixed (by kernel_rfl) ?_) <;> (refine yp (fun _ _ => po_load_bx_agg rfl rfl (tyT rfl) rfl (vc (vc (vc .nil))) rfl) ?_) <;> refine yp (fun _ _ => po_move rfl rfl) ?_ <;> refine yp (fun _ _ => po_field_bx rfl rfl (tyF rfl)) ?_ <;> refine yp (fun _ _ => po_load_bx rfl rfl (tyT rfl) rfl rfl) ?_ <;> (first | refine yp (fun _ _ => po_inc rfl rfl rfl (by omega)) ?_ | refine yp (fun _ _ => po_arith rfl rfl rfl (ar_add (by first | rfl | (refine wrap_i64 ?_; omega)) rfl)) ?_) <;> refine sany_eff [(4, _)] [] (.free rfl rfl) rfl rfl (fun _ _ _ _ => e_store rfl rfl rfl rfl rfl rfl (tyT rfl) rfl rfl) ?_ <;> refine yp (fun _ _ => po_assign rfl rfl) ?_ <;> refine yp (fun _ _ => po_assign rfl rfl) ?_ <;> refine yp (fun _ _ => po_assign rfl rfl) ?_ <;> refine sany_nil ?_) | refine gc ?_ | refine ct ?_ | refine cf ?_ | refine swp_cond rfl (fun hc => ?_) (fun hc => ?_) | refine rq rfl (.cell rfl rfl (tyT rfl) (vc (vc (vc .nil))) rfl (rt (rt (rt .nil)))) ?_)
              rfl
      · rw [if_neg he] at hH
        have e1 : decide (bs s2 = ⟨#[]⟩) = false := by rw [hne, decide_eq_false he]
        have hzs : (bs s2).size ≤ maxLen := by unfold maxLen; rw [bs_size]; omega
        have c6 := refRead_ (bs s2) hzs
        have hro := readH_ok (bs s2) hzs
        unfold readT at c6
        generalize (readH (bs s2)).2 = e at *
        generalize (readH (bs s2)).1 = h at *
        by_cases hr : e ≠ 0
        · rw [if_pos hr] at hH
          rw [← hH] at hM hZ
          simp only at hM hZ
          rw [← hM, ← hZ]
          have e2 : (!decide (e = 0)) = true := by rw [decide_eq_false hr]; rfl
          unfold headT at c6
          repeat' (first | refine fam_ret ?_ | refine fam_exit ?_ | (refine rg 6 ?_; refine oMv ?_; refine oAs ?_; refine oN ?_) | (refine rg 7 ?_; refine oMv ?_; refine oMv ?_; refine oC (c1) rfl (ac (ac .nil)) ?_; refine oMv ?_; refine oEx ?_; refine oEx ?_; refine oEx ?_; refine oAs ?_; refine oAs ?_; refine oAs ?_; refine oN ?_) | (refine rg 8 ?_; refine oMv ?_; refine oCm ?_; refine oN ?_) | (refine rg 10 ?_; refine oMv ?_; refine sp (po_str rfl rfl rfl rfl) ?_; refine oN ?_) | (refine rg 11 ?_; refine oMv ?_; (first | refine oC (c1) rfl (ac .nil) ?_ | refine oC (c6) rfl (ac .nil) ?_); refine oMv ?_; refine oEx ?_; refine oEx ?_; refine sal str65 ?_; refine oS ?_; refine oAs ?_; refine oN ?_) | (refine rg 12 ?_; refine oMv ?_; refine oCm ?_; refine oN ?_) | (refine rg 13 ?_; (refine sp (po_load_bx_agg rfl rfl (tyT rfl) rfl (vc (vc (vc .nil))) rfl) ?_); refine oMv ?_; refine oS ?_; refine oAs ?_; refine oAs ?_; refine oAs ?_; refine oN ?_) | refine gc ?_ | refine ct ?_ | refine cf ?_ | refine swp_cond rfl (fun hc => ?_) (fun hc => ?_) | refine rq rfl (.cell rfl rfl (tyT rfl) (vc (vc (vc .nil))) rfl (rt (rt (rt .nil)))) ?_)
          rfl
        · rw [if_neg hr] at hH
          have hr0 : e = 0 := by omega
          have e2 : (!decide (e = 0)) = false := by rw [decide_eq_true hr0]; rfl
          by_cases h24 : hs.length = 24
          · rw [if_pos h24] at hH
            rw [← hH] at hM hZ
            simp only at hM hZ
            rw [← hM, ← hZ]
            unfold headT at c6
            repeat' (first | refine fam_ret ?_ | refine fam_exit ?_ | (refine rg 6 ?_; refine oMv ?_; refine oAs ?_; refine oN ?_) | (refine rg 7 ?_; refine oMv ?_; refine oMv ?_; refine oC (c1) rfl (ac (ac .nil)) ?_; refine oMv ?_; refine oEx ?_; refine oEx ?_; refine oEx ?_; refine oAs ?_; refine oAs ?_; refine oAs ?_; refine oN ?_) | (refine rg 8 ?_; refine oMv ?_; refine oCm ?_; refine oN ?_) | (refine rg 10 ?_; refine oMv ?_; refine sp (po_str rfl rfl rfl rfl) ?_; refine oN ?_) | (refine rg 11 ?_; refine oMv ?_; (first | refine oC (c1) rfl (ac .nil) ?_ | refine oC (c6) rfl (ac .nil) ?_); refine oMv ?_; refine oEx ?_; refine oEx ?_; refine sal str65 ?_; refine oS ?_; refine oAs ?_; refine oN ?_) | (refine rg 12 ?_; refine oMv ?_; refine oCm ?_; refine oN ?_) | (refine rg 14 ?_; refine oFb ?_; refine oLb ?_; refine sp (pln rfl (tyS rfl)) ?_; refine oCm ?_; refine oN ?_) | (refine rg 15 ?_; (refine sp (po_load_bx_agg rfl rfl (tyT rfl) rfl (vc (vc (vc .nil))) rfl) ?_); refine oS ?_; refine oAs ?_; refine oAs ?_; refine oAs ?_; refine oN ?_) | refine gc ?_ | refine ct ?_ | refine cf ?_ | refine swp_cond rfl (fun hc => ?_) (fun hc => ?_) | refine rq rfl (.cell rfl rfl (tyT rfl) (vc (vc (vc .nil))) rfl (rt (rt (rt .nil)))) ?_)
            rfl
          · rw [if_neg h24] at hH
            have hbd : ((hs.map headT).length + 1) * 32 ≤ 140737488355328 := by omega
            have hbm : (hs.map headT).length + 1 ≤ maxLen := by unfold maxLen; omega
            have hsn : (hs ++ [h]).map headT = hs.map headT ++ [headT h] := by rw [List.map_append]; rfl
            unfold headT at c6
            repeat' (first | refine fam_next (hs ++ [h], b.length - rest2.length) (by simp only [List.length_append, List.length_cons, List.length_nil]; omega) (weak_sub (.cons rfl (by rfl) rfl (.cons rfl (by rfl) rfl (.cons rfl (by rfl) rfl (.cons rfl (by rfl) rfl .nil)))) (.cons rfl (by first | rfl | ((rw [hsn]; rfl))) rfl (.cons rfl (by rfl) rfl .nil)) (.cons rfl (by first | rfl | ((rw [hsn]; rfl))) .nil)) ⟨hrl2, by simp only [List.length_append, List.length_cons, List.length_nil]; omega, fun x hx => by rcases List.mem_append.1 hx with hx | hx; exact hok x hx; simp at hx; subst hx; exact hro, f, by simp only [List.length_append, List.length_cons, List.length_nil]; omega, by simp only; rw [← hrd2]; exact hH⟩ | refine fam_ret ?_ | refine fam_exit ?_ | (refine rg 6 ?_; refine oMv ?_; refine oAs ?_; refine oN ?_) | (refine rg 7 ?_; refine oMv ?_; refine oMv ?_; refine oC (c1) rfl (ac (ac .nil)) ?_; refine oMv ?_; refine oEx ?_; refine oEx ?_; refine oEx ?_; refine oAs ?_; refine oAs ?_; refine oAs ?_; refine oN ?_) | (refine rg 8 ?_; refine oMv ?_; refine oCm ?_; refine oN ?_) | (refine rg 10 ?_; refine oMv ?_; refine sp (po_str rfl rfl rfl rfl) ?_; refine oN ?_) | (refine rg 11 ?_; refine oMv ?_; (first | refine oC (c1) rfl (ac .nil) ?_ | refine oC (c6) rfl (ac .nil) ?_); refine oMv ?_; refine oEx ?_; refine oEx ?_; refine sal str65 ?_; refine oS ?_; refine oAs ?_; refine oN ?_) | (refine rg 12 ?_; refine oMv ?_; refine oCm ?_; refine oN ?_) | (refine rg 14 ?_; refine oFb ?_; refine oLb ?_; refine sp (po_len_own rfl rfl (tyS rfl)) ?_; refine oCm ?_; refine oN ?_) | (refine rg 16 ?_; refine oFb ?_; refine oLb ?_; refine sp (po_load_bx_agg rfl rfl (tyT rfl) rfl (vc (vc .nil)) rfl) ?_; refine sp (po_buildSlice rfl (tyE rfl) (dc (.nil _)) rfl rfl rfl) ?_; refine sap rfl (tyE rfl) ?_; refine oFb ?_; refine oS ?_; refine oN ?_) | refine gc ?_ | refine ct ?_ | refine cf ?_)
def AS (b : List UInt8) (x : List PRaw × Nat) : St := ⟨[(0, .t (.sl 1 (b.map byteT))), (5, .own 150 (x.1.map rawT).length), (6, .t (.v (.int .i64 (x.2 : Int))))], [], [(150, ⟨25, 3, x.1.map rawT⟩)]⟩
def allT (x : List PRaw × Bool × Int) : T := .tup [.sl 3 (x.1.map rawT), .v (.bool x.2.1), .v (.int .i64 x.2.2)]
theorem headsM_suf : ∀ (f : Nat) (hs : List Pl.Head) (l rest : List UInt8), (headsM f hs l).2 = .ok rest → rest <:+ l
  | 0, hs, l, rest, h => by simp [headsM] at h
  | f + 1, hs, l, rest, h => by
    unfold headsM at h
    cases hsc : scan [] l with
    | wait => rw [hsc] at h; simp at h
    | bad e => rw [hsc] at h; simp at h
    | ok s rest1 =>
      have h1 := scan_suf _ _ _ _ hsc
      rw [hsc] at h
      simp only at h
      split at h
      · injection h with h; subst h; exact h1
      · split at h
        · simp at h
        · split at h
          · simp at h
          · exact (headsM_suf f _ _ _ h).trans h1
theorem chunksM_suf : ∀ (f : Nat) (b l rest : List UInt8), (chunksM f b l).2 = .ok rest → rest <:+ l
  | 0, b, l, rest, h => by simp [chunksM] at h
  | f + 1, b, l, rest, h => by
    unfold chunksM at h
    cases hsc : scan [] l with
    | wait => rw [hsc] at h; simp at h
    | bad e => rw [hsc] at h; simp at h
    | ok s rest1 =>
      have h1 := scan_suf _ _ _ _ hsc
      rw [hsc] at h
      simp only at h
      split at h
      · simp at h
      · split at h
        · simp at h
        · split at h
          · simp at h
          · cases hs2 : scan [] (rest1.drop (sizeP (bs s)).toNat) with
            | wait => rw [hs2] at h; simp at h
            | bad e => rw [hs2] at h; simp at h
            | ok s2 rest2 =>
              have h2 := (scan_suf _ _ _ _ hs2).trans (List.drop_suffix _ _)
              rw [hs2] at h
              simp only at h
              split at h
              · simp at h
              · split at h
                · injection h with h; subst h; exact h2.trans h1
                · exact ((chunksM_suf f _ _ _ h).trans h2).trans h1
theorem msgM_suf (l rest : List UInt8) (h : (msgM l).2 = .ok rest) : rest <:+ l := by
  unfold msgM at h
  cases hsc : scan [] l with
  | wait => rw [hsc] at h; simp at h
  | bad e => rw [hsc] at h; simp at h
  | ok s rest1 =>
    have h1 := scan_suf _ _ _ _ hsc
    rw [hsc] at h
    simp only at h
    have h3 := headsM_suf 25 [] rest1
    generalize headsM 25 [] rest1 = q at *
    obtain ⟨hs, m⟩ := q
    cases m with
    | wait => simp at h
    | bad e => simp at h
    | ok rest2 =>
      have h2 := h3 rest2 rfl
      simp only at h
      split at h
      · simp at h
      · split at h
        · exact ((chunksM_suf _ _ _ _ h).trans h2).trans h1
        · split at h
          · simp at h
          · injection h with h; subst h; exact ((List.drop_suffix _ _).trans h2).trans h1
set_option maxRecDepth 100000 in
set_option maxHeartbeats 4000000 in
theorem refAllM_ (b : List UInt8) (hb : b.length ≤ 100000) : PCalls Tryz.prog 35 [.sl 1 (b.map byteT)] (allT (allM b.length [] b)) := by
  have hml : (b.map byteT).length = b.length := List.length_map _
  refine pcalls_of Tryz.func35 rfl rfl Tryz.ntmps35 rfl ?_
  obtain ⟨M, hM⟩ : ∃ M, allM b.length [] b = M := ⟨_, rfl⟩
  rw [hM]
  repeat' (first | (refine rg 0 ?_; refine oAs ?_; refine oAs ?_; refine oAs ?_; refine oN ?_) | (refine rg 1 ?_; refine oAs ?_; refine oN ?_) | (refine rg 2 ?_; refine oAs ?_; refine oN ?_) | refine gc ?_ | refine ct ?_ | refine cf ?_ | refine swp_cond rfl (fun hc => ?_) (fun hc => ?_) | refine rq rfl (rt (rt (rt .nil))) ?_)
  refine swp_weak (weak_own0 (i := 150) 25 3 (s := 5) rfl rfl) ?_
  refine swp_fam (AS b) (fun x => x.2 ≤ b.length ∧ x.1.length ≤ x.2 ∧ ∃ f, b.length - x.2 ≤ f ∧ allM f x.1 (b.drop x.2) = M) (fun x => b.length - x.2) ([], 0) (weak_sub (.cons rfl rfl rfl (.cons rfl rfl rfl (.cons rfl rfl rfl .nil))) .nil (.cons rfl rfl .nil)) ⟨by simp, by simp, b.length, by simp, hM⟩ ?_
  rintro ⟨o, p⟩ ⟨hp, ho, f, hf, hA⟩
  simp only at hp ho hf hA
  have hmo : (o.map rawT).length = o.length := List.length_map _
  unfold AS
  simp only
  by_cases hlt : p < b.length
  · obtain ⟨f, rfl⟩ : ∃ f', f = f' + 1 := ⟨f - 1, by omega⟩
    unfold allM at hA
    rw [if_neg (by intro h; have := congrArg List.length h; rw [List.length_drop] at this; simp at this; omega)] at hA
    have c1 := refMessage_ b hb p hp
    obtain ⟨za, zb, zc, hz⟩ := msgZ_len (b.drop p)
    rw [hz] at c1
    have hsuf := msgM_suf (b.drop p)
    have hmf := msg_feed [] (b.drop p) (by intro h; have := congrArg List.length h; rw [List.length_drop] at this; simp at this; omega)
    generalize msgM (b.drop p) = q at *
    obtain ⟨r, m⟩ := q
    cases m with
    | wait =>
      simp only at hA
      rw [← hA]
      unfold msgT at c1
      repeat' (first | refine fam_ret ?_ | refine fam_exit ?_ | (refine rg 3 ?_; refine oMv ?_; refine oMv ?_; refine sp (pln rfl (tyS rfl)) ?_; refine oCm ?_; refine oN ?_) | (refine rg 4 ?_; refine oMv ?_; refine oMv ?_; refine oC (c1) rfl (ac (ac .nil)) ?_; refine oMv ?_; refine oEx ?_; refine oEx ?_; refine oEx ?_; refine oEx ?_; refine sal str25 ?_; refine oS ?_; refine oAs ?_; refine oAs ?_; refine oAs ?_; refine oN ?_) | (refine rg 5 ?_; refine oMv ?_; refine sp (po_not rfl rfl) ?_; refine oN ?_) | (refine rg 6 ?_; refine oMv ?_; refine oMv ?_; refine oAs ?_; refine oAs ?_; refine oAs ?_; refine oN ?_) | refine gc ?_ | refine ct ?_ | refine cf ?_ | refine swp_cond rfl (fun hc => ?_) (fun hc => ?_) | refine rq rfl (rt (rt (rt .nil))) ?_)
      rfl
    | bad e =>
      simp only at hA
      rw [← hA]
      unfold msgT at c1
      repeat' (first | refine fam_ret ?_ | refine fam_exit ?_ | (refine rg 3 ?_; refine oMv ?_; refine oMv ?_; refine sp (pln rfl (tyS rfl)) ?_; refine oCm ?_; refine oN ?_) | (refine rg 4 ?_; refine oMv ?_; refine oMv ?_; refine oC (c1) rfl (ac (ac .nil)) ?_; refine oMv ?_; refine oEx ?_; refine oEx ?_; refine oEx ?_; refine oEx ?_; refine sal str25 ?_; refine oS ?_; refine oAs ?_; refine oAs ?_; refine oAs ?_; refine oN ?_) | (refine rg 5 ?_; refine oMv ?_; refine sp (po_not rfl rfl) ?_; refine oN ?_) | (refine rg 6 ?_; refine oMv ?_; refine oMv ?_; refine oAs ?_; refine oAs ?_; refine oAs ?_; refine oN ?_) | refine gc ?_ | refine ct ?_ | refine cf ?_ | refine swp_cond rfl (fun hc => ?_) (fun hc => ?_) | refine rq rfl (rt (rt (rt .nil))) ?_)
      rfl
    | ok rest =>
      simp only at hA hsuf
      have hs1 := hsuf rest rfl
      have hlt2 := (hmf.1 rest rfl).2
      rw [List.length_drop] at hlt2
      have hrd : rest = b.drop (b.length - rest.length) := List.suffix_iff_eq_drop.1 (hs1.trans (List.drop_suffix p b))
      unfold msgT rawT at c1
      have hbd : ((o.map rawT).length + 1) * 64 ≤ 140737488355328 := by omega
      have hbm : (o.map rawT).length + 1 ≤ maxLen := by unfold maxLen; omega
      have hsn : (o ++ [r]).map rawT = o.map rawT ++ [rawT r] := by rw [List.map_append]; rfl
      repeat' (first | refine fam_next (o ++ [r], b.length - rest.length) (by simp only; omega) (weak_sub (.cons rfl (by rfl) rfl (.cons rfl (by first | rfl | ((rw [hsn]; rfl))) rfl (.cons rfl (by rfl) rfl .nil))) .nil (.cons rfl (by first | rfl | ((rw [hsn]; rfl))) .nil)) ⟨by simp only; omega, by simp only [List.length_append, List.length_cons, List.length_nil]; omega, f, by simp only; omega, by simp only; rw [← hrd]; exact hA⟩ | refine fam_ret ?_ | refine fam_exit ?_ | (refine rg 3 ?_; refine oMv ?_; refine oMv ?_; refine sp (pln rfl (tyS rfl)) ?_; refine oCm ?_; refine oN ?_) | (refine rg 4 ?_; refine oMv ?_; refine oMv ?_; refine oC (c1) rfl (ac (ac .nil)) ?_; refine oMv ?_; refine oEx ?_; refine oEx ?_; refine oEx ?_; refine oEx ?_; refine sal str25 ?_; refine oS ?_; refine oAs ?_; refine oAs ?_; refine oAs ?_; refine oN ?_) | (refine rg 5 ?_; refine oMv ?_; refine sp (po_not rfl rfl) ?_; refine oN ?_) | (refine rg 7 ?_; refine oMv ?_; (refine sp (po_load_bx_agg rfl rfl (tyT rfl) rfl (vc (vc (vc .nil))) rfl) ?_); refine sp (po_buildSlice rfl (tyE rfl) (dc (.nil _)) rfl rfl rfl) ?_; refine sap rfl (tyE rfl) ?_; refine oAs ?_; refine oN ?_) | (refine rg 8 ?_; refine oMv ?_; refine oAs ?_; refine oN ?_) | refine gc ?_ | refine ct ?_ | refine cf ?_)
  · obtain rfl : p = b.length := by omega
    rw [List.drop_eq_nil_of_le (Nat.le_refl _)] at hA
    have hA2 : (o, true, (0 : Int)) = M := by
      cases f with
      | zero => exact hA
      | succ f => unfold allM at hA; rw [if_pos rfl] at hA; exact hA
    rw [← hA2]
    repeat' (first | refine fam_ret ?_ | refine fam_exit ?_ | (refine rg 3 ?_; refine oMv ?_; refine oMv ?_; refine sp (pln rfl (tyS rfl)) ?_; refine oCm ?_; refine oN ?_) | (refine rg 9 ?_; refine oMv ?_; refine oAs ?_; refine oAs ?_; refine oAs ?_; refine oN ?_) | refine gc ?_ | refine ct ?_ | refine cf ?_ | refine swp_cond rfl (fun hc => ?_) (fun hc => ?_) | refine rq rfl (rt (rt (rt .nil))) ?_)
    rfl
end Go.Proofs.YtloippgblkoemaaGreatDoor.Rq
