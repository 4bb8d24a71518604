/- Merged by bundles.py: SimMs. -/
import Derived.Test.YtpncekdhigappaaGreatDoorU32
import Derived.Test.YtpncekdhigappaaGreatDoorU21
import Derived.Test.YtpncekdhigappaaGreatDoorU13
/- The document's reader of messages: bodies in chunks, messages, all; walks. -/
namespace Go.Proofs.YtpncekdhigappaaGreatDoor.Rq
set_option linter.unusedVariables false
set_option linter.unusedSimpArgs false
open Go.RowKit Mem Sim Opn Hd Str
open An (vws_eq)
theorem rest_drop {b rest s : List UInt8} {p : Nat} (h : scan [] (b.drop p) = .ok s rest) : rest = b.drop (b.length - rest.length) ∧ b.length - rest.length ≤ b.length :=
  ⟨List.suffix_iff_eq_drop.1 ((scan_suf _ _ _ _ h).trans (List.drop_suffix p b)), by omega⟩
def msgT (n : Nat) (z : List T) : PRaw × MR → T
  | (r, .ok rest) => .tup [.agg (rawT r), .v (.int .i64 ((n - rest.length : Nat) : Int)), .v (.bool true), .v (.int .i64 0)]
  | (_, .wait) => .tup [.agg z, .v (.int .i64 0), .v (.bool false), .v (.int .i64 0)]
  | (_, .bad e) => .tup [.agg z, .v (.int .i64 0), .v (.bool false), .v (.int .i64 e)]
def z3 : List T := [.v (.string ⟨#[]⟩), .v (.slice none 0 0), .v (.slice none 0 0)]
def CS (b : List UInt8) (st : ByteArray) (hs : List Pl.Head) (x : List UInt8 × Nat) : St := ⟨[(0, .t (.sl 1 (b.map byteT))), (1, .t (.v (.int .i64 (x.2 : Int)))), (5, .bp 5 0), (6, .bp 6 0)], [(5, [.t (.v (.string st)), .t (headsT hs), .own 101 (x.1.map byteT).length]), (6, [.t (.v (.string ⟨#[]⟩)), .t (.v (.slice none 0 0)), .t (.v (.slice none 0 0))])], [(101, ⟨5, 1, x.1.map byteT⟩)]⟩
set_option maxRecDepth 100000 in
set_option maxHeartbeats 8000000 in
theorem chunks_ (b : List UInt8) (hb : b.length ≤ 100000) (p0 : Nat) (hp0 : p0 ≤ b.length) (st : ByteArray) (hs : List Pl.Head) (M0 : List UInt8 × MR) (hM0 : chunksM 1025 [] (b.drop p0) = M0) : PCalls Tryz.prog 99 [.sl 1 (b.map byteT), .v (.int .i64 (p0 : Int)), .agg [.v (.string st), headsT hs, .v (.slice none 0 0)]] (msgT b.length (rawT ⟨st, hs, M0.1⟩) (⟨st, hs, M0.1⟩, M0.2)) := by
  have hml : (b.map byteT).length = b.length := List.length_map _
  refine pcalls_of Tryz.func99 rfl rfl Tryz.ntmps99 rfl ?_
  repeat' (first | (refine rg 0 ?_; refine sbx ?_; refine sal str25 ?_; refine aq21 ?_) | refine gc ?_ | refine ct ?_ | refine cf ?_ | refine sc ?_ ?_ <;> intro hc | refine rq rfl (.cell rfl rfl (tyT rfl) (vc (vc (vc .nil))) rfl (rt (rt (rt .nil)))) ?_)
  refine swp_weak (weak_own0_bx 5 1 (i := 5) (j := 2) (q := 101) rfl rfl rfl) ?_
  refine swp_fam (CS b st hs) (fun x => x.2 ≤ b.length ∧ x.1.length ≤ 1024 ∧ ∃ f, 1025 ≤ f + x.1.length ∧ chunksM f x.1 (b.drop x.2) = M0) (fun x => 1025 - x.1.length) ([], p0) (weak_sub (.cons rfl rfl rfl (.cons rfl rfl rfl (.cons rfl rfl rfl (.cons rfl rfl rfl .nil)))) (.cons rfl rfl rfl (.cons rfl rfl rfl .nil)) (.cons rfl rfl .nil)) ⟨hp0, by simp, 1025, by simp, hM0⟩ ?_
  rintro ⟨body, p⟩ ⟨hp, hbl, f, hf, hM⟩
  simp only at hp hbl hf hM
  have c1 := refLine_ b hb p hp
  have hmb : (body.map byteT).length = body.length := List.length_map _
  obtain ⟨f, rfl⟩ : ∃ f', f = f' + 1 := ⟨f - 1, by omega⟩
  unfold chunksM at hM
  unfold CS
  simp only
  cases hsc : scan [] (b.drop p) with
  | wait =>
    rw [hsc] at hM c1
    simp only at hM
    rw [← hM]
    have c2 := refFault_ 0
    rw [lineT_wait] at c1
    repeat' (first | refine fam_ret ?_ | refine fam_exit ?_ | (refine rg 1 (aq16 ?_); refine oC (c1) rfl (ac (ac .nil)) ?_; refine aq51 ?_) | refine rg 2 (aq22 ?_) | ((refine swp_any (id := 3) [[], [], [], [6], [], [], []] [[], [], [], [], [], [], []] mixed (by kernel_rfl) ?_) <;> (refine yp (fun _ _ => po_load_bx_agg rfl rfl (tyT rfl) rfl (vc (vc (vc .nil))) rfl) ?_) <;> refine yp (fun _ _ => po_move rfl rfl) ?_ <;> (first | refine yp (fun _ _ => po_call (c1) rfl (ac .nil)) ?_ | refine yp (fun _ _ => po_call (c2) rfl (ac .nil)) ?_) <;> refine sany_eff [(6, _)] [] (.free rfl rfl) rfl rfl (fun _ _ _ _ => e_store rfl rfl rfl rfl rfl rfl (tyT rfl) rfl rfl) ?_ <;> refine yp (fun _ _ => po_assign rfl rfl) ?_ <;> refine yp (fun _ _ => po_assign rfl rfl) ?_ <;> refine yp (fun _ _ => po_assign rfl rfl) ?_ <;> refine sany_nil ?_) | refine gc ?_ | refine ct ?_ | refine cf ?_ | refine sc ?_ ?_ <;> intro hc | refine rq rfl (.cell rfl rfl (tyT rfl) (vc (vc (vc .nil))) rfl (rt (rt (rt .nil)))) ?_)
    rfl
  | bad e =>
    have hbad := scan_bad _ _ _ hsc
    rw [hsc] at hM c1
    simp only at hM
    rw [← hM]
    rcases hbad with rfl | rfl
    · have c2 := refFault_ 2
      have c1 : PCalls Tryz.prog 96 [.sl 1 (b.map byteT), .v (.int .i64 (p : Int))] (.tup [.v (.string ⟨#[]⟩), .v (.int .i64 0), .v (.int .i64 2)]) := c1
      repeat' (first | refine fam_ret ?_ | refine fam_exit ?_ | (refine rg 1 (aq16 ?_); refine oC (c1) rfl (ac (ac .nil)) ?_; refine aq51 ?_) | refine rg 2 (aq22 ?_) | ((refine swp_any (id := 3) [[], [], [], [6], [], [], []] [[], [], [], [], [], [], []] mixed (by kernel_rfl) ?_) <;> (refine yp (fun _ _ => po_load_bx_agg rfl rfl (tyT rfl) rfl (vc (vc (vc .nil))) rfl) ?_) <;> refine yp (fun _ _ => po_move rfl rfl) ?_ <;> (first | refine yp (fun _ _ => po_call (c1) rfl (ac .nil)) ?_ | refine yp (fun _ _ => po_call (c2) rfl (ac .nil)) ?_) <;> refine sany_eff [(6, _)] [] (.free rfl rfl) rfl rfl (fun _ _ _ _ => e_store rfl rfl rfl rfl rfl rfl (tyT rfl) rfl rfl) ?_ <;> refine yp (fun _ _ => po_assign rfl rfl) ?_ <;> refine yp (fun _ _ => po_assign rfl rfl) ?_ <;> refine yp (fun _ _ => po_assign rfl rfl) ?_ <;> refine sany_nil ?_) | refine gc ?_ | refine ct ?_ | refine cf ?_ | refine sc ?_ ?_ <;> intro hc | refine rq rfl (.cell rfl rfl (tyT rfl) (vc (vc (vc .nil))) rfl (rt (rt (rt .nil)))) ?_)
      rfl
    · have c2 := refFault_ 3
      have c1 : PCalls Tryz.prog 96 [.sl 1 (b.map byteT), .v (.int .i64 (p : Int))] (.tup [.v (.string ⟨#[]⟩), .v (.int .i64 0), .v (.int .i64 3)]) := c1
      repeat' (first | refine fam_ret ?_ | refine fam_exit ?_ | (refine rg 1 (aq16 ?_); refine oC (c1) rfl (ac (ac .nil)) ?_; refine aq51 ?_) | refine rg 2 (aq22 ?_) | ((refine swp_any (id := 3) [[], [], [], [6], [], [], []] [[], [], [], [], [], [], []] mixed (by kernel_rfl) ?_) <;> (refine yp (fun _ _ => po_load_bx_agg rfl rfl (tyT rfl) rfl (vc (vc (vc .nil))) rfl) ?_) <;> refine yp (fun _ _ => po_move rfl rfl) ?_ <;> (first | refine yp (fun _ _ => po_call (c1) rfl (ac .nil)) ?_ | refine yp (fun _ _ => po_call (c2) rfl (ac .nil)) ?_) <;> refine sany_eff [(6, _)] [] (.free rfl rfl) rfl rfl (fun _ _ _ _ => e_store rfl rfl rfl rfl rfl rfl (tyT rfl) rfl rfl) ?_ <;> refine yp (fun _ _ => po_assign rfl rfl) ?_ <;> refine yp (fun _ _ => po_assign rfl rfl) ?_ <;> refine yp (fun _ _ => po_assign rfl rfl) ?_ <;> refine sany_nil ?_) | refine gc ?_ | refine ct ?_ | refine cf ?_ | refine sc ?_ ?_ <;> intro hc | refine rq rfl (.cell rfl rfl (tyT rfl) (vc (vc (vc .nil))) rfl (rt (rt (rt .nil)))) ?_)
      rfl
  | ok s rest =>
    have hss := scan_size _ _ _ _ hsc (by simp)
    obtain ⟨hrd, hrl⟩ := rest_drop hsc
    rw [hsc] at hM c1
    simp only at hM
    rw [lineT_ok] at c1
    have c3 := refSize_ (bs s) (by unfold maxLen; rw [bs_size]; omega)
    have hzr := sizeP_rng (bs s)
    have hrest : rest.length ≤ b.length := by rw [hrd, List.length_drop]; omega
    have hqr : (b.length : Int) - ((b.length - rest.length : Nat) : Int) = (rest.length : Int) := by omega
    generalize hq : b.length - rest.length = q at *
    generalize sizeP (bs s) = n at *
    by_cases hn : n < 0
    · rw [if_pos hn] at hM
      rw [← hM]
      repeat' (first | refine fam_ret ?_ | refine fam_exit ?_ | (refine rg 1 (aq16 ?_); refine oC (c1) rfl (ac (ac .nil)) ?_; refine aq51 ?_) | refine rg 2 (aq22 ?_) | (refine rg 4 ?_; refine oMv ?_; (first | refine oC (c1) rfl (ac .nil) ?_ | refine oC (c3) rfl (ac .nil) ?_); refine aq0 ?_) | refine rg 5 (aq22 ?_) | refine rg 6 (aq198 ?_) | refine gc ?_ | refine ct ?_ | refine cf ?_ | refine sc ?_ ?_ <;> intro hc | refine rq rfl (.cell rfl rfl (tyT rfl) (vc (vc (vc .nil))) rfl (rt (rt (rt .nil)))) ?_)
      rfl
    · rw [if_neg hn] at hM
      by_cases hlong : 0 < n ∧ 1024 < (body.length : Int) + n
      · rw [if_pos hlong] at hM
        rw [← hM]
        obtain ⟨hn0, hlong⟩ := hlong
        repeat' (first | refine fam_ret ?_ | refine fam_exit ?_ | (refine rg 1 (aq16 ?_); refine oC (c1) rfl (ac (ac .nil)) ?_; refine aq51 ?_) | refine rg 2 (aq22 ?_) | (refine rg 4 ?_; refine oMv ?_; (first | refine oC (c1) rfl (ac .nil) ?_ | refine oC (c3) rfl (ac .nil) ?_); refine aq0 ?_) | refine rg 5 (aq22 ?_) | refine rg 7 (aq199 ?_) | refine rg 8 (aq198 ?_) | refine gc ?_ | refine ct ?_ | refine cf ?_ | refine sc ?_ ?_ <;> intro hc | refine rq rfl (.cell rfl rfl (tyT rfl) (vc (vc (vc .nil))) rfl (rt (rt (rt .nil)))) ?_)
        rfl
      · rw [if_neg hlong] at hM
        have hlong2 : n ≤ 0 ∨ (0 < n ∧ (body.length : Int) + n ≤ 1024) := by omega
        by_cases hsh : (rest.length : Int) < n
        · rw [if_pos hsh] at hM
          rw [← hM]
          rcases hlong2 with hl2 | ⟨hn0, hl2⟩
          · omega
          · repeat' (first | refine fam_ret ?_ | refine fam_exit ?_ | (refine rg 1 (aq16 ?_); refine oC (c1) rfl (ac (ac .nil)) ?_; refine aq51 ?_) | refine rg 2 (aq22 ?_) | (refine rg 4 ?_; refine oMv ?_; (first | refine oC (c1) rfl (ac .nil) ?_ | refine oC (c3) rfl (ac .nil) ?_); refine aq0 ?_) | refine rg 5 (aq22 ?_) | refine rg 7 (aq199 ?_) | (refine rg 9 (aq200 ?_); (first | refine sp (po_dec rfl rfl rfl (by omega)) ?_ | refine sp (po_arith rfl rfl rfl (ar_sub (by first | rfl | (refine wrap_i64 ?_; omega)) rfl)) ?_); refine aq22 ?_) | refine rg 10 (aq198 ?_) | refine gc ?_ | refine ct ?_ | refine cf ?_ | refine sc ?_ ?_ <;> intro hc | refine rq rfl (.cell rfl rfl (tyT rfl) (vc (vc (vc .nil))) rfl (rt (rt (rt .nil)))) ?_)
            rfl
        · rw [if_neg hsh] at hM
          obtain ⟨m, rfl⟩ : ∃ m : Nat, n = (m : Int) := ⟨n.toNat, by omega⟩
          rw [Int.toNat_natCast] at hM
          have hmr : m ≤ rest.length := by omega
          have hqm : q + m ≤ b.length := by omega
          have hdr : rest.drop m = b.drop (q + m) := by rw [hrd, List.drop_drop]
          have hrows := rows_at b q m
          have htk : rest.take m = (b.drop q).take m := by rw [← hrd]
          rw [hdr, htk] at hM
          have htl : ((b.drop q).take m).length = m := by rw [← htk, List.length_take]; omega
          have htm : (((b.drop q).take m).map byteT).length = m := by rw [List.length_map, htl]
          have hb2 : body ++ (b.drop q).take m = body ++ (b.drop q).take m := rfl
          have c4 := refLine_ b hb (q + m) hqm
          have hbd : ((body.map byteT).length + (((b.map byteT).take (q + m)).drop q).length) * 1 ≤ 140737488355328 := by rw [hrows, htm]; omega
          have hbm : (body.map byteT).length + (((b.map byteT).take (q + m)).drop q).length ≤ maxLen := by rw [hrows, htm]; unfold maxLen; omega
          have hB : body.map byteT ++ ((b.map byteT).take (q + m)).drop q = (body ++ (b.drop q).take m).map byteT := by rw [hrows, List.map_append]
          have hB2 : (body ++ (b.drop q).take m).length = body.length + m := by rw [List.length_append, htl]
          generalize body ++ (b.drop q).take m = body2 at *
          cases hs2 : scan [] (b.drop (q + m)) with
          | wait =>
            rw [hs2] at hM c4
            simp only at hM
            rw [← hM]
            have c2 := refFault_ 0
            rw [lineT_wait] at c4
            rcases hlong2 with hl2 | ⟨hn0, hl2⟩
            all_goals
              repeat' (first | refine fam_ret ?_ | refine fam_exit ?_ | (refine rg 1 (aq16 ?_); refine oC (c1) rfl (ac (ac .nil)) ?_; refine aq51 ?_) | refine rg 2 (aq22 ?_) | (refine rg 4 ?_; refine oMv ?_; (first | refine oC (c1) rfl (ac .nil) ?_ | refine oC (c3) rfl (ac .nil) ?_); refine aq0 ?_) | refine rg 5 (aq22 ?_) | refine rg 7 (aq201 ?_) | (refine rg 9 (aq200 ?_); (first | refine sp (po_dec rfl rfl rfl (by omega)) ?_ | refine sp (po_arith rfl rfl rfl (ar_sub (by first | rfl | (refine wrap_i64 ?_; omega)) rfl)) ?_); refine aq22 ?_) | ((refine swp_any (id := 11) [[], [], [], [], [], [], [], [], [101], [], [5]] [[], [], [], [], [], [], [], [], [], [], []] mixed (by kernel_rfl) ?_) <;> refine yp (fun _ _ => po_field_bx rfl rfl (tyF rfl)) ?_ <;> refine yp (fun _ _ => po_load_bx rfl rfl (tyT rfl) rfl rfl) ?_ <;> refine yp (fun _ _ => po_move rfl rfl) ?_ <;> refine yp (fun _ _ => po_move rfl rfl) ?_ <;> refine yp (fun _ _ => po_move rfl rfl) ?_ <;> refine yp (fun _ _ => po_move rfl rfl) ?_ <;> (first | refine yp (fun _ _ => po_inc rfl rfl rfl (by omega)) ?_ | refine yp (fun _ _ => po_arith rfl rfl rfl (ar_add (by first | rfl | (refine wrap_i64 ?_; omega)) rfl)) ?_) <;> (first | refine yp (fun _ _ => po_slice_sfx rfl rfl rfl (by rfl) (tyS rfl) rfl (by omega) (by omega)) ?_ | refine yp (fun _ _ => po_slice rfl rfl (by exact .t _) (tyS rfl) (by first | rfl | exact ⟨_, rfl⟩) (by first | rfl | exact ⟨_, rfl⟩) (by omega) (by omega)) ?_) <;> refine sany_eff [] [(101, _)] (.free rfl rfl) rfl rfl (fun _ _ _ _ => e_append rfl rfl rfl (by rfl) rfl (by exact .t _) (tyE rfl) (by assumption) (by assumption)) ?_ <;> refine yp (fun _ _ => po_field_bx rfl rfl (tyF rfl)) ?_ <;> refine sany_eff [(5, _)] [] (.free rfl rfl) rfl rfl (fun _ _ _ _ => e_store rfl rfl rfl rfl rfl rfl (tyT rfl) rfl rfl) ?_ <;> refine sany_nil ?_) | refine gc ?_ | refine ct ?_ | refine cf ?_ | refine sc ?_ ?_ <;> intro hc | refine rq rfl (.cell rfl rfl (tyT rfl) (vc (vc (vc .nil))) rfl (rt (rt (rt .nil)))) ?_)
              rw [hB]
              repeat' (first | refine fam_ret ?_ | refine fam_exit ?_ | (refine rg 12 (aq202 ?_); (first | refine oC (c2) rfl (ac (ac .nil)) ?_ | refine oC (c4) rfl (ac (ac .nil)) ?_); refine aq51 ?_) | refine rg 13 (aq22 ?_) | ((refine swp_any (id := 14) [[], [], [], [6], [], [], []] [[], [], [], [], [], [], []] mixed (by kernel_rfl) ?_) <;> (refine yp (fun _ _ => po_load_bx_agg rfl rfl (tyT rfl) rfl (vc (vc (vc .nil))) rfl) ?_) <;> refine yp (fun _ _ => po_move rfl rfl) ?_ <;> refine yp (fun _ _ => po_call (c2) rfl (ac .nil)) ?_ <;> refine sany_eff [(6, _)] [] (.free rfl rfl) rfl rfl (fun _ _ _ _ => e_store rfl rfl rfl rfl rfl rfl (tyT rfl) rfl rfl) ?_ <;> refine yp (fun _ _ => po_assign rfl rfl) ?_ <;> refine yp (fun _ _ => po_assign rfl rfl) ?_ <;> refine yp (fun _ _ => po_assign rfl rfl) ?_ <;> refine sany_nil ?_) | refine gc ?_ | refine ct ?_ | refine cf ?_ | refine sc ?_ ?_ <;> intro hc | refine rq rfl (.cell rfl rfl (tyT rfl) (vc (vc (vc .nil))) rfl (rt (rt (rt .nil)))) ?_)
              rfl
          | bad e =>
            have hbad := scan_bad _ _ _ hs2
            rw [hs2] at hM c4
            simp only at hM
            rw [← hM]
            rcases hbad with rfl | rfl
            · have c2 := refFault_ 2
              have c4 : PCalls Tryz.prog 96 [.sl 1 (b.map byteT), .v (.int .i64 ((q + m : Nat) : Int))] (.tup [.v (.string ⟨#[]⟩), .v (.int .i64 0), .v (.int .i64 2)]) := c4
              rcases hlong2 with hl2 | ⟨hn0, hl2⟩
              all_goals
                repeat' (first | refine fam_ret ?_ | refine fam_exit ?_ | (refine rg 1 (aq16 ?_); refine oC (c1) rfl (ac (ac .nil)) ?_; refine aq51 ?_) | refine rg 2 (aq22 ?_) | (refine rg 4 ?_; refine oMv ?_; (first | refine oC (c1) rfl (ac .nil) ?_ | refine oC (c3) rfl (ac .nil) ?_); refine aq0 ?_) | refine rg 5 (aq22 ?_) | refine rg 7 (aq201 ?_) | (refine rg 9 (aq200 ?_); (first | refine sp (po_dec rfl rfl rfl (by omega)) ?_ | refine sp (po_arith rfl rfl rfl (ar_sub (by first | rfl | (refine wrap_i64 ?_; omega)) rfl)) ?_); refine aq22 ?_) | ((refine swp_any (id := 11) [[], [], [], [], [], [], [], [], [101], [], [5]] [[], [], [], [], [], [], [], [], [], [], []] mixed (by kernel_rfl) ?_) <;> refine yp (fun _ _ => po_field_bx rfl rfl (tyF rfl)) ?_ <;> refine yp (fun _ _ => po_load_bx rfl rfl (tyT rfl) rfl rfl) ?_ <;> refine yp (fun _ _ => po_move rfl rfl) ?_ <;> refine yp (fun _ _ => po_move rfl rfl) ?_ <;> refine yp (fun _ _ => po_move rfl rfl) ?_ <;> refine yp (fun _ _ => po_move rfl rfl) ?_ <;> (first | refine yp (fun _ _ => po_inc rfl rfl rfl (by omega)) ?_ | refine yp (fun _ _ => po_arith rfl rfl rfl (ar_add (by first | rfl | (refine wrap_i64 ?_; omega)) rfl)) ?_) <;> (first | refine yp (fun _ _ => po_slice_sfx rfl rfl rfl (by rfl) (tyS rfl) rfl (by omega) (by omega)) ?_ | refine yp (fun _ _ => po_slice rfl rfl (by exact .t _) (tyS rfl) (by first | rfl | exact ⟨_, rfl⟩) (by first | rfl | exact ⟨_, rfl⟩) (by omega) (by omega)) ?_) <;> refine sany_eff [] [(101, _)] (.free rfl rfl) rfl rfl (fun _ _ _ _ => e_append rfl rfl rfl (by rfl) rfl (by exact .t _) (tyE rfl) (by assumption) (by assumption)) ?_ <;> refine yp (fun _ _ => po_field_bx rfl rfl (tyF rfl)) ?_ <;> refine sany_eff [(5, _)] [] (.free rfl rfl) rfl rfl (fun _ _ _ _ => e_store rfl rfl rfl rfl rfl rfl (tyT rfl) rfl rfl) ?_ <;> refine sany_nil ?_) | refine gc ?_ | refine ct ?_ | refine cf ?_ | refine sc ?_ ?_ <;> intro hc | refine rq rfl (.cell rfl rfl (tyT rfl) (vc (vc (vc .nil))) rfl (rt (rt (rt .nil)))) ?_)
                rw [hB]
                repeat' (first | refine fam_ret ?_ | refine fam_exit ?_ | (refine rg 12 (aq202 ?_); (first | refine oC (c2) rfl (ac (ac .nil)) ?_ | refine oC (c4) rfl (ac (ac .nil)) ?_); refine aq51 ?_) | refine rg 13 (aq22 ?_) | ((refine swp_any (id := 14) [[], [], [], [6], [], [], []] [[], [], [], [], [], [], []] mixed (by kernel_rfl) ?_) <;> (refine yp (fun _ _ => po_load_bx_agg rfl rfl (tyT rfl) rfl (vc (vc (vc .nil))) rfl) ?_) <;> refine yp (fun _ _ => po_move rfl rfl) ?_ <;> refine yp (fun _ _ => po_call (c2) rfl (ac .nil)) ?_ <;> refine sany_eff [(6, _)] [] (.free rfl rfl) rfl rfl (fun _ _ _ _ => e_store rfl rfl rfl rfl rfl rfl (tyT rfl) rfl rfl) ?_ <;> refine yp (fun _ _ => po_assign rfl rfl) ?_ <;> refine yp (fun _ _ => po_assign rfl rfl) ?_ <;> refine yp (fun _ _ => po_assign rfl rfl) ?_ <;> refine sany_nil ?_) | refine gc ?_ | refine ct ?_ | refine cf ?_ | refine sc ?_ ?_ <;> intro hc | refine rq rfl (.cell rfl rfl (tyT rfl) (vc (vc (vc .nil))) rfl (rt (rt (rt .nil)))) ?_)
                rfl
            · have c2 := refFault_ 3
              have c4 : PCalls Tryz.prog 96 [.sl 1 (b.map byteT), .v (.int .i64 ((q + m : Nat) : Int))] (.tup [.v (.string ⟨#[]⟩), .v (.int .i64 0), .v (.int .i64 3)]) := c4
              rcases hlong2 with hl2 | ⟨hn0, hl2⟩
              all_goals
                repeat' (first | refine fam_ret ?_ | refine fam_exit ?_ | (refine rg 1 (aq16 ?_); refine oC (c1) rfl (ac (ac .nil)) ?_; refine aq51 ?_) | refine rg 2 (aq22 ?_) | (refine rg 4 ?_; refine oMv ?_; (first | refine oC (c1) rfl (ac .nil) ?_ | refine oC (c3) rfl (ac .nil) ?_); refine aq0 ?_) | refine rg 5 (aq22 ?_) | refine rg 7 (aq201 ?_) | (refine rg 9 (aq200 ?_); (first | refine sp (po_dec rfl rfl rfl (by omega)) ?_ | refine sp (po_arith rfl rfl rfl (ar_sub (by first | rfl | (refine wrap_i64 ?_; omega)) rfl)) ?_); refine aq22 ?_) | ((refine swp_any (id := 11) [[], [], [], [], [], [], [], [], [101], [], [5]] [[], [], [], [], [], [], [], [], [], [], []] mixed (by kernel_rfl) ?_) <;> refine yp (fun _ _ => po_field_bx rfl rfl (tyF rfl)) ?_ <;> refine yp (fun _ _ => po_load_bx rfl rfl (tyT rfl) rfl rfl) ?_ <;> refine yp (fun _ _ => po_move rfl rfl) ?_ <;> refine yp (fun _ _ => po_move rfl rfl) ?_ <;> refine yp (fun _ _ => po_move rfl rfl) ?_ <;> refine yp (fun _ _ => po_move rfl rfl) ?_ <;> (first | refine yp (fun _ _ => po_inc rfl rfl rfl (by omega)) ?_ | refine yp (fun _ _ => po_arith rfl rfl rfl (ar_add (by first | rfl | (refine wrap_i64 ?_; omega)) rfl)) ?_) <;> (first | refine yp (fun _ _ => po_slice_sfx rfl rfl rfl (by rfl) (tyS rfl) rfl (by omega) (by omega)) ?_ | refine yp (fun _ _ => po_slice rfl rfl (by exact .t _) (tyS rfl) (by first | rfl | exact ⟨_, rfl⟩) (by first | rfl | exact ⟨_, rfl⟩) (by omega) (by omega)) ?_) <;> refine sany_eff [] [(101, _)] (.free rfl rfl) rfl rfl (fun _ _ _ _ => e_append rfl rfl rfl (by rfl) rfl (by exact .t _) (tyE rfl) (by assumption) (by assumption)) ?_ <;> refine yp (fun _ _ => po_field_bx rfl rfl (tyF rfl)) ?_ <;> refine sany_eff [(5, _)] [] (.free rfl rfl) rfl rfl (fun _ _ _ _ => e_store rfl rfl rfl rfl rfl rfl (tyT rfl) rfl rfl) ?_ <;> refine sany_nil ?_) | refine gc ?_ | refine ct ?_ | refine cf ?_ | refine sc ?_ ?_ <;> intro hc | refine rq rfl (.cell rfl rfl (tyT rfl) (vc (vc (vc .nil))) rfl (rt (rt (rt .nil)))) ?_)
                rw [hB]
                repeat' (first | refine fam_ret ?_ | refine fam_exit ?_ | (refine rg 12 (aq202 ?_); (first | refine oC (c2) rfl (ac (ac .nil)) ?_ | refine oC (c4) rfl (ac (ac .nil)) ?_); refine aq51 ?_) | refine rg 13 (aq22 ?_) | ((refine swp_any (id := 14) [[], [], [], [6], [], [], []] [[], [], [], [], [], [], []] mixed (by kernel_rfl) ?_) <;> (refine yp (fun _ _ => po_load_bx_agg rfl rfl (tyT rfl) rfl (vc (vc (vc .nil))) rfl) ?_) <;> refine yp (fun _ _ => po_move rfl rfl) ?_ <;> refine yp (fun _ _ => po_call (c2) rfl (ac .nil)) ?_ <;> refine sany_eff [(6, _)] [] (.free rfl rfl) rfl rfl (fun _ _ _ _ => e_store rfl rfl rfl rfl rfl rfl (tyT rfl) rfl rfl) ?_ <;> refine yp (fun _ _ => po_assign rfl rfl) ?_ <;> refine yp (fun _ _ => po_assign rfl rfl) ?_ <;> refine yp (fun _ _ => po_assign rfl rfl) ?_ <;> refine sany_nil ?_) | refine gc ?_ | refine ct ?_ | refine cf ?_ | refine sc ?_ ?_ <;> intro hc | refine rq rfl (.cell rfl rfl (tyT rfl) (vc (vc (vc .nil))) rfl (rt (rt (rt .nil)))) ?_)
                rfl
          | ok s2 rest2 =>
            obtain ⟨hrd2, hrl2⟩ := rest_drop hs2
            rw [hs2] at hM c4
            simp only at hM
            rw [lineT_ok] at c4
            have hne : decide (bs s2 = ⟨#[]⟩) = decide (s2 = []) := by rw [decide_eq_decide]; exact bs_nil_iff s2
            by_cases he : s2 = []
            · rw [if_neg (by simp [he])] at hM
              have e1 : (!decide (bs s2 = ⟨#[]⟩)) = false := by rw [hne, decide_eq_true he]; rfl
              by_cases h0 : (m : Int) = 0
              · rw [if_pos h0] at hM
                rw [← hM]
                have hl2 : (m : Int) ≤ 0 := by omega
                repeat' (first | refine fam_ret ?_ | refine fam_exit ?_ | (refine rg 1 (aq16 ?_); refine oC (c1) rfl (ac (ac .nil)) ?_; refine aq51 ?_) | refine rg 2 (aq22 ?_) | (refine rg 4 ?_; refine oMv ?_; (first | refine oC (c1) rfl (ac .nil) ?_ | refine oC (c3) rfl (ac .nil) ?_); refine aq0 ?_) | refine rg 5 (aq22 ?_) | refine rg 7 (aq201 ?_) | (refine rg 9 (aq200 ?_); (first | refine sp (po_dec rfl rfl rfl (by omega)) ?_ | refine sp (po_arith rfl rfl rfl (ar_sub (by first | rfl | (refine wrap_i64 ?_; omega)) rfl)) ?_); refine aq22 ?_) | ((refine swp_any (id := 11) [[], [], [], [], [], [], [], [], [101], [], [5]] [[], [], [], [], [], [], [], [], [], [], []] mixed (by kernel_rfl) ?_) <;> refine yp (fun _ _ => po_field_bx rfl rfl (tyF rfl)) ?_ <;> refine yp (fun _ _ => po_load_bx rfl rfl (tyT rfl) rfl rfl) ?_ <;> refine yp (fun _ _ => po_move rfl rfl) ?_ <;> refine yp (fun _ _ => po_move rfl rfl) ?_ <;> refine yp (fun _ _ => po_move rfl rfl) ?_ <;> refine yp (fun _ _ => po_move rfl rfl) ?_ <;> (first | refine yp (fun _ _ => po_inc rfl rfl rfl (by omega)) ?_ | refine yp (fun _ _ => po_arith rfl rfl rfl (ar_add (by first | rfl | (refine wrap_i64 ?_; omega)) rfl)) ?_) <;> (first | refine yp (fun _ _ => po_slice_sfx rfl rfl rfl (by rfl) (tyS rfl) rfl (by omega) (by omega)) ?_ | refine yp (fun _ _ => po_slice rfl rfl (by exact .t _) (tyS rfl) (by first | rfl | exact ⟨_, rfl⟩) (by first | rfl | exact ⟨_, rfl⟩) (by omega) (by omega)) ?_) <;> refine sany_eff [] [(101, _)] (.free rfl rfl) rfl rfl (fun _ _ _ _ => e_append rfl rfl rfl (by rfl) rfl (by exact .t _) (tyE rfl) (by assumption) (by assumption)) ?_ <;> refine yp (fun _ _ => po_field_bx rfl rfl (tyF rfl)) ?_ <;> refine sany_eff [(5, _)] [] (.free rfl rfl) rfl rfl (fun _ _ _ _ => e_store rfl rfl rfl rfl rfl rfl (tyT rfl) rfl rfl) ?_ <;> refine sany_nil ?_) | refine gc ?_ | refine ct ?_ | refine cf ?_ | refine sc ?_ ?_ <;> intro hc | refine rq rfl (.cell rfl rfl (tyT rfl) (vc (vc (vc .nil))) rfl (rt (rt (rt .nil)))) ?_)
                rw [hB]
                repeat' (first | refine fam_ret ?_ | refine fam_exit ?_ | (refine rg 12 (aq202 ?_); refine oC (c4) rfl (ac (ac .nil)) ?_; refine aq51 ?_) | refine rg 13 (aq22 ?_) | refine rg 15 (aq84 ?_) | refine rg 17 (aq22 ?_) | refine rg 18 (aq203 ?_) | refine gc ?_ | refine ct ?_ | refine cf ?_ | refine sc ?_ ?_ <;> intro hc | refine rq rfl (.cell rfl rfl (tyT rfl) (vc (vc (vc .nil))) rfl (rt (rt (rt .nil)))) ?_)
                rfl
              · rw [if_neg h0] at hM
                have hn0 : 0 < (m : Int) := by omega
                have hl2 : (body.length : Int) + (m : Int) ≤ 1024 := by omega
                repeat' (first | refine fam_ret ?_ | refine fam_exit ?_ | (refine rg 1 (aq16 ?_); refine oC (c1) rfl (ac (ac .nil)) ?_; refine aq51 ?_) | refine rg 2 (aq22 ?_) | (refine rg 4 ?_; refine oMv ?_; (first | refine oC (c1) rfl (ac .nil) ?_ | refine oC (c3) rfl (ac .nil) ?_); refine aq0 ?_) | refine rg 5 (aq22 ?_) | refine rg 7 (aq199 ?_) | (refine rg 9 (aq200 ?_); (first | refine sp (po_dec rfl rfl rfl (by omega)) ?_ | refine sp (po_arith rfl rfl rfl (ar_sub (by first | rfl | (refine wrap_i64 ?_; omega)) rfl)) ?_); refine aq22 ?_) | ((refine swp_any (id := 11) [[], [], [], [], [], [], [], [], [101], [], [5]] [[], [], [], [], [], [], [], [], [], [], []] mixed (by kernel_rfl) ?_) <;> refine yp (fun _ _ => po_field_bx rfl rfl (tyF rfl)) ?_ <;> refine yp (fun _ _ => po_load_bx rfl rfl (tyT rfl) rfl rfl) ?_ <;> refine yp (fun _ _ => po_move rfl rfl) ?_ <;> refine yp (fun _ _ => po_move rfl rfl) ?_ <;> refine yp (fun _ _ => po_move rfl rfl) ?_ <;> refine yp (fun _ _ => po_move rfl rfl) ?_ <;> (first | refine yp (fun _ _ => po_inc rfl rfl rfl (by omega)) ?_ | refine yp (fun _ _ => po_arith rfl rfl rfl (ar_add (by first | rfl | (refine wrap_i64 ?_; omega)) rfl)) ?_) <;> (first | refine yp (fun _ _ => po_slice_sfx rfl rfl rfl (by rfl) (tyS rfl) rfl (by omega) (by omega)) ?_ | refine yp (fun _ _ => po_slice rfl rfl (by exact .t _) (tyS rfl) (by first | rfl | exact ⟨_, rfl⟩) (by first | rfl | exact ⟨_, rfl⟩) (by omega) (by omega)) ?_) <;> refine sany_eff [] [(101, _)] (.free rfl rfl) rfl rfl (fun _ _ _ _ => e_append rfl rfl rfl (by rfl) rfl (by exact .t _) (tyE rfl) (by assumption) (by assumption)) ?_ <;> refine yp (fun _ _ => po_field_bx rfl rfl (tyF rfl)) ?_ <;> refine sany_eff [(5, _)] [] (.free rfl rfl) rfl rfl (fun _ _ _ _ => e_store rfl rfl rfl rfl rfl rfl (tyT rfl) rfl rfl) ?_ <;> refine sany_nil ?_) | refine gc ?_ | refine ct ?_ | refine cf ?_ | refine sc ?_ ?_ <;> intro hc | refine rq rfl (.cell rfl rfl (tyT rfl) (vc (vc (vc .nil))) rfl (rt (rt (rt .nil)))) ?_)
                rw [hB]
                repeat' (first | refine fam_next (body2, b.length - rest2.length) (by simp only; omega) (weak_sub (.cons rfl rfl rfl (.cons rfl rfl rfl (.cons rfl rfl rfl (.cons rfl rfl rfl .nil)))) (.cons rfl rfl rfl (.cons rfl rfl rfl .nil)) (.cons rfl rfl .nil)) ⟨hrl2, by simp only; omega, f, by simp only; omega, by simp only; rw [← hrd2]; exact hM⟩ | refine fam_ret ?_ | refine fam_exit ?_ | (refine rg 12 (aq202 ?_); refine oC (c4) rfl (ac (ac .nil)) ?_; refine aq51 ?_) | refine rg 13 (aq22 ?_) | refine rg 15 (aq84 ?_) | refine rg 17 (aq22 ?_) | refine gc ?_ | refine ct ?_ | refine cf ?_)
            · rw [if_pos he] at hM
              rw [← hM]
              have e1 : (!decide (bs s2 = ⟨#[]⟩)) = true := by rw [hne, decide_eq_false he]; rfl
              rcases hlong2 with hl2 | ⟨hn0, hl2⟩
              all_goals
                repeat' (first | refine fam_ret ?_ | refine fam_exit ?_ | (refine rg 1 (aq16 ?_); refine oC (c1) rfl (ac (ac .nil)) ?_; refine aq51 ?_) | refine rg 2 (aq22 ?_) | (refine rg 4 ?_; refine oMv ?_; (first | refine oC (c1) rfl (ac .nil) ?_ | refine oC (c3) rfl (ac .nil) ?_); refine aq0 ?_) | refine rg 5 (aq22 ?_) | refine rg 7 (aq201 ?_) | (refine rg 9 (aq200 ?_); (first | refine sp (po_dec rfl rfl rfl (by omega)) ?_ | refine sp (po_arith rfl rfl rfl (ar_sub (by first | rfl | (refine wrap_i64 ?_; omega)) rfl)) ?_); refine aq22 ?_) | ((refine swp_any (id := 11) [[], [], [], [], [], [], [], [], [101], [], [5]] [[], [], [], [], [], [], [], [], [], [], []] mixed (by kernel_rfl) ?_) <;> refine yp (fun _ _ => po_field_bx rfl rfl (tyF rfl)) ?_ <;> refine yp (fun _ _ => po_load_bx rfl rfl (tyT rfl) rfl rfl) ?_ <;> refine yp (fun _ _ => po_move rfl rfl) ?_ <;> refine yp (fun _ _ => po_move rfl rfl) ?_ <;> refine yp (fun _ _ => po_move rfl rfl) ?_ <;> refine yp (fun _ _ => po_move rfl rfl) ?_ <;> (first | refine yp (fun _ _ => po_inc rfl rfl rfl (by omega)) ?_ | refine yp (fun _ _ => po_arith rfl rfl rfl (ar_add (by first | rfl | (refine wrap_i64 ?_; omega)) rfl)) ?_) <;> (first | refine yp (fun _ _ => po_slice_sfx rfl rfl rfl (by rfl) (tyS rfl) rfl (by omega) (by omega)) ?_ | refine yp (fun _ _ => po_slice rfl rfl (by exact .t _) (tyS rfl) (by first | rfl | exact ⟨_, rfl⟩) (by first | rfl | exact ⟨_, rfl⟩) (by omega) (by omega)) ?_) <;> refine sany_eff [] [(101, _)] (.free rfl rfl) rfl rfl (fun _ _ _ _ => e_append rfl rfl rfl (by rfl) rfl (by exact .t _) (tyE rfl) (by assumption) (by assumption)) ?_ <;> refine yp (fun _ _ => po_field_bx rfl rfl (tyF rfl)) ?_ <;> refine sany_eff [(5, _)] [] (.free rfl rfl) rfl rfl (fun _ _ _ _ => e_store rfl rfl rfl rfl rfl rfl (tyT rfl) rfl rfl) ?_ <;> refine sany_nil ?_) | refine gc ?_ | refine ct ?_ | refine cf ?_ | refine sc ?_ ?_ <;> intro hc | refine rq rfl (.cell rfl rfl (tyT rfl) (vc (vc (vc .nil))) rfl (rt (rt (rt .nil)))) ?_)
                rw [hB]
                repeat' (first | refine fam_ret ?_ | refine fam_exit ?_ | (refine rg 12 (aq202 ?_); refine oC (c4) rfl (ac (ac .nil)) ?_; refine aq51 ?_) | refine rg 13 (aq22 ?_) | refine rg 15 (aq84 ?_) | refine rg 16 (aq198 ?_) | refine gc ?_ | refine ct ?_ | refine cf ?_ | refine sc ?_ ?_ <;> intro hc | refine rq rfl (.cell rfl rfl (tyT rfl) (vc (vc (vc .nil))) rfl (rt (rt (rt .nil)))) ?_)
                rfl
end Go.Proofs.YtpncekdhigappaaGreatDoor.Rq
