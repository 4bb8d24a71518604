/- Merged by bundles.py: SimDo5, PlNet3, PlNet5. -/
import Derived.Test.YtgbcmjcaggnobaaT26
import Derived.Test.YtgbcmjcaggnobaaT23
/- The document's net: Does, Links. -/
namespace Go.Proofs.Ytgbcmjcaggnobaa.Sim
set_option linter.unusedVariables false
set_option linter.unusedSimpArgs false
open Go.RowKit Mem
theorem le_tz3 {m : Mm} {g : Gh} {v : Value} {a b : T} (h : AR m g (.tu [.t msg0, .t a, .t b]) v) : AR m g (.tu [.t (msgA msgZ), .t a, .t b]) v := by
  obtain ⟨vs, h1, h2, h3⟩ := h
  refine ⟨vs, h1, h2, fun j x u hj hu => ?_⟩
  match j, hj with
  | 0, hj =>
    injection hj with hj; subst hj
    exact le_msg0 m u (h3 0 _ u rfl hu)
  | j + 1, hj => exact h3 (j + 1) x u hj hu
set_option maxRecDepth 100000 in
set_option maxHeartbeats 2000000 in
theorem rdoes_send0 (d : PNet) (hd : NetOk d) (h : PHop) (hl : h.load.length ≤ 140737488355328) : LCalls Try.prog 23 [.bp 2000 0, .t (.v (.int .i64 0)), .t (.v (.int .i64 h.f)), .t (.v (.int .i64 h.t)), .t (.v (.int .i64 h.no)), .t (bysT h.load)] (refN d) [] (.tu [.t msg0, .t (.v (.int .i64 0)), .t (.v (.int .i64 (sendP d h.f h.t h.load).2))]) (refN (sendP d h.f h.t h.load).1) [] := by
  have c1 := rsend_ d hd h.f h.t h.load hl
  generalize sendP d h.f h.t h.load = r at *
  refine lcalls_of Try.func23 rfl rfl Try.ntmps23 rfl ?_
  repeat' (first | (refine rg 0 ?_; refine sal str32 ?_; refine oAs ?_; refine oAs ?_; refine oN ?_) | (refine rg 1 ?_; refine sal str32 ?_; refine oN ?_) | (refine rg 2 ?_; refine oMv ?_; refine oN ?_) | (refine rg 3 ?_; refine oCm ?_; refine oAs ?_; refine oN ?_) | ((refine swp_any (id := 5) [[], [], [], [], [], [2000], [12], [], []] [[2000], [], [], [], [], [], [], [], []] mixed (by kernel_rfl) ?_) <;> (refine yp (fun _ _ => po_load_bx_agg rfl rfl (tyT rfl) rfl (vc (vc (vc .nil))) rfl) ?_) <;> refine yp (fun _ _ => po_move rfl rfl) ?_ <;> refine yp (fun _ _ => po_move rfl rfl) ?_ <;> refine yp (fun _ _ => po_move rfl rfl) ?_ <;> refine yp (fun _ _ => po_move rfl rfl) ?_ <;> (refine sany_eff [(2000, _)] [] (.free rfl rfl) rfl rfl (fun _ _ hb ho => e_lcall (c1) (fun i => i) (fun i => i) rfl (by ((repeat' (first | exact .nil | refine .cons rfl rfl rfl ?_)) <;> fail)) (.cons rfl rfl .nil) .nil rfl rfl (by ((repeat' (first | exact .nil | refine .old rfl ?_)) <;> fail)) (by ((repeat' (exact .nil)) <;> fail)) .nil) ?_) <;> refine sany_eff [(12, _)] [] (.free rfl rfl) rfl rfl (fun _ _ _ _ => e_store rfl rfl rfl rfl rfl rfl (tyT rfl) rfl rfl) ?_ <;> refine yp (fun _ _ => po_assign rfl rfl) ?_ <;> refine yp (fun _ _ => po_assign rfl rfl) ?_ <;> refine sany_nil ?_) | refine gc ?_ | refine ct ?_ | refine cf ?_ | refine swp_cond rfl (fun hc => ?_) (fun hc => ?_) | refine retl (by exact .inr rfl) rfl (.cellT rfl rfl (tyT rfl) (vc (vc (vc .nil))) rfl (.tmpT rfl (by first | exact .t _ | exact .own rfl (by rfl) | exact .nil _ | exact .emp _ | exact .fn _) (.tmpT rfl (by first | exact .t _ | exact .own rfl (by rfl) | exact .nil _ | exact .emp _ | exact .fn _) .nil))) ?_ rfl (.cons rfl (by rfl) rfl .nil) .nil)
  all_goals rfl
set_option maxRecDepth 100000 in
set_option maxHeartbeats 2000000 in
theorem rdoes_send1 (d : PNet) (hd : NetOk d) (h : PHop) (hl : h.load.length ≤ 140737488355328) : LCalls Try.prog 23 [.bp 2000 0, .t (.v (.int .i64 1)), .t (.v (.int .i64 h.f)), .t (.v (.int .i64 h.t)), .t (.v (.int .i64 h.no)), .t (bysT h.load)] (refN d) [] (.tu [.t msg0, .t (.v (.int .i64 0)), .t (.v (.int .i64 (sendP d h.f h.t h.load).2))]) (refN (sendP d h.f h.t h.load).1) [] := by
  have c1 := rsend_ d hd h.f h.t h.load hl
  generalize sendP d h.f h.t h.load = r at *
  refine lcalls_of Try.func23 rfl rfl Try.ntmps23 rfl ?_
  repeat' (first | (refine rg 0 ?_; refine sal str32 ?_; refine oAs ?_; refine oAs ?_; refine oN ?_) | (refine rg 1 ?_; refine sal str32 ?_; refine oN ?_) | (refine rg 2 ?_; refine oMv ?_; refine oN ?_) | (refine rg 3 ?_; refine oCm ?_; refine oAs ?_; refine oN ?_) | (refine rg 4 ?_; refine oCm ?_; refine oAs ?_; refine oN ?_) | ((refine swp_any (id := 5) [[], [], [], [], [], [2000], [12], [], []] [[2000], [], [], [], [], [], [], [], []] mixed (by kernel_rfl) ?_) <;> (refine yp (fun _ _ => po_load_bx_agg rfl rfl (tyT rfl) rfl (vc (vc (vc .nil))) rfl) ?_) <;> refine yp (fun _ _ => po_move rfl rfl) ?_ <;> refine yp (fun _ _ => po_move rfl rfl) ?_ <;> refine yp (fun _ _ => po_move rfl rfl) ?_ <;> refine yp (fun _ _ => po_move rfl rfl) ?_ <;> (refine sany_eff [(2000, _)] [] (.free rfl rfl) rfl rfl (fun _ _ hb ho => e_lcall (c1) (fun i => i) (fun i => i) rfl (by ((repeat' (first | exact .nil | refine .cons rfl rfl rfl ?_)) <;> fail)) (.cons rfl rfl .nil) .nil rfl rfl (by ((repeat' (first | exact .nil | refine .old rfl ?_)) <;> fail)) (by ((repeat' (exact .nil)) <;> fail)) .nil) ?_) <;> refine sany_eff [(12, _)] [] (.free rfl rfl) rfl rfl (fun _ _ _ _ => e_store rfl rfl rfl rfl rfl rfl (tyT rfl) rfl rfl) ?_ <;> refine yp (fun _ _ => po_assign rfl rfl) ?_ <;> refine yp (fun _ _ => po_assign rfl rfl) ?_ <;> refine sany_nil ?_) | refine gc ?_ | refine ct ?_ | refine cf ?_ | refine swp_cond rfl (fun hc => ?_) (fun hc => ?_) | refine retl (by exact .inr rfl) rfl (.cellT rfl rfl (tyT rfl) (vc (vc (vc .nil))) rfl (.tmpT rfl (by first | exact .t _ | exact .own rfl (by rfl) | exact .nil _ | exact .emp _ | exact .fn _) (.tmpT rfl (by first | exact .t _ | exact .own rfl (by rfl) | exact .nil _ | exact .emp _ | exact .fn _) .nil))) ?_ rfl (.cons rfl (by rfl) rfl .nil) .nil)
  all_goals rfl
set_option maxRecDepth 100000 in
set_option maxHeartbeats 2000000 in
theorem rdoes_deliver (d : PNet) (hd : NetOk d) (h : PHop) : LCalls Try.prog 23 [.bp 2000 0, .t (.v (.int .i64 2)), .t (.v (.int .i64 h.f)), .t (.v (.int .i64 h.t)), .t (.v (.int .i64 h.no)), .t (bysT h.load)] (refN d) [] (.tu [.t (msgA (atP d h.f h.t h.no).1), .t (.v (.int .i64 0)), .t (.v (.int .i64 (atP d h.f h.t h.no).2))]) (refN (delP d h.f h.t h.no)) [] := by
  have c1 := rdel_ d hd h.f h.t h.no
  generalize delP d h.f h.t h.no = d' at *
  generalize atP d h.f h.t h.no = r at *
  unfold msgA msgT at c1 ⊢
  refine lcalls_of Try.func23 rfl rfl Try.ntmps23 rfl ?_
  repeat' (first | (refine rg 0 ?_; refine sal str32 ?_; refine oAs ?_; refine oAs ?_; refine oN ?_) | (refine rg 1 ?_; refine sal str32 ?_; refine oN ?_) | (refine rg 2 ?_; refine oMv ?_; refine oN ?_) | (refine rg 3 ?_; refine oCm ?_; refine oAs ?_; refine oN ?_) | (refine rg 4 ?_; refine oCm ?_; refine oAs ?_; refine oN ?_) | (refine rg 6 ?_; refine oCm ?_; refine oAs ?_; refine oN ?_) | (refine rg 7 ?_; refine oMv ?_; refine oMv ?_; refine oMv ?_; refine oMv ?_; refine sops_lcall (c1) (fun i => i) (fun i => i) (fun _ => false) (.free rfl rfl) rfl rfl rfl (by ((repeat' (first | exact .nil | refine .cons rfl rfl rfl ?_)) <;> fail)) (.cons rfl rfl .nil) .nil rfl rfl (fun _ h => Bool.noConfusion h) ?_; refine oMv ?_; (first | refine oEx ?_ | refine sp (po_extract_tu rfl rfl rfl) ?_); (first | refine oEx ?_ | refine sp (po_extract_tu rfl rfl rfl) ?_); refine sal str32 ?_; refine oS ?_; refine oAs ?_; refine oN ?_) | (refine rg 8 ?_; (refine sp (po_load_bx_agg rfl rfl (tyT rfl) rfl (vc (vc (vc .nil))) rfl) ?_); refine oMv ?_; refine oS ?_; refine oAs ?_; refine oAs ?_; refine oN ?_) | refine gc ?_ | refine ct ?_ | refine cf ?_ | refine swp_cond rfl (fun hc => ?_) (fun hc => ?_) | refine retl (by exact .inr rfl) rfl (.cellT rfl rfl (tyT rfl) (vc (vc (vc .nil))) rfl (.tmpT rfl (by first | exact .t _ | exact .own rfl (by rfl) | exact .nil _ | exact .emp _ | exact .fn _) (.tmpT rfl (by first | exact .t _ | exact .own rfl (by rfl) | exact .nil _ | exact .emp _ | exact .fn _) .nil))) ?_ rfl (.cons rfl (by rfl) rfl .nil) .nil)
  all_goals rfl
set_option maxRecDepth 100000 in
set_option maxHeartbeats 2000000 in
theorem rdoes_drop (d : PNet) (hd : NetOk d) (h : PHop) : LCalls Try.prog 23 [.bp 2000 0, .t (.v (.int .i64 3)), .t (.v (.int .i64 h.f)), .t (.v (.int .i64 h.t)), .t (.v (.int .i64 h.no)), .t (bysT h.load)] (refN d) [] (.tu [.t msg0, .t (.v (.int .i64 0)), .t (.v (.int .i64 (atP d h.f h.t h.no).2))]) (refN (delP d h.f h.t h.no)) [] := by
  have c1 := rdel_ d hd h.f h.t h.no
  generalize delP d h.f h.t h.no = d' at *
  generalize atP d h.f h.t h.no = r at *
  unfold msgA msgT at c1
  refine lcalls_of Try.func23 rfl rfl Try.ntmps23 rfl ?_
  repeat' (first | (refine rg 0 ?_; refine sal str32 ?_; refine oAs ?_; refine oAs ?_; refine oN ?_) | (refine rg 1 ?_; refine sal str32 ?_; refine oN ?_) | (refine rg 2 ?_; refine oMv ?_; refine oN ?_) | (refine rg 3 ?_; refine oCm ?_; refine oAs ?_; refine oN ?_) | (refine rg 4 ?_; refine oCm ?_; refine oAs ?_; refine oN ?_) | (refine rg 6 ?_; refine oCm ?_; refine oAs ?_; refine oN ?_) | (refine rg 9 ?_; refine oCm ?_; refine oAs ?_; refine oN ?_) | (refine rg 10 ?_; refine oMv ?_; refine oMv ?_; refine oMv ?_; refine oMv ?_; refine sops_lcall (c1) (fun i => i) (fun i => i) (fun _ => false) (.free rfl rfl) rfl rfl rfl (by ((repeat' (first | exact .nil | refine .cons rfl rfl rfl ?_)) <;> fail)) (.cons rfl rfl .nil) .nil rfl rfl (fun _ h => Bool.noConfusion h) ?_; refine oMv ?_; (first | refine oEx ?_ | refine sp (po_extract_tu rfl rfl rfl) ?_); (first | refine oEx ?_ | refine sp (po_extract_tu rfl rfl rfl) ?_); refine sal str32 ?_; refine oS ?_; refine oAs ?_; refine oN ?_) | (refine rg 11 ?_; (refine sp (po_load_bx_agg rfl rfl (tyT rfl) rfl (vc (vc (vc .nil))) rfl) ?_); refine oMv ?_; refine oS ?_; refine oAs ?_; refine oAs ?_; refine oN ?_) | refine gc ?_ | refine ct ?_ | refine cf ?_ | refine swp_cond rfl (fun hc => ?_) (fun hc => ?_) | refine retl (by exact .inr rfl) rfl (.cellT rfl rfl (tyT rfl) (vc (vc (vc .nil))) rfl (.tmpT rfl (by first | exact .t _ | exact .own rfl (by rfl) | exact .nil _ | exact .emp _ | exact .fn _) (.tmpT rfl (by first | exact .t _ | exact .own rfl (by rfl) | exact .nil _ | exact .emp _ | exact .fn _) .nil))) ?_ rfl (.cons rfl (by rfl) rfl .nil) .nil)
  all_goals rfl
set_option maxRecDepth 100000 in
set_option maxHeartbeats 2000000 in
theorem rdoes_double (d : PNet) (hd : NetOk d) (h : PHop) : LCalls Try.prog 23 [.bp 2000 0, .t (.v (.int .i64 4)), .t (.v (.int .i64 h.f)), .t (.v (.int .i64 h.t)), .t (.v (.int .i64 h.no)), .t (bysT h.load)] (refN d) [] (.tu [.t msg0, .t (.v (.int .i64 0)), .t (.v (.int .i64 (doubleP d h.f h.t h.no).2))]) (refN (doubleP d h.f h.t h.no).1) [] := by
  have c1 := rdouble_ d hd h.f h.t h.no
  generalize doubleP d h.f h.t h.no = r at *
  refine lcalls_of Try.func23 rfl rfl Try.ntmps23 rfl ?_
  repeat' (first | (refine rg 0 ?_; refine sal str32 ?_; refine oAs ?_; refine oAs ?_; refine oN ?_) | (refine rg 1 ?_; refine sal str32 ?_; refine oN ?_) | (refine rg 2 ?_; refine oMv ?_; refine oN ?_) | (refine rg 3 ?_; refine oCm ?_; refine oAs ?_; refine oN ?_) | (refine rg 4 ?_; refine oCm ?_; refine oAs ?_; refine oN ?_) | (refine rg 6 ?_; refine oCm ?_; refine oAs ?_; refine oN ?_) | (refine rg 9 ?_; refine oCm ?_; refine oAs ?_; refine oN ?_) | (refine rg 12 ?_; refine oCm ?_; refine oAs ?_; refine oN ?_) | ((refine swp_any (id := 13) [[], [], [], [], [], [2000], [12], [], []] [[2000], [], [], [], [], [], [], [], []] mixed (by kernel_rfl) ?_) <;> (refine yp (fun _ _ => po_load_bx_agg rfl rfl (tyT rfl) rfl (vc (vc (vc .nil))) rfl) ?_) <;> refine yp (fun _ _ => po_move rfl rfl) ?_ <;> refine yp (fun _ _ => po_move rfl rfl) ?_ <;> refine yp (fun _ _ => po_move rfl rfl) ?_ <;> refine yp (fun _ _ => po_move rfl rfl) ?_ <;> (refine sany_eff [(2000, _)] [] (.free rfl rfl) rfl rfl (fun _ _ hb ho => e_lcall (c1) (fun i => i) (fun i => i) rfl (by ((repeat' (first | exact .nil | refine .cons rfl rfl rfl ?_)) <;> fail)) (.cons rfl rfl .nil) .nil rfl rfl (by ((repeat' (first | exact .nil | refine .old rfl ?_)) <;> fail)) (by ((repeat' (exact .nil)) <;> fail)) .nil) ?_) <;> refine sany_eff [(12, _)] [] (.free rfl rfl) rfl rfl (fun _ _ _ _ => e_store rfl rfl rfl rfl rfl rfl (tyT rfl) rfl rfl) ?_ <;> refine yp (fun _ _ => po_assign rfl rfl) ?_ <;> refine yp (fun _ _ => po_assign rfl rfl) ?_ <;> refine sany_nil ?_) | refine gc ?_ | refine ct ?_ | refine cf ?_ | refine swp_cond rfl (fun hc => ?_) (fun hc => ?_) | refine retl (by exact .inr rfl) rfl (.cellT rfl rfl (tyT rfl) (vc (vc (vc .nil))) rfl (.tmpT rfl (by first | exact .t _ | exact .own rfl (by rfl) | exact .nil _ | exact .emp _ | exact .fn _) (.tmpT rfl (by first | exact .t _ | exact .own rfl (by rfl) | exact .nil _ | exact .emp _ | exact .fn _) .nil))) ?_ rfl (.cons rfl (by rfl) rfl .nil) .nil)
  all_goals rfl
set_option maxRecDepth 100000 in
set_option maxHeartbeats 2000000 in
theorem rdoes_front (d : PNet) (hd : NetOk d) (h : PHop) : LCalls Try.prog 23 [.bp 2000 0, .t (.v (.int .i64 5)), .t (.v (.int .i64 h.f)), .t (.v (.int .i64 h.t)), .t (.v (.int .i64 h.no)), .t (bysT h.load)] (refN d) [] (.tu [.t msg0, .t (.v (.int .i64 0)), .t (.v (.int .i64 (atP d h.f h.t h.no).2))]) (refN (frontP d h.f h.t h.no)) [] := by
  have c1 := rfront_ d hd h.f h.t h.no
  generalize frontP d h.f h.t h.no = d' at *
  generalize atP d h.f h.t h.no = r at *
  refine lcalls_of Try.func23 rfl rfl Try.ntmps23 rfl ?_
  repeat' (first | (refine rg 0 ?_; refine sal str32 ?_; refine oAs ?_; refine oAs ?_; refine oN ?_) | (refine rg 1 ?_; refine sal str32 ?_; refine oN ?_) | (refine rg 2 ?_; refine oMv ?_; refine oN ?_) | (refine rg 3 ?_; refine oCm ?_; refine oAs ?_; refine oN ?_) | (refine rg 4 ?_; refine oCm ?_; refine oAs ?_; refine oN ?_) | (refine rg 6 ?_; refine oCm ?_; refine oAs ?_; refine oN ?_) | (refine rg 9 ?_; refine oCm ?_; refine oAs ?_; refine oN ?_) | (refine rg 12 ?_; refine oCm ?_; refine oAs ?_; refine oN ?_) | (refine rg 14 ?_; refine oCm ?_; refine oAs ?_; refine oN ?_) | ((refine swp_any (id := 15) [[], [], [], [], [], [2000], [12], [], []] [[2000], [], [], [], [], [], [], [], []] mixed (by kernel_rfl) ?_) <;> (refine yp (fun _ _ => po_load_bx_agg rfl rfl (tyT rfl) rfl (vc (vc (vc .nil))) rfl) ?_) <;> refine yp (fun _ _ => po_move rfl rfl) ?_ <;> refine yp (fun _ _ => po_move rfl rfl) ?_ <;> refine yp (fun _ _ => po_move rfl rfl) ?_ <;> refine yp (fun _ _ => po_move rfl rfl) ?_ <;> (refine sany_eff [(2000, _)] [] (.free rfl rfl) rfl rfl (fun _ _ hb ho => e_lcall (c1) (fun i => i) (fun i => i) rfl (by ((repeat' (first | exact .nil | refine .cons rfl rfl rfl ?_)) <;> fail)) (.cons rfl rfl .nil) .nil rfl rfl (by ((repeat' (first | exact .nil | refine .old rfl ?_)) <;> fail)) (by ((repeat' (exact .nil)) <;> fail)) .nil) ?_) <;> refine sany_eff [(12, _)] [] (.free rfl rfl) rfl rfl (fun _ _ _ _ => e_store rfl rfl rfl rfl rfl rfl (tyT rfl) rfl rfl) ?_ <;> refine yp (fun _ _ => po_assign rfl rfl) ?_ <;> refine yp (fun _ _ => po_assign rfl rfl) ?_ <;> refine sany_nil ?_) | refine gc ?_ | refine ct ?_ | refine cf ?_ | refine swp_cond rfl (fun hc => ?_) (fun hc => ?_) | refine retl (by exact .inr rfl) rfl (.cellT rfl rfl (tyT rfl) (vc (vc (vc .nil))) rfl (.tmpT rfl (by first | exact .t _ | exact .own rfl (by rfl) | exact .nil _ | exact .emp _ | exact .fn _) (.tmpT rfl (by first | exact .t _ | exact .own rfl (by rfl) | exact .nil _ | exact .emp _ | exact .fn _) .nil))) ?_ rfl (.cons rfl (by rfl) rfl .nil) .nil)
  all_goals rfl
set_option maxRecDepth 100000 in
set_option maxHeartbeats 2000000 in
theorem rdoes_at (d : PNet) (hd : NetOk d) (h : PHop) : LCalls Try.prog 23 [.bp 2000 0, .t (.v (.int .i64 6)), .t (.v (.int .i64 h.f)), .t (.v (.int .i64 h.t)), .t (.v (.int .i64 h.no)), .t (bysT h.load)] (refN d) [] (.tu [.t (msgA (atP d h.f h.t h.no).1), .t (.v (.int .i64 0)), .t (.v (.int .i64 (atP d h.f h.t h.no).2))]) (refN d) [] := by
  have c1 := rat_ d hd h.f h.t h.no
  generalize atP d h.f h.t h.no = r at *
  unfold msgA msgT at c1 ⊢
  refine lcalls_of Try.func23 rfl rfl Try.ntmps23 rfl ?_
  repeat' (first | (refine rg 0 ?_; refine sal str32 ?_; refine oAs ?_; refine oAs ?_; refine oN ?_) | (refine rg 1 ?_; refine sal str32 ?_; refine oN ?_) | (refine rg 2 ?_; refine oMv ?_; refine oN ?_) | (refine rg 3 ?_; refine oCm ?_; refine oAs ?_; refine oN ?_) | (refine rg 4 ?_; refine oCm ?_; refine oAs ?_; refine oN ?_) | (refine rg 6 ?_; refine oCm ?_; refine oAs ?_; refine oN ?_) | (refine rg 9 ?_; refine oCm ?_; refine oAs ?_; refine oN ?_) | (refine rg 12 ?_; refine oCm ?_; refine oAs ?_; refine oN ?_) | (refine rg 14 ?_; refine oCm ?_; refine oAs ?_; refine oN ?_) | (refine rg 16 ?_; refine oCm ?_; refine oAs ?_; refine oN ?_) | (refine rg 17 ?_; refine oMv ?_; refine oMv ?_; refine oMv ?_; refine oMv ?_; refine sops_lcall (c1) (fun i => i) (fun i => i) (fun _ => false) (.free rfl rfl) rfl rfl rfl (by ((repeat' (first | exact .nil | refine .cons rfl rfl rfl ?_)) <;> fail)) (.cons rfl rfl .nil) .nil rfl rfl (fun _ h => Bool.noConfusion h) ?_; refine oMv ?_; (first | refine oEx ?_ | refine sp (po_extract_tu rfl rfl rfl) ?_); (first | refine oEx ?_ | refine sp (po_extract_tu rfl rfl rfl) ?_); refine sal str32 ?_; refine oS ?_; refine oAs ?_; refine oN ?_) | (refine rg 18 ?_; (refine sp (po_load_bx_agg rfl rfl (tyT rfl) rfl (vc (vc (vc .nil))) rfl) ?_); refine oMv ?_; refine oS ?_; refine oAs ?_; refine oAs ?_; refine oN ?_) | refine gc ?_ | refine ct ?_ | refine cf ?_ | refine swp_cond rfl (fun hc => ?_) (fun hc => ?_) | refine retl (by exact .inr rfl) rfl (.cellT rfl rfl (tyT rfl) (vc (vc (vc .nil))) rfl (.tmpT rfl (by first | exact .t _ | exact .own rfl (by rfl) | exact .nil _ | exact .emp _ | exact .fn _) (.tmpT rfl (by first | exact .t _ | exact .own rfl (by rfl) | exact .nil _ | exact .emp _ | exact .fn _) .nil))) ?_ rfl (.cons rfl (by rfl) rfl .nil) .nil)
  all_goals rfl
set_option maxRecDepth 100000 in
set_option maxHeartbeats 2000000 in
theorem rdoes_len_no (d : PNet) (h : PHop) (kk : Int) (h0 : ¬ kk = 0) (h1 : ¬ kk = 1) (h2 : ¬ kk = 2) (h3 : ¬ kk = 3) (h4 : ¬ kk = 4) (h5 : ¬ kk = 5) (h6 : ¬ kk = 6) (c1 : LCalls Try.prog 43 [.bp 2000 0, .t (.v (.int .i64 h.f)), .t (.v (.int .i64 h.t)), .t (.v (.int .i64 0))] (refN d) [] (.t (.v (.int .i64 1))) (refN d) []) : LCalls Try.prog 23 [.bp 2000 0, .t (.v (.int .i64 kk)), .t (.v (.int .i64 h.f)), .t (.v (.int .i64 h.t)), .t (.v (.int .i64 h.no)), .t (bysT h.load)] (refN d) [] (.tu [.t msg0, .t (.v (.int .i64 0)), .t (.v (.int .i64 0))]) (refN d) [] := by
  refine lcalls_of Try.func23 rfl rfl Try.ntmps23 rfl ?_
  repeat' (first | (refine rg 0 ?_; refine sal str32 ?_; refine oAs ?_; refine oAs ?_; refine oN ?_) | (refine rg 1 ?_; refine sal str32 ?_; refine oN ?_) | (refine rg 2 ?_; refine oMv ?_; refine oN ?_) | (refine rg 3 ?_; refine oCm ?_; refine oAs ?_; refine oN ?_) | (refine rg 4 ?_; refine oCm ?_; refine oAs ?_; refine oN ?_) | (refine rg 6 ?_; refine oCm ?_; refine oAs ?_; refine oN ?_) | (refine rg 9 ?_; refine oCm ?_; refine oAs ?_; refine oN ?_) | (refine rg 12 ?_; refine oCm ?_; refine oAs ?_; refine oN ?_) | (refine rg 14 ?_; refine oCm ?_; refine oAs ?_; refine oN ?_) | (refine rg 16 ?_; refine oCm ?_; refine oAs ?_; refine oN ?_) | (refine rg 19 ?_; refine oMv ?_; refine oMv ?_; refine oMv ?_; refine sops_lcall (c1) (fun i => i) (fun i => i) (fun _ => false) (.free rfl rfl) rfl rfl rfl (by ((repeat' (first | exact .nil | refine .cons rfl rfl rfl ?_)) <;> fail)) (.cons rfl rfl .nil) .nil rfl rfl (fun _ h => Bool.noConfusion h) ?_; refine oCm ?_; refine oN ?_) | (refine rg 20 ?_; (refine sp (po_load_bx_agg rfl rfl (tyT rfl) rfl (vc (vc (vc .nil))) rfl) ?_); refine oS ?_; refine oAs ?_; refine oAs ?_; refine oN ?_) | refine gc ?_ | refine ct ?_ | refine cf ?_ | refine swp_cond rfl (fun hc => ?_) (fun hc => ?_) | refine retl (by exact .inr rfl) rfl (.cellT rfl rfl (tyT rfl) (vc (vc (vc .nil))) rfl (.tmpT rfl (by first | exact .t _ | exact .own rfl (by rfl) | exact .nil _ | exact .emp _ | exact .fn _) (.tmpT rfl (by first | exact .t _ | exact .own rfl (by rfl) | exact .nil _ | exact .emp _ | exact .fn _) .nil))) ?_ rfl (.cons rfl (by rfl) rfl .nil) .nil)
  all_goals rfl
set_option maxRecDepth 100000 in
set_option maxHeartbeats 2000000 in
theorem rdoes_len_is (d : PNet) (hn : d.n ≤ 9) (h : PHop) (a b : Nat) (ha : h.f = a) (hb : h.t = b) (hL : IsL d.n a b) (e : Int) (he : ¬ e = 1) (kk : Int) (h0 : ¬ kk = 0) (h1 : ¬ kk = 1) (h2 : ¬ kk = 2) (h3 : ¬ kk = 3) (h4 : ¬ kk = 4) (h5 : ¬ kk = 5) (h6 : ¬ kk = 6) (c1 : LCalls Try.prog 43 [.bp 2000 0, .t (.v (.int .i64 h.f)), .t (.v (.int .i64 h.t)), .t (.v (.int .i64 0))] (refN d) [] (.t (.v (.int .i64 e))) (refN d) []) : LCalls Try.prog 23 [.bp 2000 0, .t (.v (.int .i64 kk)), .t (.v (.int .i64 h.f)), .t (.v (.int .i64 h.t)), .t (.v (.int .i64 h.no)), .t (bysT h.load)] (refN d) [] (.tu [.t msg0, .t (.v (.int .i64 ((d.row (a * 10 + b)).length : Int))), .t (.v (.int .i64 0))]) (refN d) [] := by
  rw [ha, hb] at c1
  rw [ha, hb]
  obtain ⟨g1, g2, g3, g4, g5⟩ := hL
  have hkk : a * 10 + b < 100 := by omega
  have hmr : ((d.row (a * 10 + b)).map txtC).length = (d.row (a * 10 + b)).length := List.length_map _
  rw [← hmr]
  refine lcalls_of Try.func23 rfl rfl Try.ntmps23 rfl ?_
  repeat' (first | (refine rg 0 ?_; refine sal str32 ?_; refine oAs ?_; refine oAs ?_; refine oN ?_) | (refine rg 1 ?_; refine sal str32 ?_; refine oN ?_) | (refine rg 2 ?_; refine oMv ?_; refine oN ?_) | (refine rg 3 ?_; refine oCm ?_; refine oAs ?_; refine oN ?_) | (refine rg 4 ?_; refine oCm ?_; refine oAs ?_; refine oN ?_) | (refine rg 6 ?_; refine oCm ?_; refine oAs ?_; refine oN ?_) | (refine rg 9 ?_; refine oCm ?_; refine oAs ?_; refine oN ?_) | (refine rg 12 ?_; refine oCm ?_; refine oAs ?_; refine oN ?_) | (refine rg 14 ?_; refine oCm ?_; refine oAs ?_; refine oN ?_) | (refine rg 16 ?_; refine oCm ?_; refine oAs ?_; refine oN ?_) | (refine rg 19 ?_; refine oMv ?_; refine oMv ?_; refine oMv ?_; refine sops_lcall (c1) (fun i => i) (fun i => i) (fun _ => false) (.free rfl rfl) rfl rfl rfl (by ((repeat' (first | exact .nil | refine .cons rfl rfl rfl ?_)) <;> fail)) (.cons rfl rfl .nil) .nil rfl rfl (fun _ h => Bool.noConfusion h) ?_; refine oCm ?_; refine oN ?_) | ((refine swp_any (id := 21) [[], [], [], [], [], [], [], [], [], [], [12], [], []] [[], [12], [12], [12], [12], [12], [12], [12], [12], [12], [], [], []] mixed (by kernel_rfl) ?_) <;> (first | refine yp (fun _ _ => po_index_arr rfl rfl rfl arr54 rfl (by omega)) ?_ | refine yp (fun _ _ => po_index_arr rfl rfl rfl arr53 rfl (by omega)) ?_ | refine yp (fun _ _ => po_load_ref (a * 10 + b) rfl rfl (tyT rfl) rfl (by first | rfl | omega) (by first | assumption | omega)) ?_ | refine yp (fun _ _ => po_load_bx_agg rfl rfl (tyT rfl) rfl (vc (vc (vc .nil))) rfl) ?_) <;> (first | refine yp (fun _ _ => po_index_arr rfl rfl rfl arr54 rfl (by omega)) ?_ | refine yp (fun _ _ => po_index_arr rfl rfl rfl arr53 rfl (by omega)) ?_ | refine yp (fun _ _ => po_load_ref (a * 10 + b) rfl rfl (tyT rfl) rfl (by rfl) (by assumption)) ?_ | refine yp (fun _ _ => po_move rfl rfl) ?_) <;> (first | refine yp (fun _ _ => po_index_arr rfl rfl rfl arr54 rfl (by omega)) ?_ | refine yp (fun _ _ => po_index_arr rfl rfl rfl arr53 rfl (by omega)) ?_ | refine yp (fun _ _ => po_load_ref (a * 10 + b) rfl rfl (tyT rfl) rfl (by rfl) (by assumption)) ?_ | refine yp (fun _ _ => po_move rfl rfl) ?_) <;> (first | refine yp (fun _ _ => po_index_arr rfl rfl rfl arr54 rfl (by omega)) ?_ | refine yp (fun _ _ => po_index_arr rfl rfl rfl arr53 rfl (by omega)) ?_ | refine yp (fun _ _ => po_load_ref (a * 10 + b) rfl rfl (tyT rfl) rfl (by rfl) (by assumption)) ?_ | refine yp (fun _ _ => po_move rfl rfl) ?_) <;> (first | refine yp (fun _ _ => po_index_arr rfl rfl rfl arr54 rfl (by omega)) ?_ | refine yp (fun _ _ => po_index_arr rfl rfl rfl arr53 rfl (by omega)) ?_ | refine yp (fun _ _ => po_load_ref (a * 10 + b) rfl rfl (tyT rfl) rfl (by rfl) (by assumption)) ?_ | refine yp (fun _ _ => po_nilcheck rfl rfl) ?_) <;> (first | refine yp (fun _ _ => po_index_arr rfl rfl rfl arr54 rfl (by omega)) ?_ | refine yp (fun _ _ => po_index_arr rfl rfl rfl arr53 rfl (by omega)) ?_ | refine yp (fun _ _ => po_load_ref (a * 10 + b) rfl rfl (tyT rfl) rfl (by rfl) (by assumption)) ?_ | refine yp (fun _ _ => po_field_bx rfl rfl (tyF rfl)) ?_) <;> refine yp (fun _ _ => po_index_arr rfl rfl rfl arr54 rfl (by omega)) ?_ <;> (first | refine yp (fun _ _ => po_index_arr rfl rfl rfl arr54 rfl (by omega)) ?_ | refine yp (fun _ _ => po_index_arr rfl rfl rfl arr53 rfl (by omega)) ?_) <;> (first | refine yp (fun _ _ => po_index_arr rfl rfl rfl arr54 rfl (by omega)) ?_ | refine yp (fun _ _ => po_index_arr rfl rfl rfl arr53 rfl (by omega)) ?_ | refine yp (fun _ _ => po_load_ref (a * 10 + b) rfl rfl (tyT rfl) rfl (by first | rfl | omega) (by assumption)) ?_) <;> (first | refine yp (fun _ _ => po_index_arr rfl rfl rfl arr54 rfl (by omega)) ?_ | refine yp (fun _ _ => po_index_arr rfl rfl rfl arr53 rfl (by omega)) ?_ | refine yp (fun _ _ => po_load_ref (a * 10 + b) rfl rfl (tyT rfl) rfl (by rfl) (by assumption)) ?_ | refine yp (fun _ _ => po_len_own rfl rfl (tyS rfl)) ?_ | refine yp (fun _ _ => pln rfl (tyS rfl)) ?_) <;> refine sany_eff [(12, _)] [] (.free rfl rfl) rfl rfl (fun _ _ _ _ => e_store rfl rfl rfl rfl rfl rfl (tyT rfl) rfl rfl) ?_ <;> (first | refine yp (fun _ _ => po_index_arr rfl rfl rfl arr54 rfl (by omega)) ?_ | refine yp (fun _ _ => po_index_arr rfl rfl rfl arr53 rfl (by omega)) ?_ | refine yp (fun _ _ => po_load_ref (a * 10 + b) rfl rfl (tyT rfl) rfl (by rfl) (by assumption)) ?_ | refine yp (fun _ _ => po_assign rfl rfl) ?_) <;> (first | refine yp (fun _ _ => po_index_arr rfl rfl rfl arr54 rfl (by omega)) ?_ | refine yp (fun _ _ => po_index_arr rfl rfl rfl arr53 rfl (by omega)) ?_ | refine yp (fun _ _ => po_load_ref (a * 10 + b) rfl rfl (tyT rfl) rfl (by rfl) (by assumption)) ?_ | refine yp (fun _ _ => po_assign rfl rfl) ?_) <;> refine sany_nil ?_) | refine gc ?_ | refine ct ?_ | refine cf ?_ | refine swp_cond rfl (fun hc => ?_) (fun hc => ?_) | refine retl (by exact .inr rfl) rfl (.cellT rfl rfl (tyT rfl) (vc (vc (vc .nil))) rfl (.tmpT rfl (by first | exact .t _ | exact .own rfl (by rfl) | exact .nil _ | exact .emp _ | exact .fn _) (.tmpT rfl (by first | exact .t _ | exact .own rfl (by rfl) | exact .nil _ | exact .emp _ | exact .fn _) .nil))) ?_ rfl (.cons rfl (by rfl) rfl .nil) .nil)
  all_goals rfl
theorem rdoes_ (d : PNet) (hd : NetOk d) (h : PHop) (hl : h.load.length ≤ 140737488355328) : LCalls Try.prog 23 [.bp 2000 0, .t (.v (.int .i64 (knd h.kind))), .t (.v (.int .i64 h.f)), .t (.v (.int .i64 h.t)), .t (.v (.int .i64 h.no)), .t (bysT h.load)] (refN d) [] (doesA d h) (refN (doesN d h)) [] := by
  unfold doesA doesR doesN
  by_cases h0 : knd h.kind = 0
  · rw [h0]; exact (rdoes_send0 d hd h hl).res fun m g v => le_tz3
  by_cases h1 : knd h.kind = 1
  · rw [h1]; exact (rdoes_send1 d hd h hl).res fun m g v => le_tz3
  by_cases h2 : knd h.kind = 2
  · rw [h2]; exact rdoes_deliver d hd h
  by_cases h3 : knd h.kind = 3
  · rw [h3]; exact (rdoes_drop d hd h).res fun m g v => le_tz3
  by_cases h4 : knd h.kind = 4
  · rw [h4]; exact (rdoes_double d hd h).res fun m g v => le_tz3
  by_cases h5 : knd h.kind = 5
  · rw [h5]; exact (rdoes_front d hd h).res fun m g v => le_tz3
  by_cases h6 : knd h.kind = 6
  · rw [h6]; exact rdoes_at d hd h
  have c1 := none_ d hd h.f h.t 0
  rw [if_neg (by omega), if_neg h2, if_neg h3, if_neg h4, if_neg h5, if_neg h6, if_neg (by omega), if_neg (by omega), if_neg h4, if_neg h5]
  generalize knd h.kind = kk at *
  unfold atP at c1
  unfold lenP
  cases hL : isL d.n h.f h.t with
  | false => rw [hL] at c1; exact (rdoes_len_no d h kk h0 h1 h2 h3 h4 h5 h6 c1).res fun m g v => le_tz3
  | true =>
    rw [hL] at c1
    obtain ⟨a, b, ha, hb, hk, hL⟩ := isL_spec hL
    rw [hk]
    cases hg : getP (d.row (kOf h.f h.t)) 0 with
    | none => rw [hg] at c1; exact (rdoes_len_is d hd.n h a b ha hb hL 4 (by decide) kk h0 h1 h2 h3 h4 h5 h6 c1).res fun m g v => le_tz3
    | some c => rw [hg] at c1; exact (rdoes_len_is d hd.n h a b ha hb hL 0 (by decide) kk h0 h1 h2 h3 h4 h5 h6 c1).res fun m g v => le_tz3
def out9 (d : PNet) (a : Nat) : List (Nat × Nat) := (List.range a).flatMap fun a => inL d a 9
theorem row_lenP {d : PNet} (hd : NetOk d) {a b : Nat} (ha : a < 9) (hb : b < 9) : ((d.row ((a + 1) * 10 + (b + 1))).length : Int) = lenP d ((a + 1 : Nat) : Int) ((b + 1 : Nat) : Int) := by
  unfold lenP
  cases hL : isL d.n ((a + 1 : Nat) : Int) ((b + 1 : Nat) : Int) with
  | true => obtain ⟨x, y, h1, h2, h3, h4⟩ := isL_spec hL; rw [h3, show x = a + 1 by omega, show y = b + 1 by omega]; rfl
  | false =>
    have := isL_no hL
    unfold noL at this
    have hn := hd.n
    rw [hd.zero _ fun x y hxy e => by obtain ⟨g1, g2, g3, g4, g5⟩ := hxy; omega]; rfl
theorem lk_no {d : PNet} {a b : Nat} (h : d.n ≤ a ∨ d.n ≤ b) : ¬ lkP d (a + 1, b + 1) = true := by
  unfold lkP lenP
  have : isL d.n ((a + 1 : Nat) : Int) ((b + 1 : Nat) : Int) = false := by unfold isL; rw [decide_eq_false_iff_not]; omega
  rw [decide_eq_true_eq]
  dsimp only
  rw [this]
  exact Int.lt_irrefl 0
theorem inL_cut {d : PNet} (a : Nat) {b : Nat} (hb : d.n ≤ b) : inL d a b = inL d a d.n := by
  obtain ⟨c, rfl⟩ := Nat.exists_eq_add_of_le hb
  unfold inL
  rw [List.range_add, List.map_append, List.filter_append]
  refine (congrArg _ (List.filter_eq_nil_iff.2 fun p hp => ?_)).trans (List.append_nil _)
  rw [List.map_map] at hp
  obtain ⟨q, _, rfl⟩ := List.mem_map.1 hp
  exact lk_no (a := a) (b := d.n + q) (.inr (by omega))
theorem inL_out {d : PNet} {a : Nat} (ha : d.n ≤ a) (b : Nat) : inL d a b = [] := by
  unfold inL
  refine List.filter_eq_nil_iff.2 fun p hp => ?_
  obtain ⟨q, _, rfl⟩ := List.mem_map.1 hp
  exact lk_no (a := a) (b := q) (.inl ha)
theorem out9_all {d : PNet} (hn : d.n ≤ 9) : out9 d 9 = linksP d := by
  unfold out9 linksP outL
  obtain ⟨c, hc⟩ := Nat.exists_eq_add_of_le hn
  rw [show (List.range 9) = List.range (d.n + c) by rw [hc], List.range_add, List.flatMap_append]
  refine (congrArg _ (List.flatMap_eq_nil_iff.2 fun p hp => ?_)).trans ((List.append_nil _).trans ?_)
  · obtain ⟨q, _, rfl⟩ := List.mem_map.1 hp
    exact inL_out (by omega) 9
  · congr 1; funext a; exact inL_cut a hn
theorem out9_s (d : PNet) (a : Nat) : out9 d (a + 1) = out9 d a ++ inL d a 9 := by
  unfold out9; rw [List.range_succ, List.flatMap_append]; simp
theorem out9_len (d : PNet) (a : Nat) : (out9 d a).length ≤ 9 * a := by
  induction a with
  | zero => exact Nat.le_refl _
  | succ a ih => rw [out9_s, List.length_append]; have := inL_len d a 9; omega
def SK9 (d : PNet) (a : Nat) : St := ⟨[(0, .bp 2000 0), (3, .own 100 ((out9 d a).map (linkT d)).length), (4, .t (.v (.int .i64 ((a + 1 : Nat) : Int))))], refN d, [(100, ⟨61, 3, (out9 d a).map (linkT d)⟩)]⟩
def SK8 (d : PNet) (a b : Nat) : St := ⟨[(0, .bp 2000 0), (3, .own 100 ((out9 d a ++ inL d a b).map (linkT d)).length), (4, .t (.v (.int .i64 ((a + 1 : Nat) : Int)))), (5, .t (.v (.int .i64 ((b + 1 : Nat) : Int))))], refN d, [(100, ⟨61, 3, (out9 d a ++ inL d a b).map (linkT d)⟩)]⟩
set_option maxRecDepth 100000 in
set_option maxHeartbeats 4000000 in
theorem rlinks_ (d : PNet) (hd : NetOk d) : LCalls Try.prog 25 [.bp 2000 0] (refN d) [] (.t (.sl 3 ((linksP d).map (linkT d)))) (refN d) [] := by
  refine lcalls_of Try.func25 rfl rfl Try.ntmps25 rfl ?_
  repeat' (first | (refine rg 0 ?_; refine oAs ?_; refine oN ?_) | (refine rg 1 ?_; refine oAs ?_; refine oN ?_) | (refine rg 2 ?_; refine oAs ?_; refine oN ?_) | refine gc ?_ | refine ct ?_ | refine cf ?_ | refine swp_cond rfl (fun hc => ?_) (fun hc => ?_) | refine rq rfl (rt .nil) ?_)
  refine swp_for (SK9 d) (fun _ => True) 9 ?_ trivial ?_
  · refine Weak.trans (weak_own0 (i := 100) 61 3 (s := 3) rfl rfl) ?_
    exact (weak_sub (.cons rfl rfl rfl (.cons rfl rfl rfl (.cons rfl rfl rfl .nil))) (.cons rfl rfl rfl .nil) (.cons rfl rfl .nil))
  intro a ha _
  have h9 := out9_len d a
  unfold SK9
  by_cases hlt : a < 9
  · repeat' (first | (refine rg 3 ?_; refine oMv ?_; refine oCm ?_; refine oN ?_) | (refine rg 5 ?_; refine oAs ?_; refine oN ?_) | refine gc ?_ | refine ct ?_ | refine cf ?_ | refine swp_cond rfl (fun hc => ?_) (fun hc => ?_) | refine rq rfl (rt .nil) ?_)
    refine swp_for (SK8 d a) (fun _ => True) 9 ?_ trivial ?_
    · exact (weak_sub (.cons rfl (by first | rfl | ((rw [show inL d a 0 = [] from rfl, List.append_nil]; try rfl))) rfl (.cons rfl (by first | rfl | ((rw [show inL d a 0 = [] from rfl, List.append_nil]; try rfl))) rfl (.cons rfl (by first | rfl | ((rw [show inL d a 0 = [] from rfl, List.append_nil]; try rfl))) rfl (.cons rfl (by first | rfl | ((rw [show inL d a 0 = [] from rfl, List.append_nil]; try rfl))) rfl .nil)))) (.cons rfl (by first | rfl | ((rw [show inL d a 0 = [] from rfl, List.append_nil]; try rfl))) rfl .nil) (.cons rfl (by first | rfl | ((rw [show inL d a 0 = [] from rfl, List.append_nil]; try rfl))) .nil))
    intro b hb _
    have h10 := inL_len d a b
    have hml : ((out9 d a ++ inL d a b).map (linkT d)).length ≤ 90 := by rw [List.length_map, List.length_append]; omega
    unfold SK8
    by_cases hlb : b < 9
    · have hkk : (a + 1) * 10 + (b + 1) < 100 := by omega
      have hrl := row_lenP hd hlt hlb
      have hmr : ((d.row ((a + 1) * 10 + (b + 1))).map txtC).length = (d.row ((a + 1) * 10 + (b + 1))).length := List.length_map _
      have hs := inL_s d a b
      by_cases hz : (d.row ((a + 1) * 10 + (b + 1))).length = 0
      · have hf : lkP d (a + 1, b + 1) = false := by unfold lkP; rw [decide_eq_false_iff_not]; dsimp only; omega
        rw [hf] at hs
        replace hs : inL d a (b + 1) = inL d a b := hs.trans (List.append_nil _)
        repeat' (first | refine for_next hlb (weak_sub (.cons rfl (by rfl) rfl (.cons rfl (by first | rfl | ((rw [hs]; try rfl))) rfl (.cons rfl (by rfl) rfl (.cons rfl (by rfl) rfl .nil)))) (.cons rfl (by rfl) rfl .nil) (.cons rfl (by first | rfl | ((rw [hs]; try rfl))) .nil)) trivial | (refine rg 6 ?_; refine oMv ?_; refine oCm ?_; refine oN ?_) | (refine rg 8 ?_; refine oMv ?_; refine oMv ?_; refine oMv ?_; refine sp (po_nilcheck rfl rfl) ?_; refine oFb ?_; refine sp (po_index_arr rfl rfl rfl arr54 rfl (by omega)) ?_; (first | refine sp (po_index_arr rfl rfl rfl arr54 rfl (by omega)) ?_ | refine sp (po_index_arr rfl rfl rfl arr53 rfl (by omega)) ?_); refine sp (po_load_ref ((a + 1) * 10 + (b + 1)) rfl rfl (tyT rfl) rfl (by first | rfl | omega) hkk) ?_; refine sp (pln rfl (tyS rfl)) ?_; refine oAs ?_; refine oN ?_) | (refine rg 9 ?_; refine oMv ?_; refine oCm ?_; refine oN ?_) | (refine rg 7 ?_; refine oMv ?_; refine sp (xinc rfl) ?_; refine oAs ?_; refine oN ?_) | refine gc ?_ | refine ct ?_ | refine cf ?_)
      · have ht : lkP d (a + 1, b + 1) = true := by unfold lkP; rw [decide_eq_true_eq]; dsimp only; omega
        rw [ht] at hs
        replace hs : (out9 d a ++ inL d a (b + 1)).map (linkT d) = (out9 d a ++ inL d a b).map (linkT d) ++ [[.v (.int .i64 ((a + 1 : Nat) : Int)), .v (.int .i64 ((b + 1 : Nat) : Int)), .v (.int .i64 (((d.row ((a + 1) * 10 + (b + 1))).map txtC).length : Int))]] := by
          rw [hs, ← List.append_assoc, List.map_append, hmr, hrl]; rfl
        repeat' (first | refine for_next hlb (weak_sub (.cons rfl (by rfl) rfl (.cons rfl (by first | rfl | ((rw [hs]; try rfl))) rfl (.cons rfl (by rfl) rfl (.cons rfl (by rfl) rfl .nil)))) (.cons rfl (by rfl) rfl .nil) (.cons rfl (by first | rfl | ((rw [hs]; try rfl))) .nil)) trivial | (refine rg 6 ?_; refine oMv ?_; refine oCm ?_; refine oN ?_) | (refine rg 8 ?_; refine oMv ?_; refine oMv ?_; refine oMv ?_; refine sp (po_nilcheck rfl rfl) ?_; refine oFb ?_; refine sp (po_index_arr rfl rfl rfl arr54 rfl (by omega)) ?_; (first | refine sp (po_index_arr rfl rfl rfl arr54 rfl (by omega)) ?_ | refine sp (po_index_arr rfl rfl rfl arr53 rfl (by omega)) ?_); refine sp (po_load_ref ((a + 1) * 10 + (b + 1)) rfl rfl (tyT rfl) rfl (by first | rfl | omega) hkk) ?_; refine sp (pln rfl (tyS rfl)) ?_; refine oAs ?_; refine oN ?_) | (refine rg 9 ?_; refine oMv ?_; refine oCm ?_; refine oN ?_) | (refine rg 10 ?_; refine oMv ?_; refine oMv ?_; refine oMv ?_; refine oMv ?_; refine sp (po_buildS str61 rfl (pc (pc (pc .nil))) rfl) ?_; refine sp (po_buildSlice rfl (tyE rfl) (dc (.nil _)) rfl rfl rfl) ?_; refine sap rfl (tyE rfl) ?_; refine oAs ?_; refine oN ?_) | (refine rg 7 ?_; refine oMv ?_; refine sp (xinc rfl) ?_; refine oAs ?_; refine oN ?_) | refine gc ?_ | refine ct ?_)
    · obtain rfl : b = 9 := by omega
      rw [← out9_s]
      repeat' (first | refine for_next hlt (weak_sub (.cons rfl rfl rfl (.cons rfl rfl rfl (.cons rfl rfl rfl .nil))) (.cons rfl rfl rfl .nil) (.cons rfl rfl .nil)) trivial | (refine rg 6 ?_; refine oMv ?_; refine oCm ?_; refine oN ?_) | (refine rg 4 ?_; refine oMv ?_; refine sp (xinc rfl) ?_; refine oAs ?_; refine oN ?_) | refine gc ?_ | refine ct ?_ | refine cf ?_)
  · obtain rfl : a = 9 := by omega
    rw [out9_all hd.n]
    repeat' (first | (refine rg 3 ?_; refine oMv ?_; refine oCm ?_; refine oN ?_) | (refine rg 11 ?_; refine oMv ?_; refine oAs ?_; refine oN ?_) | refine gc ?_ | refine ct ?_ | refine cf ?_ | refine swp_cond rfl (fun hc => ?_) (fun hc => ?_) | refine retl (by exact .inr rfl) rfl (.tmpT rfl (by first | exact .t _ | exact .own rfl (by rfl) | exact .nil _ | exact .emp _ | exact .fn _) .nil) ?_ rfl (.cons rfl (by rfl) rfl .nil) .nil)
    all_goals rfl
end Go.Proofs.Ytgbcmjcaggnobaa.Sim

/- A net's calls, one beside another: plain laws. -/
namespace Go.Proofs.Ytgbcmjcaggnobaa.Sim
set_option linter.unusedVariables false
set_option linter.unusedSimpArgs false
theorem PNet.ext {d e : PNet} (h : d.n = e.n) (h2 : ∀ k, d.row k = e.row k) : d = e := by
  cases d; cases e; cases h; congr; funext k; exact h2 k
theorem put_same (d : PNet) (k : Nat) : d.put k (d.row k) = d := PNet.ext rfl fun j => by
  show (if j = k then d.row k else d.row j) = d.row j
  split
  · next h => rw [h]
  · rfl
theorem put_row (d : PNet) (k : Nat) (l : List (List UInt8)) : (d.put k l).row k = l := if_pos rfl
theorem put_row_ne (d : PNet) {k j : Nat} (l : List (List UInt8)) (h : j ≠ k) : (d.put k l).row j = d.row j := if_neg h
/-- what a call leaves of its link's row -/
def rowN (h : PHop) (r : List (List UInt8)) : List (List UInt8) :=
  if knd h.kind = 0 ∨ knd h.kind = 1 then (if 16384 < h.load.length then r else if r.length < 32 then r ++ [h.load] else r)
  else if knd h.kind = 2 ∨ knd h.kind = 3 then (match getP r h.no with | some _ => r.eraseIdx h.no.toNat | none => r)
  else if knd h.kind = 4 then (match getP r h.no with | some b => (if r.length < 32 then r ++ [b] else r) | none => r)
  else if knd h.kind = 5 then (match getP r h.no with | some b => b :: r.eraseIdx h.no.toNat | none => r)
  else r
theorem doesN_row (d : PNet) (h : PHop) : doesN d h = bif isL d.n h.f h.t then d.put (kOf h.f h.t) (rowN h (d.row (kOf h.f h.t))) else d := by
  unfold doesN rowN sendP delP doubleP frontP
  have hs := put_same d (kOf h.f h.t)
  cases isL d.n h.f h.t with
  | false => simp only [cond_false, ite_self]
  | true =>
    simp only [cond_true]
    generalize d.row (kOf h.f h.t) = r at *
    by_cases h1 : knd h.kind = 0 ∨ knd h.kind = 1
    · rw [if_pos h1, if_pos h1]
      by_cases h2 : 16384 < h.load.length
      · rw [if_pos h2, if_pos h2]; exact hs.symm
      · rw [if_neg h2, if_neg h2]
        by_cases h3 : r.length < 32
        · rw [if_pos h3, if_pos h3]
        · rw [if_neg h3, if_neg h3]; exact hs.symm
    · rw [if_neg h1, if_neg h1]
      by_cases h2 : knd h.kind = 2 ∨ knd h.kind = 3
      · rw [if_pos h2, if_pos h2]
        cases getP r h.no with
        | none => exact hs.symm
        | some b => rfl
      · rw [if_neg h2, if_neg h2]
        by_cases h4 : knd h.kind = 4
        · rw [if_pos h4, if_pos h4]
          cases getP r h.no with
          | none => exact hs.symm
          | some b =>
            simp only
            by_cases h3 : r.length < 32
            · rw [if_pos h3, if_pos h3]
            · rw [if_neg h3, if_neg h3]; exact hs.symm
        · rw [if_neg h4, if_neg h4]
          by_cases h5 : knd h.kind = 5
          · rw [if_pos h5, if_pos h5]
            cases getP r h.no with
            | none => exact hs.symm
            | some b => rfl
          · rw [if_neg h5, if_neg h5]; exact hs.symm
theorem kOf_inj {n : Nat} (hn : n ≤ 9) {a b x y : Int} (h1 : isL n a b = true) (h2 : isL n x y = true) (h : kOf a b = kOf x y) : a = x ∧ b = y := by
  unfold isL at h1 h2
  rw [decide_eq_true_eq] at h1 h2
  unfold kOf at h
  omega
end Go.Proofs.Ytgbcmjcaggnobaa.Sim

/- A net whose calls are on one link alone; all links, summed: plain laws. -/
namespace Go.Proofs.Ytgbcmjcaggnobaa.Sim
set_option linter.unusedVariables false
set_option linter.unusedSimpArgs false
/-- what calls on one link alone leave -/
def onlyP (d : PNet) (x y : Int) : Prop := ∀ j, isL d.n x y = false ∨ j ≠ kOf x y → d.row j = []
def onB (x y : Int) (h : PHop) : Bool := decide (h.f = x) && decide (h.t = y)
structure ApI (A B : PNet) (x y : Int) : Prop where
  n : A.n = B.n
  le : B.n ≤ 9
  row : isL B.n x y = true → A.row (kOf x y) = B.row (kOf x y)
  only : onlyP B x y
theorem ApI.rows {A B : PNet} {x y : Int} (h : ApI A B x y) : rowP A x y = rowP B x y := by
  unfold rowP
  rw [h.n]
  cases hL : isL B.n x y with
  | false => rfl
  | true => exact h.row hL
theorem ApI.off {A B : PNet} {x y : Int} (h : ApI A B x y) {q : PHop} (hq : onB x y q = false) : ApI (doesN A q) B x y where
  n := (doesN_n A q).trans h.n
  le := h.le
  row := fun hL => by
    rw [← h.row hL, doesN_row]
    cases hl : isL A.n q.f q.t with
    | false => rfl
    | true =>
      rw [cond_true]
      refine put_row_ne _ _ fun e => ?_
      rw [h.n] at hl
      obtain ⟨e1, e2⟩ := kOf_inj h.le hL hl e
      unfold onB at hq
      rw [e1, e2] at hq
      simp at hq
  only := h.only
theorem ApI.on {A B : PNet} {x y : Int} (h : ApI A B x y) {q : PHop} (hq : onB x y q = true) : ApI (doesN A q) (doesN B q) x y := by
  unfold onB at hq
  simp only [Bool.and_eq_true, decide_eq_true_eq] at hq
  obtain ⟨e1, e2⟩ := hq
  refine ⟨by rw [doesN_n, doesN_n, h.n], by rw [doesN_n]; exact h.le, fun hL => ?_, fun j hj => ?_⟩
  · rw [doesN_n] at hL
    have hA : isL A.n q.f q.t = true := by rw [e1, e2, h.n]; exact hL
    have hB : isL B.n q.f q.t = true := by rw [e1, e2]; exact hL
    rw [doesN_row, doesN_row, hA, hB, cond_true, cond_true, ← e1, ← e2, put_row, put_row]
    have := h.row hL
    rw [← e1, ← e2] at this
    rw [this]
  · rw [doesN_n] at hj
    rw [doesN_row]
    cases hl : isL B.n q.f q.t with
    | false => exact h.only j hj
    | true =>
      rw [cond_true, e1, e2]
      rw [e1, e2] at hl
      have hne : j ≠ kOf x y := by rcases hj with hj | hj; rw [hl] at hj; cases hj; exact hj
      rw [put_row_ne _ _ hne]
      exact h.only j hj
theorem ApI.zero {n : Nat} (h : n ≤ 9) (x y : Int) : ApI (netE n) (netE n) x y := ⟨rfl, h, fun _ => rfl, fun _ _ => rfl⟩
end Go.Proofs.Ytgbcmjcaggnobaa.Sim
