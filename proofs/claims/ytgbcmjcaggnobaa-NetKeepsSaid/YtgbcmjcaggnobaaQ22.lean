/- Merged by bundles.py: SimNua, SimNub. -/
import Derived.Test.YtgbcmjcaggnobaaQ21
/- does: any call of a net. -/
namespace Go.Proofs.Ytgbcmjcaggnobaa.Sim
set_option linter.unusedVariables false
set_option linter.unusedSimpArgs false
open Go.RowKit Mem
theorem le_tu3 {m : Mm} {g : Gh} {v : Value} {t t' : T} {k e : Int} (ht : ∀ u, TR m t u → TR m t' u) (h : AR m g (.tu [.t t, .t (.v (.int .i64 k)), .t (.v (.int .i64 e))]) v) : AR m g (.tu [.t t', .t (.v (.int .i64 k)), .t (.v (.int .i64 e))]) v := by
  obtain ⟨vs, h1, h2, h3⟩ := h
  refine ⟨vs, h1, h2, fun j x u hj hu => ?_⟩
  match j, hj with
  | 0, hj => injection hj with hj; subst hj; exact ht u (h3 0 _ u rfl hu)
  | 1, hj => exact h3 1 x u hj hu
  | 2, hj => exact h3 2 x u hj hu
set_option maxRecDepth 100000 in
set_option maxHeartbeats 2000000 in
theorem does_deliver (d : PNet) (hd : NetOk d) (h : PHop) (hk : knd h.kind = 2) : LCalls Try.prog 14 [.bp 3000 0, .t (hopT h)] (netN d) [] (doesA d h) (netN (doesN d h)) [] := by
  have hr : doesR d h = ((atP d h.f h.t h.no).1, 0, (atP d h.f h.t h.no).2) := by unfold doesR; rw [hk]; rfl
  have hN : doesN d h = delP d h.f h.t h.no := by unfold doesN; rw [hk]; rfl
  unfold doesA
  rw [hr, hN]
  have c1 := deliver_ d hd h.f h.t h.no
  unfold hopT
  clear hr hN
  generalize atP d h.f h.t h.no = q at *
  refine lcalls_of Try.func14 rfl rfl Try.ntmps14 rfl ?_
  repeat' (first | (refine rg 0 ?_; (first | refine sp (po_knd rfl rfl rfl) ?_ | refine sbx ?_); (first | refine sp (po_knd rfl rfl rfl) ?_ | refine sal str32 ?_); (first | refine sp (po_knd rfl rfl rfl) ?_ | refine oAs ?_); (first | refine sp (po_knd rfl rfl rfl) ?_ | refine oAs ?_); refine oN ?_) | (refine rg 1 ?_; (first | refine sp (po_knd rfl rfl rfl) ?_ | refine sal str32 ?_); refine oN ?_) | (refine rg 2 ?_; (first | refine sp (po_knd rfl rfl rfl) ?_ | refine oFb ?_); (first | refine sp (po_knd rfl rfl rfl) ?_ | refine sp (po_load_ntn rfl rfl (tyT rfl) rfl) ?_ | refine sp (po_load_ntk rfl rfl (tyT rfl) rfl (by first | assumption | omega) (by assumption) rfl) ?_ | refine oLb ?_); refine sp (po_knd rfl rfl rfl) ?_; refine oN ?_) | (refine rg 3 ?_; (first | refine sp (po_knd rfl rfl rfl) ?_ | refine oCm ?_); (first | refine sp (po_knd rfl rfl rfl) ?_ | refine oAs ?_); refine oN ?_) | (refine rg 4 ?_; (first | refine sp (po_knd rfl rfl rfl) ?_ | refine oCm ?_); (first | refine sp (po_knd rfl rfl rfl) ?_ | refine oAs ?_); refine oN ?_) | (refine rg 9 ?_; (first | refine sp (po_knd rfl rfl rfl) ?_ | refine oCm ?_); (first | refine sp (po_knd rfl rfl rfl) ?_ | refine oAs ?_); refine oN ?_) | (refine rg 10 ?_; (first | refine sp (po_knd rfl rfl rfl) ?_ | refine oMv ?_); (first | refine sp (po_knd rfl rfl rfl) ?_ | refine oFb ?_); (first | refine sp (po_knd rfl rfl rfl) ?_ | refine sp (po_load_ntn rfl rfl (tyT rfl) rfl) ?_ | refine sp (po_load_ntk rfl rfl (tyT rfl) rfl (by first | assumption | omega) (by assumption) rfl) ?_ | refine oLb ?_); (first | refine sp (po_knd rfl rfl rfl) ?_ | refine oFb ?_); (first | refine sp (po_knd rfl rfl rfl) ?_ | refine sp (po_load_ntn rfl rfl (tyT rfl) rfl) ?_ | refine sp (po_load_ntk rfl rfl (tyT rfl) rfl (by first | assumption | omega) (by assumption) rfl) ?_ | refine oLb ?_); (first | refine sp (po_knd rfl rfl rfl) ?_ | refine oFb ?_); (first | refine sp (po_knd rfl rfl rfl) ?_ | refine sp (po_load_ntn rfl rfl (tyT rfl) rfl) ?_ | refine sp (po_load_ntk rfl rfl (tyT rfl) rfl (by first | assumption | omega) (by assumption) rfl) ?_ | refine oLb ?_); (first | refine sp (po_knd rfl rfl rfl) ?_ | refine sops_lcall (c1) (fun i => i) (fun i => i) (fun _ => false) (.free rfl rfl) rfl rfl rfl (by ((repeat' (first | exact .nil | refine .cons rfl rfl rfl ?_)) <;> fail)) (.cons rfl rfl .nil) .nil rfl rfl (fun _ h => Bool.noConfusion h) ?_); (first | refine sp (po_knd rfl rfl rfl) ?_ | refine oMv ?_); (first | refine sp (po_knd rfl rfl rfl) ?_ | refine oEx ?_ | refine sp (po_extract_tu rfl rfl rfl) ?_); (first | refine sp (po_knd rfl rfl rfl) ?_ | refine oEx ?_ | refine sp (po_extract_tu rfl rfl rfl) ?_); (first | refine sp (po_knd rfl rfl rfl) ?_ | refine sal str32 ?_); (first | refine spn (po_knd rfl rfl rfl) ?_ | refine oS ?_); (first | refine sp (po_knd rfl rfl rfl) ?_ | refine oAs ?_); refine oN ?_) | (refine rg 11 ?_; (first | refine sp (po_knd rfl rfl rfl) ?_ | refine sp (po_load_bx_agg rfl rfl (tyT rfl) rfl (vc (vc (vc .nil))) rfl) ?_); (first | refine sp (po_knd rfl rfl rfl) ?_ | refine oMv ?_); (first | refine spn (po_knd rfl rfl rfl) ?_ | refine oS ?_); (first | refine sp (po_knd rfl rfl rfl) ?_ | refine oAs ?_); (first | refine sp (po_knd rfl rfl rfl) ?_ | refine oAs ?_); refine oN ?_) | refine gc ?_ | refine ct ?_ | refine cf ?_ | refine swp_cond rfl (fun hc => ?_) (fun hc => ?_) | refine retl (by exact .inr rfl) rfl (.cellT rfl rfl (tyT rfl) (vc (vc (vc .nil))) rfl (.tmpT rfl (by first | exact .t _ | exact .own rfl (by rfl) | exact .nil _ | exact .emp _ | exact .fn _) (.tmpT rfl (by first | exact .t _ | exact .own rfl (by rfl) | exact .nil _ | exact .emp _ | exact .fn _) .nil))) ?_ rfl (.cons rfl (by rfl) rfl .nil) .nil)
  rfl
set_option maxRecDepth 100000 in
set_option maxHeartbeats 2000000 in
theorem does_drop (d : PNet) (hd : NetOk d) (h : PHop) (hk : knd h.kind = 3) : LCalls Try.prog 14 [.bp 3000 0, .t (hopT h)] (netN d) [] (doesA d h) (netN (doesN d h)) [] := by
  have hr : doesR d h = (msgZ, 0, (atP d h.f h.t h.no).2) := by unfold doesR; rw [hk]; rfl
  have hN : doesN d h = delP d h.f h.t h.no := by unfold doesN; rw [hk]; rfl
  unfold doesA
  rw [hr, hN]
  have c1 := drop_ d hd h.f h.t h.no
  refine LCalls.res (r := .tu [.t msg0, .t (.v (.int .i64 0)), .t (.v (.int .i64 (atP d h.f h.t h.no).2))]) ?_ (fun m g v hv => le_tu3 (le_msg0 m) hv)
  unfold hopT
  clear hr hN
  generalize atP d h.f h.t h.no = q at *
  refine lcalls_of Try.func14 rfl rfl Try.ntmps14 rfl ?_
  repeat' (first | (refine rg 0 ?_; (first | refine sp (po_knd rfl rfl rfl) ?_ | refine sbx ?_); (first | refine sp (po_knd rfl rfl rfl) ?_ | refine sal str32 ?_); (first | refine sp (po_knd rfl rfl rfl) ?_ | refine oAs ?_); (first | refine sp (po_knd rfl rfl rfl) ?_ | refine oAs ?_); refine oN ?_) | (refine rg 1 ?_; (first | refine sp (po_knd rfl rfl rfl) ?_ | refine sal str32 ?_); refine oN ?_) | (refine rg 2 ?_; (first | refine sp (po_knd rfl rfl rfl) ?_ | refine oFb ?_); (first | refine sp (po_knd rfl rfl rfl) ?_ | refine sp (po_load_ntn rfl rfl (tyT rfl) rfl) ?_ | refine sp (po_load_ntk rfl rfl (tyT rfl) rfl (by first | assumption | omega) (by assumption) rfl) ?_ | refine oLb ?_); refine sp (po_knd rfl rfl rfl) ?_; refine oN ?_) | (refine rg 3 ?_; (first | refine sp (po_knd rfl rfl rfl) ?_ | refine oCm ?_); (first | refine sp (po_knd rfl rfl rfl) ?_ | refine oAs ?_); refine oN ?_) | (refine rg 4 ?_; (first | refine sp (po_knd rfl rfl rfl) ?_ | refine oCm ?_); (first | refine sp (po_knd rfl rfl rfl) ?_ | refine oAs ?_); refine oN ?_) | (refine rg 9 ?_; (first | refine sp (po_knd rfl rfl rfl) ?_ | refine oCm ?_); (first | refine sp (po_knd rfl rfl rfl) ?_ | refine oAs ?_); refine oN ?_) | (refine rg 12 ?_; (first | refine sp (po_knd rfl rfl rfl) ?_ | refine oCm ?_); (first | refine sp (po_knd rfl rfl rfl) ?_ | refine oAs ?_); refine oN ?_) | ((refine swp_any (id := 13) [[], [], [], [], [], [], [], [], [3000], [4], [], []] [[3000], [], [], [], [], [], [], [], [], [], [], []] mixed (by kernel_rfl) ?_) <;> (first | refine yp (fun _ _ => po_knd rfl rfl rfl) ?_ | refine yp (fun _ _ => po_load_bx_agg rfl rfl (tyT rfl) rfl (vc (vc (vc .nil))) rfl) ?_) <;> (first | refine yp (fun _ _ => po_knd rfl rfl rfl) ?_ | refine yp (fun _ _ => po_move rfl rfl) ?_) <;> (first | refine yp (fun _ _ => po_knd rfl rfl rfl) ?_ | refine yp (fun _ _ => po_field_bx rfl rfl (tyF rfl)) ?_) <;> (first | refine yp (fun _ _ => po_knd rfl rfl rfl) ?_ | refine yp (fun _ _ => po_load_ntn rfl rfl (tyT rfl) rfl) ?_ | refine yp (fun _ _ => po_load_ntk rfl rfl (tyT rfl) rfl (by first | assumption | omega) (by assumption) rfl) ?_ | refine yp (fun _ _ => po_load_bx rfl rfl (tyT rfl) rfl rfl) ?_) <;> (first | refine yp (fun _ _ => po_knd rfl rfl rfl) ?_ | refine yp (fun _ _ => po_field_bx rfl rfl (tyF rfl)) ?_) <;> (first | refine yp (fun _ _ => po_knd rfl rfl rfl) ?_ | refine yp (fun _ _ => po_load_ntn rfl rfl (tyT rfl) rfl) ?_ | refine yp (fun _ _ => po_load_ntk rfl rfl (tyT rfl) rfl (by first | assumption | omega) (by assumption) rfl) ?_ | refine yp (fun _ _ => po_load_bx rfl rfl (tyT rfl) rfl rfl) ?_) <;> (first | refine yp (fun _ _ => po_knd rfl rfl rfl) ?_ | refine yp (fun _ _ => po_field_bx rfl rfl (tyF rfl)) ?_) <;> (first | refine yp (fun _ _ => po_knd rfl rfl rfl) ?_ | refine yp (fun _ _ => po_load_ntn rfl rfl (tyT rfl) rfl) ?_ | refine yp (fun _ _ => po_load_ntk rfl rfl (tyT rfl) rfl (by first | assumption | omega) (by assumption) rfl) ?_ | refine yp (fun _ _ => po_load_bx rfl rfl (tyT rfl) rfl rfl) ?_) <;> (refine sany_eff [(3000, _)] [] (.free rfl rfl) rfl rfl (fun _ _ hb ho => e_lcall (c1) (fun i => i) (fun i => i) rfl (by ((repeat' (first | exact .nil | refine .cons rfl rfl rfl ?_)) <;> fail)) (.cons rfl rfl .nil) .nil rfl rfl (by ((repeat' (first | exact .nil | refine .old rfl ?_)) <;> fail)) (by ((repeat' (exact .nil)) <;> fail)) .nil) ?_) <;> refine sany_eff [(4, _)] [] (.free rfl rfl) rfl rfl (fun _ _ _ _ => e_store rfl rfl rfl rfl rfl rfl (tyT rfl) rfl rfl) ?_ <;> (first | refine yp (fun _ _ => po_knd rfl rfl rfl) ?_ | refine yp (fun _ _ => po_assign rfl rfl) ?_) <;> (first | refine yp (fun _ _ => po_knd rfl rfl rfl) ?_ | refine yp (fun _ _ => po_assign rfl rfl) ?_) <;> refine sany_nil ?_) | refine gc ?_ | refine ct ?_ | refine cf ?_ | refine swp_cond rfl (fun hc => ?_) (fun hc => ?_) | refine retl (by exact .inr rfl) rfl (.cellT rfl rfl (tyT rfl) (vc (vc (vc .nil))) rfl (.tmpT rfl (by first | exact .t _ | exact .own rfl (by rfl) | exact .nil _ | exact .emp _ | exact .fn _) (.tmpT rfl (by first | exact .t _ | exact .own rfl (by rfl) | exact .nil _ | exact .emp _ | exact .fn _) .nil))) ?_ rfl (.cons rfl (by rfl) rfl .nil) .nil)
  rfl
set_option maxRecDepth 100000 in
set_option maxHeartbeats 2000000 in
theorem does_double (d : PNet) (hd : NetOk d) (h : PHop) (hk : knd h.kind = 4) : LCalls Try.prog 14 [.bp 3000 0, .t (hopT h)] (netN d) [] (doesA d h) (netN (doesN d h)) [] := by
  have hr : doesR d h = (msgZ, 0, (doubleP d h.f h.t h.no).2) := by unfold doesR; rw [hk]; rfl
  have hN : doesN d h = (doubleP d h.f h.t h.no).1 := by unfold doesN; rw [hk]; rfl
  unfold doesA
  rw [hr, hN]
  have c1 := double_ d hd h.f h.t h.no
  refine LCalls.res (r := .tu [.t msg0, .t (.v (.int .i64 0)), .t (.v (.int .i64 (doubleP d h.f h.t h.no).2))]) ?_ (fun m g v hv => le_tu3 (le_msg0 m) hv)
  unfold hopT
  clear hr hN
  generalize doubleP d h.f h.t h.no = q at *
  refine lcalls_of Try.func14 rfl rfl Try.ntmps14 rfl ?_
  repeat' (first | (refine rg 0 ?_; (first | refine sp (po_knd rfl rfl rfl) ?_ | refine sbx ?_); (first | refine sp (po_knd rfl rfl rfl) ?_ | refine sal str32 ?_); (first | refine sp (po_knd rfl rfl rfl) ?_ | refine oAs ?_); (first | refine sp (po_knd rfl rfl rfl) ?_ | refine oAs ?_); refine oN ?_) | (refine rg 1 ?_; (first | refine sp (po_knd rfl rfl rfl) ?_ | refine sal str32 ?_); refine oN ?_) | (refine rg 2 ?_; (first | refine sp (po_knd rfl rfl rfl) ?_ | refine oFb ?_); (first | refine sp (po_knd rfl rfl rfl) ?_ | refine sp (po_load_ntn rfl rfl (tyT rfl) rfl) ?_ | refine sp (po_load_ntk rfl rfl (tyT rfl) rfl (by first | assumption | omega) (by assumption) rfl) ?_ | refine oLb ?_); refine sp (po_knd rfl rfl rfl) ?_; refine oN ?_) | (refine rg 3 ?_; (first | refine sp (po_knd rfl rfl rfl) ?_ | refine oCm ?_); (first | refine sp (po_knd rfl rfl rfl) ?_ | refine oAs ?_); refine oN ?_) | (refine rg 4 ?_; (first | refine sp (po_knd rfl rfl rfl) ?_ | refine oCm ?_); (first | refine sp (po_knd rfl rfl rfl) ?_ | refine oAs ?_); refine oN ?_) | (refine rg 9 ?_; (first | refine sp (po_knd rfl rfl rfl) ?_ | refine oCm ?_); (first | refine sp (po_knd rfl rfl rfl) ?_ | refine oAs ?_); refine oN ?_) | (refine rg 12 ?_; (first | refine sp (po_knd rfl rfl rfl) ?_ | refine oCm ?_); (first | refine sp (po_knd rfl rfl rfl) ?_ | refine oAs ?_); refine oN ?_) | (refine rg 14 ?_; (first | refine sp (po_knd rfl rfl rfl) ?_ | refine oCm ?_); (first | refine sp (po_knd rfl rfl rfl) ?_ | refine oAs ?_); refine oN ?_) | ((refine swp_any (id := 15) [[], [], [], [], [], [], [], [], [3000], [4], [], []] [[3000], [], [], [], [], [], [], [], [], [], [], []] mixed (by kernel_rfl) ?_) <;> (first | refine yp (fun _ _ => po_knd rfl rfl rfl) ?_ | refine yp (fun _ _ => po_load_bx_agg rfl rfl (tyT rfl) rfl (vc (vc (vc .nil))) rfl) ?_) <;> (first | refine yp (fun _ _ => po_knd rfl rfl rfl) ?_ | refine yp (fun _ _ => po_move rfl rfl) ?_) <;> (first | refine yp (fun _ _ => po_knd rfl rfl rfl) ?_ | refine yp (fun _ _ => po_field_bx rfl rfl (tyF rfl)) ?_) <;> (first | refine yp (fun _ _ => po_knd rfl rfl rfl) ?_ | refine yp (fun _ _ => po_load_ntn rfl rfl (tyT rfl) rfl) ?_ | refine yp (fun _ _ => po_load_ntk rfl rfl (tyT rfl) rfl (by first | assumption | omega) (by assumption) rfl) ?_ | refine yp (fun _ _ => po_load_bx rfl rfl (tyT rfl) rfl rfl) ?_) <;> (first | refine yp (fun _ _ => po_knd rfl rfl rfl) ?_ | refine yp (fun _ _ => po_field_bx rfl rfl (tyF rfl)) ?_) <;> (first | refine yp (fun _ _ => po_knd rfl rfl rfl) ?_ | refine yp (fun _ _ => po_load_ntn rfl rfl (tyT rfl) rfl) ?_ | refine yp (fun _ _ => po_load_ntk rfl rfl (tyT rfl) rfl (by first | assumption | omega) (by assumption) rfl) ?_ | refine yp (fun _ _ => po_load_bx rfl rfl (tyT rfl) rfl rfl) ?_) <;> (first | refine yp (fun _ _ => po_knd rfl rfl rfl) ?_ | refine yp (fun _ _ => po_field_bx rfl rfl (tyF rfl)) ?_) <;> (first | refine yp (fun _ _ => po_knd rfl rfl rfl) ?_ | refine yp (fun _ _ => po_load_ntn rfl rfl (tyT rfl) rfl) ?_ | refine yp (fun _ _ => po_load_ntk rfl rfl (tyT rfl) rfl (by first | assumption | omega) (by assumption) rfl) ?_ | refine yp (fun _ _ => po_load_bx rfl rfl (tyT rfl) rfl rfl) ?_) <;> (refine sany_eff [(3000, _)] [] (.free rfl rfl) rfl rfl (fun _ _ hb ho => e_lcall (c1) (fun i => i) (fun i => i) rfl (by ((repeat' (first | exact .nil | refine .cons rfl rfl rfl ?_)) <;> fail)) (.cons rfl rfl .nil) .nil rfl rfl (by ((repeat' (first | exact .nil | refine .old rfl ?_)) <;> fail)) (by ((repeat' (exact .nil)) <;> fail)) .nil) ?_) <;> refine sany_eff [(4, _)] [] (.free rfl rfl) rfl rfl (fun _ _ _ _ => e_store rfl rfl rfl rfl rfl rfl (tyT rfl) rfl rfl) ?_ <;> (first | refine yp (fun _ _ => po_knd rfl rfl rfl) ?_ | refine yp (fun _ _ => po_assign rfl rfl) ?_) <;> (first | refine yp (fun _ _ => po_knd rfl rfl rfl) ?_ | refine yp (fun _ _ => po_assign rfl rfl) ?_) <;> refine sany_nil ?_) | refine gc ?_ | refine ct ?_ | refine cf ?_ | refine swp_cond rfl (fun hc => ?_) (fun hc => ?_) | refine retl (by exact .inr rfl) rfl (.cellT rfl rfl (tyT rfl) (vc (vc (vc .nil))) rfl (.tmpT rfl (by first | exact .t _ | exact .own rfl (by rfl) | exact .nil _ | exact .emp _ | exact .fn _) (.tmpT rfl (by first | exact .t _ | exact .own rfl (by rfl) | exact .nil _ | exact .emp _ | exact .fn _) .nil))) ?_ rfl (.cons rfl (by rfl) rfl .nil) .nil)
  rfl
set_option maxRecDepth 100000 in
set_option maxHeartbeats 2000000 in
theorem does_front (d : PNet) (hd : NetOk d) (h : PHop) (hk : knd h.kind = 5) : LCalls Try.prog 14 [.bp 3000 0, .t (hopT h)] (netN d) [] (doesA d h) (netN (doesN d h)) [] := by
  have hr : doesR d h = (msgZ, 0, (atP d h.f h.t h.no).2) := by unfold doesR; rw [hk]; rfl
  have hN : doesN d h = frontP d h.f h.t h.no := by unfold doesN; rw [hk]; rfl
  unfold doesA
  rw [hr, hN]
  have c1 := front_ d hd h.f h.t h.no
  refine LCalls.res (r := .tu [.t msg0, .t (.v (.int .i64 0)), .t (.v (.int .i64 (atP d h.f h.t h.no).2))]) ?_ (fun m g v hv => le_tu3 (le_msg0 m) hv)
  unfold hopT
  clear hr hN
  generalize atP d h.f h.t h.no = q at *
  refine lcalls_of Try.func14 rfl rfl Try.ntmps14 rfl ?_
  repeat' (first | (refine rg 0 ?_; (first | refine sp (po_knd rfl rfl rfl) ?_ | refine sbx ?_); (first | refine sp (po_knd rfl rfl rfl) ?_ | refine sal str32 ?_); (first | refine sp (po_knd rfl rfl rfl) ?_ | refine oAs ?_); (first | refine sp (po_knd rfl rfl rfl) ?_ | refine oAs ?_); refine oN ?_) | (refine rg 1 ?_; (first | refine sp (po_knd rfl rfl rfl) ?_ | refine sal str32 ?_); refine oN ?_) | (refine rg 2 ?_; (first | refine sp (po_knd rfl rfl rfl) ?_ | refine oFb ?_); (first | refine sp (po_knd rfl rfl rfl) ?_ | refine sp (po_load_ntn rfl rfl (tyT rfl) rfl) ?_ | refine sp (po_load_ntk rfl rfl (tyT rfl) rfl (by first | assumption | omega) (by assumption) rfl) ?_ | refine oLb ?_); refine sp (po_knd rfl rfl rfl) ?_; refine oN ?_) | (refine rg 3 ?_; (first | refine sp (po_knd rfl rfl rfl) ?_ | refine oCm ?_); (first | refine sp (po_knd rfl rfl rfl) ?_ | refine oAs ?_); refine oN ?_) | (refine rg 4 ?_; (first | refine sp (po_knd rfl rfl rfl) ?_ | refine oCm ?_); (first | refine sp (po_knd rfl rfl rfl) ?_ | refine oAs ?_); refine oN ?_) | (refine rg 9 ?_; (first | refine sp (po_knd rfl rfl rfl) ?_ | refine oCm ?_); (first | refine sp (po_knd rfl rfl rfl) ?_ | refine oAs ?_); refine oN ?_) | (refine rg 12 ?_; (first | refine sp (po_knd rfl rfl rfl) ?_ | refine oCm ?_); (first | refine sp (po_knd rfl rfl rfl) ?_ | refine oAs ?_); refine oN ?_) | (refine rg 14 ?_; (first | refine sp (po_knd rfl rfl rfl) ?_ | refine oCm ?_); (first | refine sp (po_knd rfl rfl rfl) ?_ | refine oAs ?_); refine oN ?_) | (refine rg 16 ?_; (first | refine sp (po_knd rfl rfl rfl) ?_ | refine oCm ?_); (first | refine sp (po_knd rfl rfl rfl) ?_ | refine oAs ?_); refine oN ?_) | ((refine swp_any (id := 17) [[], [], [], [], [], [], [], [], [3000], [4], [], []] [[3000], [], [], [], [], [], [], [], [], [], [], []] mixed (by kernel_rfl) ?_) <;> (first | refine yp (fun _ _ => po_knd rfl rfl rfl) ?_ | refine yp (fun _ _ => po_load_bx_agg rfl rfl (tyT rfl) rfl (vc (vc (vc .nil))) rfl) ?_) <;> (first | refine yp (fun _ _ => po_knd rfl rfl rfl) ?_ | refine yp (fun _ _ => po_move rfl rfl) ?_) <;> (first | refine yp (fun _ _ => po_knd rfl rfl rfl) ?_ | refine yp (fun _ _ => po_field_bx rfl rfl (tyF rfl)) ?_) <;> (first | refine yp (fun _ _ => po_knd rfl rfl rfl) ?_ | refine yp (fun _ _ => po_load_ntn rfl rfl (tyT rfl) rfl) ?_ | refine yp (fun _ _ => po_load_ntk rfl rfl (tyT rfl) rfl (by first | assumption | omega) (by assumption) rfl) ?_ | refine yp (fun _ _ => po_load_bx rfl rfl (tyT rfl) rfl rfl) ?_) <;> (first | refine yp (fun _ _ => po_knd rfl rfl rfl) ?_ | refine yp (fun _ _ => po_field_bx rfl rfl (tyF rfl)) ?_) <;> (first | refine yp (fun _ _ => po_knd rfl rfl rfl) ?_ | refine yp (fun _ _ => po_load_ntn rfl rfl (tyT rfl) rfl) ?_ | refine yp (fun _ _ => po_load_ntk rfl rfl (tyT rfl) rfl (by first | assumption | omega) (by assumption) rfl) ?_ | refine yp (fun _ _ => po_load_bx rfl rfl (tyT rfl) rfl rfl) ?_) <;> (first | refine yp (fun _ _ => po_knd rfl rfl rfl) ?_ | refine yp (fun _ _ => po_field_bx rfl rfl (tyF rfl)) ?_) <;> (first | refine yp (fun _ _ => po_knd rfl rfl rfl) ?_ | refine yp (fun _ _ => po_load_ntn rfl rfl (tyT rfl) rfl) ?_ | refine yp (fun _ _ => po_load_ntk rfl rfl (tyT rfl) rfl (by first | assumption | omega) (by assumption) rfl) ?_ | refine yp (fun _ _ => po_load_bx rfl rfl (tyT rfl) rfl rfl) ?_) <;> (refine sany_eff [(3000, _)] [] (.free rfl rfl) rfl rfl (fun _ _ hb ho => e_lcall (c1) (fun i => i) (fun i => i) rfl (by ((repeat' (first | exact .nil | refine .cons rfl rfl rfl ?_)) <;> fail)) (.cons rfl rfl .nil) .nil rfl rfl (by ((repeat' (first | exact .nil | refine .old rfl ?_)) <;> fail)) (by ((repeat' (exact .nil)) <;> fail)) .nil) ?_) <;> refine sany_eff [(4, _)] [] (.free rfl rfl) rfl rfl (fun _ _ _ _ => e_store rfl rfl rfl rfl rfl rfl (tyT rfl) rfl rfl) ?_ <;> (first | refine yp (fun _ _ => po_knd rfl rfl rfl) ?_ | refine yp (fun _ _ => po_assign rfl rfl) ?_) <;> (first | refine yp (fun _ _ => po_knd rfl rfl rfl) ?_ | refine yp (fun _ _ => po_assign rfl rfl) ?_) <;> refine sany_nil ?_) | refine gc ?_ | refine ct ?_ | refine cf ?_ | refine swp_cond rfl (fun hc => ?_) (fun hc => ?_) | refine retl (by exact .inr rfl) rfl (.cellT rfl rfl (tyT rfl) (vc (vc (vc .nil))) rfl (.tmpT rfl (by first | exact .t _ | exact .own rfl (by rfl) | exact .nil _ | exact .emp _ | exact .fn _) (.tmpT rfl (by first | exact .t _ | exact .own rfl (by rfl) | exact .nil _ | exact .emp _ | exact .fn _) .nil))) ?_ rfl (.cons rfl (by rfl) rfl .nil) .nil)
  rfl
set_option maxRecDepth 100000 in
set_option maxHeartbeats 2000000 in
theorem does_len (d : PNet) (hd : NetOk d) (h : PHop) (h0 : knd h.kind ≠ 0) (h1 : knd h.kind ≠ 1) (h2 : knd h.kind ≠ 2) (h3 : knd h.kind ≠ 3) (h4 : knd h.kind ≠ 4) (h5 : knd h.kind ≠ 5) (h6 : knd h.kind ≠ 6) : LCalls Try.prog 14 [.bp 3000 0, .t (hopT h)] (netN d) [] (doesA d h) (netN (doesN d h)) [] := by
  have hr : doesR d h = (msgZ, lenP d h.f h.t, 0) := by unfold doesR; rw [if_neg (by rintro (h | h) <;> contradiction), if_neg h2, if_neg h3, if_neg h4, if_neg h5, if_neg h6]
  have hN : doesN d h = d := by unfold doesN; rw [if_neg (by rintro (h | h) <;> contradiction), if_neg (by rintro (h | h) <;> contradiction), if_neg h4, if_neg h5]
  unfold doesA
  rw [hr, hN]
  have c1 := len_ d hd h.f h.t
  refine LCalls.res (r := .tu [.t msg0, .t (.v (.int .i64 (lenP d h.f h.t))), .t (.v (.int .i64 0))]) ?_ (fun m g v hv => le_tu3 (le_msg0 m) hv)
  unfold hopT
  clear hr hN
  generalize lenP d h.f h.t = q at *
  refine lcalls_of Try.func14 rfl rfl Try.ntmps14 rfl ?_
  repeat' (first | (refine rg 0 ?_; (first | refine sp (po_knd rfl rfl rfl) ?_ | refine sbx ?_); (first | refine sp (po_knd rfl rfl rfl) ?_ | refine sal str32 ?_); (first | refine sp (po_knd rfl rfl rfl) ?_ | refine oAs ?_); (first | refine sp (po_knd rfl rfl rfl) ?_ | refine oAs ?_); refine oN ?_) | (refine rg 1 ?_; (first | refine sp (po_knd rfl rfl rfl) ?_ | refine sal str32 ?_); refine oN ?_) | (refine rg 2 ?_; (first | refine sp (po_knd rfl rfl rfl) ?_ | refine oFb ?_); (first | refine sp (po_knd rfl rfl rfl) ?_ | refine sp (po_load_ntn rfl rfl (tyT rfl) rfl) ?_ | refine sp (po_load_ntk rfl rfl (tyT rfl) rfl (by first | assumption | omega) (by assumption) rfl) ?_ | refine oLb ?_); refine sp (po_knd rfl rfl rfl) ?_; refine oN ?_) | (refine rg 3 ?_; (first | refine sp (po_knd rfl rfl rfl) ?_ | refine oCm ?_); (first | refine sp (po_knd rfl rfl rfl) ?_ | refine oAs ?_); refine oN ?_) | (refine rg 4 ?_; (first | refine sp (po_knd rfl rfl rfl) ?_ | refine oCm ?_); (first | refine sp (po_knd rfl rfl rfl) ?_ | refine oAs ?_); refine oN ?_) | (refine rg 9 ?_; (first | refine sp (po_knd rfl rfl rfl) ?_ | refine oCm ?_); (first | refine sp (po_knd rfl rfl rfl) ?_ | refine oAs ?_); refine oN ?_) | (refine rg 12 ?_; (first | refine sp (po_knd rfl rfl rfl) ?_ | refine oCm ?_); (first | refine sp (po_knd rfl rfl rfl) ?_ | refine oAs ?_); refine oN ?_) | (refine rg 14 ?_; (first | refine sp (po_knd rfl rfl rfl) ?_ | refine oCm ?_); (first | refine sp (po_knd rfl rfl rfl) ?_ | refine oAs ?_); refine oN ?_) | (refine rg 16 ?_; (first | refine sp (po_knd rfl rfl rfl) ?_ | refine oCm ?_); (first | refine sp (po_knd rfl rfl rfl) ?_ | refine oAs ?_); refine oN ?_) | (refine rg 18 ?_; (first | refine sp (po_knd rfl rfl rfl) ?_ | refine oCm ?_); (first | refine sp (po_knd rfl rfl rfl) ?_ | refine oAs ?_); refine oN ?_) | ((refine swp_any (id := 23) [[], [], [], [], [], [], [3000], [4], [], []] [[3000], [], [], [], [], [], [], [], [], []] mixed (by kernel_rfl) ?_) <;> (first | refine yp (fun _ _ => po_knd rfl rfl rfl) ?_ | refine yp (fun _ _ => po_load_bx_agg rfl rfl (tyT rfl) rfl (vc (vc (vc .nil))) rfl) ?_) <;> (first | refine yp (fun _ _ => po_knd rfl rfl rfl) ?_ | refine yp (fun _ _ => po_move rfl rfl) ?_) <;> (first | refine yp (fun _ _ => po_knd rfl rfl rfl) ?_ | refine yp (fun _ _ => po_field_bx rfl rfl (tyF rfl)) ?_) <;> (first | refine yp (fun _ _ => po_knd rfl rfl rfl) ?_ | refine yp (fun _ _ => po_load_ntn rfl rfl (tyT rfl) rfl) ?_ | refine yp (fun _ _ => po_load_ntk rfl rfl (tyT rfl) rfl (by first | assumption | omega) (by assumption) rfl) ?_ | refine yp (fun _ _ => po_load_bx rfl rfl (tyT rfl) rfl rfl) ?_) <;> (first | refine yp (fun _ _ => po_knd rfl rfl rfl) ?_ | refine yp (fun _ _ => po_field_bx rfl rfl (tyF rfl)) ?_) <;> (first | refine yp (fun _ _ => po_knd rfl rfl rfl) ?_ | refine yp (fun _ _ => po_load_ntn rfl rfl (tyT rfl) rfl) ?_ | refine yp (fun _ _ => po_load_ntk rfl rfl (tyT rfl) rfl (by first | assumption | omega) (by assumption) rfl) ?_ | refine yp (fun _ _ => po_load_bx rfl rfl (tyT rfl) rfl rfl) ?_) <;> (refine sany_eff [(3000, _)] [] (.free rfl rfl) rfl rfl (fun _ _ hb ho => e_lcall (c1) (fun i => i) (fun i => i) rfl (by ((repeat' (first | exact .nil | refine .cons rfl rfl rfl ?_)) <;> fail)) (.cons rfl rfl .nil) .nil rfl rfl (by ((repeat' (first | exact .nil | refine .old rfl ?_)) <;> fail)) (by ((repeat' (exact .nil)) <;> fail)) .nil) ?_) <;> refine sany_eff [(4, _)] [] (.free rfl rfl) rfl rfl (fun _ _ _ _ => e_store rfl rfl rfl rfl rfl rfl (tyT rfl) rfl rfl) ?_ <;> (first | refine yp (fun _ _ => po_knd rfl rfl rfl) ?_ | refine yp (fun _ _ => po_assign rfl rfl) ?_) <;> (first | refine yp (fun _ _ => po_knd rfl rfl rfl) ?_ | refine yp (fun _ _ => po_assign rfl rfl) ?_) <;> refine sany_nil ?_) | refine gc ?_ | refine ct ?_ | refine cf ?_ | refine swp_cond rfl (fun hc => ?_) (fun hc => ?_) | refine retl (by exact .inr rfl) rfl (.cellT rfl rfl (tyT rfl) (vc (vc (vc .nil))) rfl (.tmpT rfl (by first | exact .t _ | exact .own rfl (by rfl) | exact .nil _ | exact .emp _ | exact .fn _) (.tmpT rfl (by first | exact .t _ | exact .own rfl (by rfl) | exact .nil _ | exact .emp _ | exact .fn _) .nil))) ?_ rfl (.cons rfl (by rfl) rfl .nil) .nil)
  rfl
end Go.Proofs.Ytgbcmjcaggnobaa.Sim

/- does: At of a net; any call. -/
namespace Go.Proofs.Ytgbcmjcaggnobaa.Sim
set_option linter.unusedVariables false
set_option linter.unusedSimpArgs false
open Go.RowKit Mem
section
variable {P : Program} {bx bx' : List (Nat × List A)} {ow ow' : List (Nat × Own)} {o : Oper} {ρ : Operand → Option A} {r : A}
theorem e_append_see {t e sz by_ : Nat} {x z : Operand} {i n : Nat} {y' : A} {rows rows2 : List (List T)} (ho : o.op = .call { callee := .builtin .append, args := #[x, z], argTypes := #[t, t] })
    (hx : ρ x = some (.own i n)) (hi : get ow i = some ⟨e, sz, rows⟩) (hn : n = rows.length) (hz : ρ z = some y') (hz' : VwS ow y' (.sl sz rows2)) (hpv : ∀ t ∈ rows2.flatten, ∃ x, t = T.v x) (hT : sliceE P t = some (e, sz, by_))
    (hb : (rows.length + rows2.length) * by_ ≤ 140737488355328) (hm : rows.length + rows2.length ≤ maxLen) (hp : Nat.ble 2000 i = false := by rfl) : EStep P bx ow o ρ (.own i (rows ++ rows2).length) bx ((i, ⟨e, sz, rows ++ rows2⟩) :: ow) := e_run fun C m g w a he hop => by
  obtain ⟨i', zv, hu, hi', hzz, h4, h5, h6, h7⟩ := sliceE_spec hT
  have hop1 := hop x (by simp [ho, Op.operands, Call.operands]) _ hx
  obtain ⟨hlw, _, hAx, hgo⟩ := hop1
  have hln := he.ln i _ hi
  have hvx := hgo (by rw [hln]; exact hn)
  have hvz : TR (allw w) (.sl sz rows2) (a.eval z) := hz'.ok he (hop z (by simp [ho, Op.operands, Call.operands]) _ hz)
  obtain ⟨vs, ho1, hrl, hc, hbk⟩ := he.owns i _ hi
  dsimp only at ho1 hrl hc hbk
  have hrl2 : ∀ r ∈ rows2, r.length = sz := by generalize a.eval z = vz at hvz; cases hvz with | sl _ _ A b off cap u hc hm' hA hr hu' ht => exact hr
  have hform : ∃ A cap, a.eval z = .slice A rows2.length cap := by generalize a.eval z = vz at hvz; cases hvz with | sl _ _ A b off cap => exact ⟨A, cap, rfl⟩
  obtain ⟨Az, capz, hvv⟩ := hform
  have hexec : ∀ v' w', (Builtin.append_ #[t, t] o.type #[a.eval x, a.eval z]).run P w = .ok v' w' → (execOp a.eval o).run P w = .ok (.value v') w' := fun v' w' hh => by
    simp only [execOp, ho, resolve, invoke, builtin, Sem.run_bind, Sem.run_pure, Result.andThen_ok, List.map_toArray, List.map_cons, List.map_nil, hh]
  rcases Nat.eq_zero_or_pos rows2.length with h0 | h0
  · have hr0 : rows2 = [] := List.eq_nil_of_length_eq_zero h0
    subst hr0
    obtain ⟨A, c, hA⟩ := hAx
    have hnc : n ≤ c := by
      obtain ⟨_, hcase⟩ := ho1
      rcases hcase with ⟨e1, e2⟩ | ⟨q, cap, cur, e1, _, _, e2, _⟩
      · omega
      · rw [← hvx, hA] at e1; injection e1 with e3 e4 e5; omega
    refine ⟨a.eval x, w, m, g, hexec _ _ (by rw [hvv, hA]; exact run_append_nothing (P := P) (w := w) t o.type e i' hu hi' A Az n c capz hnc), ?_, ?_, fun x u h => h⟩
    · rw [List.append_nil]
      refine he.same (fun j => rfl) fun j => ?_
      rw [get_cons]
      split
      · rename_i e'; subst e'; exact hi.symm
      · rfl
    · rw [List.append_nil, ← hn]
      exact hop x (by simp [ho, Op.operands, Call.operands]) _ hx
  · obtain ⟨b, off, us, rfl, hcu', hlu, hcell⟩ := TR.flat (hvv ▸ hvz) h0 h7
    have hcu : CellsAre m rows2.flatten us := ⟨hcu'.1, fun j t u hj hu => by
      obtain ⟨h1, h2⟩ := hcu'.2 j t u hj hu
      obtain ⟨x, rfl⟩ := hpv t (List.mem_of_getElem? hj)
      rw [tr_v h1]
      exact ⟨.v _, by rw [← tr_v h1]; exact h2⟩⟩
    obtain ⟨v', w', hrun, hown, hcase⟩ := run_append_own3 (P := P) w 0 t o.type e i' zv sz by_ hu hi' hzz h4 h5 h6 h7 (g.go i) rows.length vs ho1 ⟨b, off, none⟩ rows2.length capz us hlu (fun j u hj => by rw [addr_add]; exact hcell j u hj) hcu.one hm hb (Nat.zero_le _)
    obtain ⟨h8, h9⟩ := he.setO (hp := hp) (i := i) (v := v') (e := e) (sz := sz) (rows := rows ++ rows2) (vs := vs ++ us) (by rw [List.length_append]; exact hown) (fun r hr' => by
        rcases List.mem_append.1 hr' with hr' | hr'
        · exact hrl r hr'
        · exact hrl2 r hr') (by rw [List.flatten_append]; exact hc.app hcu) (.inl ⟨_, hi, by simp; omega⟩) (by
        rcases hcase with ⟨e1, e2⟩ | hf
        · exact .inl ⟨_, vis i vs, hi, e1, e2, vis_pre fun k u hk => by rw [List.getElem?_append_left (List.getElem?_eq_some_iff.1 hk).1]; exact hk, fun b hb k => (hbk b hb).1 k⟩
        · exact .inr hf)
    refine ⟨v', w', _, _, hexec _ _ (by rw [hvv, hvx]; exact hrun), h8, ?_, fun x u h => h.setO h9 (.inr (by rw [hln]; simp; omega))⟩
    refine ⟨by simp [Gh.setO], by simp [Gh.setO], ?_, fun _ => by simp [Gh.setO]⟩
    obtain ⟨_, hq⟩ := hown
    rcases hq with ⟨rfl, e2⟩ | ⟨q, cap, cur, rfl, _⟩
    · omega
    · exact ⟨some ⟨q, 0, none⟩, cap, by rw [List.length_append]⟩
end
set_option maxRecDepth 100000 in
set_option maxHeartbeats 4000000 in
theorem does_at (d : PNet) (hd : NetOk d) (h : PHop) (hk : knd h.kind = 6) : LCalls Try.prog 14 [.bp 3000 0, .t (hopT h)] (netN d) [] (doesA d h) (netN (doesN d h)) [] := by
  have hr : doesR d h = ((atP d h.f h.t h.no).1, 0, (atP d h.f h.t h.no).2) := by unfold doesR; rw [hk]; rfl
  have hN : doesN d h = d := by unfold doesN; rw [hk]; rfl
  unfold doesA
  rw [hr, hN]
  clear hr hN
  have herr : ∀ e : Int, LCalls Try.prog 12 (xyi h.f h.t h.no) (netN d) [] (.tu [.t msg0, .t (.v (.int .i64 e))]) (netN d) [] → LCalls Try.prog 14 [.bp 3000 0, .t (hopT h)] (netN d) [] (.tu [.t (msgA msgZ), .t (.v (.int .i64 0)), .t (.v (.int .i64 e))]) (netN d) [] := fun e c1 => by
    unfold hopT
    refine lcalls_of Try.func14 rfl rfl Try.ntmps14 rfl ?_
    repeat' (first | (refine rg 0 ?_; (first | refine sp (po_knd rfl rfl rfl) ?_ | refine sbx ?_); (first | refine sp (po_knd rfl rfl rfl) ?_ | refine sal str32 ?_); (first | refine sp (po_knd rfl rfl rfl) ?_ | refine oAs ?_); (first | refine sp (po_knd rfl rfl rfl) ?_ | refine oAs ?_); refine oN ?_) | (refine rg 1 ?_; (first | refine sp (po_knd rfl rfl rfl) ?_ | refine sal str32 ?_); refine oN ?_) | (refine rg 2 ?_; (first | refine sp (po_knd rfl rfl rfl) ?_ | refine oFb ?_); (first | refine sp (po_knd rfl rfl rfl) ?_ | refine sp (po_load_ntn rfl rfl (tyT rfl) rfl) ?_ | refine sp (po_load_ntk rfl rfl (tyT rfl) rfl (by first | assumption | omega) (by assumption) rfl) ?_ | refine oLb ?_); refine sp (po_knd rfl rfl rfl) ?_; refine oN ?_) | (refine rg 3 ?_; (first | refine sp (po_knd rfl rfl rfl) ?_ | refine oCm ?_); (first | refine sp (po_knd rfl rfl rfl) ?_ | refine oAs ?_); refine oN ?_) | (refine rg 4 ?_; (first | refine sp (po_knd rfl rfl rfl) ?_ | refine oCm ?_); (first | refine sp (po_knd rfl rfl rfl) ?_ | refine oAs ?_); refine oN ?_) | (refine rg 9 ?_; (first | refine sp (po_knd rfl rfl rfl) ?_ | refine oCm ?_); (first | refine sp (po_knd rfl rfl rfl) ?_ | refine oAs ?_); refine oN ?_) | (refine rg 12 ?_; (first | refine sp (po_knd rfl rfl rfl) ?_ | refine oCm ?_); (first | refine sp (po_knd rfl rfl rfl) ?_ | refine oAs ?_); refine oN ?_) | (refine rg 14 ?_; (first | refine sp (po_knd rfl rfl rfl) ?_ | refine oCm ?_); (first | refine sp (po_knd rfl rfl rfl) ?_ | refine oAs ?_); refine oN ?_) | (refine rg 16 ?_; (first | refine sp (po_knd rfl rfl rfl) ?_ | refine oCm ?_); (first | refine sp (po_knd rfl rfl rfl) ?_ | refine oAs ?_); refine oN ?_) | (refine rg 18 ?_; (first | refine sp (po_knd rfl rfl rfl) ?_ | refine oCm ?_); (first | refine sp (po_knd rfl rfl rfl) ?_ | refine oAs ?_); refine oN ?_) | (refine rg 19 ?_; (first | refine sp (po_knd rfl rfl rfl) ?_ | refine oMv ?_); (first | refine sp (po_knd rfl rfl rfl) ?_ | refine oFb ?_); (first | refine sp (po_knd rfl rfl rfl) ?_ | refine sp (po_load_ntn rfl rfl (tyT rfl) rfl) ?_ | refine sp (po_load_ntk rfl rfl (tyT rfl) rfl (by first | assumption | omega) (by assumption) rfl) ?_ | refine oLb ?_); (first | refine sp (po_knd rfl rfl rfl) ?_ | refine oFb ?_); (first | refine sp (po_knd rfl rfl rfl) ?_ | refine sp (po_load_ntn rfl rfl (tyT rfl) rfl) ?_ | refine sp (po_load_ntk rfl rfl (tyT rfl) rfl (by first | assumption | omega) (by assumption) rfl) ?_ | refine oLb ?_); (first | refine sp (po_knd rfl rfl rfl) ?_ | refine oFb ?_); (first | refine sp (po_knd rfl rfl rfl) ?_ | refine sp (po_load_ntn rfl rfl (tyT rfl) rfl) ?_ | refine sp (po_load_ntk rfl rfl (tyT rfl) rfl (by first | assumption | omega) (by assumption) rfl) ?_ | refine oLb ?_); (first | refine sp (po_knd rfl rfl rfl) ?_ | refine sops_lcall (c1) (fun i => i) (fun i => i) (fun _ => false) (.free rfl rfl) rfl rfl rfl (by ((repeat' (first | exact .nil | refine .cons rfl rfl rfl ?_)) <;> fail)) (.cons rfl rfl .nil) .nil rfl rfl (fun _ h => Bool.noConfusion h) ?_); (first | refine sp (po_knd rfl rfl rfl) ?_ | refine oMv ?_); (first | refine sp (po_knd rfl rfl rfl) ?_ | refine oEx ?_ | refine sp (po_extract_tu rfl rfl rfl) ?_); (first | refine sp (po_knd rfl rfl rfl) ?_ | refine oEx ?_ | refine sp (po_extract_tu rfl rfl rfl) ?_); (first | refine sp (po_knd rfl rfl rfl) ?_ | refine sal str32 ?_); (first | refine spn (po_knd rfl rfl rfl) ?_ | refine oS ?_); (first | refine sp (po_knd rfl rfl rfl) ?_ | refine oAs ?_); refine oN ?_) | refine gc ?_ | refine ct ?_ | refine cf ?_ | refine swp_cond rfl (fun hc => ?_) (fun hc => ?_) | refine rq rfl (.cell rfl rfl (tyT rfl) (vc (vc (vc .nil))) rfl (rt (rt .nil))) ?_)
    refine swp_any (id := 20) [[], [], [], [], [100], [], [], [100], [], [14], [14]] [[100, 14], [100, 14], [100, 14], [100, 14], [14], [100, 14], [100, 14], [14], [14], [100], []] mixed (by kernel_rfl) ?_
    refine yp (fun _ _ => po_field_bx rfl rfl (tyF rfl)) ?_
    refine yp (fun _ _ => po_load_bx rfl rfl (tyT rfl) rfl rfl) ?_
    refine yp (fun _ _ => po_field_bx rfl rfl (tyF rfl)) ?_
    refine yp (fun _ _ => po_load_bx rfl rfl (tyT rfl) rfl rfl) ?_
    refine sany_eff [] [(100, ⟨_, _, []⟩)] (.free rfl rfl) rfl rfl (fun _ _ _ ho => e_build0 rfl (tyE rfl) (ho 100 rfl rfl)) ?_
    refine yp (fun _ _ => po_field_bx rfl rfl (tyF rfl)) ?_
    refine yp (fun _ _ => po_load_bx rfl rfl (tyT rfl) rfl rfl) ?_
    refine sany_eff [] [(100, _)] (.free rfl rfl) rfl rfl (fun _ _ _ _ => e_append rfl rfl rfl rfl rfl (.nil _) (tyE rfl) (by simp) (by simp [maxLen])) ?_
    refine yp (fun _ _ => po_buildS str32 rfl (pc (pc (pc .nil))) rfl) ?_
    refine sany_eff [(14, _)] [] (.free rfl rfl) rfl rfl (fun _ _ hb _ => e_allocS str32 rfl (hb 14 rfl rfl)) ?_
    refine sany_eff [(14, _)] [] (.free rfl rfl) rfl rfl (fun _ _ _ _ => e_store rfl rfl rfl rfl rfl rfl (tyT rfl) rfl rfl) ?_
    refine sany_nil ?_
    refine gc ?_
    refine rg 21 ?_
    refine oFb ?_
    refine oLb ?_
    refine sops_clear0 (i := 100) (.free rfl rfl) rfl rfl rfl (.inr (.inl rfl)) (by kernel_rfl) ?_
    refine oN ?_
    repeat' (first | (refine rg 22 ?_; (refine sp (po_load_bx_agg rfl rfl (tyT rfl) rfl (vc (vc (vc .nil))) rfl) ?_); refine oMv ?_; refine oS ?_; refine oAs ?_; refine oAs ?_; refine oN ?_) | refine gc ?_ | refine ct ?_ | refine cf ?_ | refine swp_cond rfl (fun hc => ?_) (fun hc => ?_) | refine retl (by exact .inr rfl) rfl (.cellT rfl rfl (tyT rfl) (vc (vc (vc .nil))) rfl (.tmpT rfl (by first | exact .t _ | exact .own rfl (by rfl) | exact .nil _ | exact .emp _ | exact .fn _) (.tmpT rfl (by first | exact .t _ | exact .own rfl (by rfl) | exact .nil _ | exact .emp _ | exact .fn _) .nil))) ?_ rfl (.cons rfl (by rfl) rfl .nil) .nil)
    rfl
  unfold atP
  cases hl : isL d.n h.f h.t with
  | false => exact herr 1 (at_no d h.f h.t h.no (isL_no hl))
  | true =>
    obtain ⟨a, b, ea, eb, hkk, hL⟩ := isL_spec hl
    cases hg : getP (d.row (kOf h.f h.t)) h.no with
    | none =>
      rw [hkk] at hg
      have c1 := at_none d hd a b h.no hL (getP_none hg)
      rw [← ea, ← eb] at c1
      exact herr 4 c1
    | some c =>
      obtain ⟨k, h1, h2, h3, h4⟩ := getP_some hg
      simp only [hkk] at h1 h4
      subst h4
      have c1 := at_own d hd a b k hL h1
      rw [← ea, ← eb, ← h2] at c1
      show LCalls _ _ _ _ _ (.tu [.t (msgA ⟨h.f, h.t, (d.row (a * 10 + b))[k]⟩), .t (.v (.int .i64 0)), .t (.v (.int .i64 0))]) _ _
      have hbig := hd.big _ _ (List.getElem_mem h1)
      generalize (d.row (a * 10 + b))[k] = l at *
      have hm : (l.map byteT).length = l.length := List.length_map _
      have hmx : (l.map byteT).length ≤ maxLen := by unfold maxLen; omega
      unfold hopT
      unfold bO at c1
      refine lcalls_of Try.func14 rfl rfl Try.ntmps14 rfl ?_
      repeat' (first | (refine rg 0 ?_; (first | refine sp (po_knd rfl rfl rfl) ?_ | refine sbx ?_); (first | refine sp (po_knd rfl rfl rfl) ?_ | refine sal str32 ?_); (first | refine sp (po_knd rfl rfl rfl) ?_ | refine oAs ?_); (first | refine sp (po_knd rfl rfl rfl) ?_ | refine oAs ?_); refine oN ?_) | (refine rg 1 ?_; (first | refine sp (po_knd rfl rfl rfl) ?_ | refine sal str32 ?_); refine oN ?_) | (refine rg 2 ?_; (first | refine sp (po_knd rfl rfl rfl) ?_ | refine oFb ?_); (first | refine sp (po_knd rfl rfl rfl) ?_ | refine sp (po_load_ntn rfl rfl (tyT rfl) rfl) ?_ | refine sp (po_load_ntk rfl rfl (tyT rfl) rfl (by first | assumption | omega) (by assumption) rfl) ?_ | refine oLb ?_); refine sp (po_knd rfl rfl rfl) ?_; refine oN ?_) | (refine rg 3 ?_; (first | refine sp (po_knd rfl rfl rfl) ?_ | refine oCm ?_); (first | refine sp (po_knd rfl rfl rfl) ?_ | refine oAs ?_); refine oN ?_) | (refine rg 4 ?_; (first | refine sp (po_knd rfl rfl rfl) ?_ | refine oCm ?_); (first | refine sp (po_knd rfl rfl rfl) ?_ | refine oAs ?_); refine oN ?_) | (refine rg 9 ?_; (first | refine sp (po_knd rfl rfl rfl) ?_ | refine oCm ?_); (first | refine sp (po_knd rfl rfl rfl) ?_ | refine oAs ?_); refine oN ?_) | (refine rg 12 ?_; (first | refine sp (po_knd rfl rfl rfl) ?_ | refine oCm ?_); (first | refine sp (po_knd rfl rfl rfl) ?_ | refine oAs ?_); refine oN ?_) | (refine rg 14 ?_; (first | refine sp (po_knd rfl rfl rfl) ?_ | refine oCm ?_); (first | refine sp (po_knd rfl rfl rfl) ?_ | refine oAs ?_); refine oN ?_) | (refine rg 16 ?_; (first | refine sp (po_knd rfl rfl rfl) ?_ | refine oCm ?_); (first | refine sp (po_knd rfl rfl rfl) ?_ | refine oAs ?_); refine oN ?_) | (refine rg 18 ?_; (first | refine sp (po_knd rfl rfl rfl) ?_ | refine oCm ?_); (first | refine sp (po_knd rfl rfl rfl) ?_ | refine oAs ?_); refine oN ?_) | (refine rg 19 ?_; (first | refine sp (po_knd rfl rfl rfl) ?_ | refine oMv ?_); (first | refine sp (po_knd rfl rfl rfl) ?_ | refine oFb ?_); (first | refine sp (po_knd rfl rfl rfl) ?_ | refine sp (po_load_ntn rfl rfl (tyT rfl) rfl) ?_ | refine sp (po_load_ntk rfl rfl (tyT rfl) rfl (by first | assumption | omega) (by assumption) rfl) ?_ | refine oLb ?_); (first | refine sp (po_knd rfl rfl rfl) ?_ | refine oFb ?_); (first | refine sp (po_knd rfl rfl rfl) ?_ | refine sp (po_load_ntn rfl rfl (tyT rfl) rfl) ?_ | refine sp (po_load_ntk rfl rfl (tyT rfl) rfl (by first | assumption | omega) (by assumption) rfl) ?_ | refine oLb ?_); (first | refine sp (po_knd rfl rfl rfl) ?_ | refine oFb ?_); (first | refine sp (po_knd rfl rfl rfl) ?_ | refine sp (po_load_ntn rfl rfl (tyT rfl) rfl) ?_ | refine sp (po_load_ntk rfl rfl (tyT rfl) rfl (by first | assumption | omega) (by assumption) rfl) ?_ | refine oLb ?_); (first | refine sp (po_knd rfl rfl rfl) ?_ | refine sops_lcall (c1) (fun i => i) (fun i => i) (fun _ => false) (.free rfl rfl) rfl rfl rfl (by ((repeat' (first | exact .nil | refine .cons rfl rfl rfl ?_)) <;> fail)) (.cons rfl rfl .nil) .nil rfl rfl (fun _ h => Bool.noConfusion h) ?_); (first | refine sp (po_knd rfl rfl rfl) ?_ | refine oMv ?_); (first | refine sp (po_knd rfl rfl rfl) ?_ | refine oEx ?_ | refine sp (po_extract_tu rfl rfl rfl) ?_); (first | refine sp (po_knd rfl rfl rfl) ?_ | refine oEx ?_ | refine sp (po_extract_tu rfl rfl rfl) ?_); (first | refine sp (po_knd rfl rfl rfl) ?_ | refine sal str32 ?_); (first | refine spn (po_knd rfl rfl rfl) ?_ | refine oS ?_); (first | refine sp (po_knd rfl rfl rfl) ?_ | refine oAs ?_); refine oN ?_) | refine gc ?_ | refine ct ?_ | refine cf ?_ | refine swp_cond rfl (fun hc => ?_) (fun hc => ?_) | refine rq rfl (.cell rfl rfl (tyT rfl) (vc (vc (vc .nil))) rfl (rt (rt .nil))) ?_)
      refine swp_any (id := 20) [[], [], [], [], [100], [], [], [100], [], [14], [14]] [[100, 14], [100, 14], [100, 14], [100, 14], [14], [100, 14], [100, 14], [14], [14], [100], []] mixed (by kernel_rfl) ?_
      refine yp (fun _ _ => po_field_bx rfl rfl (tyF rfl)) ?_
      refine yp (fun _ _ => po_load_bx rfl rfl (tyT rfl) rfl rfl) ?_
      refine yp (fun _ _ => po_field_bx rfl rfl (tyF rfl)) ?_
      refine yp (fun _ _ => po_load_bx rfl rfl (tyT rfl) rfl rfl) ?_
      refine sany_eff [] [(100, ⟨_, _, []⟩)] (.free rfl rfl) rfl rfl (fun _ _ _ ho => e_build0 rfl (tyE rfl) (ho 100 rfl rfl)) ?_
      refine yp (fun _ _ => po_field_bx rfl rfl (tyF rfl)) ?_
      refine yp (fun _ _ => po_load_bx rfl rfl (tyT rfl) rfl rfl) ?_
      refine sany_eff [] [(100, _)] (.free rfl rfl) rfl rfl (fun _ _ _ _ => e_append_see rfl rfl rfl rfl rfl (.own rfl rfl) (bytes_pv l) (tyE rfl) (by simp; omega) (by simpa using hmx)) ?_
      refine yp (fun _ _ => po_buildS str32 rfl (pc (pc (pc .nil))) rfl) ?_
      refine sany_eff [(14, _)] [] (.free rfl rfl) rfl rfl (fun _ _ hb _ => e_allocS str32 rfl (hb 14 rfl rfl)) ?_
      refine sany_eff [(14, _)] [] (.free rfl rfl) rfl rfl (fun _ _ _ _ => e_store rfl rfl rfl rfl rfl rfl (tyT rfl) rfl rfl) ?_
      refine sany_nil ?_
      refine gc ?_
      by_cases hn : l = []
      · refine rg 21 ?_
        refine oFb ?_
        refine oLb ?_
        refine sops_clear0 (i := 1001) (.free rfl rfl) rfl rfl rfl (.inl ⟨_, rfl, by rw [hn]; rfl⟩) (by kernel_rfl) ?_
        refine oN ?_
        repeat' (first | (refine rg 22 ?_; (refine sp (po_load_bx_agg rfl rfl (tyT rfl) rfl (vc (vc (vc .nil))) rfl) ?_); refine oMv ?_; refine oS ?_; refine oAs ?_; refine oAs ?_; refine oN ?_) | refine gc ?_ | refine ct ?_ | refine cf ?_ | refine swp_cond rfl (fun hc => ?_) (fun hc => ?_) | refine retl (by exact .inr rfl) rfl (.cellT rfl rfl (tyT rfl) (vc (vc (vc .nil))) rfl (.tmpT rfl (by first | exact .t _ | exact .own rfl (by rfl) | exact .nil _ | exact .emp _ | exact .fn _) (.tmpT rfl (by first | exact .t _ | exact .own rfl (by rfl) | exact .nil _ | exact .emp _ | exact .fn _) .nil))) ?_ rfl (.cons rfl (by rfl) rfl .nil) .nil)
        rfl
      · have hpos := List.length_pos_iff.2 hn
        refine rg 21 ?_
        refine oFb ?_
        refine oLb ?_
        refine sops_weak (weak_own_sfx (s := 106) (sz := 1) rfl rfl rfl (by omega)) ?_
        refine sops_clear (by rfl) (.free rfl rfl) rfl rfl rfl rfl rfl (by omega) (tyE rfl) uz rfl ?_
        refine oN ?_
        repeat' (first | (refine rg 22 ?_; (refine sp (po_load_bx_agg rfl rfl (tyT rfl) rfl (vc (vc (vc .nil))) rfl) ?_); refine oMv ?_; refine oS ?_; refine oAs ?_; refine oAs ?_; refine oN ?_) | refine gc ?_ | refine ct ?_ | refine cf ?_ | refine swp_cond rfl (fun hc => ?_) (fun hc => ?_) | refine retl (by exact .inr rfl) rfl (.cellT rfl rfl (tyT rfl) (vc (vc (vc .nil))) rfl (.tmpT rfl (by first | exact .t _ | exact .own rfl (by rfl) | exact .nil _ | exact .emp _ | exact .fn _) (.tmpT rfl (by first | exact .t _ | exact .own rfl (by rfl) | exact .nil _ | exact .emp _ | exact .fn _) .nil))) ?_ rfl (.cons rfl (by rfl) rfl .nil) .nil)
        rfl
end Go.Proofs.Ytgbcmjcaggnobaa.Sim
