/- Merged by bundles.py: SimNlb, SimNla, PlRests. -/
import Derived.Test.YtabejnjnkpdjbaaR34
import Derived.Test.YtabejnjnkpdjbaaR32
import Derived.Test.YtabejnjnkpdjbaaR20
/- awake. (Printed by mk_nlb.py.) -/
namespace Go.Proofs.Ytabejnjnkpdjbaa.Sim
set_option linter.unusedVariables false
set_option linter.unusedSimpArgs false
open Go.RowKit Mem
set_option maxRecDepth 100000 in
set_option maxHeartbeats 4000000 in
theorem awake_ : PCalls Try.prog 10 [] (.v (.bool true)) := by
  refine pcalls_of Try.func10 rfl rfl Try.ntmps10 rfl ?_
  repeat' (first | (refine rg 0 ?_; refine oAs ?_; refine oN ?_) | (refine rg 1 ?_; refine sp (po_buildS str39 rfl (pc (pc (pc .nil))) rfl) ?_; refine sal str39 ?_; refine oS ?_; refine oN ?_) | (refine rg 2 ?_; refine sp (po_buildS str26 rfl (pc (pc (pc .nil))) rfl) ?_; refine sal str26 ?_; refine oS ?_; refine oN ?_) | (refine rg 3 ?_; refine oC (k_new) rfl (ac (ac .nil)) ?_; refine oMv ?_; refine oEx ?_; refine oEx ?_; refine sal str58 ?_; refine oS ?_; refine oAs ?_; refine oN ?_) | refine gc ?_ | refine ct ?_ | refine cf ?_ | refine swp_cond rfl (fun hc => ?_) (fun hc => ?_) | refine rq rfl (rt .nil) ?_)
  refine swp_weak (st' := ⟨[(1, .bp 1 0), (2, .bp 2 0), (3, .bp 3 0), (4, .t (i64T 0))], [(1, [.t (u64T 11), .t (u32T 7), .t (i64T 80)]), (2, [.t (i64T 2), .t (u64T 1), .t (u64T 1)]), (3, (poolT (⟨2, 1, 1, []⟩ : PPool)).map .t)], []⟩) (weak_sub (.cons rfl rfl rfl (.cons rfl rfl rfl (.cons rfl rfl rfl (.cons rfl rfl rfl .nil)))) (.cons rfl rfl rfl (.cons rfl rfl rfl (.cons rfl rfl rfl .nil))) .nil) ?_
  repeat' (first | ((refine swp_any (id := 4) [[], [], [], [], [], [], [], [], [3], [], []] [[], [], [], [], [], [], [3], [3], [], [], []] mixed (by kernel_rfl) ?_) <;> (refine yp (fun _ _ => po_load_bx_agg rfl rfl (tyT rfl) rfl (vc (vc (vc (vc .nil)))) rfl) ?_) <;> (refine yp (fun _ _ => po_load_bx_agg rfl rfl (tyT rfl) rfl (vc (vc (vc .nil))) rfl) ?_) <;> refine yp (fun _ _ => po_call ((query_ 1)) rfl (ac .nil)) ?_ <;> (refine yp (fun _ _ => po_call (k_ask1) rfl (ac (ac (ac (ac (ac (ac .nil))))))) ?_) <;> refine yp (fun _ _ => po_move rfl rfl) ?_ <;> refine yp (fun _ _ => po_extract rfl rfl rfl) ?_ <;> refine yp (fun _ _ => po_extract rfl rfl rfl) ?_ <;> refine yp (fun _ _ => po_extract rfl rfl rfl) ?_ <;> refine sany_eff [(3, _)] [] (.free rfl rfl) rfl rfl (fun _ _ _ _ => e_store rfl rfl rfl rfl rfl rfl (tyT rfl) rfl rfl) ?_ <;> refine yp (fun _ _ => po_assign rfl rfl) ?_ <;> refine yp (fun _ _ => po_assign rfl rfl) ?_ <;> refine sany_nil ?_) | refine gc ?_ | refine ct ?_ | refine cf ?_ | refine swp_cond rfl (fun hc => ?_) (fun hc => ?_) | refine rq rfl (rt .nil) ?_)
  refine swp_weak (st' := ⟨[(1, .bp 1 0), (2, .bp 2 0), (3, .bp 3 0), (4, .t (i64T 0)), (5, .t (.sl 18 (([⟨1, 3, 2, 1, 1, 10, 11, 7, 80, none⟩] : List PDo).map doR))), (6, .t (i64T 0))], [(1, [.t (u64T 11), .t (u32T 7), .t (i64T 80)]), (2, [.t (i64T 2), .t (u64T 1), .t (u64T 1)]), (3, (poolT (⟨2, 1, 2, [⟨2, 1, 1, 3, 10, 11, 7, 80, 1, 0, 0, 0, 0, [⟨1, 0, 0, 0, .empty, .empty, 0, 0, [120]⟩]⟩]⟩ : PPool)).map .t)], []⟩) (weak_sub (.cons rfl rfl rfl (.cons rfl rfl rfl (.cons rfl rfl rfl (.cons rfl rfl rfl (.cons rfl rfl rfl (.cons rfl rfl rfl .nil)))))) (.cons rfl rfl rfl (.cons rfl rfl rfl (.cons rfl rfl rfl .nil))) .nil) ?_
  repeat' (first | ((refine swp_any (id := 5) [[], [], [], [], [], [], [], [], [3], [], []] [[], [], [], [], [], [], [3], [3], [], [], []] mixed (by kernel_rfl) ?_) <;> (refine yp (fun _ _ => po_load_bx_agg rfl rfl (tyT rfl) rfl (vc (vc (vc (vc .nil)))) rfl) ?_) <;> (refine yp (fun _ _ => po_load_bx_agg rfl rfl (tyT rfl) rfl (vc (vc (vc .nil))) rfl) ?_) <;> refine yp (fun _ _ => po_call ((query_ 2)) rfl (ac .nil)) ?_ <;> (refine yp (fun _ _ => po_call (k_ask2) rfl (ac (ac (ac (ac (ac (ac .nil))))))) ?_) <;> refine yp (fun _ _ => po_move rfl rfl) ?_ <;> refine yp (fun _ _ => po_extract rfl rfl rfl) ?_ <;> refine yp (fun _ _ => po_extract rfl rfl rfl) ?_ <;> refine yp (fun _ _ => po_extract rfl rfl rfl) ?_ <;> refine sany_eff [(3, _)] [] (.free rfl rfl) rfl rfl (fun _ _ _ _ => e_store rfl rfl rfl rfl rfl rfl (tyT rfl) rfl rfl) ?_ <;> refine yp (fun _ _ => po_assign rfl rfl) ?_ <;> refine yp (fun _ _ => po_assign rfl rfl) ?_ <;> refine sany_nil ?_) | refine gc ?_ | refine ct ?_ | refine cf ?_ | refine swp_cond rfl (fun hc => ?_) (fun hc => ?_) | refine rq rfl (rt .nil) ?_)
  refine swp_weak (st' := ⟨[(1, .bp 1 0), (2, .bp 2 0), (3, .bp 3 0), (4, .t (i64T 0)), (5, .t (.sl 18 (([⟨1, 3, 2, 1, 1, 10, 11, 7, 80, none⟩] : List PDo).map doR))), (6, .t (i64T 0)), (7, .t (.sl 18 (([] : List PDo).map doR))), (8, .t (i64T 0))], [(1, [.t (u64T 11), .t (u32T 7), .t (i64T 80)]), (2, [.t (i64T 2), .t (u64T 1), .t (u64T 1)]), (3, (poolT (⟨2, 1, 2, [⟨2, 1, 1, 3, 10, 11, 7, 80, 1, 0, 0, 0, 0, [⟨1, 0, 0, 0, .empty, .empty, 0, 0, [120]⟩, ⟨2, 0, 0, 0, .empty, .empty, 0, 0, [120]⟩]⟩]⟩ : PPool)).map .t)], []⟩) (weak_sub (.cons rfl rfl rfl (.cons rfl rfl rfl (.cons rfl rfl rfl (.cons rfl rfl rfl (.cons rfl rfl rfl (.cons rfl rfl rfl (.cons rfl rfl rfl (.cons rfl rfl rfl .nil)))))))) (.cons rfl rfl rfl (.cons rfl rfl rfl (.cons rfl rfl rfl .nil))) .nil) ?_
  repeat' (first | (refine rg 6 ?_; (refine sp (po_load_bx_agg rfl rfl (tyT rfl) rfl (vc (vc (vc (vc .nil)))) rfl) ?_); (refine sp (po_load_bx_agg rfl rfl (tyT rfl) rfl (vc (vc (vc .nil))) rfl) ?_); refine oC (k_acc) rfl (ac (ac (ac (ac .nil)))) ?_; refine oMv ?_; refine oEx ?_; refine oEx ?_; refine oS ?_; refine oAs ?_; refine oN ?_) | refine gc ?_ | refine ct ?_ | refine cf ?_ | refine swp_cond rfl (fun hc => ?_) (fun hc => ?_) | refine rq rfl (rt .nil) ?_)
  refine swp_weak (st' := ⟨[(1, .bp 1 0), (2, .bp 2 0), (3, .bp 3 0), (4, .t (i64T 0)), (5, .t (.sl 18 (([⟨1, 3, 2, 1, 1, 10, 11, 7, 80, none⟩] : List PDo).map doR))), (6, .t (i64T 0)), (7, .t (.sl 18 (([] : List PDo).map doR))), (8, .t (i64T 0)), (9, .t (.sl 18 (([⟨2, 3, 2, 1, 1, 0, 0, 0, 0, some ⟨1, 1, 0, 1, .empty, .empty, 0, 0, [120]⟩⟩, ⟨2, 3, 2, 1, 1, 0, 0, 0, 0, some ⟨2, 2, 0, 1, .empty, .empty, 0, 0, [120]⟩⟩] : List PDo).map doR)))], [(1, [.t (u64T 11), .t (u32T 7), .t (i64T 80)]), (2, [.t (i64T 2), .t (u64T 1), .t (u64T 1)]), (3, (poolT (⟨2, 1, 2, [⟨2, 1, 1, 3, 10, 11, 7, 80, 2, 2, 0, 0, 1, [⟨1, 1, 0, 1, .empty, .empty, 0, 0, [120]⟩, ⟨2, 2, 0, 1, .empty, .empty, 0, 0, [120]⟩]⟩]⟩ : PPool)).map .t)], []⟩) (weak_sub (.cons rfl rfl rfl (.cons rfl rfl rfl (.cons rfl rfl rfl (.cons rfl rfl rfl (.cons rfl rfl rfl (.cons rfl rfl rfl (.cons rfl rfl rfl (.cons rfl rfl rfl (.cons rfl rfl rfl .nil))))))))) (.cons rfl rfl rfl (.cons rfl rfl rfl (.cons rfl rfl rfl .nil))) .nil) ?_
  repeat' (first | (refine rg 7 ?_; (refine sp (po_load_bx_agg rfl rfl (tyT rfl) rfl (vc (vc (vc (vc .nil)))) rfl) ?_); (refine sp (po_load_bx_agg rfl rfl (tyT rfl) rfl (vc (vc (vc .nil))) rfl) ?_); refine oC (k_rep) rfl (ac (ac (ac (ac (ac .nil))))) ?_; refine oMv ?_; refine oEx ?_; refine oEx ?_; refine oEx ?_; refine oS ?_; refine oAs ?_; refine oAs ?_; refine oN ?_) | refine gc ?_ | refine ct ?_ | refine cf ?_ | refine swp_cond rfl (fun hc => ?_) (fun hc => ?_) | refine rq rfl (rt .nil) ?_)
  refine swp_weak (st' := ⟨[(1, .bp 1 0), (2, .bp 2 0), (3, .bp 3 0), (4, .t (i64T 0)), (5, .t (.sl 18 (([⟨1, 3, 2, 1, 1, 10, 11, 7, 80, none⟩] : List PDo).map doR))), (6, .t (i64T 0)), (7, .t (.sl 18 (([] : List PDo).map doR))), (8, .t (i64T 0)), (9, .t (.sl 18 (([⟨2, 3, 2, 1, 1, 0, 0, 0, 0, some ⟨1, 1, 0, 1, .empty, .empty, 0, 0, [120]⟩⟩, ⟨2, 3, 2, 1, 1, 0, 0, 0, 0, some ⟨2, 2, 0, 1, .empty, .empty, 0, 0, [120]⟩⟩] : List PDo).map doR))), (10, .t (u64T 2)), (11, .t (.v (.bool true)))], [(1, [.t (u64T 11), .t (u32T 7), .t (i64T 80)]), (2, [.t (i64T 2), .t (u64T 1), .t (u64T 1)]), (3, (poolT (⟨2, 1, 2, [⟨2, 1, 1, 3, 10, 11, 7, 80, 2, 2, 0, 0, 1, [⟨1, 1, 0, 1, .empty, .empty, 0, 0, [120]⟩]⟩]⟩ : PPool)).map .t)], []⟩) (weak_sub (.cons rfl rfl rfl (.cons rfl rfl rfl (.cons rfl rfl rfl (.cons rfl rfl rfl (.cons rfl rfl rfl (.cons rfl rfl rfl (.cons rfl rfl rfl (.cons rfl rfl rfl (.cons rfl rfl rfl (.cons rfl rfl rfl (.cons rfl rfl rfl .nil))))))))))) (.cons rfl rfl rfl (.cons rfl rfl rfl (.cons rfl rfl rfl .nil))) .nil) ?_
  repeat' (first | ((refine swp_any (id := 8) [[], [], [], [], [], [], [], [], [3], [], []] [[], [], [], [], [], [], [3], [3], [], [], []] mixed (by kernel_rfl) ?_) <;> (refine yp (fun _ _ => po_load_bx_agg rfl rfl (tyT rfl) rfl (vc (vc (vc (vc .nil)))) rfl) ?_) <;> (refine yp (fun _ _ => po_load_bx_agg rfl rfl (tyT rfl) rfl (vc (vc (vc .nil))) rfl) ?_) <;> refine yp (fun _ _ => po_call ((query_ 4)) rfl (ac .nil)) ?_ <;> (refine yp (fun _ _ => po_call (k_ask3) rfl (ac (ac (ac (ac (ac (ac .nil))))))) ?_) <;> refine yp (fun _ _ => po_move rfl rfl) ?_ <;> refine yp (fun _ _ => po_extract rfl rfl rfl) ?_ <;> refine yp (fun _ _ => po_extract rfl rfl rfl) ?_ <;> refine yp (fun _ _ => po_extract rfl rfl rfl) ?_ <;> refine sany_eff [(3, _)] [] (.free rfl rfl) rfl rfl (fun _ _ _ _ => e_store rfl rfl rfl rfl rfl rfl (tyT rfl) rfl rfl) ?_ <;> refine yp (fun _ _ => po_assign rfl rfl) ?_ <;> refine yp (fun _ _ => po_assign rfl rfl) ?_ <;> refine sany_nil ?_) | refine gc ?_ | refine ct ?_ | refine cf ?_ | refine swp_cond rfl (fun hc => ?_) (fun hc => ?_) | refine rq rfl (rt .nil) ?_)
  refine swp_weak (st' := ⟨[(1, .bp 1 0), (2, .bp 2 0), (3, .bp 3 0), (4, .t (i64T 0)), (5, .t (.sl 18 (([⟨1, 3, 2, 1, 1, 10, 11, 7, 80, none⟩] : List PDo).map doR))), (6, .t (i64T 0)), (7, .t (.sl 18 (([] : List PDo).map doR))), (8, .t (i64T 0)), (9, .t (.sl 18 (([⟨2, 3, 2, 1, 1, 0, 0, 0, 0, some ⟨1, 1, 0, 1, .empty, .empty, 0, 0, [120]⟩⟩, ⟨2, 3, 2, 1, 1, 0, 0, 0, 0, some ⟨2, 2, 0, 1, .empty, .empty, 0, 0, [120]⟩⟩] : List PDo).map doR))), (10, .t (u64T 2)), (11, .t (.v (.bool true))), (12, .t (.sl 18 (([⟨2, 3, 2, 1, 1, 0, 0, 0, 0, some ⟨4, 3, 1, 1, .empty, .empty, 0, 0, [120]⟩⟩] : List PDo).map doR))), (13, .t (i64T 0))], [(1, [.t (u64T 11), .t (u32T 7), .t (i64T 80)]), (2, [.t (i64T 2), .t (u64T 1), .t (u64T 1)]), (3, (poolT (⟨2, 1, 2, [⟨2, 1, 1, 3, 10, 11, 7, 80, 2, 3, 0, 0, 1, [⟨1, 1, 0, 1, .empty, .empty, 0, 0, [120]⟩, ⟨4, 3, 1, 1, .empty, .empty, 0, 0, [120]⟩]⟩]⟩ : PPool)).map .t)], []⟩) (weak_sub (.cons rfl rfl rfl (.cons rfl rfl rfl (.cons rfl rfl rfl (.cons rfl rfl rfl (.cons rfl rfl rfl (.cons rfl rfl rfl (.cons rfl rfl rfl (.cons rfl rfl rfl (.cons rfl rfl rfl (.cons rfl rfl rfl (.cons rfl rfl rfl (.cons rfl rfl rfl (.cons rfl rfl rfl .nil))))))))))))) (.cons rfl rfl rfl (.cons rfl rfl rfl (.cons rfl rfl rfl .nil))) .nil) ?_
  repeat' (first | (refine rg 9 ?_; (refine sp (po_load_bx_agg rfl rfl (tyT rfl) rfl (vc (vc (vc (vc .nil)))) rfl) ?_); refine oC (k_tk1) rfl (ac (ac .nil)) ?_; refine oMv ?_; refine oEx ?_; refine oEx ?_; refine oEx ?_; refine oS ?_; refine oAs ?_; refine oAs ?_; refine oN ?_) | refine gc ?_ | refine ct ?_ | refine cf ?_ | refine swp_cond rfl (fun hc => ?_) (fun hc => ?_) | refine rq rfl (rt .nil) ?_)
  refine swp_weak (st' := ⟨[(1, .bp 1 0), (2, .bp 2 0), (3, .bp 3 0), (4, .t (i64T 0)), (5, .t (.sl 18 (([⟨1, 3, 2, 1, 1, 10, 11, 7, 80, none⟩] : List PDo).map doR))), (6, .t (i64T 0)), (7, .t (.sl 18 (([] : List PDo).map doR))), (8, .t (i64T 0)), (9, .t (.sl 18 (([⟨2, 3, 2, 1, 1, 0, 0, 0, 0, some ⟨1, 1, 0, 1, .empty, .empty, 0, 0, [120]⟩⟩, ⟨2, 3, 2, 1, 1, 0, 0, 0, 0, some ⟨2, 2, 0, 1, .empty, .empty, 0, 0, [120]⟩⟩] : List PDo).map doR))), (10, .t (u64T 2)), (11, .t (.v (.bool true))), (12, .t (.sl 18 (([⟨2, 3, 2, 1, 1, 0, 0, 0, 0, some ⟨4, 3, 1, 1, .empty, .empty, 0, 0, [120]⟩⟩] : List PDo).map doR))), (13, .t (i64T 0)), (14, .t (.sl 18 (([⟨2, 3, 2, 1, 1, 0, 0, 0, 0, some ⟨1, 1, 0, 4, .empty, .empty, 0, 0, [120]⟩⟩, ⟨2, 3, 2, 1, 1, 0, 0, 0, 0, some ⟨4, 3, 1, 4, .empty, .empty, 0, 0, [120]⟩⟩] : List PDo).map doR)))], [(1, [.t (u64T 11), .t (u32T 7), .t (i64T 80)]), (2, [.t (i64T 2), .t (u64T 1), .t (u64T 1)]), (3, (poolT (⟨2, 1, 2, [⟨2, 1, 1, 3, 10, 11, 7, 80, 2, 3, 0, 0, 4, [⟨1, 1, 0, 4, .empty, .empty, 0, 0, [120]⟩, ⟨4, 3, 1, 4, .empty, .empty, 0, 0, [120]⟩]⟩]⟩ : PPool)).map .t)], []⟩) (weak_sub (.cons rfl rfl rfl (.cons rfl rfl rfl (.cons rfl rfl rfl (.cons rfl rfl rfl (.cons rfl rfl rfl (.cons rfl rfl rfl (.cons rfl rfl rfl (.cons rfl rfl rfl (.cons rfl rfl rfl (.cons rfl rfl rfl (.cons rfl rfl rfl (.cons rfl rfl rfl (.cons rfl rfl rfl (.cons rfl rfl rfl .nil)))))))))))))) (.cons rfl rfl rfl (.cons rfl rfl rfl (.cons rfl rfl rfl .nil))) .nil) ?_
  repeat' (first | (refine rg 10 ?_; (refine sp (po_load_bx_agg rfl rfl (tyT rfl) rfl (vc (vc (vc (vc .nil)))) rfl) ?_); refine oC (k_tk2) rfl (ac (ac .nil)) ?_; refine oMv ?_; refine oEx ?_; refine oEx ?_; refine oEx ?_; refine oS ?_; refine oAs ?_; refine oAs ?_; refine oN ?_) | refine gc ?_ | refine ct ?_ | refine cf ?_ | refine swp_cond rfl (fun hc => ?_) (fun hc => ?_) | refine rq rfl (rt .nil) ?_)
  refine swp_weak (st' := ⟨[(1, .bp 1 0), (2, .bp 2 0), (3, .bp 3 0), (4, .t (i64T 0)), (5, .t (.sl 18 (([⟨1, 3, 2, 1, 1, 10, 11, 7, 80, none⟩] : List PDo).map doR))), (6, .t (i64T 0)), (7, .t (.sl 18 (([] : List PDo).map doR))), (8, .t (i64T 0)), (9, .t (.sl 18 (([⟨2, 3, 2, 1, 1, 0, 0, 0, 0, some ⟨1, 1, 0, 1, .empty, .empty, 0, 0, [120]⟩⟩, ⟨2, 3, 2, 1, 1, 0, 0, 0, 0, some ⟨2, 2, 0, 1, .empty, .empty, 0, 0, [120]⟩⟩] : List PDo).map doR))), (10, .t (u64T 2)), (11, .t (.v (.bool true))), (12, .t (.sl 18 (([⟨2, 3, 2, 1, 1, 0, 0, 0, 0, some ⟨4, 3, 1, 1, .empty, .empty, 0, 0, [120]⟩⟩] : List PDo).map doR))), (13, .t (i64T 0)), (14, .t (.sl 18 (([⟨2, 3, 2, 1, 1, 0, 0, 0, 0, some ⟨1, 1, 0, 4, .empty, .empty, 0, 0, [120]⟩⟩, ⟨2, 3, 2, 1, 1, 0, 0, 0, 0, some ⟨4, 3, 1, 4, .empty, .empty, 0, 0, [120]⟩⟩] : List PDo).map doR))), (17, .t (.sl 2 (([⟨1, 9⟩, ⟨4, 9⟩] : List PFail).map failR)))], [(1, [.t (u64T 11), .t (u32T 7), .t (i64T 80)]), (2, [.t (i64T 2), .t (u64T 1), .t (u64T 1)]), (3, (poolT (⟨2, 1, 2, [⟨2, 1, 1, 3, 10, 11, 7, 80, 2, 3, 0, 0, 4, []⟩]⟩ : PPool)).map .t)], []⟩) (weak_sub (.cons rfl rfl rfl (.cons rfl rfl rfl (.cons rfl rfl rfl (.cons rfl rfl rfl (.cons rfl rfl rfl (.cons rfl rfl rfl (.cons rfl rfl rfl (.cons rfl rfl rfl (.cons rfl rfl rfl (.cons rfl rfl rfl (.cons rfl rfl rfl (.cons rfl rfl rfl (.cons rfl rfl rfl (.cons rfl rfl rfl (.cons rfl rfl rfl .nil))))))))))))))) (.cons rfl rfl rfl (.cons rfl rfl rfl (.cons rfl rfl rfl .nil))) .nil) ?_
  repeat' (first | (refine rg 11 ?_; (refine sp (po_load_bx_agg rfl rfl (tyT rfl) rfl (vc (vc (vc (vc .nil)))) rfl) ?_); refine oC (k_tk3) rfl (ac (ac .nil)) ?_; refine oMv ?_; refine oEx ?_; refine oEx ?_; refine oEx ?_; refine oS ?_; refine oAs ?_; refine oAs ?_; refine oN ?_) | refine gc ?_ | refine ct ?_ | refine cf ?_ | refine swp_cond rfl (fun hc => ?_) (fun hc => ?_) | refine rq rfl (rt .nil) ?_)
  refine swp_weak (st' := ⟨[(1, .bp 1 0), (2, .bp 2 0), (3, .bp 3 0), (4, .t (i64T 0)), (5, .t (.sl 18 (([⟨1, 3, 2, 1, 1, 10, 11, 7, 80, none⟩] : List PDo).map doR))), (6, .t (i64T 0)), (7, .t (.sl 18 (([] : List PDo).map doR))), (8, .t (i64T 0)), (9, .t (.sl 18 (([⟨2, 3, 2, 1, 1, 0, 0, 0, 0, some ⟨1, 1, 0, 1, .empty, .empty, 0, 0, [120]⟩⟩, ⟨2, 3, 2, 1, 1, 0, 0, 0, 0, some ⟨2, 2, 0, 1, .empty, .empty, 0, 0, [120]⟩⟩] : List PDo).map doR))), (10, .t (u64T 2)), (11, .t (.v (.bool true))), (12, .t (.sl 18 (([⟨2, 3, 2, 1, 1, 0, 0, 0, 0, some ⟨4, 3, 1, 1, .empty, .empty, 0, 0, [120]⟩⟩] : List PDo).map doR))), (13, .t (i64T 0)), (14, .t (.sl 18 (([⟨2, 3, 2, 1, 1, 0, 0, 0, 0, some ⟨1, 1, 0, 4, .empty, .empty, 0, 0, [120]⟩⟩, ⟨2, 3, 2, 1, 1, 0, 0, 0, 0, some ⟨4, 3, 1, 4, .empty, .empty, 0, 0, [120]⟩⟩] : List PDo).map doR))), (17, .t (.sl 2 (([⟨1, 9⟩, ⟨4, 9⟩] : List PFail).map failR))), (18, .t (.sl 18 (([⟨3, 3, 2, 1, 1, 0, 0, 0, 0, none⟩] : List PDo).map doR)))], [(1, [.t (u64T 11), .t (u32T 7), .t (i64T 80)]), (2, [.t (i64T 2), .t (u64T 1), .t (u64T 1)]), (3, (poolT (⟨2, 1, 2, []⟩ : PPool)).map .t)], []⟩) (weak_sub (.cons rfl rfl rfl (.cons rfl rfl rfl (.cons rfl rfl rfl (.cons rfl rfl rfl (.cons rfl rfl rfl (.cons rfl rfl rfl (.cons rfl rfl rfl (.cons rfl rfl rfl (.cons rfl rfl rfl (.cons rfl rfl rfl (.cons rfl rfl rfl (.cons rfl rfl rfl (.cons rfl rfl rfl (.cons rfl rfl rfl (.cons rfl rfl rfl (.cons rfl rfl rfl .nil)))))))))))))))) (.cons rfl rfl rfl (.cons rfl rfl rfl (.cons rfl rfl rfl .nil))) .nil) ?_
  repeat' (first | (refine rg 12 ?_; refine oMv ?_; refine sp (pln rfl (tyS rfl)) ?_; (first | refine sp (po_eqid rfl rfl rfl) ?_ | refine oCm ?_); refine oMv ?_; refine oMv ?_ <;> refine sp (pln rfl (tyS rfl)) ?_ <;> (first | refine sp (po_eqid rfl rfl rfl) ?_ | refine oCm ?_) <;> (first | refine oPt ?_ | refine oPf ?_) <;> refine oMv ?_ <;> refine oMv ?_ <;> refine sp (pln rfl (tyS rfl)) ?_ <;> (first | refine sp (po_eqid rfl rfl rfl) ?_ | refine oCm ?_) <;> (first | refine oPt ?_ | refine oPf ?_) <;> refine oMv ?_ <;> refine oMv ?_ <;> refine sp (pln rfl (tyS rfl)) ?_ <;> (first | refine sp (po_eqid rfl rfl rfl) ?_ | refine oCm ?_) <;> (first | refine oPt ?_ | refine oPf ?_) <;> refine oMv ?_ <;> refine oMv ?_ <;> refine sp (pln rfl (tyS rfl)) ?_ <;> (first | refine sp (po_eqid rfl rfl rfl) ?_ | refine oCm ?_) <;> (first | refine oPt ?_ | refine oPf ?_) <;> refine oMv ?_ <;> refine oMv ?_ <;> refine sp (pln rfl (tyS rfl)) ?_ <;> (first | refine sp (po_eqid rfl rfl rfl) ?_ | refine oCm ?_) <;> (first | refine oPt ?_ | refine oPf ?_) <;> refine oMv ?_ <;> refine oMv ?_ <;> refine sp (pln rfl (tyS rfl)) ?_ <;> (first | refine sp (po_eqid rfl rfl rfl) ?_ | refine oCm ?_) <;> (first | refine oPt ?_ | refine oPf ?_) <;> refine oN ?_) | (refine rd 14 ?_; refine dMv ?_; (first | refine dp (po_eqid rfl rfl rfl) ?_ | refine dCm ?_); refine dMv ?_; refine dMv ?_ <;> (first | refine dp (po_eqid rfl rfl rfl) ?_ | refine dCm ?_) <;> refine dPt ?_ <;> refine dMv ?_ <;> refine dMv ?_ <;> (first | refine dp (po_eqid rfl rfl rfl) ?_ | refine dCm ?_) <;> refine dPt ?_ <;> refine dMv ?_ <;> refine dMv ?_ <;> refine dp (pix rfl (tyS rfl)) ?_ <;> (first | refine dFb ?_ | refine dFd ?_) <;> (first | refine dLb ?_ | refine dLd ?_) <;> (first | refine dp (po_eqid rfl rfl rfl) ?_ | refine dCm ?_) <;> refine dPt ?_ <;> refine dMv ?_ <;> refine dMv ?_ <;> refine dp (pix rfl (tyS rfl)) ?_ <;> (first | refine dFb ?_ | refine dFd ?_) <;> (first | refine dp (po_load_bx_agg rfl rfl (tyT rfl) rfl (vc (vc (vc .nil))) rfl) ?_ | refine dp (po_load_agg rfl rfl (tyT rfl) rfl rfl) ?_) <;> (refine dp (po_load_bx_agg rfl rfl (tyT rfl) rfl (vc (vc (vc .nil))) rfl) ?_) <;> refine dp (po_eqid rfl rfl rfl) ?_ <;> refine dPt ?_ <;> refine dMv ?_ <;> refine dMv ?_ <;> refine dp (pix rfl (tyS rfl)) ?_ <;> (first | refine dFb ?_ | refine dFd ?_) <;> (first | refine dFb ?_ | refine dFd ?_) <;> (first | refine dLb ?_ | refine dLd ?_) <;> (first | refine dp (po_eqid rfl rfl rfl) ?_ | refine dCm ?_) <;> refine dPt ?_ <;> refine dMv ?_ <;> refine dMv ?_ <;> (first | refine dp (po_eqid rfl rfl rfl) ?_ | refine dCm ?_) <;> refine dPt ?_ <;> refine dMv ?_ <;> refine dMv ?_ <;> refine dPt ?_ <;> refine dMv ?_ <;> refine dMv ?_ <;> (first | refine dp (po_eqid rfl rfl rfl) ?_ | refine dCm ?_) <;> refine dPt ?_ <;> refine dMv ?_ <;> refine dMv ?_ <;> refine dp (pix rfl (tyS rfl)) ?_ <;> (first | refine dFb ?_ | refine dFd ?_) <;> (first | refine dFb ?_ | refine dFd ?_) <;> (first | refine dLb ?_ | refine dLd ?_) <;> (first | refine dp (po_eqid rfl rfl rfl) ?_ | refine dCm ?_) <;> refine dPt ?_ <;> refine dMv ?_ <;> refine dMv ?_ <;> refine dp (pix rfl (tyS rfl)) ?_ <;> (first | refine dFb ?_ | refine dFd ?_) <;> (first | refine dFb ?_ | refine dFd ?_) <;> (first | refine dLb ?_ | refine dLd ?_) <;> (first | refine dp (po_eqid rfl rfl rfl) ?_ | refine dCm ?_) <;> refine dPt ?_ <;> refine dMv ?_ <;> refine dMv ?_ <;> refine dp (pix rfl (tyS rfl)) ?_ <;> (first | refine dFb ?_ | refine dFd ?_) <;> (first | refine dLb ?_ | refine dLd ?_) <;> (first | refine dp (po_eqid rfl rfl rfl) ?_ | refine dCm ?_) <;> refine dPt ?_ <;> refine dMv ?_ <;> refine dMv ?_ <;> refine dp (pix rfl (tyS rfl)) ?_ <;> (first | refine dFb ?_ | refine dFd ?_) <;> (first | refine dLb ?_ | refine dLd ?_) <;> (first | refine dp (po_eqid rfl rfl rfl) ?_ | refine dCm ?_) <;> refine dPt ?_ <;> refine dMv ?_ <;> refine dFb ?_ <;> refine dLb ?_ <;> refine dp (pln rfl (tyS rfl)) ?_ <;> (first | refine dp (po_eqid rfl rfl rfl) ?_ | refine dCm ?_) <;> refine dPt ?_ <;> refine dAs ?_ <;> refine dN ?_ <;> refine oN ?_) | refine gc ?_ | refine ct ?_ | refine cf ?_ | refine swp_cond rfl (fun hc => ?_) (fun hc => ?_) | refine rq rfl (rt .nil) ?_)
  refine swp_weak (st' := ⟨[(1, .bp 1 0), (2, .bp 2 0), (20, .t (.v (.bool true)))], [(1, [.t (u64T 11), .t (u32T 7), .t (i64T 80)]), (2, [.t (i64T 2), .t (u64T 1), .t (u64T 1)])], []⟩) (weak_sub (.cons rfl rfl rfl (.cons rfl rfl rfl (.cons rfl rfl rfl .nil))) (.cons rfl rfl rfl (.cons rfl rfl rfl .nil)) .nil) ?_
  repeat' (first | (refine rg 15 ?_; (refine sp (po_load_bx_agg rfl rfl (tyT rfl) rfl (vc (vc (vc .nil))) rfl) ?_); refine sp (po_buildS str37 rfl (pc .nil) rfl) ?_; (refine sp (po_load_bx_agg rfl rfl (tyT rfl) rfl (vc (vc (vc .nil))) rfl) ?_); refine sp (po_buildS str42 rfl (pc (pc (pc (pc (pc .nil))))) rfl) ?_; refine sal str42 ?_; refine oS ?_; refine oN ?_) | refine gc ?_ | refine ct ?_ | refine cf ?_ | refine swp_cond rfl (fun hc => ?_) (fun hc => ?_) | refine rq rfl (rt .nil) ?_)
  refine rg 16 ?_
  refine sp (po_buildS str29 rfl .nil rfl) ?_
  refine sp (po_load_bx_agg (ts := inT' (⟨2, 1, 1, 2, 2, .empty, .empty, 10, 0, 11, 7, 80, 0, []⟩ : PIn)) rfl rfl (tyT rfl) rfl (vc (vc (vc (vc (vc (vc (vc (vc (vc (vc (vc (vc (vc (vc .nil)))))))))))))) rfl) ?_
  refine oC k_adm rfl (.cons rfl (.le fun m v h => tr_nilLast (l := []) (k := 14) h) (.cons rfl (.t _) (.cons rfl (.t _) .nil))) ?_
  refine oMv ?_
  refine oEx ?_
  refine oEx ?_
  refine sal str29 ?_
  refine oS ?_
  refine oAs ?_
  refine oN ?_
  refine gc ?_
  refine swp_weak (st' := ⟨[(2, .bp 2 0), (20, .t (.v (.bool true))), (22, .bp 22 0), (23, .t (i64T 0))], [(2, [.t (i64T 2), .t (u64T 1), .t (u64T 1)]), (22, (inlT ([(⟨2, 1, 1, 2, 2, .empty, .empty, 10, 0, 11, 7, 80, 0, []⟩ : PIn)] : List PIn)).map .t)], []⟩) (weak_sub (.cons rfl rfl rfl (.cons rfl rfl rfl (.cons rfl rfl rfl (.cons rfl rfl rfl .nil)))) (.cons rfl rfl rfl (.cons rfl rfl rfl .nil)) .nil) ?_
  repeat' (first | (refine rg 17 ?_; refine sp (po_load_bx_agg rfl rfl (tyT rfl) rfl (vc .nil) rfl) ?_; (refine sp (po_load_bx_agg rfl rfl (tyT rfl) rfl (vc (vc (vc .nil))) rfl) ?_); refine oC (k_tak1) rfl (ac (ac (ac (ac (ac (ac .nil)))))) ?_; refine oMv ?_; refine oEx ?_; refine oEx ?_; refine oEx ?_; refine sal str46 ?_; refine oS ?_; refine oAs ?_; refine oS ?_; refine oN ?_) | refine gc ?_ | refine ct ?_ | refine cf ?_ | refine swp_cond rfl (fun hc => ?_) (fun hc => ?_) | refine rq rfl (rt .nil) ?_)
  refine swp_weak (st' := ⟨[(2, .bp 2 0), (20, .t (.v (.bool true))), (22, .bp 22 0), (23, .t (i64T 0)), (24, .t (i64T 1))], [(2, [.t (i64T 2), .t (u64T 1), .t (u64T 1)]), (22, (inlT ([(⟨2, 1, 1, 2, 2, .empty, .empty, 10, 0, 11, 7, 80, 0, [⟨5, 0, 0, []⟩]⟩ : PIn)] : List PIn)).map .t)], []⟩) (weak_sub (.cons rfl rfl rfl (.cons rfl rfl rfl (.cons rfl rfl rfl (.cons rfl rfl rfl (.cons rfl rfl rfl .nil))))) (.cons rfl rfl rfl (.cons rfl rfl rfl .nil)) .nil) ?_
  repeat' (first | (refine rg 18 ?_; refine sp (po_load_bx_agg rfl rfl (tyT rfl) rfl (vc .nil) rfl) ?_; (refine sp (po_load_bx_agg rfl rfl (tyT rfl) rfl (vc (vc (vc .nil))) rfl) ?_); refine oC (k_tak2) rfl (ac (ac (ac (ac (ac (ac .nil)))))) ?_; refine oMv ?_; refine oEx ?_; refine oEx ?_; refine oEx ?_; refine sal str46 ?_; refine oS ?_; refine oAs ?_; refine oS ?_; refine oN ?_) | refine gc ?_ | refine ct ?_ | refine cf ?_ | refine swp_cond rfl (fun hc => ?_) (fun hc => ?_) | refine rq rfl (rt .nil) ?_)
  refine swp_weak (st' := ⟨[(2, .bp 2 0), (20, .t (.v (.bool true))), (22, .bp 22 0), (23, .t (i64T 0)), (24, .t (i64T 1)), (26, .t (i64T 3))], [(2, [.t (i64T 2), .t (u64T 1), .t (u64T 1)]), (22, (inlT ([(⟨2, 1, 1, 2, 2, .empty, .empty, 10, 0, 11, 7, 80, 0, [⟨5, 0, 0, []⟩]⟩ : PIn)] : List PIn)).map .t)], []⟩) (weak_sub (.cons rfl rfl rfl (.cons rfl rfl rfl (.cons rfl rfl rfl (.cons rfl rfl rfl (.cons rfl rfl rfl (.cons rfl rfl rfl .nil)))))) (.cons rfl rfl rfl (.cons rfl rfl rfl .nil)) .nil) ?_
  refine rg 19 ?_
  refine sp (po_load_bx_agg rfl rfl (tyT rfl) rfl (vc .nil) rfl) ?_
  refine sp (po_load_bx_agg rfl rfl (tyT rfl) rfl (vc (vc (vc .nil))) rfl) ?_
  refine sp (po_buildS str46 rfl (pc (pc .nil)) rfl) ?_
  refine oC k_done rfl (.cons rfl (.t _) (.cons rfl (.t _) (.cons rfl (.le fun m v h => tr_nilLast (l := [u64T 5, i64T 0, i64T 200]) (k := 1) h) .nil))) ?_
  refine oS ?_
  refine oN ?_
  refine gc ?_
  refine swp_weak (st' := ⟨[(2, .bp 2 0), (20, .t (.v (.bool true))), (22, .bp 22 0), (23, .t (i64T 0)), (24, .t (i64T 1)), (26, .t (i64T 3))], [(2, [.t (i64T 2), .t (u64T 1), .t (u64T 1)]), (22, (inlT ([(⟨2, 1, 1, 2, 2, .empty, .empty, 10, 0, 11, 7, 80, 0, [⟨5, 1, 200, []⟩]⟩ : PIn)] : List PIn)).map .t)], []⟩) (weak_sub (.cons rfl rfl rfl (.cons rfl rfl rfl (.cons rfl rfl rfl (.cons rfl rfl rfl (.cons rfl rfl rfl (.cons rfl rfl rfl .nil)))))) (.cons rfl rfl rfl (.cons rfl rfl rfl .nil)) .nil) ?_
  repeat' (first | (refine rg 20 ?_; refine sp (po_load_bx_agg rfl rfl (tyT rfl) rfl (vc .nil) rfl) ?_; (refine sp (po_load_bx_agg rfl rfl (tyT rfl) rfl (vc (vc (vc .nil))) rfl) ?_); refine oC (k_tak3) rfl (ac (ac (ac (ac (ac (ac .nil)))))) ?_; refine oMv ?_; refine oEx ?_; refine oEx ?_; refine oEx ?_; refine sal str29 ?_; refine sal str46 ?_; refine oS ?_; refine oAs ?_; refine oS ?_; refine oN ?_) | (refine rg 21 ?_; refine oMv ?_; refine oMv ?_; refine oMv ?_ <;> refine oCm ?_ <;> refine oPt ?_ <;> refine oMv ?_ <;> refine oMv ?_ <;> refine oCm ?_ <;> refine oPt ?_ <;> refine oMv ?_ <;> refine oMv ?_ <;> refine oCm ?_ <;> refine oPt ?_ <;> refine oMv ?_ <;> refine oMv ?_ <;> refine oCm ?_ <;> refine oPt ?_ <;> refine oMv ?_ <;> refine oFb ?_ <;> refine oLb ?_ <;> refine oCm ?_ <;> refine oPt ?_ <;> refine oAs ?_ <;> refine oN ?_) | refine gc ?_ | refine ct ?_ | refine cf ?_ | refine swp_cond rfl (fun hc => ?_) (fun hc => ?_) | refine rq rfl (rt .nil) ?_)
  all_goals rfl
end Go.Proofs.Ytabejnjnkpdjbaa.Sim

/- long: how much there is of a pool. -/
namespace Go.Proofs.Ytabejnjnkpdjbaa.Sim
set_option linter.unusedVariables false
set_option linter.unusedSimpArgs false
open Go.RowKit Mem
def wQ (q : PQ) : Nat := 1 + q.bytes.length / 64 + (q.ns.size + q.sa.size) / 64
def wT (t : PTun) : Nat := (t.asks.map wQ).sum
def wP (l : List PTun) : Nat := l.length + (l.map wT).sum
def longB (l : List PTun) : Bool := decide (500 < wP l)
structure SmQ (q : PQ) : Prop where
  ns : q.ns.size ≤ 140737488355328
  sa : q.sa.size ≤ 140737488355328
  bytes : q.bytes.length ≤ 9223372036854775807
structure SmT (t : PTun) : Prop where
  asks : t.asks.length ≤ 9223372036854775807
  each : ∀ q ∈ t.asks, SmQ q
theorem sum_take {α : Type} (f : α → Nat) (l : List α) (k : Nat) (h : k < l.length) : ((l.take (k + 1)).map f).sum = ((l.take k).map f).sum + f l[k] := by
  rw [List.take_succ_eq_append_getElem h, List.map_append, List.sum_append]; simp
theorem sum_take_le {α : Type} (f : α → Nat) (l : List α) (k : Nat) : ((l.take k).map f).sum ≤ (l.map f).sum := by
  conv => rhs; rw [← List.take_append_drop k l, List.map_append, List.sum_append]
  omega
theorem po_quo64 {P : Program} {bx : List (Nat × List A)} {ow : List (Nat × Own)} {o : Oper} {ρ : Operand → Option A} {t t2 : TypeId} {x y : Operand} {m : Nat} (ho : o.op = .binOp .quo t x y t2) (hx : ρ x = some (.t (.v (.int .i64 (m : Int))))) (hy : ρ y = some (.t (.v (.int .i64 64)))) (hm : m ≤ 9223372036854775807) : PureOp P bx ow o ρ (.t (.v (.int .i64 ((m / 64 : Nat) : Int)))) := by
  have h := po_quo (P := P) (bx := bx) (ow := ow) ho hx hy (by omega)
  have e : IntKind.i64.wrap ((m : Int).tdiv 64) = ((m / 64 : Nat) : Int) := by
    rw [show (64 : Int) = ((64 : Nat) : Int) from rfl, ← Int.ofNat_tdiv]
    exact wrap_i64 (by omega)
  rw [e] at h; exact h
theorem po_addn {P : Program} {bx : List (Nat × List A)} {ow : List (Nat × Own)} {o : Oper} {ρ : Operand → Option A} {t t2 : TypeId} {x y : Operand} {m n : Nat} (ho : o.op = .binOp .add t x y t2) (hx : ρ x = some (.t (.v (.int .i64 (m : Int))))) (hy : ρ y = some (.t (.v (.int .i64 (n : Int))))) (hm : m + n ≤ 9223372036854775807) : PureOp P bx ow o ρ (.t (.v (.int .i64 ((m + n : Nat) : Int)))) :=
  po_arith ho hx hy (ar_add (by refine wrap_i64 ?_; omega) (by omega))
theorem po_lens {P : Program} {bx : List (Nat × List A)} {ow : List (Nat × Own)} {o : Oper} {ρ : Operand → Option A} {t t2 : TypeId} {x y : Operand} {n : Nat} (ho : o.op = .binOp .add t x y t2) (hx : ρ x = some (.t (.v (.int .i64 1)))) (hy : ρ y = some (.t (.v (.int .i64 (n : Int))))) (hm : n ≤ 9223372036854775806) : PureOp P bx ow o ρ (.t (.v (.int .i64 ((1 + n : Nat) : Int)))) :=
  po_addn (m := 1) ho hx hy (by omega)
def SLo (p : PPool) (x : Nat × Nat) : St := ⟨[(1, .bp 1 0), (3, .t (i64T (x.2 : Int))), (4, .t (i64T (x.1 : Int)))], [(1, (poolT p).map .t)], []⟩
def SLi (p : PPool) (i : Nat) (x : Nat × Nat) : St := ⟨[(1, .bp 1 0), (3, .t (i64T (x.2 : Int))), (4, .t (i64T (i : Int))), (5, .t (i64T (x.1 : Int)))], [(1, (poolT p).map .t)], []⟩
/-- how much was counted: all there is so far, or more than is gone through -/
def cnt (n part all : Nat) : Prop := (n = part ∧ n ≤ all) ∨ (500 < n ∧ n ≤ all)
set_option maxRecDepth 100000 in
set_option maxHeartbeats 4000000 in
theorem long_ (p : PPool) (hn : p.tuns.length ≤ 9223372036854775807) (hs : ∀ t ∈ p.tuns, SmT t) : PCalls Try.prog 26 [.agg (poolT p)] (.v (.bool (longB p.tuns))) := by
  have hml : (p.tuns.map tunT).length = p.tuns.length := List.length_map _
  refine pcalls_of Try.func26 rfl rfl Try.ntmps26 rfl ?_
  unfold poolT
  repeat' (first | (refine rg 0 ?_; refine sbx ?_; refine oAs ?_; refine oN ?_) | (refine rg 1 ?_; refine oFb ?_; refine oLb ?_; refine sp (pln rfl (tyS rfl)) ?_; refine oAs ?_; refine oN ?_) | (refine rg 2 ?_; refine oAs ?_; refine oN ?_) | refine gc ?_ | refine ct ?_ | refine cf ?_ | refine swp_cond rfl (fun hc => ?_) (fun hc => ?_) | refine rq rfl (rt .nil) ?_)
  rw [hml]
  refine swp_fam (SLo p) (fun x => x.1 ≤ p.tuns.length ∧ cnt x.2 (p.tuns.length + ((p.tuns.take x.1).map wT).sum) (wP p.tuns)) (fun x => p.tuns.length - x.1) (0, p.tuns.length) (weak_sub (.cons rfl rfl rfl (.cons rfl rfl rfl (.cons rfl rfl rfl .nil))) (.cons rfl rfl rfl .nil) .nil) ⟨Nat.zero_le _, .inl ⟨by simp, by unfold wP; omega⟩⟩ ?_
  rintro ⟨i, n⟩ ⟨hi, hc⟩
  dsimp only at hi hc
  unfold SLo poolT
  dsimp only
  have hall : p.tuns.length + (p.tuns.map wT).sum = wP p.tuns := rfl
  by_cases hlt : i < p.tuns.length
  · have hltI : (i : Int) < ((p.tuns.map tunT).length : Int) := by omega
    by_cases h5 : n ≤ 500
    · have h5I : (n : Int) ≤ 500 := by omega
      have hc1 : n = p.tuns.length + ((p.tuns.take i).map wT).sum := by rcases hc with ⟨h, _⟩ | ⟨h, _⟩ <;> omega
      have hst := sum_take wT p.tuns i hlt
      have hrow : (p.tuns.map tunT)[i]? = some (tunT p.tuns[i]) := map_at_some hlt
      have hsm := hs _ (List.getElem_mem hlt)
      have hle := sum_take_le wT p.tuns (i + 1)
      generalize p.tuns[i] = t at *
      have hasks : (t.asks.map askR).length = t.asks.length := List.length_map _
      repeat' (first | (refine rg 3 ?_; refine oMv ?_; refine oFb ?_; refine oLb ?_; refine sp (pln rfl (tyS rfl)) ?_; refine oCm ?_; refine oMv ?_; refine oMv ?_ <;> refine oCm ?_ <;> refine oPt ?_ <;> refine oN ?_) | (refine rg 5 ?_; refine oAs ?_; refine oN ?_) | refine gc ?_ | refine ct ?_ | refine cf ?_ | refine swp_cond rfl (fun hc => ?_) (fun hc => ?_) | refine rq rfl (rt .nil) ?_)
      refine swp_fam (SLi p i) (fun x => x.1 ≤ t.asks.length ∧ cnt x.2 (n + ((t.asks.take x.1).map wQ).sum) (wP p.tuns)) (fun x => t.asks.length - x.1) (0, n) (weak_sub (.cons rfl rfl rfl (.cons rfl rfl rfl (.cons rfl rfl rfl (.cons rfl rfl rfl .nil)))) (.cons rfl rfl rfl .nil) .nil) ⟨Nat.zero_le _, .inl ⟨by simp, by omega⟩⟩ ?_
      rintro ⟨k, m⟩ ⟨hk, hd⟩
      dsimp only at hk hd
      unfold SLi poolT
      dsimp only
      have hwt : wT t = (t.asks.map wQ).sum := rfl
      by_cases hkl : k < t.asks.length
      · have hklI : (k : Int) < ((t.asks.map askR).length : Int) := by omega
        by_cases h6 : m ≤ 500
        · have h6I : (m : Int) ≤ 500 := by omega
          have hd1 : m = n + ((t.asks.take k).map wQ).sum := by rcases hd with ⟨h, _⟩ | ⟨h, _⟩ <;> omega
          have hsq := sum_take wQ t.asks k hkl
          have hrowq : (t.asks.map askR)[k]? = some (askR t.asks[k]) := map_at_some hkl
          have hlq := sum_take_le wQ t.asks (k + 1)
          have hq := hsm.each _ (List.getElem_mem hkl)
          generalize t.asks[k] = q at *
          obtain ⟨q1, q2, q3⟩ := hq
          have hb : (q.bytes.map byteT).length = q.bytes.length := List.length_map _
          have hw : wQ q = 1 + (q.bytes.map byteT).length / 64 + (q.ns.size + q.sa.size) / 64 := by rw [hb]; rfl
          have hkb := hsm.asks
          repeat' (first | (refine rg 6 ?_; refine oMv ?_; refine oFb ?_; refine oLb ?_; refine oMv ?_; refine sp (pix rfl (tyS rfl)) ?_; (first | refine oFb ?_ | refine oFd ?_); (first | refine oLb ?_ | refine oLd ?_); refine sp (pln rfl (tyS rfl)) ?_; refine oCm ?_; refine oMv ?_; refine oMv ?_ <;> refine oCm ?_ <;> refine oPt ?_ <;> refine oN ?_) | (refine rg 8 ?_; refine oFb ?_; refine oLb ?_; refine oMv ?_; refine sp (pix rfl (tyS rfl)) ?_; (first | refine oFb ?_ | refine oFd ?_); (first | refine oLb ?_ | refine oLd ?_); refine oMv ?_; refine sp (pix rfl (tyS rfl)) ?_; (first | refine sp (po_load_bx_agg rfl rfl (tyT rfl) rfl (vc (vc (vc (vc (vc (vc (vc (vc (vc .nil))))))))) rfl) ?_ | refine sp (po_load_agg rfl rfl (tyT rfl) rfl rfl) ?_); refine sal str70 ?_; refine oS ?_; refine oN ?_) | refine gc ?_ | refine ct ?_ | refine cf ?_ | refine swp_cond rfl (fun hc => ?_) (fun hc => ?_) | refine rq rfl (rt .nil) ?_)
          refine rg 9 ?_
          refine oMv ?_
          refine oFb ?_
          refine oLb ?_
          refine sp (pln rfl (tyS rfl)) ?_
          refine sp (po_quo64 rfl rfl rfl (by omega)) ?_
          refine sp (po_lens rfl rfl rfl (by omega)) ?_
          refine oFb ?_
          refine oFb ?_
          refine oFb ?_
          refine oLb ?_
          refine sp (po_len_str rfl rfl (tyR rfl)) ?_
          refine oFb ?_
          refine oFb ?_
          refine oFb ?_
          refine oLb ?_
          refine sp (po_len_str rfl rfl (tyR rfl)) ?_
          refine sp (po_addn rfl rfl rfl (by omega)) ?_
          refine sp (po_quo64 rfl rfl rfl (by omega)) ?_
          refine sp (po_addn rfl rfl rfl (by omega)) ?_
          refine sp (po_addn rfl rfl rfl (by omega)) ?_
          refine oAs ?_
          refine oN ?_
          refine gc ?_
          rw [← hw]
          repeat' (first | (refine rg 7 ?_; refine oMv ?_; refine sp (xinc rfl) ?_; refine oAs ?_; refine oN ?_) | refine gc ?_ | refine ct ?_ | refine cf ?_ | refine swp_cond rfl (fun hc => ?_) (fun hc => ?_) | refine rq rfl (rt .nil) ?_)
          exact fam_next (k + 1, m + wQ q) (by show t.asks.length - (k + 1) < t.asks.length - k; omega) (weak_sub (.cons rfl rfl rfl (.cons rfl rfl rfl (.cons rfl rfl rfl (.cons rfl rfl rfl .nil)))) (.cons rfl rfl rfl .nil) .nil) ⟨hkl, .inl ⟨by show m + wQ q = _; dsimp only; rw [hsq]; omega, by show m + wQ q ≤ _; omega⟩⟩
        · have h6I : ¬ (m : Int) ≤ 500 := by omega
          have h6m : 500 < m := by omega
          have hmw : m ≤ wP p.tuns := by rcases hd with ⟨_, h⟩ | ⟨_, h⟩ <;> exact h
          repeat' (first | refine fam_exit ?_ | (refine rg 6 ?_; refine oMv ?_; refine oFb ?_; refine oLb ?_; refine oMv ?_; refine sp (pix rfl (tyS rfl)) ?_; (first | refine oFb ?_ | refine oFd ?_); (first | refine oLb ?_ | refine oLd ?_); refine sp (pln rfl (tyS rfl)) ?_; refine oCm ?_; refine oMv ?_; refine oMv ?_ <;> refine oCm ?_ <;> refine oPt ?_ <;> refine oN ?_) | (refine rg 4 ?_; refine oMv ?_; refine sp (xinc rfl) ?_; refine oAs ?_; refine oN ?_) | refine gc ?_ | refine ct ?_ | refine cf ?_ | refine swp_cond rfl (fun hc => ?_) (fun hc => ?_) | refine rq rfl (rt .nil) ?_)
          exact fam_next (i + 1, m) (by show p.tuns.length - (i + 1) < p.tuns.length - i; omega) (weak_sub (.cons rfl rfl rfl (.cons rfl rfl rfl (.cons rfl rfl rfl .nil))) (.cons rfl rfl rfl .nil) .nil) ⟨hlt, .inr ⟨h6m, hmw⟩⟩
      · have hklI : ¬ (k : Int) < ((t.asks.map askR).length : Int) := by omega
        have hke : k = t.asks.length := by omega
        have hd2 : cnt m (p.tuns.length + ((p.tuns.take (i + 1)).map wT).sum) (wP p.tuns) := by
          rw [hke, List.take_length] at hd
          rw [hst]
          rcases hd with ⟨h, h'⟩ | h
          · exact .inl ⟨by omega, h'⟩
          · exact .inr h
        repeat' (first | refine fam_exit ?_ | (refine rg 6 ?_; refine oMv ?_; refine oFb ?_; refine oLb ?_; refine oMv ?_; refine sp (pix rfl (tyS rfl)) ?_; (first | refine oFb ?_ | refine oFd ?_); (first | refine oLb ?_ | refine oLd ?_); refine sp (pln rfl (tyS rfl)) ?_; refine oCm ?_; refine oMv ?_; (first | refine oMv ?_ | refine oK ?_) <;> (first | refine oCm ?_ | refine oK ?_) <;> (first | refine oPt ?_ | refine oPf ?_) <;> refine oN ?_) | (refine rg 4 ?_; refine oMv ?_; refine sp (xinc rfl) ?_; refine oAs ?_; refine oN ?_) | refine gc ?_ | refine ct ?_ | refine cf ?_ | refine swp_cond rfl (fun hc => ?_) (fun hc => ?_) | refine rq rfl (rt .nil) ?_)
        exact fam_next (i + 1, m) (by show p.tuns.length - (i + 1) < p.tuns.length - i; omega) (weak_sub (.cons rfl rfl rfl (.cons rfl rfl rfl (.cons rfl rfl rfl .nil))) (.cons rfl rfl rfl .nil) .nil) ⟨hlt, hd2⟩
    · have h5I : ¬ (n : Int) ≤ 500 := by omega
      have hmw : n ≤ wP p.tuns := by rcases hc with ⟨_, h⟩ | ⟨_, h⟩ <;> exact h
      have hb : longB p.tuns = true := decide_eq_true (by omega)
      have hI : (500 : Int) < (n : Int) := by omega
      have hd : decide ((500 : Int) < (n : Int)) = true := decide_eq_true hI
      rw [hb]
      repeat' (first | refine fam_exit ?_ | (refine rg 3 ?_; refine oMv ?_; refine oFb ?_; refine oLb ?_; refine sp (pln rfl (tyS rfl)) ?_; refine oCm ?_; refine oMv ?_; refine oMv ?_ <;> refine oCm ?_ <;> refine oPt ?_ <;> refine oN ?_) | (refine rg 10 ?_; refine oMv ?_; refine oCm ?_; refine oAs ?_; refine oN ?_) | refine gc ?_ | refine ct ?_ | refine cf ?_ | refine swp_cond rfl (fun hc => ?_) (fun hc => ?_) | refine rq rfl (rt .nil) ?_)
      rw [hd]; rfl
  · have hltI : ¬ (i : Int) < ((p.tuns.map tunT).length : Int) := by omega
    have hie : i = p.tuns.length := by omega
    rw [hie, List.take_length] at hc
    have hd : decide ((500 : Int) < (n : Int)) = longB p.tuns := by
      unfold longB
      rcases hc with ⟨h, _⟩ | ⟨h, h'⟩
      · rw [h, hall]; exact decide_eq_decide.2 (by omega)
      · rw [decide_eq_true (by omega), decide_eq_true (by omega)]
    repeat' (first | refine fam_exit ?_ | (refine rg 3 ?_; refine oMv ?_; refine oFb ?_; refine oLb ?_; refine sp (pln rfl (tyS rfl)) ?_; refine oCm ?_; refine oMv ?_; (first | refine oMv ?_ | refine oK ?_) <;> (first | refine oCm ?_ | refine oK ?_) <;> (first | refine oPt ?_ | refine oPf ?_) <;> refine oN ?_) | (refine rg 10 ?_; refine oMv ?_; refine oCm ?_; refine oAs ?_; refine oN ?_) | refine gc ?_ | refine ct ?_ | refine cf ?_ | refine swp_cond rfl (fun hc => ?_) (fun hc => ?_) | refine rq rfl (rt .nil) ?_)
    rw [hd]; rfl
end Go.Proofs.Ytabejnjnkpdjbaa.Sim

/- A second tick at the same time: plain. -/
namespace Go.Proofs.Ytabejnjnkpdjbaa.Sim
set_option linter.unusedVariables false
set_option linter.unusedSimpArgs false
open Go.RowKit Mem
theorem after_self (now : Int) (h : IntKind.u64.wrap 0 = 0) : afterP now now = 0 := by
  unfold afterP
  rw [if_neg (by omega), Int.sub_self]; exact h
theorem beatQ_old (now : Int) (q : PQ) : oldQ now (beatQ now q) = oldQ now q := by
  unfold beatQ; split <;> rfl
theorem beatQ_due (now : Int) (q : PQ) : dueQ now (beatQ now q) = false := by
  have h0 : afterP now now = 0 := after_self now rfl
  unfold beatQ
  split
  · unfold dueQ; dsimp only; rw [h0]; simp
  · rename_i h; simpa using h
theorem beatQ_idem (now : Int) (q : PQ) : beatQ now (beatQ now q) = beatQ now q := by
  have h := beatQ_due now q
  generalize beatQ now q = r at *
  unfold beatQ; rw [h]; rfl
theorem beatK_old_none (now : Int) (l : List PQ) : ∀ q ∈ beatK now l, oldQ now q = false ∧ dueQ now q = false ∧ beatQ now q = q := by
  intro q hq
  unfold beatK at hq
  obtain ⟨r, hr, rfl⟩ := List.mem_map.1 hq
  have := (List.mem_filter.1 hr).2
  exact ⟨by rw [beatQ_old]; simpa using this, beatQ_due now r, beatQ_idem now r⟩
theorem beatK_idem (now : Int) (l : List PQ) : beatK now (beatK now l) = beatK now l := by
  have h := beatK_old_none now l
  generalize beatK now l = k at *
  unfold beatK
  rw [List.filter_eq_self.2 fun q hq => by rw [(h q hq).1]; rfl]
  conv => rhs; rw [← List.map_id k]
  exact List.map_congr_left fun q hq => (h q hq).2.2
theorem beat_none (now : Int) (l : List PQ) (t : PTun) (u : Int) : beatU now u (beatK now l) = u ∧ beatD now t (beatK now l) = [] ∧ beatF now (beatK now l) = [] := by
  have h := beatK_old_none now l
  generalize beatK now l = k at *
  have hs : ∀ q ∈ k, sndQ now q = false := fun q hq => by unfold sndQ; rw [(h q hq).2.1]; simp
  refine ⟨?_, ?_, ?_⟩
  · unfold beatU
    rw [if_neg]
    simp only [Bool.not_eq_true, List.any_eq_false]
    exact fun q hq => hs q hq
  · unfold beatD
    rw [List.filter_eq_nil_iff.2 fun q hq => by rw [hs q hq]; simp]; rfl
  · unfold beatF
    rw [List.filter_eq_nil_iff.2 fun q hq => by rw [(h q hq).1]; simp]; rfl
theorem tick_again (now : Int) (t t' : PTun) (h : (tickT now t).t = some t') : tickT now t' = ⟨some t', [], []⟩ := by
  have h0 : afterP now now = 0 := after_self now rfl
  unfold tickT at h
  split at h
  · rename_i h1
    split at h
    · cases h
    · rename_i h2
      split at h
      · injection h with h; subst h
        unfold tickT sinT
        dsimp only
        rw [if_pos h1, if_neg h2, if_neg (by rw [h0]; decide)]
      · rename_i h3
        injection h with h; subst h
        unfold tickT
        rw [if_pos h1, if_neg h2, if_neg h3]
  · rename_i h1
    split at h
    · rename_i h2
      split at h
      · cases h
      · rename_i h3
        injection h with h; subst h
        obtain ⟨e1, e2, e3⟩ := beat_none now t.asks (beatT now t t.asks []) (beatU now t.used t.asks)
        unfold tickT
        have ha : (beatT now t t.asks []).asks = beatK now t.asks := by unfold beatT; exact List.append_nil _
        have hu : (beatT now t t.asks []).used = beatU now t.used t.asks := rfl
        have hs : (beatT now t t.asks []).state = t.state := rfl
        rw [hs, ha, hu, beatK_idem, e1, e2, e3, if_neg h1, if_pos h2, if_neg h3]
        unfold beatT
        dsimp only
        rw [List.append_nil, beatK_idem, e1, List.append_nil]
    · rename_i h2
      injection h with h; subst h
      unfold tickT
      rw [if_neg h1, if_neg h2]
theorem tick_rests (p : PPool) (now : Int) : tickP (tickP p now) now = tickP p now ∧ tickD now (tickP p now).tuns = [] ∧ tickF now (tickP p now).tuns = [] := by
  have key : ∀ t ∈ tickK now p.tuns, tickT now t = ⟨some t, [], []⟩ := fun t ht => by
    unfold tickK at ht
    obtain ⟨s, _, hs⟩ := List.mem_filterMap.1 ht
    exact tick_again now s t hs
  unfold tickP
  dsimp only
  generalize tickK now p.tuns = l at *
  refine ⟨?_, ?_, ?_⟩
  · congr 1
    induction l with
    | nil => rfl
    | cons t l ih =>
      have ih := ih fun s hs => key s (List.mem_cons_of_mem _ hs)
      have h1 := key t List.mem_cons_self
      unfold tickK at ih ⊢
      rw [List.filterMap_cons, h1]
      dsimp only
      rw [ih]
  · unfold tickD
    rw [List.flatMap_eq_nil_iff]
    exact fun t ht => by rw [key t ht]
  · unfold tickF
    rw [List.flatMap_eq_nil_iff]
    exact fun t ht => by rw [key t ht]
end Go.Proofs.Ytabejnjnkpdjbaa.Sim
