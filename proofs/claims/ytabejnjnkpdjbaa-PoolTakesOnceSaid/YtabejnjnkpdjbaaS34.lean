/- Merged by bundles.py: SimNlb, PlTakes, Open0. -/
import Derived.Test.YtabejnjnkpdjbaaS33
import Derived.Test.YtabejnjnkpdjbaaS30
import Derived.Test.YtabejnjnkpdjbaaS15
import Derived.Test.YtabejnjnkpdjbaaS0
import Derived.Deep.Slices
/- awake. (Printed by mk_nlb.py.) -/
namespace Go.Proofs.Ytabejnjnkpdjbaa.Sim
set_option linter.unusedVariables false
set_option linter.unusedSimpArgs false
open Go.RowKit Mem
set_option maxRecDepth 100000 in
set_option maxHeartbeats 4000000 in
theorem awake_ : PCalls Try.prog 10 [] (.v (.bool true)) := by
  refine pcalls_of Try.func10 rfl rfl Try.ntmps10 rfl ?_
  repeat' (first | (refine rg 0 ?_; refine oAs ?_; refine oN ?_) | (refine rg 1 ?_; refine sp (po_buildS str39 rfl (pc (pc (pc .nil))) rfl) ?_; refine sal str39 ?_; refine oS ?_; refine oN ?_) | (refine rg 2 ?_; refine sp (po_buildS str26 rfl (pc (pc (pc .nil))) rfl) ?_; refine sal str26 ?_; refine oS ?_; refine oN ?_) | (refine rg 3 ?_; refine oC (k_new) rfl (ac (ac .nil)) ?_; refine oMv ?_; refine oEx ?_; refine oEx ?_; refine sal str58 ?_; refine oS ?_; refine oAs ?_; refine oN ?_) | refine gc ?_ | refine ct ?_ | refine cf ?_ | refine swp_cond rfl (fun hc => ?_) (fun hc => ?_) | refine rq rfl (rt .nil) ?_)
  refine swp_weak (st' := ⟨[(1, .bp 1 0), (2, .bp 2 0), (3, .bp 3 0), (4, .t (i64T 0))], [(1, [.t (u64T 11), .t (u32T 7), .t (i64T 80)]), (2, [.t (i64T 2), .t (u64T 1), .t (u64T 1)]), (3, (poolT (⟨2, 1, 1, []⟩ : PPool)).map .t)], []⟩) (weak_sub (.cons rfl rfl rfl (.cons rfl rfl rfl (.cons rfl rfl rfl (.cons rfl rfl rfl .nil)))) (.cons rfl rfl rfl (.cons rfl rfl rfl (.cons rfl rfl rfl .nil))) .nil) ?_
  repeat' (first | ((refine swp_any (id := 4) [[], [], [], [], [], [], [], [], [3], [], []] [[], [], [], [], [], [], [3], [3], [], [], []] mixed (by kernel_rfl) ?_) <;> (refine yp (fun _ _ => po_load_bx_agg rfl rfl (tyT rfl) rfl (vc (vc (vc (vc .nil)))) rfl) ?_) <;> (refine yp (fun _ _ => po_load_bx_agg rfl rfl (tyT rfl) rfl (vc (vc (vc .nil))) rfl) ?_) <;> refine yp (fun _ _ => po_call ((query_ 1)) rfl (ac .nil)) ?_ <;> (refine yp (fun _ _ => po_call (k_ask1) rfl (ac (ac (ac (ac (ac (ac .nil))))))) ?_) <;> refine yp (fun _ _ => po_move rfl rfl) ?_ <;> refine yp (fun _ _ => po_extract rfl rfl rfl) ?_ <;> refine yp (fun _ _ => po_extract rfl rfl rfl) ?_ <;> refine yp (fun _ _ => po_extract rfl rfl rfl) ?_ <;> refine sany_eff [(3, _)] [] (.free rfl rfl) rfl rfl (fun _ _ _ _ => e_store rfl rfl rfl rfl rfl rfl (tyT rfl) rfl rfl) ?_ <;> refine yp (fun _ _ => po_assign rfl rfl) ?_ <;> refine yp (fun _ _ => po_assign rfl rfl) ?_ <;> refine sany_nil ?_) | refine gc ?_ | refine ct ?_ | refine cf ?_ | refine swp_cond rfl (fun hc => ?_) (fun hc => ?_) | refine rq rfl (rt .nil) ?_)
  refine swp_weak (st' := ⟨[(1, .bp 1 0), (2, .bp 2 0), (3, .bp 3 0), (4, .t (i64T 0)), (5, .t (.sl 18 (([⟨1, 3, 2, 1, 1, 10, 11, 7, 80, none⟩] : List PDo).map doR))), (6, .t (i64T 0))], [(1, [.t (u64T 11), .t (u32T 7), .t (i64T 80)]), (2, [.t (i64T 2), .t (u64T 1), .t (u64T 1)]), (3, (poolT (⟨2, 1, 2, [⟨2, 1, 1, 3, 10, 11, 7, 80, 1, 0, 0, 0, 0, [⟨1, 0, 0, 0, .empty, .empty, 0, 0, [120]⟩]⟩]⟩ : PPool)).map .t)], []⟩) (weak_sub (.cons rfl rfl rfl (.cons rfl rfl rfl (.cons rfl rfl rfl (.cons rfl rfl rfl (.cons rfl rfl rfl (.cons rfl rfl rfl .nil)))))) (.cons rfl rfl rfl (.cons rfl rfl rfl (.cons rfl rfl rfl .nil))) .nil) ?_
  repeat' (first | ((refine swp_any (id := 5) [[], [], [], [], [], [], [], [], [3], [], []] [[], [], [], [], [], [], [3], [3], [], [], []] mixed (by kernel_rfl) ?_) <;> (refine yp (fun _ _ => po_load_bx_agg rfl rfl (tyT rfl) rfl (vc (vc (vc (vc .nil)))) rfl) ?_) <;> (refine yp (fun _ _ => po_load_bx_agg rfl rfl (tyT rfl) rfl (vc (vc (vc .nil))) rfl) ?_) <;> refine yp (fun _ _ => po_call ((query_ 2)) rfl (ac .nil)) ?_ <;> (refine yp (fun _ _ => po_call (k_ask2) rfl (ac (ac (ac (ac (ac (ac .nil))))))) ?_) <;> refine yp (fun _ _ => po_move rfl rfl) ?_ <;> refine yp (fun _ _ => po_extract rfl rfl rfl) ?_ <;> refine yp (fun _ _ => po_extract rfl rfl rfl) ?_ <;> refine yp (fun _ _ => po_extract rfl rfl rfl) ?_ <;> refine sany_eff [(3, _)] [] (.free rfl rfl) rfl rfl (fun _ _ _ _ => e_store rfl rfl rfl rfl rfl rfl (tyT rfl) rfl rfl) ?_ <;> refine yp (fun _ _ => po_assign rfl rfl) ?_ <;> refine yp (fun _ _ => po_assign rfl rfl) ?_ <;> refine sany_nil ?_) | refine gc ?_ | refine ct ?_ | refine cf ?_ | refine swp_cond rfl (fun hc => ?_) (fun hc => ?_) | refine rq rfl (rt .nil) ?_)
  refine swp_weak (st' := ⟨[(1, .bp 1 0), (2, .bp 2 0), (3, .bp 3 0), (4, .t (i64T 0)), (5, .t (.sl 18 (([⟨1, 3, 2, 1, 1, 10, 11, 7, 80, none⟩] : List PDo).map doR))), (6, .t (i64T 0)), (7, .t (.sl 18 (([] : List PDo).map doR))), (8, .t (i64T 0))], [(1, [.t (u64T 11), .t (u32T 7), .t (i64T 80)]), (2, [.t (i64T 2), .t (u64T 1), .t (u64T 1)]), (3, (poolT (⟨2, 1, 2, [⟨2, 1, 1, 3, 10, 11, 7, 80, 1, 0, 0, 0, 0, [⟨1, 0, 0, 0, .empty, .empty, 0, 0, [120]⟩, ⟨2, 0, 0, 0, .empty, .empty, 0, 0, [120]⟩]⟩]⟩ : PPool)).map .t)], []⟩) (weak_sub (.cons rfl rfl rfl (.cons rfl rfl rfl (.cons rfl rfl rfl (.cons rfl rfl rfl (.cons rfl rfl rfl (.cons rfl rfl rfl (.cons rfl rfl rfl (.cons rfl rfl rfl .nil)))))))) (.cons rfl rfl rfl (.cons rfl rfl rfl (.cons rfl rfl rfl .nil))) .nil) ?_
  repeat' (first | (refine rg 6 ?_; (refine sp (po_load_bx_agg rfl rfl (tyT rfl) rfl (vc (vc (vc (vc .nil)))) rfl) ?_); (refine sp (po_load_bx_agg rfl rfl (tyT rfl) rfl (vc (vc (vc .nil))) rfl) ?_); refine oC (k_acc) rfl (ac (ac (ac (ac .nil)))) ?_; refine oMv ?_; refine oEx ?_; refine oEx ?_; refine oS ?_; refine oAs ?_; refine oN ?_) | refine gc ?_ | refine ct ?_ | refine cf ?_ | refine swp_cond rfl (fun hc => ?_) (fun hc => ?_) | refine rq rfl (rt .nil) ?_)
  refine swp_weak (st' := ⟨[(1, .bp 1 0), (2, .bp 2 0), (3, .bp 3 0), (4, .t (i64T 0)), (5, .t (.sl 18 (([⟨1, 3, 2, 1, 1, 10, 11, 7, 80, none⟩] : List PDo).map doR))), (6, .t (i64T 0)), (7, .t (.sl 18 (([] : List PDo).map doR))), (8, .t (i64T 0)), (9, .t (.sl 18 (([⟨2, 3, 2, 1, 1, 0, 0, 0, 0, some ⟨1, 1, 0, 1, .empty, .empty, 0, 0, [120]⟩⟩, ⟨2, 3, 2, 1, 1, 0, 0, 0, 0, some ⟨2, 2, 0, 1, .empty, .empty, 0, 0, [120]⟩⟩] : List PDo).map doR)))], [(1, [.t (u64T 11), .t (u32T 7), .t (i64T 80)]), (2, [.t (i64T 2), .t (u64T 1), .t (u64T 1)]), (3, (poolT (⟨2, 1, 2, [⟨2, 1, 1, 3, 10, 11, 7, 80, 2, 2, 0, 0, 1, [⟨1, 1, 0, 1, .empty, .empty, 0, 0, [120]⟩, ⟨2, 2, 0, 1, .empty, .empty, 0, 0, [120]⟩]⟩]⟩ : PPool)).map .t)], []⟩) (weak_sub (.cons rfl rfl rfl (.cons rfl rfl rfl (.cons rfl rfl rfl (.cons rfl rfl rfl (.cons rfl rfl rfl (.cons rfl rfl rfl (.cons rfl rfl rfl (.cons rfl rfl rfl (.cons rfl rfl rfl .nil))))))))) (.cons rfl rfl rfl (.cons rfl rfl rfl (.cons rfl rfl rfl .nil))) .nil) ?_
  repeat' (first | (refine rg 7 ?_; (refine sp (po_load_bx_agg rfl rfl (tyT rfl) rfl (vc (vc (vc (vc .nil)))) rfl) ?_); (refine sp (po_load_bx_agg rfl rfl (tyT rfl) rfl (vc (vc (vc .nil))) rfl) ?_); refine oC (k_rep) rfl (ac (ac (ac (ac (ac .nil))))) ?_; refine oMv ?_; refine oEx ?_; refine oEx ?_; refine oEx ?_; refine oS ?_; refine oAs ?_; refine oAs ?_; refine oN ?_) | refine gc ?_ | refine ct ?_ | refine cf ?_ | refine swp_cond rfl (fun hc => ?_) (fun hc => ?_) | refine rq rfl (rt .nil) ?_)
  refine swp_weak (st' := ⟨[(1, .bp 1 0), (2, .bp 2 0), (3, .bp 3 0), (4, .t (i64T 0)), (5, .t (.sl 18 (([⟨1, 3, 2, 1, 1, 10, 11, 7, 80, none⟩] : List PDo).map doR))), (6, .t (i64T 0)), (7, .t (.sl 18 (([] : List PDo).map doR))), (8, .t (i64T 0)), (9, .t (.sl 18 (([⟨2, 3, 2, 1, 1, 0, 0, 0, 0, some ⟨1, 1, 0, 1, .empty, .empty, 0, 0, [120]⟩⟩, ⟨2, 3, 2, 1, 1, 0, 0, 0, 0, some ⟨2, 2, 0, 1, .empty, .empty, 0, 0, [120]⟩⟩] : List PDo).map doR))), (10, .t (u64T 2)), (11, .t (.v (.bool true)))], [(1, [.t (u64T 11), .t (u32T 7), .t (i64T 80)]), (2, [.t (i64T 2), .t (u64T 1), .t (u64T 1)]), (3, (poolT (⟨2, 1, 2, [⟨2, 1, 1, 3, 10, 11, 7, 80, 2, 2, 0, 0, 1, [⟨1, 1, 0, 1, .empty, .empty, 0, 0, [120]⟩]⟩]⟩ : PPool)).map .t)], []⟩) (weak_sub (.cons rfl rfl rfl (.cons rfl rfl rfl (.cons rfl rfl rfl (.cons rfl rfl rfl (.cons rfl rfl rfl (.cons rfl rfl rfl (.cons rfl rfl rfl (.cons rfl rfl rfl (.cons rfl rfl rfl (.cons rfl rfl rfl (.cons rfl rfl rfl .nil))))))))))) (.cons rfl rfl rfl (.cons rfl rfl rfl (.cons rfl rfl rfl .nil))) .nil) ?_
  repeat' (first | ((refine swp_any (id := 8) [[], [], [], [], [], [], [], [], [3], [], []] [[], [], [], [], [], [], [3], [3], [], [], []] mixed (by kernel_rfl) ?_) <;> (refine yp (fun _ _ => po_load_bx_agg rfl rfl (tyT rfl) rfl (vc (vc (vc (vc .nil)))) rfl) ?_) <;> (refine yp (fun _ _ => po_load_bx_agg rfl rfl (tyT rfl) rfl (vc (vc (vc .nil))) rfl) ?_) <;> refine yp (fun _ _ => po_call ((query_ 4)) rfl (ac .nil)) ?_ <;> (refine yp (fun _ _ => po_call (k_ask3) rfl (ac (ac (ac (ac (ac (ac .nil))))))) ?_) <;> refine yp (fun _ _ => po_move rfl rfl) ?_ <;> refine yp (fun _ _ => po_extract rfl rfl rfl) ?_ <;> refine yp (fun _ _ => po_extract rfl rfl rfl) ?_ <;> refine yp (fun _ _ => po_extract rfl rfl rfl) ?_ <;> refine sany_eff [(3, _)] [] (.free rfl rfl) rfl rfl (fun _ _ _ _ => e_store rfl rfl rfl rfl rfl rfl (tyT rfl) rfl rfl) ?_ <;> refine yp (fun _ _ => po_assign rfl rfl) ?_ <;> refine yp (fun _ _ => po_assign rfl rfl) ?_ <;> refine sany_nil ?_) | refine gc ?_ | refine ct ?_ | refine cf ?_ | refine swp_cond rfl (fun hc => ?_) (fun hc => ?_) | refine rq rfl (rt .nil) ?_)
  refine swp_weak (st' := ⟨[(1, .bp 1 0), (2, .bp 2 0), (3, .bp 3 0), (4, .t (i64T 0)), (5, .t (.sl 18 (([⟨1, 3, 2, 1, 1, 10, 11, 7, 80, none⟩] : List PDo).map doR))), (6, .t (i64T 0)), (7, .t (.sl 18 (([] : List PDo).map doR))), (8, .t (i64T 0)), (9, .t (.sl 18 (([⟨2, 3, 2, 1, 1, 0, 0, 0, 0, some ⟨1, 1, 0, 1, .empty, .empty, 0, 0, [120]⟩⟩, ⟨2, 3, 2, 1, 1, 0, 0, 0, 0, some ⟨2, 2, 0, 1, .empty, .empty, 0, 0, [120]⟩⟩] : List PDo).map doR))), (10, .t (u64T 2)), (11, .t (.v (.bool true))), (12, .t (.sl 18 (([⟨2, 3, 2, 1, 1, 0, 0, 0, 0, some ⟨4, 3, 1, 1, .empty, .empty, 0, 0, [120]⟩⟩] : List PDo).map doR))), (13, .t (i64T 0))], [(1, [.t (u64T 11), .t (u32T 7), .t (i64T 80)]), (2, [.t (i64T 2), .t (u64T 1), .t (u64T 1)]), (3, (poolT (⟨2, 1, 2, [⟨2, 1, 1, 3, 10, 11, 7, 80, 2, 3, 0, 0, 1, [⟨1, 1, 0, 1, .empty, .empty, 0, 0, [120]⟩, ⟨4, 3, 1, 1, .empty, .empty, 0, 0, [120]⟩]⟩]⟩ : PPool)).map .t)], []⟩) (weak_sub (.cons rfl rfl rfl (.cons rfl rfl rfl (.cons rfl rfl rfl (.cons rfl rfl rfl (.cons rfl rfl rfl (.cons rfl rfl rfl (.cons rfl rfl rfl (.cons rfl rfl rfl (.cons rfl rfl rfl (.cons rfl rfl rfl (.cons rfl rfl rfl (.cons rfl rfl rfl (.cons rfl rfl rfl .nil))))))))))))) (.cons rfl rfl rfl (.cons rfl rfl rfl (.cons rfl rfl rfl .nil))) .nil) ?_
  repeat' (first | (refine rg 9 ?_; (refine sp (po_load_bx_agg rfl rfl (tyT rfl) rfl (vc (vc (vc (vc .nil)))) rfl) ?_); refine oC (k_tk1) rfl (ac (ac .nil)) ?_; refine oMv ?_; refine oEx ?_; refine oEx ?_; refine oEx ?_; refine oS ?_; refine oAs ?_; refine oAs ?_; refine oN ?_) | refine gc ?_ | refine ct ?_ | refine cf ?_ | refine swp_cond rfl (fun hc => ?_) (fun hc => ?_) | refine rq rfl (rt .nil) ?_)
  refine swp_weak (st' := ⟨[(1, .bp 1 0), (2, .bp 2 0), (3, .bp 3 0), (4, .t (i64T 0)), (5, .t (.sl 18 (([⟨1, 3, 2, 1, 1, 10, 11, 7, 80, none⟩] : List PDo).map doR))), (6, .t (i64T 0)), (7, .t (.sl 18 (([] : List PDo).map doR))), (8, .t (i64T 0)), (9, .t (.sl 18 (([⟨2, 3, 2, 1, 1, 0, 0, 0, 0, some ⟨1, 1, 0, 1, .empty, .empty, 0, 0, [120]⟩⟩, ⟨2, 3, 2, 1, 1, 0, 0, 0, 0, some ⟨2, 2, 0, 1, .empty, .empty, 0, 0, [120]⟩⟩] : List PDo).map doR))), (10, .t (u64T 2)), (11, .t (.v (.bool true))), (12, .t (.sl 18 (([⟨2, 3, 2, 1, 1, 0, 0, 0, 0, some ⟨4, 3, 1, 1, .empty, .empty, 0, 0, [120]⟩⟩] : List PDo).map doR))), (13, .t (i64T 0)), (14, .t (.sl 18 (([⟨2, 3, 2, 1, 1, 0, 0, 0, 0, some ⟨1, 1, 0, 4, .empty, .empty, 0, 0, [120]⟩⟩, ⟨2, 3, 2, 1, 1, 0, 0, 0, 0, some ⟨4, 3, 1, 4, .empty, .empty, 0, 0, [120]⟩⟩] : List PDo).map doR)))], [(1, [.t (u64T 11), .t (u32T 7), .t (i64T 80)]), (2, [.t (i64T 2), .t (u64T 1), .t (u64T 1)]), (3, (poolT (⟨2, 1, 2, [⟨2, 1, 1, 3, 10, 11, 7, 80, 2, 3, 0, 0, 4, [⟨1, 1, 0, 4, .empty, .empty, 0, 0, [120]⟩, ⟨4, 3, 1, 4, .empty, .empty, 0, 0, [120]⟩]⟩]⟩ : PPool)).map .t)], []⟩) (weak_sub (.cons rfl rfl rfl (.cons rfl rfl rfl (.cons rfl rfl rfl (.cons rfl rfl rfl (.cons rfl rfl rfl (.cons rfl rfl rfl (.cons rfl rfl rfl (.cons rfl rfl rfl (.cons rfl rfl rfl (.cons rfl rfl rfl (.cons rfl rfl rfl (.cons rfl rfl rfl (.cons rfl rfl rfl (.cons rfl rfl rfl .nil)))))))))))))) (.cons rfl rfl rfl (.cons rfl rfl rfl (.cons rfl rfl rfl .nil))) .nil) ?_
  repeat' (first | (refine rg 10 ?_; (refine sp (po_load_bx_agg rfl rfl (tyT rfl) rfl (vc (vc (vc (vc .nil)))) rfl) ?_); refine oC (k_tk2) rfl (ac (ac .nil)) ?_; refine oMv ?_; refine oEx ?_; refine oEx ?_; refine oEx ?_; refine oS ?_; refine oAs ?_; refine oAs ?_; refine oN ?_) | refine gc ?_ | refine ct ?_ | refine cf ?_ | refine swp_cond rfl (fun hc => ?_) (fun hc => ?_) | refine rq rfl (rt .nil) ?_)
  refine swp_weak (st' := ⟨[(1, .bp 1 0), (2, .bp 2 0), (3, .bp 3 0), (4, .t (i64T 0)), (5, .t (.sl 18 (([⟨1, 3, 2, 1, 1, 10, 11, 7, 80, none⟩] : List PDo).map doR))), (6, .t (i64T 0)), (7, .t (.sl 18 (([] : List PDo).map doR))), (8, .t (i64T 0)), (9, .t (.sl 18 (([⟨2, 3, 2, 1, 1, 0, 0, 0, 0, some ⟨1, 1, 0, 1, .empty, .empty, 0, 0, [120]⟩⟩, ⟨2, 3, 2, 1, 1, 0, 0, 0, 0, some ⟨2, 2, 0, 1, .empty, .empty, 0, 0, [120]⟩⟩] : List PDo).map doR))), (10, .t (u64T 2)), (11, .t (.v (.bool true))), (12, .t (.sl 18 (([⟨2, 3, 2, 1, 1, 0, 0, 0, 0, some ⟨4, 3, 1, 1, .empty, .empty, 0, 0, [120]⟩⟩] : List PDo).map doR))), (13, .t (i64T 0)), (14, .t (.sl 18 (([⟨2, 3, 2, 1, 1, 0, 0, 0, 0, some ⟨1, 1, 0, 4, .empty, .empty, 0, 0, [120]⟩⟩, ⟨2, 3, 2, 1, 1, 0, 0, 0, 0, some ⟨4, 3, 1, 4, .empty, .empty, 0, 0, [120]⟩⟩] : List PDo).map doR))), (17, .t (.sl 2 (([⟨1, 9⟩, ⟨4, 9⟩] : List PFail).map failR)))], [(1, [.t (u64T 11), .t (u32T 7), .t (i64T 80)]), (2, [.t (i64T 2), .t (u64T 1), .t (u64T 1)]), (3, (poolT (⟨2, 1, 2, [⟨2, 1, 1, 3, 10, 11, 7, 80, 2, 3, 0, 0, 4, []⟩]⟩ : PPool)).map .t)], []⟩) (weak_sub (.cons rfl rfl rfl (.cons rfl rfl rfl (.cons rfl rfl rfl (.cons rfl rfl rfl (.cons rfl rfl rfl (.cons rfl rfl rfl (.cons rfl rfl rfl (.cons rfl rfl rfl (.cons rfl rfl rfl (.cons rfl rfl rfl (.cons rfl rfl rfl (.cons rfl rfl rfl (.cons rfl rfl rfl (.cons rfl rfl rfl (.cons rfl rfl rfl .nil))))))))))))))) (.cons rfl rfl rfl (.cons rfl rfl rfl (.cons rfl rfl rfl .nil))) .nil) ?_
  repeat' (first | (refine rg 11 ?_; (refine sp (po_load_bx_agg rfl rfl (tyT rfl) rfl (vc (vc (vc (vc .nil)))) rfl) ?_); refine oC (k_tk3) rfl (ac (ac .nil)) ?_; refine oMv ?_; refine oEx ?_; refine oEx ?_; refine oEx ?_; refine oS ?_; refine oAs ?_; refine oAs ?_; refine oN ?_) | refine gc ?_ | refine ct ?_ | refine cf ?_ | refine swp_cond rfl (fun hc => ?_) (fun hc => ?_) | refine rq rfl (rt .nil) ?_)
  refine swp_weak (st' := ⟨[(1, .bp 1 0), (2, .bp 2 0), (3, .bp 3 0), (4, .t (i64T 0)), (5, .t (.sl 18 (([⟨1, 3, 2, 1, 1, 10, 11, 7, 80, none⟩] : List PDo).map doR))), (6, .t (i64T 0)), (7, .t (.sl 18 (([] : List PDo).map doR))), (8, .t (i64T 0)), (9, .t (.sl 18 (([⟨2, 3, 2, 1, 1, 0, 0, 0, 0, some ⟨1, 1, 0, 1, .empty, .empty, 0, 0, [120]⟩⟩, ⟨2, 3, 2, 1, 1, 0, 0, 0, 0, some ⟨2, 2, 0, 1, .empty, .empty, 0, 0, [120]⟩⟩] : List PDo).map doR))), (10, .t (u64T 2)), (11, .t (.v (.bool true))), (12, .t (.sl 18 (([⟨2, 3, 2, 1, 1, 0, 0, 0, 0, some ⟨4, 3, 1, 1, .empty, .empty, 0, 0, [120]⟩⟩] : List PDo).map doR))), (13, .t (i64T 0)), (14, .t (.sl 18 (([⟨2, 3, 2, 1, 1, 0, 0, 0, 0, some ⟨1, 1, 0, 4, .empty, .empty, 0, 0, [120]⟩⟩, ⟨2, 3, 2, 1, 1, 0, 0, 0, 0, some ⟨4, 3, 1, 4, .empty, .empty, 0, 0, [120]⟩⟩] : List PDo).map doR))), (17, .t (.sl 2 (([⟨1, 9⟩, ⟨4, 9⟩] : List PFail).map failR))), (18, .t (.sl 18 (([⟨3, 3, 2, 1, 1, 0, 0, 0, 0, none⟩] : List PDo).map doR)))], [(1, [.t (u64T 11), .t (u32T 7), .t (i64T 80)]), (2, [.t (i64T 2), .t (u64T 1), .t (u64T 1)]), (3, (poolT (⟨2, 1, 2, []⟩ : PPool)).map .t)], []⟩) (weak_sub (.cons rfl rfl rfl (.cons rfl rfl rfl (.cons rfl rfl rfl (.cons rfl rfl rfl (.cons rfl rfl rfl (.cons rfl rfl rfl (.cons rfl rfl rfl (.cons rfl rfl rfl (.cons rfl rfl rfl (.cons rfl rfl rfl (.cons rfl rfl rfl (.cons rfl rfl rfl (.cons rfl rfl rfl (.cons rfl rfl rfl (.cons rfl rfl rfl (.cons rfl rfl rfl .nil)))))))))))))))) (.cons rfl rfl rfl (.cons rfl rfl rfl (.cons rfl rfl rfl .nil))) .nil) ?_
  repeat' (first | (refine rg 12 ?_; refine oMv ?_; refine sp (pln rfl (tyS rfl)) ?_; (first | refine sp (po_eqid rfl rfl rfl) ?_ | refine oCm ?_); refine oMv ?_; refine oMv ?_ <;> refine sp (pln rfl (tyS rfl)) ?_ <;> (first | refine sp (po_eqid rfl rfl rfl) ?_ | refine oCm ?_) <;> (first | refine oPt ?_ | refine oPf ?_) <;> refine oMv ?_ <;> refine oMv ?_ <;> refine sp (pln rfl (tyS rfl)) ?_ <;> (first | refine sp (po_eqid rfl rfl rfl) ?_ | refine oCm ?_) <;> (first | refine oPt ?_ | refine oPf ?_) <;> refine oMv ?_ <;> refine oMv ?_ <;> refine sp (pln rfl (tyS rfl)) ?_ <;> (first | refine sp (po_eqid rfl rfl rfl) ?_ | refine oCm ?_) <;> (first | refine oPt ?_ | refine oPf ?_) <;> refine oMv ?_ <;> refine oMv ?_ <;> refine sp (pln rfl (tyS rfl)) ?_ <;> (first | refine sp (po_eqid rfl rfl rfl) ?_ | refine oCm ?_) <;> (first | refine oPt ?_ | refine oPf ?_) <;> refine oMv ?_ <;> refine oMv ?_ <;> refine sp (pln rfl (tyS rfl)) ?_ <;> (first | refine sp (po_eqid rfl rfl rfl) ?_ | refine oCm ?_) <;> (first | refine oPt ?_ | refine oPf ?_) <;> refine oMv ?_ <;> refine oMv ?_ <;> refine sp (pln rfl (tyS rfl)) ?_ <;> (first | refine sp (po_eqid rfl rfl rfl) ?_ | refine oCm ?_) <;> (first | refine oPt ?_ | refine oPf ?_) <;> refine oN ?_) | (refine rd 14 ?_; refine dMv ?_; (first | refine dp (po_eqid rfl rfl rfl) ?_ | refine dCm ?_); refine dMv ?_; refine dMv ?_ <;> (first | refine dp (po_eqid rfl rfl rfl) ?_ | refine dCm ?_) <;> refine dPt ?_ <;> refine dMv ?_ <;> refine dMv ?_ <;> (first | refine dp (po_eqid rfl rfl rfl) ?_ | refine dCm ?_) <;> refine dPt ?_ <;> refine dMv ?_ <;> refine dMv ?_ <;> refine dp (pix rfl (tyS rfl)) ?_ <;> (first | refine dFb ?_ | refine dFd ?_) <;> (first | refine dLb ?_ | refine dLd ?_) <;> (first | refine dp (po_eqid rfl rfl rfl) ?_ | refine dCm ?_) <;> refine dPt ?_ <;> refine dMv ?_ <;> refine dMv ?_ <;> refine dp (pix rfl (tyS rfl)) ?_ <;> (first | refine dFb ?_ | refine dFd ?_) <;> (first | refine dp (po_load_bx_agg rfl rfl (tyT rfl) rfl (vc (vc (vc .nil))) rfl) ?_ | refine dp (po_load_agg rfl rfl (tyT rfl) rfl rfl) ?_) <;> (refine dp (po_load_bx_agg rfl rfl (tyT rfl) rfl (vc (vc (vc .nil))) rfl) ?_) <;> refine dp (po_eqid rfl rfl rfl) ?_ <;> refine dPt ?_ <;> refine dMv ?_ <;> refine dMv ?_ <;> refine dp (pix rfl (tyS rfl)) ?_ <;> (first | refine dFb ?_ | refine dFd ?_) <;> (first | refine dFb ?_ | refine dFd ?_) <;> (first | refine dLb ?_ | refine dLd ?_) <;> (first | refine dp (po_eqid rfl rfl rfl) ?_ | refine dCm ?_) <;> refine dPt ?_ <;> refine dMv ?_ <;> refine dMv ?_ <;> (first | refine dp (po_eqid rfl rfl rfl) ?_ | refine dCm ?_) <;> refine dPt ?_ <;> refine dMv ?_ <;> refine dMv ?_ <;> refine dPt ?_ <;> refine dMv ?_ <;> refine dMv ?_ <;> (first | refine dp (po_eqid rfl rfl rfl) ?_ | refine dCm ?_) <;> refine dPt ?_ <;> refine dMv ?_ <;> refine dMv ?_ <;> refine dp (pix rfl (tyS rfl)) ?_ <;> (first | refine dFb ?_ | refine dFd ?_) <;> (first | refine dFb ?_ | refine dFd ?_) <;> (first | refine dLb ?_ | refine dLd ?_) <;> (first | refine dp (po_eqid rfl rfl rfl) ?_ | refine dCm ?_) <;> refine dPt ?_ <;> refine dMv ?_ <;> refine dMv ?_ <;> refine dp (pix rfl (tyS rfl)) ?_ <;> (first | refine dFb ?_ | refine dFd ?_) <;> (first | refine dFb ?_ | refine dFd ?_) <;> (first | refine dLb ?_ | refine dLd ?_) <;> (first | refine dp (po_eqid rfl rfl rfl) ?_ | refine dCm ?_) <;> refine dPt ?_ <;> refine dMv ?_ <;> refine dMv ?_ <;> refine dp (pix rfl (tyS rfl)) ?_ <;> (first | refine dFb ?_ | refine dFd ?_) <;> (first | refine dLb ?_ | refine dLd ?_) <;> (first | refine dp (po_eqid rfl rfl rfl) ?_ | refine dCm ?_) <;> refine dPt ?_ <;> refine dMv ?_ <;> refine dMv ?_ <;> refine dp (pix rfl (tyS rfl)) ?_ <;> (first | refine dFb ?_ | refine dFd ?_) <;> (first | refine dLb ?_ | refine dLd ?_) <;> (first | refine dp (po_eqid rfl rfl rfl) ?_ | refine dCm ?_) <;> refine dPt ?_ <;> refine dMv ?_ <;> refine dFb ?_ <;> refine dLb ?_ <;> refine dp (pln rfl (tyS rfl)) ?_ <;> (first | refine dp (po_eqid rfl rfl rfl) ?_ | refine dCm ?_) <;> refine dPt ?_ <;> refine dAs ?_ <;> refine dN ?_ <;> refine oN ?_) | refine gc ?_ | refine ct ?_ | refine cf ?_ | refine swp_cond rfl (fun hc => ?_) (fun hc => ?_) | refine rq rfl (rt .nil) ?_)
  refine swp_weak (st' := ⟨[(1, .bp 1 0), (2, .bp 2 0), (20, .t (.v (.bool true)))], [(1, [.t (u64T 11), .t (u32T 7), .t (i64T 80)]), (2, [.t (i64T 2), .t (u64T 1), .t (u64T 1)])], []⟩) (weak_sub (.cons rfl rfl rfl (.cons rfl rfl rfl (.cons rfl rfl rfl .nil))) (.cons rfl rfl rfl (.cons rfl rfl rfl .nil)) .nil) ?_
  repeat' (first | (refine rg 15 ?_; (refine sp (po_load_bx_agg rfl rfl (tyT rfl) rfl (vc (vc (vc .nil))) rfl) ?_); refine sp (po_buildS str37 rfl (pc .nil) rfl) ?_; (refine sp (po_load_bx_agg rfl rfl (tyT rfl) rfl (vc (vc (vc .nil))) rfl) ?_); refine sp (po_buildS str42 rfl (pc (pc (pc (pc (pc .nil))))) rfl) ?_; refine sal str42 ?_; refine oS ?_; refine oN ?_) | refine gc ?_ | refine ct ?_ | refine cf ?_ | refine swp_cond rfl (fun hc => ?_) (fun hc => ?_) | refine rq rfl (rt .nil) ?_)
  refine rg 16 ?_
  refine sp (po_buildS str29 rfl .nil rfl) ?_
  refine sp (po_load_bx_agg (ts := inT' (⟨2, 1, 1, 2, 2, .empty, .empty, 10, 0, 11, 7, 80, 0, []⟩ : PIn)) rfl rfl (tyT rfl) rfl (vc (vc (vc (vc (vc (vc (vc (vc (vc (vc (vc (vc (vc (vc .nil)))))))))))))) rfl) ?_
  refine oC k_adm rfl (.cons rfl (.le fun m v h => tr_nilLast (l := []) (k := 14) h) (.cons rfl (.t _) (.cons rfl (.t _) .nil))) ?_
  refine oMv ?_
  refine oEx ?_
  refine oEx ?_
  refine sal str29 ?_
  refine oS ?_
  refine oAs ?_
  refine oN ?_
  refine gc ?_
  refine swp_weak (st' := ⟨[(2, .bp 2 0), (20, .t (.v (.bool true))), (22, .bp 22 0), (23, .t (i64T 0))], [(2, [.t (i64T 2), .t (u64T 1), .t (u64T 1)]), (22, (inlT ([(⟨2, 1, 1, 2, 2, .empty, .empty, 10, 0, 11, 7, 80, 0, []⟩ : PIn)] : List PIn)).map .t)], []⟩) (weak_sub (.cons rfl rfl rfl (.cons rfl rfl rfl (.cons rfl rfl rfl (.cons rfl rfl rfl .nil)))) (.cons rfl rfl rfl (.cons rfl rfl rfl .nil)) .nil) ?_
  repeat' (first | (refine rg 17 ?_; refine sp (po_load_bx_agg rfl rfl (tyT rfl) rfl (vc .nil) rfl) ?_; (refine sp (po_load_bx_agg rfl rfl (tyT rfl) rfl (vc (vc (vc .nil))) rfl) ?_); refine oC (k_tak1) rfl (ac (ac (ac (ac (ac (ac .nil)))))) ?_; refine oMv ?_; refine oEx ?_; refine oEx ?_; refine oEx ?_; refine sal str46 ?_; refine oS ?_; refine oAs ?_; refine oS ?_; refine oN ?_) | refine gc ?_ | refine ct ?_ | refine cf ?_ | refine swp_cond rfl (fun hc => ?_) (fun hc => ?_) | refine rq rfl (rt .nil) ?_)
  refine swp_weak (st' := ⟨[(2, .bp 2 0), (20, .t (.v (.bool true))), (22, .bp 22 0), (23, .t (i64T 0)), (24, .t (i64T 1))], [(2, [.t (i64T 2), .t (u64T 1), .t (u64T 1)]), (22, (inlT ([(⟨2, 1, 1, 2, 2, .empty, .empty, 10, 0, 11, 7, 80, 0, [⟨5, 0, 0, []⟩]⟩ : PIn)] : List PIn)).map .t)], []⟩) (weak_sub (.cons rfl rfl rfl (.cons rfl rfl rfl (.cons rfl rfl rfl (.cons rfl rfl rfl (.cons rfl rfl rfl .nil))))) (.cons rfl rfl rfl (.cons rfl rfl rfl .nil)) .nil) ?_
  repeat' (first | (refine rg 18 ?_; refine sp (po_load_bx_agg rfl rfl (tyT rfl) rfl (vc .nil) rfl) ?_; (refine sp (po_load_bx_agg rfl rfl (tyT rfl) rfl (vc (vc (vc .nil))) rfl) ?_); refine oC (k_tak2) rfl (ac (ac (ac (ac (ac (ac .nil)))))) ?_; refine oMv ?_; refine oEx ?_; refine oEx ?_; refine oEx ?_; refine sal str46 ?_; refine oS ?_; refine oAs ?_; refine oS ?_; refine oN ?_) | refine gc ?_ | refine ct ?_ | refine cf ?_ | refine swp_cond rfl (fun hc => ?_) (fun hc => ?_) | refine rq rfl (rt .nil) ?_)
  refine swp_weak (st' := ⟨[(2, .bp 2 0), (20, .t (.v (.bool true))), (22, .bp 22 0), (23, .t (i64T 0)), (24, .t (i64T 1)), (26, .t (i64T 3))], [(2, [.t (i64T 2), .t (u64T 1), .t (u64T 1)]), (22, (inlT ([(⟨2, 1, 1, 2, 2, .empty, .empty, 10, 0, 11, 7, 80, 0, [⟨5, 0, 0, []⟩]⟩ : PIn)] : List PIn)).map .t)], []⟩) (weak_sub (.cons rfl rfl rfl (.cons rfl rfl rfl (.cons rfl rfl rfl (.cons rfl rfl rfl (.cons rfl rfl rfl (.cons rfl rfl rfl .nil)))))) (.cons rfl rfl rfl (.cons rfl rfl rfl .nil)) .nil) ?_
  refine rg 19 ?_
  refine sp (po_load_bx_agg rfl rfl (tyT rfl) rfl (vc .nil) rfl) ?_
  refine sp (po_load_bx_agg rfl rfl (tyT rfl) rfl (vc (vc (vc .nil))) rfl) ?_
  refine sp (po_buildS str46 rfl (pc (pc .nil)) rfl) ?_
  refine oC k_done rfl (.cons rfl (.t _) (.cons rfl (.t _) (.cons rfl (.le fun m v h => tr_nilLast (l := [u64T 5, i64T 0, i64T 200]) (k := 1) h) .nil))) ?_
  refine oS ?_
  refine oN ?_
  refine gc ?_
  refine swp_weak (st' := ⟨[(2, .bp 2 0), (20, .t (.v (.bool true))), (22, .bp 22 0), (23, .t (i64T 0)), (24, .t (i64T 1)), (26, .t (i64T 3))], [(2, [.t (i64T 2), .t (u64T 1), .t (u64T 1)]), (22, (inlT ([(⟨2, 1, 1, 2, 2, .empty, .empty, 10, 0, 11, 7, 80, 0, [⟨5, 1, 200, []⟩]⟩ : PIn)] : List PIn)).map .t)], []⟩) (weak_sub (.cons rfl rfl rfl (.cons rfl rfl rfl (.cons rfl rfl rfl (.cons rfl rfl rfl (.cons rfl rfl rfl (.cons rfl rfl rfl .nil)))))) (.cons rfl rfl rfl (.cons rfl rfl rfl .nil)) .nil) ?_
  repeat' (first | (refine rg 20 ?_; refine sp (po_load_bx_agg rfl rfl (tyT rfl) rfl (vc .nil) rfl) ?_; (refine sp (po_load_bx_agg rfl rfl (tyT rfl) rfl (vc (vc (vc .nil))) rfl) ?_); refine oC (k_tak3) rfl (ac (ac (ac (ac (ac (ac .nil)))))) ?_; refine oMv ?_; refine oEx ?_; refine oEx ?_; refine oEx ?_; refine sal str29 ?_; refine sal str46 ?_; refine oS ?_; refine oAs ?_; refine oS ?_; refine oN ?_) | (refine rg 21 ?_; refine oMv ?_; refine oMv ?_; refine oMv ?_ <;> refine oCm ?_ <;> refine oPt ?_ <;> refine oMv ?_ <;> refine oMv ?_ <;> refine oCm ?_ <;> refine oPt ?_ <;> refine oMv ?_ <;> refine oMv ?_ <;> refine oCm ?_ <;> refine oPt ?_ <;> refine oMv ?_ <;> refine oMv ?_ <;> refine oCm ?_ <;> refine oPt ?_ <;> refine oMv ?_ <;> refine oFb ?_ <;> refine oLb ?_ <;> refine oCm ?_ <;> refine oPt ?_ <;> refine oAs ?_ <;> refine oN ?_) | refine gc ?_ | refine ct ?_ | refine cf ?_ | refine swp_cond rfl (fun hc => ?_) (fun hc => ?_) | refine rq rfl (rt .nil) ?_)
  all_goals rfl
end Go.Proofs.Ytabejnjnkpdjbaa.Sim

/- What an inbound tunnel has taken: numbers that came, that were answered; plain. -/
namespace Go.Proofs.Ytabejnjnkpdjbaa.Sim
set_option linter.unusedVariables false
set_option linter.unusedSimpArgs false
open Go.RowKit Mem
theorem cutL_some {α : Type} {f : α → Bool} : ∀ {l A B : List α} {x : α}, cutL f l = some (A, x, B) → l = A ++ x :: B ∧ f x = true ∧ ∀ y ∈ A, f y = false
  | [], _, _, _, h => by cases h
  | t :: l, A, B, x, h => by
    have h : (if f t then some ([], t, l) else (cutL f l).map fun x => (t :: x.1, x.2)) = some (A, x, B) := h
    split at h
    · rename_i ht
      injection h with h; injection h with h1 h2; injection h2 with h2 h3; subst h1 h2 h3
      exact ⟨rfl, ht, fun y hy => by cases hy⟩
    · rename_i ht
      cases hc : cutL f l with
      | none => rw [hc] at h; cases h
      | some z =>
        obtain ⟨A', x', B'⟩ := z
        rw [hc] at h
        injection h with h; injection h with h1 h2; injection h2 with h2 h3; dsimp only at h1 h2 h3; subst h1 h2 h3
        obtain ⟨h4, h5, h6⟩ := cutL_some hc
        refine ⟨by rw [h4]; rfl, h5, fun y hy => ?_⟩
        rcases List.mem_cons.1 hy with rfl | hy
        · simpa using ht
        · exact h6 y hy
theorem cutL_none {α : Type} {f : α → Bool} : ∀ {l : List α}, cutL f l = none → ∀ y ∈ l, f y = false
  | [], _, y, hy => by cases hy
  | t :: l, h, y, hy => by
    have h : (if f t then some ([], t, l) else (cutL f l).map fun x => (t :: x.1, x.2)) = none := h
    split at h
    · cases h
    · rename_i ht
      cases hc : cutL f l with
      | some z => rw [hc] at h; cases h
      | none =>
        rcases List.mem_cons.1 hy with rfl | hy
        · simpa using ht
        · exact cutL_none hc y hy
theorem insV_perm (x : PTk) : ∀ l, (insV x l).Perm (x :: l)
  | [] => .refl _
  | y :: l => by
    show (if x.n < y.n then y :: insV x l else x :: y :: l).Perm _
    split
    · exact ((insV_perm x l).cons y).trans (List.Perm.swap x y l)
    · exact .refl _
theorem insV_desc (x : PTk) : ∀ l : List PTk, l.Pairwise (fun a b => b.n ≤ a.n) → (insV x l).Pairwise (fun a b => b.n ≤ a.n)
  | [], _ => List.pairwise_singleton _ _
  | y :: l, h => by
    obtain ⟨h1, h2⟩ := List.pairwise_cons.1 h
    show (if x.n < y.n then y :: insV x l else x :: y :: l).Pairwise _
    split
    · rename_i hxy
      refine List.pairwise_cons.2 ⟨fun z hz => ?_, insV_desc x l h2⟩
      rcases List.mem_cons.1 ((insV_perm x l).mem_iff.1 hz) with rfl | hz
      · omega
      · exact h1 z hz
    · rename_i hxy
      refine List.pairwise_cons.2 ⟨fun z hz => ?_, h⟩
      rcases List.mem_cons.1 hz with rfl | hz
      · omega
      · have := h1 z hz; omega
theorem isV_perm (l : List PTk) : (isV l).Perm l := by
  have key : ∀ (l acc : List PTk), (l.foldl (fun acc x => insV x acc) acc).Perm (l ++ acc) := by
    intro l
    induction l with
    | nil => intro acc; exact .refl _
    | cons x l ih =>
      intro acc
      rw [List.foldl_cons]
      refine (ih _).trans ?_
      refine ((insV_perm x acc).append_left l).trans ?_
      exact List.perm_middle
  have := key l []
  rwa [List.append_nil] at this
theorem isV_desc (l : List PTk) : (isV l).Pairwise (fun a b => b.n ≤ a.n) := by
  have key : ∀ (l acc : List PTk), acc.Pairwise (fun a b => b.n ≤ a.n) → (l.foldl (fun acc x => insV x acc) acc).Pairwise (fun a b => b.n ≤ a.n) := by
    intro l
    induction l with
    | nil => intro acc h; exact h
    | cons x l ih => intro acc h; exact ih _ (insV_desc x acc h)
  exact key l [] .nil
theorem isort_perm (l : List PTk) : (isort l).Perm l := (List.reverse_perm _).trans (isV_perm l)
theorem isort_asc (l : List PTk) : (isort l).Pairwise (fun a b => a.n ≤ b.n) := by
  unfold isort
  rw [List.pairwise_reverse]
  exact isV_desc l
theorem minK_spec : ∀ (l : List PTk) (m : PTk), (minK m l).n ≤ m.n ∧ (∀ q ∈ l, (minK m l).n ≤ q.n) ∧ ((minK m l).n = m.n ∨ ∃ q ∈ l, (minK m l).n = q.n)
  | [], m => ⟨Int.le_refl _, fun q h => (by cases h), .inl rfl⟩
  | y :: l, m => by
    show (if y.n < m.n then minK y l else minK m l).n ≤ m.n ∧ (∀ q ∈ y :: l, (if y.n < m.n then minK y l else minK m l).n ≤ q.n) ∧ _
    split
    · rename_i h
      obtain ⟨h1, h2, h3⟩ := minK_spec l y
      refine ⟨by omega, fun q hq => ?_, ?_⟩
      · rcases List.mem_cons.1 hq with rfl | hq
        · exact h1
        · exact h2 q hq
      · show (if y.n < m.n then minK y l else minK m l).n = m.n ∨ ∃ q ∈ y :: l, (if y.n < m.n then minK y l else minK m l).n = q.n
        rw [if_pos h]
        rcases h3 with h3 | ⟨q, hq, h3⟩
        · exact .inr ⟨y, List.mem_cons_self, h3⟩
        · exact .inr ⟨q, List.mem_cons_of_mem _ hq, h3⟩
    · rename_i h
      obtain ⟨h1, h2, h3⟩ := minK_spec l m
      refine ⟨h1, fun q hq => ?_, ?_⟩
      · rcases List.mem_cons.1 hq with rfl | hq
        · omega
        · exact h2 q hq
      · show (if y.n < m.n then minK y l else minK m l).n = m.n ∨ ∃ q ∈ y :: l, (if y.n < m.n then minK y l else minK m l).n = q.n
        rw [if_neg h]
        rcases h3 with h3 | ⟨q, hq, h3⟩
        · exact .inl h3
        · exact .inr ⟨q, List.mem_cons_of_mem _ hq, h3⟩
theorem minN_lt {l : List PTk} (h0 : 0 < l.length) {n : Int} : n < minN l ↔ ∀ q ∈ l, n < q.n := by
  cases l with
  | nil => simp at h0
  | cons x l =>
    obtain ⟨h1, h2, h3⟩ := minK_spec l x
    show n < (minK x l).n ↔ _
    constructor
    · intro h q hq
      rcases List.mem_cons.1 hq with rfl | hq
      · omega
      · have := h2 q hq; omega
    · intro h
      rcases h3 with h3 | ⟨q, hq, h3⟩
      · have := h x List.mem_cons_self; omega
      · have := h q (List.mem_cons_of_mem _ hq); omega
structure TkInv (co : Int → Int) (by_ : Int → UInt8) (T : List PTk) (fresh done : List Int) : Prop where
  sorted : T.Pairwise (fun a b => a.n < b.n)
  len : T.length = min 16 fresh.length
  nod : fresh.Nodup
  sub : ∀ q ∈ T, q.n ∈ fresh
  low : ∀ n ∈ fresh, (∃ q ∈ T, q.n = n) ∨ (T.length = 16 ∧ ∀ q ∈ T, n < q.n)
  ans : ∀ q ∈ T, q.done = 1 → q.n ∈ done ∧ q.code = co q.n ∧ q.bytes = [by_ q.n]
  dn : done.Nodup
  ds : ∀ n ∈ done, n ∈ fresh
  few : ∀ q ∈ T, q.bytes.length ≤ 1
section
variable {co : Int → Int} {by_ : Int → UInt8} {T : List PTk} {fresh done : List Int}
theorem tk_new (h : TkInv co by_ T fresh done) {n : Int} (hc : cutL (fun q : PTk => decide (q.n = n)) T = none) (hm : ¬ (16 ≤ T.length ∧ n < minN T)) : n ∉ fresh ∧ TkInv co by_ (trimK (isort (T ++ [newK n]))) (fresh ++ [n]) done := by
  have hnT : ∀ q ∈ T, q.n ≠ n := fun q hq => by simpa using cutL_none hc q hq
  have hnl : ¬ (T.length = 16 ∧ ∀ q ∈ T, n < q.n) := fun hh => hm ⟨by omega, (minN_lt (by omega)).2 hh.2⟩
  have hnf : n ∉ fresh := fun hn => by
    rcases h.low n hn with ⟨q, hq, e⟩ | hh
    · exact hnT q hq e
    · exact hnl hh
  refine ⟨hnf, ?_⟩
  have hp := isort_perm (T ++ [newK n])
  have hmem : ∀ q, q ∈ isort (T ++ [newK n]) ↔ q ∈ T ∨ q = newK n := fun q => by rw [hp.mem_iff, List.mem_append, List.mem_singleton]
  have hzl : (isort (T ++ [newK n])).length = T.length + 1 := by rw [isort_len, List.length_append]; rfl
  have hnd : ((T ++ [newK n]).map PTk.n).Nodup := by
    rw [List.map_append, List.nodup_append]
    refine ⟨?_, by simp, ?_⟩
    · rw [List.nodup_iff_pairwise_ne, List.pairwise_map]
      exact h.sorted.imp fun hab => by omega
    · intro a ha b hb
      simp at hb
      obtain ⟨q, hq, rfl⟩ := List.mem_map.1 ha
      subst hb
      exact hnT q hq
  have hst : (isort (T ++ [newK n])).Pairwise (fun a b => a.n < b.n) := by
    have h1 := isort_asc (T ++ [newK n])
    have h2 : ((isort (T ++ [newK n])).map PTk.n).Nodup := (hp.map PTk.n).nodup_iff.2 hnd
    rw [List.nodup_iff_pairwise_ne, List.pairwise_map] at h2
    exact (h1.and h2).imp fun ⟨a, b⟩ => by omega
  have hlow : ∀ m ∈ fresh, (∃ q ∈ T, q.n = m) ∨ (T.length = 16 ∧ (∀ q ∈ T, m < q.n) ∧ m < n) := fun m hm' => by
    rcases h.low m hm' with hh | ⟨h1, h2⟩
    · exact .inl hh
    · refine .inr ⟨h1, h2, ?_⟩
      have hne : ¬ n < minN T := fun hh => hm ⟨by omega, hh⟩
      have := (minN_lt (l := T) (by omega) (n := m)).2 h2
      omega
  have hans : ∀ q, q ∈ T ∨ q = newK n → q.done = 1 → q.n ∈ done ∧ q.code = co q.n ∧ q.bytes = [by_ q.n] := fun q hq hd => by
    rcases hq with hq | rfl
    · exact h.ans q hq hd
    · cases hd
  have hfew : ∀ q, q ∈ T ∨ q = newK n → q.bytes.length ≤ 1 := fun q hq => by
    rcases hq with hq | rfl
    · exact h.few q hq
    · exact Nat.zero_le _
  have hsub : ∀ q, q ∈ T ∨ q = newK n → q.n ∈ fresh ++ [n] := fun q hq => by
    rcases hq with hq | rfl
    · exact List.mem_append_left _ (h.sub q hq)
    · exact List.mem_append_right _ List.mem_cons_self
  have hnod : (fresh ++ [n]).Nodup := by
    rw [List.nodup_append]
    exact ⟨h.nod, by simp, fun a ha b hb => by simp at hb; subst hb; exact fun e => hnf (e ▸ ha)⟩
  have hfl : (fresh ++ [n]).length = fresh.length + 1 := by rw [List.length_append]; rfl
  have hl := h.len
  generalize isort (T ++ [newK n]) = z at *
  by_cases h16 : 16 < z.length
  · rw [show trimK z = z.drop 1 from if_pos h16]
    cases z with
    | nil => simp at h16
    | cons m0 rest =>
      rw [List.length_cons] at hzl h16
      have hT : T.length = 16 := by omega
      obtain ⟨hs1, hs2⟩ := List.pairwise_cons.1 hst
      have hr : ∀ q ∈ rest, q ∈ T ∨ q = newK n := fun q hq => (hmem q).1 (List.mem_cons_of_mem _ hq)
      refine ⟨hs2, by show rest.length = _; omega, hnod, fun q hq => hsub q (hr q hq), fun m hm' => ?_, fun q hq => hans q (hr q hq), h.dn, fun m hm' => List.mem_append_left _ (h.ds m hm'), fun q hq => hfew q (hr q hq)⟩
      show (∃ q ∈ rest, q.n = m) ∨ (rest.length = 16 ∧ ∀ q ∈ rest, m < q.n)
      have hin : ∀ q, q ∈ T ∨ q = newK n → q.n = m → (∃ q ∈ rest, q.n = m) ∨ (rest.length = 16 ∧ ∀ q ∈ rest, m < q.n) := fun q hq e => by
        rcases List.mem_cons.1 ((hmem q).2 hq) with rfl | hq
        · exact .inr ⟨by omega, fun y hy => by have := hs1 y hy; omega⟩
        · exact .inl ⟨q, hq, e⟩
      rcases List.mem_append.1 hm' with hm' | hm'
      · rcases hlow m hm' with ⟨q, hq, e⟩ | ⟨h1, h2, h3⟩
        · exact hin q (.inl hq) e
        · refine .inr ⟨by omega, fun y hy => ?_⟩
          rcases hr y hy with hy | rfl
          · exact h2 y hy
          · exact h3
      · simp at hm'
        exact hin (newK n) (.inr rfl) hm'.symm
  · rw [show trimK z = z from if_neg h16]
    refine ⟨hst, by omega, hnod, fun q hq => hsub q ((hmem q).1 hq), fun m hm' => ?_, fun q hq => hans q ((hmem q).1 hq), h.dn, fun m hm' => List.mem_append_left _ (h.ds m hm'), fun q hq => hfew q ((hmem q).1 hq)⟩
    rcases List.mem_append.1 hm' with hm' | hm'
    · rcases hlow m hm' with ⟨q, hq, e⟩ | ⟨h1, _, _⟩
      · exact .inl ⟨q, (hmem q).2 (.inl hq), e⟩
      · omega
    · simp at hm'
      exact .inl ⟨newK n, (hmem _).2 (.inr rfl), hm'.symm⟩
theorem tk_done (h : TkInv co by_ T fresh done) {n : Int} (hf : n ∈ fresh) (hd : n ∉ done) (t : PIn) (ht : t.taken = T) : TkInv co by_ (doneK ⟨n, 0, co n, [by_ n]⟩ t).taken fresh (done ++ [n]) := by
  have hdn : (done ++ [n]).Nodup := by
    rw [List.nodup_append]
    exact ⟨h.dn, by simp, fun a ha b hb => by simp at hb; subst hb; exact fun e => hd (e ▸ ha)⟩
  have hds : ∀ m ∈ done ++ [n], m ∈ fresh := fun m hm => by
    rcases List.mem_append.1 hm with hm | hm
    · exact h.ds m hm
    · simp at hm; subst hm; exact hf
  have hsame : TkInv co by_ T fresh (done ++ [n]) := ⟨h.sorted, h.len, h.nod, h.sub, h.low, fun q hq e => by obtain ⟨a, b⟩ := h.ans q hq e; exact ⟨List.mem_append_left _ a, b⟩, hdn, hds, h.few⟩
  unfold doneK
  rw [ht]
  cases hc : cutL (fun q : PTk => decide (q.n = (⟨n, 0, co n, [by_ n]⟩ : PTk).n)) T with
  | none => dsimp only; rw [ht]; exact hsame
  | some z =>
    obtain ⟨C, q, D⟩ := z
    obtain ⟨he, hq, hC⟩ := cutL_some hc
    have hq : q.n = n := by simpa using hq
    dsimp only
    split
    · rw [ht]; exact hsame
    · dsimp only
      subst he
      have hmem : ∀ y, y ∈ C ++ answered ⟨n, 0, co n, [by_ n]⟩ :: D → y = answered ⟨n, 0, co n, [by_ n]⟩ ∨ (y ∈ C ++ q :: D) := fun y hy => by
        rcases List.mem_append.1 hy with hy | hy
        · exact .inr (List.mem_append_left _ hy)
        · rcases List.mem_cons.1 hy with rfl | hy
          · exact .inl rfl
          · exact .inr (List.mem_append_right _ (List.mem_cons_of_mem _ hy))
      have hall : ∀ p : Int → Prop, (∀ y ∈ C ++ q :: D, p y.n) → ∀ y ∈ C ++ answered ⟨n, 0, co n, [by_ n]⟩ :: D, p y.n := fun p hp y hy => by
        rcases hmem y hy with rfl | hy
        · show p n
          have := hp q (List.mem_append_right _ List.mem_cons_self)
          rwa [hq] at this
        · exact hp y hy
      have hs := h.sorted
      rw [List.pairwise_append] at hs
      obtain ⟨s1, s2, s3⟩ := hs
      obtain ⟨s4, s5⟩ := List.pairwise_cons.1 s2
      have hlen : (C ++ answered ⟨n, 0, co n, [by_ n]⟩ :: D).length = (C ++ q :: D).length := by rw [List.length_append, List.length_append]; rfl
      refine ⟨?_, by rw [hlen]; exact h.len, h.nod, hall (· ∈ fresh) h.sub, fun m hm => ?_, fun y hy e => ?_, hdn, hds, fun y hy => ?_⟩
      · rw [List.pairwise_append]
        refine ⟨s1, List.pairwise_cons.2 ⟨fun y hy => ?_, s5⟩, fun a ha b hb => ?_⟩
        · have := s4 y hy; show n < y.n; omega
        · rcases List.mem_cons.1 hb with rfl | hb
          · have := s3 a ha q List.mem_cons_self; show a.n < n; omega
          · exact s3 a ha b (List.mem_cons_of_mem _ hb)
      · rw [hlen]
        rcases h.low m hm with ⟨y, hy, e⟩ | ⟨h1, h2⟩
        · refine .inl ?_
          rcases List.mem_append.1 hy with hy | hy
          · exact ⟨y, List.mem_append_left _ hy, e⟩
          · rcases List.mem_cons.1 hy with rfl | hy
            · exact ⟨_, List.mem_append_right _ List.mem_cons_self, by show n = m; omega⟩
            · exact ⟨y, List.mem_append_right _ (List.mem_cons_of_mem _ hy), e⟩
        · exact .inr ⟨h1, hall (fun k => m < k) h2⟩
      · rcases hmem y hy with rfl | hy
        · exact ⟨List.mem_append_right _ List.mem_cons_self, rfl, rfl⟩
        · obtain ⟨a, b⟩ := h.ans y hy e; exact ⟨List.mem_append_left _ a, b⟩
      · rcases hmem y hy with rfl | hy
        · exact Nat.le_refl _
        · exact h.few y hy
end
end Go.Proofs.Ytabejnjnkpdjbaa.Sim

/- Arguments opened: what a reading says of the cells, type by type. -/
namespace Go.Proofs.Ytabejnjnkpdjbaa.Mem
set_option linter.unusedVariables false
set_option linter.unusedSimpArgs false
open Go.RowKit
/-- one cell, a slice -/
def SliceC {α : Type} (R : Rel α) (sz : Nat) : Rel (List α) := fun B w xs cs => ∃ A cap, cs = [.slice A xs.length cap] ∧ SliceAt R sz B w A xs ∧ xs.length ≤ cap ∧ cap ≤ maxLen
theorem SliceC.kept {α : Type} {R : Rel α} {sz : Nat} (hR : Kept R) : Kept (SliceC R sz) := by
  rintro B B' w w' x cs ⟨A, cap, rfl, h, h1, h2⟩ hk hB
  exact ⟨A, cap, rfl, h.keep hR hk hB, h1, h2⟩
/-- one cell, a number -/
def IntC (k : IntKind) : Rel Int := fun _ _ x cs => cs = [.int k x] ∧ (Lit.int k x).wf = true
theorem IntC.kept (k : IntKind) : Kept (IntC k) := fun _ _ _ _ _ _ h _ _ => h
/-- one cell, a text -/
def StrC : Rel ByteArray := fun _ _ s cs => cs = [.string s] ∧ s.size ≤ maxLen
theorem StrC.kept : Kept StrC := fun _ _ _ _ _ _ h _ _ => h
end Go.Proofs.Ytabejnjnkpdjbaa.Mem
namespace Go.Proofs.Ytabejnjnkpdjbaa.Opn
set_option linter.unusedVariables false
set_option linter.unusedSimpArgs false
set_option maxRecDepth 100000
open Go.RowKit Go.WideShapes Go.ChangeShapes Go.Joins Mem

/-- a reading at type t gives R -/
def Opens {α : Type} (t : TypeId) (R : Rel α) : Prop :=
  ∀ (H : Type) (enc : TypeId × Value → H) (w : World) (base : Nat) (spare : Nat → Bool) (held : Bool) (fuel : Nat) (cs : List Value) (x : DataW H × List MemPlace), DataW.trod enc Try.prog w base spare held fuel t cs = some x → ∃ y, R w.heap.size w y cs

theorem opens_int {t : TypeId} {k : IntKind} (ht : Try.prog.underlying t = some (.int k)) : Opens t (IntC k) := by
  intro H enc w base spare held fuel cs x h
  obtain ⟨n, rfl, _, hw⟩ := DataW.trod_int ht h
  exact ⟨n, rfl, hw⟩
end Go.Proofs.Ytabejnjnkpdjbaa.Opn
