/- Merged by bundles.py: SimNlb, PlCut, SimDeI, SimLv, SimNla. -/
import Derived.Test.YtabejnjnkpdjbaaU36
import Derived.Test.YtabejnjnkpdjbaaU15
import Derived.Test.YtabejnjnkpdjbaaU35
import Derived.Test.YtabejnjnkpdjbaaU16
import Derived.Test.YtabejnjnkpdjbaaU27
import Derived.Test.YtabejnjnkpdjbaaU31
/- awake. (Printed by mk_nlb.py.) -/
namespace Go.Proofs.Ytabejnjnkpdjbaa.Sim
set_option linter.unusedVariables false
set_option linter.unusedSimpArgs false
open Go.RowKit Mem
set_option maxRecDepth 100000 in
set_option maxHeartbeats 4000000 in
theorem awake_ : PCalls Try.prog 10 [] (.v (.bool true)) := by
  refine pcalls_of Try.func10 rfl rfl Try.ntmps10 rfl ?_
  repeat' (first | refine rg 0 (aq0 ?_) | (refine rg 1 ?_; refine sp (po_buildS str39 rfl (pc (pc (pc .nil))) rfl) ?_; refine sal str39 ?_; refine aq12 ?_) | (refine rg 2 ?_; refine sp (po_buildS str26 rfl (pc (pc (pc .nil))) rfl) ?_; refine sal str26 ?_; refine aq12 ?_) | (refine rg 3 ?_; refine oC (k_new) rfl (ac (ac .nil)) ?_; refine oMv ?_; refine oEx ?_; refine oEx ?_; refine sal str58 ?_; refine aq39 ?_) | refine gc ?_ | refine ct ?_ | refine cf ?_ | refine sc ?_ ?_ <;> intro hc | refine rq rfl (rt .nil) ?_)
  refine swp_weak (st' := ⟨[(1, .bp 1 0), (2, .bp 2 0), (3, .bp 3 0), (4, .t (i64T 0))], [(1, [.t (u64T 11), .t (u32T 7), .t (i64T 80)]), (2, [.t (i64T 2), .t (u64T 1), .t (u64T 1)]), (3, (poolT (⟨2, 1, 1, []⟩ : PPool)).map .t)], []⟩) (weak_sub (.cons rfl rfl rfl (.cons rfl rfl rfl (.cons rfl rfl rfl (.cons rfl rfl rfl .nil)))) (.cons rfl rfl rfl (.cons rfl rfl rfl (.cons rfl rfl rfl .nil))) .nil) ?_
  repeat' (first | ((refine swp_any (id := 4) [[], [], [], [], [], [], [], [], [3], [], []] [[], [], [], [], [], [], [3], [3], [], [], []] mixed (by kernel_rfl) ?_) <;> (refine yp (fun _ _ => po_load_bx_agg rfl rfl (tyT rfl) rfl (vc (vc (vc (vc .nil)))) rfl) ?_) <;> (refine yp (fun _ _ => po_load_bx_agg rfl rfl (tyT rfl) rfl (vc (vc (vc .nil))) rfl) ?_) <;> refine yp (fun _ _ => po_call ((query_ 1)) rfl (ac .nil)) ?_ <;> (refine yp (fun _ _ => po_call (k_ask1) rfl (ac (ac (ac (ac (ac (ac .nil))))))) ?_) <;> refine yp (fun _ _ => po_move rfl rfl) ?_ <;> refine yp (fun _ _ => po_extract rfl rfl rfl) ?_ <;> refine yp (fun _ _ => po_extract rfl rfl rfl) ?_ <;> refine yp (fun _ _ => po_extract rfl rfl rfl) ?_ <;> refine sany_eff [(3, _)] [] (.free rfl rfl) rfl rfl (fun _ _ _ _ => e_store rfl rfl rfl rfl rfl rfl (tyT rfl) rfl rfl) ?_ <;> refine yp (fun _ _ => po_assign rfl rfl) ?_ <;> refine yp (fun _ _ => po_assign rfl rfl) ?_ <;> refine sany_nil ?_) | refine gc ?_ | refine ct ?_ | refine cf ?_ | refine sc ?_ ?_ <;> intro hc | refine rq rfl (rt .nil) ?_)
  refine swp_weak (st' := ⟨[(1, .bp 1 0), (2, .bp 2 0), (3, .bp 3 0), (4, .t (i64T 0)), (5, .t (.sl 18 (([⟨1, 3, 2, 1, 1, 10, 11, 7, 80, none⟩] : List PDo).map doR))), (6, .t (i64T 0))], [(1, [.t (u64T 11), .t (u32T 7), .t (i64T 80)]), (2, [.t (i64T 2), .t (u64T 1), .t (u64T 1)]), (3, (poolT (⟨2, 1, 2, [⟨2, 1, 1, 3, 10, 11, 7, 80, 1, 0, 0, 0, 0, [⟨1, 0, 0, 0, .empty, .empty, 0, 0, [120]⟩]⟩]⟩ : PPool)).map .t)], []⟩) (weak_sub (.cons rfl rfl rfl (.cons rfl rfl rfl (.cons rfl rfl rfl (.cons rfl rfl rfl (.cons rfl rfl rfl (.cons rfl rfl rfl .nil)))))) (.cons rfl rfl rfl (.cons rfl rfl rfl (.cons rfl rfl rfl .nil))) .nil) ?_
  repeat' (first | ((refine swp_any (id := 5) [[], [], [], [], [], [], [], [], [3], [], []] [[], [], [], [], [], [], [3], [3], [], [], []] mixed (by kernel_rfl) ?_) <;> (refine yp (fun _ _ => po_load_bx_agg rfl rfl (tyT rfl) rfl (vc (vc (vc (vc .nil)))) rfl) ?_) <;> (refine yp (fun _ _ => po_load_bx_agg rfl rfl (tyT rfl) rfl (vc (vc (vc .nil))) rfl) ?_) <;> refine yp (fun _ _ => po_call ((query_ 2)) rfl (ac .nil)) ?_ <;> (refine yp (fun _ _ => po_call (k_ask2) rfl (ac (ac (ac (ac (ac (ac .nil))))))) ?_) <;> refine yp (fun _ _ => po_move rfl rfl) ?_ <;> refine yp (fun _ _ => po_extract rfl rfl rfl) ?_ <;> refine yp (fun _ _ => po_extract rfl rfl rfl) ?_ <;> refine yp (fun _ _ => po_extract rfl rfl rfl) ?_ <;> refine sany_eff [(3, _)] [] (.free rfl rfl) rfl rfl (fun _ _ _ _ => e_store rfl rfl rfl rfl rfl rfl (tyT rfl) rfl rfl) ?_ <;> refine yp (fun _ _ => po_assign rfl rfl) ?_ <;> refine yp (fun _ _ => po_assign rfl rfl) ?_ <;> refine sany_nil ?_) | refine gc ?_ | refine ct ?_ | refine cf ?_ | refine sc ?_ ?_ <;> intro hc | refine rq rfl (rt .nil) ?_)
  refine swp_weak (st' := ⟨[(1, .bp 1 0), (2, .bp 2 0), (3, .bp 3 0), (4, .t (i64T 0)), (5, .t (.sl 18 (([⟨1, 3, 2, 1, 1, 10, 11, 7, 80, none⟩] : List PDo).map doR))), (6, .t (i64T 0)), (7, .t (.sl 18 (([] : List PDo).map doR))), (8, .t (i64T 0))], [(1, [.t (u64T 11), .t (u32T 7), .t (i64T 80)]), (2, [.t (i64T 2), .t (u64T 1), .t (u64T 1)]), (3, (poolT (⟨2, 1, 2, [⟨2, 1, 1, 3, 10, 11, 7, 80, 1, 0, 0, 0, 0, [⟨1, 0, 0, 0, .empty, .empty, 0, 0, [120]⟩, ⟨2, 0, 0, 0, .empty, .empty, 0, 0, [120]⟩]⟩]⟩ : PPool)).map .t)], []⟩) (weak_sub (.cons rfl rfl rfl (.cons rfl rfl rfl (.cons rfl rfl rfl (.cons rfl rfl rfl (.cons rfl rfl rfl (.cons rfl rfl rfl (.cons rfl rfl rfl (.cons rfl rfl rfl .nil)))))))) (.cons rfl rfl rfl (.cons rfl rfl rfl (.cons rfl rfl rfl .nil))) .nil) ?_
  repeat' (first | (refine rg 6 (aq85 ?_); refine oC (k_acc) rfl (ac (ac (ac (ac .nil)))) ?_; refine oMv ?_; refine oEx ?_; refine oEx ?_; refine oS ?_; refine oAs ?_; refine oN ?_) | refine gc ?_ | refine ct ?_ | refine cf ?_ | refine sc ?_ ?_ <;> intro hc | refine rq rfl (rt .nil) ?_)
  refine swp_weak (st' := ⟨[(1, .bp 1 0), (2, .bp 2 0), (3, .bp 3 0), (4, .t (i64T 0)), (5, .t (.sl 18 (([⟨1, 3, 2, 1, 1, 10, 11, 7, 80, none⟩] : List PDo).map doR))), (6, .t (i64T 0)), (7, .t (.sl 18 (([] : List PDo).map doR))), (8, .t (i64T 0)), (9, .t (.sl 18 (([⟨2, 3, 2, 1, 1, 0, 0, 0, 0, some ⟨1, 1, 0, 1, .empty, .empty, 0, 0, [120]⟩⟩, ⟨2, 3, 2, 1, 1, 0, 0, 0, 0, some ⟨2, 2, 0, 1, .empty, .empty, 0, 0, [120]⟩⟩] : List PDo).map doR)))], [(1, [.t (u64T 11), .t (u32T 7), .t (i64T 80)]), (2, [.t (i64T 2), .t (u64T 1), .t (u64T 1)]), (3, (poolT (⟨2, 1, 2, [⟨2, 1, 1, 3, 10, 11, 7, 80, 2, 2, 0, 0, 1, [⟨1, 1, 0, 1, .empty, .empty, 0, 0, [120]⟩, ⟨2, 2, 0, 1, .empty, .empty, 0, 0, [120]⟩]⟩]⟩ : PPool)).map .t)], []⟩) (weak_sub (.cons rfl rfl rfl (.cons rfl rfl rfl (.cons rfl rfl rfl (.cons rfl rfl rfl (.cons rfl rfl rfl (.cons rfl rfl rfl (.cons rfl rfl rfl (.cons rfl rfl rfl (.cons rfl rfl rfl .nil))))))))) (.cons rfl rfl rfl (.cons rfl rfl rfl (.cons rfl rfl rfl .nil))) .nil) ?_
  repeat' (first | (refine rg 7 (aq85 ?_); refine oC (k_rep) rfl (ac (ac (ac (ac (ac .nil))))) ?_; refine aq86 ?_) | refine gc ?_ | refine ct ?_ | refine cf ?_ | refine sc ?_ ?_ <;> intro hc | refine rq rfl (rt .nil) ?_)
  refine swp_weak (st' := ⟨[(1, .bp 1 0), (2, .bp 2 0), (3, .bp 3 0), (4, .t (i64T 0)), (5, .t (.sl 18 (([⟨1, 3, 2, 1, 1, 10, 11, 7, 80, none⟩] : List PDo).map doR))), (6, .t (i64T 0)), (7, .t (.sl 18 (([] : List PDo).map doR))), (8, .t (i64T 0)), (9, .t (.sl 18 (([⟨2, 3, 2, 1, 1, 0, 0, 0, 0, some ⟨1, 1, 0, 1, .empty, .empty, 0, 0, [120]⟩⟩, ⟨2, 3, 2, 1, 1, 0, 0, 0, 0, some ⟨2, 2, 0, 1, .empty, .empty, 0, 0, [120]⟩⟩] : List PDo).map doR))), (10, .t (u64T 2)), (11, .t (.v (.bool true)))], [(1, [.t (u64T 11), .t (u32T 7), .t (i64T 80)]), (2, [.t (i64T 2), .t (u64T 1), .t (u64T 1)]), (3, (poolT (⟨2, 1, 2, [⟨2, 1, 1, 3, 10, 11, 7, 80, 2, 2, 0, 0, 1, [⟨1, 1, 0, 1, .empty, .empty, 0, 0, [120]⟩]⟩]⟩ : PPool)).map .t)], []⟩) (weak_sub (.cons rfl rfl rfl (.cons rfl rfl rfl (.cons rfl rfl rfl (.cons rfl rfl rfl (.cons rfl rfl rfl (.cons rfl rfl rfl (.cons rfl rfl rfl (.cons rfl rfl rfl (.cons rfl rfl rfl (.cons rfl rfl rfl (.cons rfl rfl rfl .nil))))))))))) (.cons rfl rfl rfl (.cons rfl rfl rfl (.cons rfl rfl rfl .nil))) .nil) ?_
  repeat' (first | ((refine swp_any (id := 8) [[], [], [], [], [], [], [], [], [3], [], []] [[], [], [], [], [], [], [3], [3], [], [], []] mixed (by kernel_rfl) ?_) <;> (refine yp (fun _ _ => po_load_bx_agg rfl rfl (tyT rfl) rfl (vc (vc (vc (vc .nil)))) rfl) ?_) <;> (refine yp (fun _ _ => po_load_bx_agg rfl rfl (tyT rfl) rfl (vc (vc (vc .nil))) rfl) ?_) <;> refine yp (fun _ _ => po_call ((query_ 4)) rfl (ac .nil)) ?_ <;> (refine yp (fun _ _ => po_call (k_ask3) rfl (ac (ac (ac (ac (ac (ac .nil))))))) ?_) <;> refine yp (fun _ _ => po_move rfl rfl) ?_ <;> refine yp (fun _ _ => po_extract rfl rfl rfl) ?_ <;> refine yp (fun _ _ => po_extract rfl rfl rfl) ?_ <;> refine yp (fun _ _ => po_extract rfl rfl rfl) ?_ <;> refine sany_eff [(3, _)] [] (.free rfl rfl) rfl rfl (fun _ _ _ _ => e_store rfl rfl rfl rfl rfl rfl (tyT rfl) rfl rfl) ?_ <;> refine yp (fun _ _ => po_assign rfl rfl) ?_ <;> refine yp (fun _ _ => po_assign rfl rfl) ?_ <;> refine sany_nil ?_) | refine gc ?_ | refine ct ?_ | refine cf ?_ | refine sc ?_ ?_ <;> intro hc | refine rq rfl (rt .nil) ?_)
  refine swp_weak (st' := ⟨[(1, .bp 1 0), (2, .bp 2 0), (3, .bp 3 0), (4, .t (i64T 0)), (5, .t (.sl 18 (([⟨1, 3, 2, 1, 1, 10, 11, 7, 80, none⟩] : List PDo).map doR))), (6, .t (i64T 0)), (7, .t (.sl 18 (([] : List PDo).map doR))), (8, .t (i64T 0)), (9, .t (.sl 18 (([⟨2, 3, 2, 1, 1, 0, 0, 0, 0, some ⟨1, 1, 0, 1, .empty, .empty, 0, 0, [120]⟩⟩, ⟨2, 3, 2, 1, 1, 0, 0, 0, 0, some ⟨2, 2, 0, 1, .empty, .empty, 0, 0, [120]⟩⟩] : List PDo).map doR))), (10, .t (u64T 2)), (11, .t (.v (.bool true))), (12, .t (.sl 18 (([⟨2, 3, 2, 1, 1, 0, 0, 0, 0, some ⟨4, 3, 1, 1, .empty, .empty, 0, 0, [120]⟩⟩] : List PDo).map doR))), (13, .t (i64T 0))], [(1, [.t (u64T 11), .t (u32T 7), .t (i64T 80)]), (2, [.t (i64T 2), .t (u64T 1), .t (u64T 1)]), (3, (poolT (⟨2, 1, 2, [⟨2, 1, 1, 3, 10, 11, 7, 80, 2, 3, 0, 0, 1, [⟨1, 1, 0, 1, .empty, .empty, 0, 0, [120]⟩, ⟨4, 3, 1, 1, .empty, .empty, 0, 0, [120]⟩]⟩]⟩ : PPool)).map .t)], []⟩) (weak_sub (.cons rfl rfl rfl (.cons rfl rfl rfl (.cons rfl rfl rfl (.cons rfl rfl rfl (.cons rfl rfl rfl (.cons rfl rfl rfl (.cons rfl rfl rfl (.cons rfl rfl rfl (.cons rfl rfl rfl (.cons rfl rfl rfl (.cons rfl rfl rfl (.cons rfl rfl rfl (.cons rfl rfl rfl .nil))))))))))))) (.cons rfl rfl rfl (.cons rfl rfl rfl (.cons rfl rfl rfl .nil))) .nil) ?_
  repeat' (first | (refine rg 9 (aq87 ?_); refine oC (k_tk1) rfl (ac (ac .nil)) ?_; refine aq86 ?_) | refine gc ?_ | refine ct ?_ | refine cf ?_ | refine sc ?_ ?_ <;> intro hc | refine rq rfl (rt .nil) ?_)
  refine swp_weak (st' := ⟨[(1, .bp 1 0), (2, .bp 2 0), (3, .bp 3 0), (4, .t (i64T 0)), (5, .t (.sl 18 (([⟨1, 3, 2, 1, 1, 10, 11, 7, 80, none⟩] : List PDo).map doR))), (6, .t (i64T 0)), (7, .t (.sl 18 (([] : List PDo).map doR))), (8, .t (i64T 0)), (9, .t (.sl 18 (([⟨2, 3, 2, 1, 1, 0, 0, 0, 0, some ⟨1, 1, 0, 1, .empty, .empty, 0, 0, [120]⟩⟩, ⟨2, 3, 2, 1, 1, 0, 0, 0, 0, some ⟨2, 2, 0, 1, .empty, .empty, 0, 0, [120]⟩⟩] : List PDo).map doR))), (10, .t (u64T 2)), (11, .t (.v (.bool true))), (12, .t (.sl 18 (([⟨2, 3, 2, 1, 1, 0, 0, 0, 0, some ⟨4, 3, 1, 1, .empty, .empty, 0, 0, [120]⟩⟩] : List PDo).map doR))), (13, .t (i64T 0)), (14, .t (.sl 18 (([⟨2, 3, 2, 1, 1, 0, 0, 0, 0, some ⟨1, 1, 0, 4, .empty, .empty, 0, 0, [120]⟩⟩, ⟨2, 3, 2, 1, 1, 0, 0, 0, 0, some ⟨4, 3, 1, 4, .empty, .empty, 0, 0, [120]⟩⟩] : List PDo).map doR)))], [(1, [.t (u64T 11), .t (u32T 7), .t (i64T 80)]), (2, [.t (i64T 2), .t (u64T 1), .t (u64T 1)]), (3, (poolT (⟨2, 1, 2, [⟨2, 1, 1, 3, 10, 11, 7, 80, 2, 3, 0, 0, 4, [⟨1, 1, 0, 4, .empty, .empty, 0, 0, [120]⟩, ⟨4, 3, 1, 4, .empty, .empty, 0, 0, [120]⟩]⟩]⟩ : PPool)).map .t)], []⟩) (weak_sub (.cons rfl rfl rfl (.cons rfl rfl rfl (.cons rfl rfl rfl (.cons rfl rfl rfl (.cons rfl rfl rfl (.cons rfl rfl rfl (.cons rfl rfl rfl (.cons rfl rfl rfl (.cons rfl rfl rfl (.cons rfl rfl rfl (.cons rfl rfl rfl (.cons rfl rfl rfl (.cons rfl rfl rfl (.cons rfl rfl rfl .nil)))))))))))))) (.cons rfl rfl rfl (.cons rfl rfl rfl (.cons rfl rfl rfl .nil))) .nil) ?_
  repeat' (first | (refine rg 10 (aq87 ?_); refine oC (k_tk2) rfl (ac (ac .nil)) ?_; refine aq86 ?_) | refine gc ?_ | refine ct ?_ | refine cf ?_ | refine sc ?_ ?_ <;> intro hc | refine rq rfl (rt .nil) ?_)
  refine swp_weak (st' := ⟨[(1, .bp 1 0), (2, .bp 2 0), (3, .bp 3 0), (4, .t (i64T 0)), (5, .t (.sl 18 (([⟨1, 3, 2, 1, 1, 10, 11, 7, 80, none⟩] : List PDo).map doR))), (6, .t (i64T 0)), (7, .t (.sl 18 (([] : List PDo).map doR))), (8, .t (i64T 0)), (9, .t (.sl 18 (([⟨2, 3, 2, 1, 1, 0, 0, 0, 0, some ⟨1, 1, 0, 1, .empty, .empty, 0, 0, [120]⟩⟩, ⟨2, 3, 2, 1, 1, 0, 0, 0, 0, some ⟨2, 2, 0, 1, .empty, .empty, 0, 0, [120]⟩⟩] : List PDo).map doR))), (10, .t (u64T 2)), (11, .t (.v (.bool true))), (12, .t (.sl 18 (([⟨2, 3, 2, 1, 1, 0, 0, 0, 0, some ⟨4, 3, 1, 1, .empty, .empty, 0, 0, [120]⟩⟩] : List PDo).map doR))), (13, .t (i64T 0)), (14, .t (.sl 18 (([⟨2, 3, 2, 1, 1, 0, 0, 0, 0, some ⟨1, 1, 0, 4, .empty, .empty, 0, 0, [120]⟩⟩, ⟨2, 3, 2, 1, 1, 0, 0, 0, 0, some ⟨4, 3, 1, 4, .empty, .empty, 0, 0, [120]⟩⟩] : List PDo).map doR))), (17, .t (.sl 2 (([⟨1, 9⟩, ⟨4, 9⟩] : List PFail).map failR)))], [(1, [.t (u64T 11), .t (u32T 7), .t (i64T 80)]), (2, [.t (i64T 2), .t (u64T 1), .t (u64T 1)]), (3, (poolT (⟨2, 1, 2, [⟨2, 1, 1, 3, 10, 11, 7, 80, 2, 3, 0, 0, 4, []⟩]⟩ : PPool)).map .t)], []⟩) (weak_sub (.cons rfl rfl rfl (.cons rfl rfl rfl (.cons rfl rfl rfl (.cons rfl rfl rfl (.cons rfl rfl rfl (.cons rfl rfl rfl (.cons rfl rfl rfl (.cons rfl rfl rfl (.cons rfl rfl rfl (.cons rfl rfl rfl (.cons rfl rfl rfl (.cons rfl rfl rfl (.cons rfl rfl rfl (.cons rfl rfl rfl (.cons rfl rfl rfl .nil))))))))))))))) (.cons rfl rfl rfl (.cons rfl rfl rfl (.cons rfl rfl rfl .nil))) .nil) ?_
  repeat' (first | (refine rg 11 (aq87 ?_); refine oC (k_tk3) rfl (ac (ac .nil)) ?_; refine aq86 ?_) | refine gc ?_ | refine ct ?_ | refine cf ?_ | refine sc ?_ ?_ <;> intro hc | refine rq rfl (rt .nil) ?_)
  refine swp_weak (st' := ⟨[(1, .bp 1 0), (2, .bp 2 0), (3, .bp 3 0), (4, .t (i64T 0)), (5, .t (.sl 18 (([⟨1, 3, 2, 1, 1, 10, 11, 7, 80, none⟩] : List PDo).map doR))), (6, .t (i64T 0)), (7, .t (.sl 18 (([] : List PDo).map doR))), (8, .t (i64T 0)), (9, .t (.sl 18 (([⟨2, 3, 2, 1, 1, 0, 0, 0, 0, some ⟨1, 1, 0, 1, .empty, .empty, 0, 0, [120]⟩⟩, ⟨2, 3, 2, 1, 1, 0, 0, 0, 0, some ⟨2, 2, 0, 1, .empty, .empty, 0, 0, [120]⟩⟩] : List PDo).map doR))), (10, .t (u64T 2)), (11, .t (.v (.bool true))), (12, .t (.sl 18 (([⟨2, 3, 2, 1, 1, 0, 0, 0, 0, some ⟨4, 3, 1, 1, .empty, .empty, 0, 0, [120]⟩⟩] : List PDo).map doR))), (13, .t (i64T 0)), (14, .t (.sl 18 (([⟨2, 3, 2, 1, 1, 0, 0, 0, 0, some ⟨1, 1, 0, 4, .empty, .empty, 0, 0, [120]⟩⟩, ⟨2, 3, 2, 1, 1, 0, 0, 0, 0, some ⟨4, 3, 1, 4, .empty, .empty, 0, 0, [120]⟩⟩] : List PDo).map doR))), (17, .t (.sl 2 (([⟨1, 9⟩, ⟨4, 9⟩] : List PFail).map failR))), (18, .t (.sl 18 (([⟨3, 3, 2, 1, 1, 0, 0, 0, 0, none⟩] : List PDo).map doR)))], [(1, [.t (u64T 11), .t (u32T 7), .t (i64T 80)]), (2, [.t (i64T 2), .t (u64T 1), .t (u64T 1)]), (3, (poolT (⟨2, 1, 2, []⟩ : PPool)).map .t)], []⟩) (weak_sub (.cons rfl rfl rfl (.cons rfl rfl rfl (.cons rfl rfl rfl (.cons rfl rfl rfl (.cons rfl rfl rfl (.cons rfl rfl rfl (.cons rfl rfl rfl (.cons rfl rfl rfl (.cons rfl rfl rfl (.cons rfl rfl rfl (.cons rfl rfl rfl (.cons rfl rfl rfl (.cons rfl rfl rfl (.cons rfl rfl rfl (.cons rfl rfl rfl (.cons rfl rfl rfl .nil)))))))))))))))) (.cons rfl rfl rfl (.cons rfl rfl rfl (.cons rfl rfl rfl .nil))) .nil) ?_
  repeat' (first | (refine rg 12 ?_; refine oMv ?_; refine sp (pln rfl (tyS rfl)) ?_; (first | refine sp (po_eqid rfl rfl rfl) ?_ | refine oCm ?_); refine oMv ?_; refine oMv ?_; refine sp (pln rfl (tyS rfl)) ?_ <;> (first | refine sp (po_eqid rfl rfl rfl) ?_ | refine oCm ?_) <;> refine aq88 ?_ <;> (first | refine sp (po_eqid rfl rfl rfl) ?_ | refine oCm ?_) <;> refine aq88 ?_ <;> (first | refine sp (po_eqid rfl rfl rfl) ?_ | refine oCm ?_) <;> refine aq88 ?_ <;> (first | refine sp (po_eqid rfl rfl rfl) ?_ | refine oCm ?_) <;> refine aq88 ?_ <;> (first | refine sp (po_eqid rfl rfl rfl) ?_ | refine oCm ?_) <;> refine aq88 ?_ <;> (first | refine sp (po_eqid rfl rfl rfl) ?_ | refine oCm ?_) <;> (first | refine oPt ?_ | refine oPf ?_) <;> refine oN ?_) | (refine rd 14 ?_; refine dMv ?_; (first | refine dp (po_eqid rfl rfl rfl) ?_ | refine dCm ?_); refine dMv ?_; refine dMv ?_ <;> (first | refine dp (po_eqid rfl rfl rfl) ?_ | refine dCm ?_) <;> refine dPt ?_ <;> refine dMv ?_ <;> refine dMv ?_ <;> (first | refine dp (po_eqid rfl rfl rfl) ?_ | refine dCm ?_) <;> refine aq89 ?_ <;> (first | refine dp (po_eqid rfl rfl rfl) ?_ | refine dCm ?_) <;> refine dPt ?_ <;> refine dMv ?_ <;> refine dMv ?_ <;> refine dp (pix rfl (tyS rfl)) ?_ <;> (first | refine dFb ?_ | refine dFd ?_) <;> (first | refine dp (po_load_bx_agg rfl rfl (tyT rfl) rfl (vc (vc (vc .nil))) rfl) ?_ | refine dp (po_load_agg rfl rfl (tyT rfl) rfl rfl) ?_) <;> refine dp (po_load_bx_agg rfl rfl (tyT rfl) rfl (vc (vc (vc .nil))) rfl) ?_ <;> refine dp (po_eqid rfl rfl rfl) ?_ <;> refine aq90 ?_ <;> (first | refine dp (po_eqid rfl rfl rfl) ?_ | refine dCm ?_) <;> refine dPt ?_ <;> refine dMv ?_ <;> refine dMv ?_ <;> (first | refine dp (po_eqid rfl rfl rfl) ?_ | refine dCm ?_) <;> refine dPt ?_ <;> refine dMv ?_ <;> refine dMv ?_ <;> refine dPt ?_ <;> refine dMv ?_ <;> refine dMv ?_ <;> (first | refine dp (po_eqid rfl rfl rfl) ?_ | refine dCm ?_) <;> refine aq90 ?_ <;> (first | refine dp (po_eqid rfl rfl rfl) ?_ | refine dCm ?_) <;> refine aq90 ?_ <;> (first | refine dp (po_eqid rfl rfl rfl) ?_ | refine dCm ?_) <;> refine aq89 ?_ <;> (first | refine dp (po_eqid rfl rfl rfl) ?_ | refine dCm ?_) <;> refine aq89 ?_ <;> (first | refine dp (po_eqid rfl rfl rfl) ?_ | refine dCm ?_) <;> refine dPt ?_ <;> refine dMv ?_ <;> refine dFb ?_ <;> refine dLb ?_ <;> refine dp (pln rfl (tyS rfl)) ?_ <;> (first | refine dp (po_eqid rfl rfl rfl) ?_ | refine dCm ?_) <;> refine dPt ?_ <;> refine dAs ?_ <;> refine dN ?_ <;> refine oN ?_) | refine gc ?_ | refine ct ?_ | refine cf ?_ | refine sc ?_ ?_ <;> intro hc | refine rq rfl (rt .nil) ?_)
  refine swp_weak (st' := ⟨[(1, .bp 1 0), (2, .bp 2 0), (20, .t (.v (.bool true)))], [(1, [.t (u64T 11), .t (u32T 7), .t (i64T 80)]), (2, [.t (i64T 2), .t (u64T 1), .t (u64T 1)])], []⟩) (weak_sub (.cons rfl rfl rfl (.cons rfl rfl rfl (.cons rfl rfl rfl .nil))) (.cons rfl rfl rfl (.cons rfl rfl rfl .nil)) .nil) ?_
  repeat' (first | (refine rg 15 ?_; refine sp (po_load_bx_agg rfl rfl (tyT rfl) rfl (vc (vc (vc .nil))) rfl) ?_; refine sp (po_buildS str37 rfl (pc .nil) rfl) ?_; refine sp (po_load_bx_agg rfl rfl (tyT rfl) rfl (vc (vc (vc .nil))) rfl) ?_; refine sp (po_buildS str42 rfl (pc (pc (pc (pc (pc .nil))))) rfl) ?_; refine sal str42 ?_; refine aq12 ?_) | refine gc ?_ | refine ct ?_ | refine cf ?_ | refine sc ?_ ?_ <;> intro hc | refine rq rfl (rt .nil) ?_)
  refine rg 16 ?_
  refine sp (po_buildS str29 rfl .nil rfl) ?_
  refine sp (po_load_bx_agg (ts := inT' (⟨2, 1, 1, 2, 2, .empty, .empty, 10, 0, 11, 7, 80, 0, []⟩ : PIn)) rfl rfl (tyT rfl) rfl (vc (vc (vc (vc (vc (vc (vc (vc (vc (vc (vc (vc (vc (vc .nil)))))))))))))) rfl) ?_
  refine oC k_adm rfl (.cons rfl (.le fun m v h => tr_nilLast (l := []) (k := 14) h) (.cons rfl (.t _) (.cons rfl (.t _) .nil))) ?_
  refine oMv ?_
  refine oEx ?_
  refine oEx ?_
  refine sal str29 ?_
  refine oS ?_
  refine oAs ?_
  refine oN ?_
  refine gc ?_
  refine swp_weak (st' := ⟨[(2, .bp 2 0), (20, .t (.v (.bool true))), (22, .bp 22 0), (23, .t (i64T 0))], [(2, [.t (i64T 2), .t (u64T 1), .t (u64T 1)]), (22, (inlT ([(⟨2, 1, 1, 2, 2, .empty, .empty, 10, 0, 11, 7, 80, 0, []⟩ : PIn)] : List PIn)).map .t)], []⟩) (weak_sub (.cons rfl rfl rfl (.cons rfl rfl rfl (.cons rfl rfl rfl (.cons rfl rfl rfl .nil)))) (.cons rfl rfl rfl (.cons rfl rfl rfl .nil)) .nil) ?_
  repeat' (first | (refine rg 17 (aq91 ?_); refine oC (k_tak1) rfl (ac (ac (ac (ac (ac (ac .nil)))))) ?_; refine aq92 ?_; refine sal str46 ?_; refine aq65 ?_) | refine gc ?_ | refine ct ?_ | refine cf ?_ | refine sc ?_ ?_ <;> intro hc | refine rq rfl (rt .nil) ?_)
  refine swp_weak (st' := ⟨[(2, .bp 2 0), (20, .t (.v (.bool true))), (22, .bp 22 0), (23, .t (i64T 0)), (24, .t (i64T 1))], [(2, [.t (i64T 2), .t (u64T 1), .t (u64T 1)]), (22, (inlT ([(⟨2, 1, 1, 2, 2, .empty, .empty, 10, 0, 11, 7, 80, 0, [⟨5, 0, 0, []⟩]⟩ : PIn)] : List PIn)).map .t)], []⟩) (weak_sub (.cons rfl rfl rfl (.cons rfl rfl rfl (.cons rfl rfl rfl (.cons rfl rfl rfl (.cons rfl rfl rfl .nil))))) (.cons rfl rfl rfl (.cons rfl rfl rfl .nil)) .nil) ?_
  repeat' (first | (refine rg 18 (aq91 ?_); refine oC (k_tak2) rfl (ac (ac (ac (ac (ac (ac .nil)))))) ?_; refine aq92 ?_; refine sal str46 ?_; refine aq65 ?_) | refine gc ?_ | refine ct ?_ | refine cf ?_ | refine sc ?_ ?_ <;> intro hc | refine rq rfl (rt .nil) ?_)
  refine swp_weak (st' := ⟨[(2, .bp 2 0), (20, .t (.v (.bool true))), (22, .bp 22 0), (23, .t (i64T 0)), (24, .t (i64T 1)), (26, .t (i64T 3))], [(2, [.t (i64T 2), .t (u64T 1), .t (u64T 1)]), (22, (inlT ([(⟨2, 1, 1, 2, 2, .empty, .empty, 10, 0, 11, 7, 80, 0, [⟨5, 0, 0, []⟩]⟩ : PIn)] : List PIn)).map .t)], []⟩) (weak_sub (.cons rfl rfl rfl (.cons rfl rfl rfl (.cons rfl rfl rfl (.cons rfl rfl rfl (.cons rfl rfl rfl (.cons rfl rfl rfl .nil)))))) (.cons rfl rfl rfl (.cons rfl rfl rfl .nil)) .nil) ?_
  refine rg 19 ?_
  refine sp (po_load_bx_agg rfl rfl (tyT rfl) rfl (vc .nil) rfl) ?_
  refine sp (po_load_bx_agg rfl rfl (tyT rfl) rfl (vc (vc (vc .nil))) rfl) ?_
  refine sp (po_buildS str46 rfl (pc (pc .nil)) rfl) ?_
  refine oC k_done rfl (.cons rfl (.t _) (.cons rfl (.t _) (.cons rfl (.le fun m v h => tr_nilLast (l := [u64T 5, i64T 0, i64T 200]) (k := 1) h) .nil))) ?_
  refine oS ?_
  refine oN ?_
  refine gc ?_
  refine swp_weak (st' := ⟨[(2, .bp 2 0), (20, .t (.v (.bool true))), (22, .bp 22 0), (23, .t (i64T 0)), (24, .t (i64T 1)), (26, .t (i64T 3))], [(2, [.t (i64T 2), .t (u64T 1), .t (u64T 1)]), (22, (inlT ([(⟨2, 1, 1, 2, 2, .empty, .empty, 10, 0, 11, 7, 80, 0, [⟨5, 1, 200, []⟩]⟩ : PIn)] : List PIn)).map .t)], []⟩) (weak_sub (.cons rfl rfl rfl (.cons rfl rfl rfl (.cons rfl rfl rfl (.cons rfl rfl rfl (.cons rfl rfl rfl (.cons rfl rfl rfl .nil)))))) (.cons rfl rfl rfl (.cons rfl rfl rfl .nil)) .nil) ?_
  repeat' (first | (refine rg 20 (aq91 ?_); refine oC (k_tak3) rfl (ac (ac (ac (ac (ac (ac .nil)))))) ?_; refine aq92 ?_; refine sal str29 ?_; refine sal str46 ?_; refine aq65 ?_) | (refine rg 21 ?_; refine oMv ?_; refine oMv ?_; refine oMv ?_ <;> refine oCm ?_ <;> refine oPt ?_ <;> refine oMv ?_ <;> refine oMv ?_ <;> refine oCm ?_ <;> refine oPt ?_ <;> refine oMv ?_ <;> refine oMv ?_ <;> refine oCm ?_ <;> refine oPt ?_ <;> refine oMv ?_ <;> refine oMv ?_ <;> refine oCm ?_ <;> refine oPt ?_ <;> refine oMv ?_ <;> refine oFb ?_ <;> refine oLb ?_ <;> refine oCm ?_ <;> refine oPt ?_ <;> refine oAs ?_ <;> refine oN ?_) | refine gc ?_ | refine ct ?_ | refine cf ?_ | refine sc ?_ ?_ <;> intro hc | refine rq rfl (rt .nil) ?_)
  all_goals rfl
end Go.Proofs.Ytabejnjnkpdjbaa.Sim

/- The first of a row that is so. -/
namespace Go.Proofs.Ytabejnjnkpdjbaa.Sim
set_option linter.unusedVariables false
set_option linter.unusedSimpArgs false
open Go.RowKit Mem
theorem cutL_some {α : Type} {f : α → Bool} : ∀ {l A B : List α} {x : α}, cutL f l = some (A, x, B) → l = A ++ x :: B ∧ f x = true ∧ ∀ y ∈ A, f y = false
  | [], _, _, _, h => by cases h
  | t :: l, A, B, x, h => by
    have h : (if f t then some ([], t, l) else (cutL f l).map fun x => (t :: x.1, x.2)) = some (A, x, B) := h
    split at h
    · rename_i ht
      injection h with h; injection h with h1 h2; injection h2 with h2 h3; subst h1 h2 h3
      exact ⟨rfl, ht, fun y hy => by cases hy⟩
    · rename_i ht
      cases hc : cutL f l with
      | none => rw [hc] at h; cases h
      | some z =>
        obtain ⟨A', x', B'⟩ := z
        rw [hc] at h
        injection h with h; injection h with h1 h2; injection h2 with h2 h3; dsimp only at h1 h2 h3; subst h1 h2 h3
        obtain ⟨h4, h5, h6⟩ := cutL_some hc
        refine ⟨by rw [h4]; rfl, h5, fun y hy => ?_⟩
        rcases List.mem_cons.1 hy with rfl | hy
        · simpa using ht
        · exact h6 y hy
theorem cutL_none {α : Type} {f : α → Bool} : ∀ {l : List α}, cutL f l = none → ∀ y ∈ l, f y = false
  | [], _, y, hy => by cases hy
  | t :: l, h, y, hy => by
    have h : (if f t then some ([], t, l) else (cutL f l).map fun x => (t :: x.1, x.2)) = none := h
    split at h
    · cases h
    · rename_i ht
      cases hc : cutL f l with
      | some z => rw [hc] at h; cases h
      | none =>
        rcases List.mem_cons.1 hy with rfl | hy
        · simpa using ht
        · exact cutL_none hc y hy
end Go.Proofs.Ytabejnjnkpdjbaa.Sim

/- slices.Delete at api.Inbound. (Written by mk_delete1.py.) -/
namespace Go.Proofs.Ytabejnjnkpdjbaa.Sim
set_option linter.unusedVariables false
set_option linter.unusedSimpArgs false
open Go.RowKit Mem BigFrame
theorem infoI : (Try.prog.info? 42).map (fun i => (i.zero, i.size, i.bytes)) = some (some (.agg #[.int .i64 0, .int .u64 0, .int .u64 0, .int .i64 0, .int .u64 0, .string ⟨#[]⟩, .string ⟨#[]⟩, .int .u64 0, .int .u32 0, .int .u64 0, .int .u32 0, .int .i64 0, .int .u64 0, .slice none 0 0]), 14, 144) := by kernel_rfl
set_option maxRecDepth 100000 in
set_option maxHeartbeats 3200000 in
theorem delI (g cap n i : Nat) (cur : List Value) (fz : Nat × Nat) (w : World) (hg : w.heap[g]? = some (.cells cur.toArray 42 fz)) (hfz : FzOk fz cur.length) (hin : i < n) (hnc : n ≤ cap) (hcm : cap ≤ maxLen) (hcs : cap * 14 ≤ cur.length) (h1 : ∀ u ∈ cur.take (n * 14), u.oneCell' = true) :
    Calls Try.prog 61 #[.slice (some ⟨g, 0, none⟩) n cap, .int .i64 i, .int .i64 ((i : Int) + 1)] w fun e w' => e = .returned (.slice (some ⟨g, 0, none⟩) (n - 1) cap) ∧ w.grownBy w' (some g) ∧ ∃ cur' : List Value, w'.heap[g]? = some (.cells cur'.toArray 42 fz) ∧ cur'.length = cur.length ∧ cur'.take ((n - 1) * 14) = dropE 14 i (cur.take (n * 14)) := by
  obtain ⟨i0, hi, hz0, hz1, hz2⟩ := info_parts infoI
  have HG := Lib.hid hg
  have HF := Lib.hid hfz
  have hnl : n * 14 ≤ cur.length := by omega
  have hsrc : Hid (∀ w0, Lo w w0 → ∀ (j : Nat) u, ((cur.take (n * 14)).drop ((i + 1) * 14))[j]? = some u → w0.cell? ((⟨g, (i + 1) * 14, none⟩ : Addr).add j) = some u) := Lib.hid fun w0 hl j u hj => by
    rw [addr_add]
    refine lo_keep hl ?_
    rw [List.getElem?_drop] at hj
    have hjn : (i + 1) * 14 + j < n * 14 := by have := (List.getElem?_eq_some_iff.1 hj).1; simp at this; omega
    rw [List.getElem?_take_of_lt hjn] at hj
    have hjl := (List.getElem?_eq_some_iff.1 hj).1
    obtain ⟨hx, hy⟩ := List.getElem?_eq_some_iff.1 hj
    simp [World.cell?, hg, hjl, hy]
  have hlen : ((cur.take (n * 14)).drop ((i + 1) * 14)).length = (n - (i + 1)) * 14 := by simp only [List.length_drop, List.length_take]; omega
  have hone : ∀ u ∈ (cur.take (n * 14)).drop ((i + 1) * 14), u.oneCell' = true := fun u hu => h1 u (List.mem_of_mem_drop hu)
  have HSP := Lib.hid (splice_dropE (L := cur) (sz := 14) hin hnl)
  have hfit0 : i * 14 + ((cur.take (n * 14)).drop ((i + 1) * 14)).length ≤ cur.length := by rw [hlen]; omega
  have hsl : (splice cur (i * 14) ((cur.take (n * 14)).drop ((i + 1) * 14))).length = cur.length := size_splice hfit0
  clear hg hfz h1
  generalize (cur.take (n * 14)).drop ((i + 1) * 14) = Xs at *
  generalize dropE 14 i (cur.take (n * 14)) = Ys at *
  have j0 : (0 : Int) ≤ (i : Int) := by omega
  have j1 : (i : Int) + 1 ≤ (n : Int) := by omega
  have j2 : (n : Int) ≤ (cap : Int) := by omega
  have j3 : ¬ ((i : Int) = (i : Int) + 1) := by omega
  have j4 : (0 : Int) ≤ (i : Int) + 1 := by omega
  have j5 : ((i : Int) + 1).toNat = i + 1 := by omega
  have j6 : (i : Int) ≤ (i : Int) + 1 := by omega
  have j7 : (i : Int) ≤ (cap : Int) := by omega
  have hbg : g < w.heap.size := block_lt HG.out
  go_enter Try.func61, Try.ntmps61
  go_wp2
  obtain ⟨ad, had, hadc⟩ : ∃ ad : Addr, (if cap = i + 1 then some (⟨g, 0, none⟩ : Addr) else some ⟨g, (i + 1) * 14, none⟩) = some ad ∧ Hid (∀ w0, Lo w w0 → ∀ (j : Nat) u, Xs[j]? = some u → w0.cell? (ad.add j) = some u) := by
    by_cases h : cap = i + 1
    · refine ⟨⟨g, 0, none⟩, if_pos h, Lib.hid fun w0 hl j u hj => ?_⟩
      have := (List.getElem?_eq_some_iff.1 hj).1
      omega
    · exact ⟨⟨g, (i + 1) * 14, none⟩, if_neg h, hsrc⟩
  go_region_law (refine step_append_roomN rfl (.tmp 22) (.tmp 25) 27 42 i0 14 rfl Try.underlying27 hi hz1 g i cap ad (n - (i + 1)) (cap - (i + 1)) (by simp [Act.eval, Act.put]) (by simp [Act.eval, Act.put, had]) cur fz HG.out HF.out Xs hlen (hadc.out _ (Lo.refl w).drew) (by omega) hfit0 (show i + (n - (i + 1)) = n - 1 by omega) hone ?_; intro w1 HG1 hgr1)
  have hgr1 : w.grownBy w1 (some g) := grown_trans (grown_of_lo (Lo.refl w).drew) hgr1
  have q0 : ((n - 1 : Nat) : Int) ≤ (n : Int) := by omega
  have q1 : (0 : Int) ≤ ((n - 1 : Nat) : Int) := by omega
  have q2 : ¬ (cap = n - 1) := by omega
  have q3 : n - (n - 1) = 1 := by omega
  have HF1 : Hid (FzOk fz (splice cur (i * 14) Xs).length) := Lib.hid (by rw [hsl]; exact HF.out)
  have hzc : (Value.agg #[.int .i64 0, .int .u64 0, .int .u64 0, .int .i64 0, .int .u64 0, .string ⟨#[]⟩, .string ⟨#[]⟩, .int .u64 0, .int .u32 0, .int .u64 0, .int .u32 0, .int .i64 0, .int .u64 0, .slice none 0 0]).cells.size = 14 := rfl
  have hzf : (n - 1) * 14 + 1 * (Value.agg #[.int .i64 0, .int .u64 0, .int .u64 0, .int .i64 0, .int .u64 0, .string ⟨#[]⟩, .string ⟨#[]⟩, .int .u64 0, .int .u32 0, .int .u64 0, .int .u32 0, .int .i64 0, .int .u64 0, .slice none 0 0]).cells.size ≤ (splice cur (i * 14) Xs).length := by rw [hsl, hzc]; omega
  have hz1' : ∀ u ∈ (Value.agg #[.int .i64 0, .int .u64 0, .int .u64 0, .int .i64 0, .int .u64 0, .string ⟨#[]⟩, .string ⟨#[]⟩, .int .u64 0, .int .u32 0, .int .u64 0, .int .u32 0, .int .i64 0, .int .u64 0, .slice none 0 0]).cells.toList, u.oneCell' = true := fun u hu => List.all_eq_true.1 (show (Value.agg #[.int .i64 0, .int .u64 0, .int .u64 0, .int .i64 0, .int .u64 0, .string ⟨#[]⟩, .string ⟨#[]⟩, .int .u64 0, .int .u32 0, .int .u64 0, .int .u32 0, .int .i64 0, .int .u64 0, .slice none 0 0]).cells.toList.all (·.oneCell') = true from rfl) u hu
  have hz0' : 0 < (Value.agg #[.int .i64 0, .int .u64 0, .int .u64 0, .int .i64 0, .int .u64 0, .string ⟨#[]⟩, .string ⟨#[]⟩, .int .u64 0, .int .u32 0, .int .u64 0, .int .u32 0, .int .i64 0, .int .u64 0, .slice none 0 0]).cells.size := by rw [hzc]; omega
  have h01 : 0 < 1 := by omega
  go_wp2_with ((refine wpList_clear_rowN rfl (.tmp 31) 27 rfl 42 i0 (.agg #[.int .i64 0, .int .u64 0, .int .u64 0, .int .i64 0, .int .u64 0, .string ⟨#[]⟩, .string ⟨#[]⟩, .int .u64 0, .int .u32 0, .int .u64 0, .int .u32 0, .int .i64 0, .int .u64 0, .slice none 0 0]) Try.underlying27 hi hz0 g ((n - 1) * 14) 1 (cap - (n - 1)) rfl h01 _ 42 HG1.out HF1.out hzf hz1' hz0' ?_); intro w2 cur2 HG2 hgr2)
  go_ret
  exact ⟨rfl, grown_trans hgr1 hgr2, cur2, HG2.out.1, HG2.out.2.1.trans hsl, by rw [HG2.out.2.2]; exact HSP.out⟩
end Go.Proofs.Ytabejnjnkpdjbaa.Sim

/- Leave. -/
namespace Go.Proofs.Ytabejnjnkpdjbaa.Sim
set_option linter.unusedVariables false
set_option linter.unusedSimpArgs false
open Go.RowKit Mem
theorem delIs (rows : List (List T)) (i n : Nat) (hn : n = rows.length) (hi : i < rows.length) : LCalls Try.prog 61 [.own 2001 n, .t (.v (.int .i64 (i : Int))), .t (.v (.int .i64 ((i : Int) + 1)))] [] [(2001, ⟨42, 14, rows⟩)] (.own 1001 (n - 1)) [] [(1001, ⟨42, 14, rows.eraseIdx i⟩)] :=
  del_lift Try.func61 rfl rfl delI rows i n hn hi
theorem inO_del {A B : List AIn} {a : AIn} : ((A ++ a :: B).map inR).eraseIdx A.length = (A ++ B).map inR := by
  rw [List.map_append, List.map_cons, List.eraseIdx_append_of_length_le (by rw [List.length_map]; exact Nat.le_refl _), List.length_map, Nat.sub_self, List.map_append]; rfl
def leaveP (l : List PIn) (peer a b c owner : Int) : List PIn := match cutL (pOf peer a b c owner) l with
  | none => l
  | some (A, _, B) => A ++ B
def SLv (n r : Nat) (rows : List (List T)) (F : List (Value × Own)) (tm : List (Nat × A)) : St := ⟨(4, .bp 4 0) :: (8, .bp 8 0) :: tm, [(4, [.own r n]), (8, [.t (.v (.slice none 0 0))]), (1100, [.rs (FamR F)])], [(r, ⟨42, 14, rows⟩)]⟩
set_option maxRecDepth 100000 in
set_option maxHeartbeats 4000000 in
theorem leave_ (l : List PIn) (peer a b c owner : Int) (hn : l.length ≤ 500) (hq : ∀ t ∈ l, FewIn t) : LCalls Try.prog 15 [.t (.agg (inlT l)), .t (i64T peer), .t (idT a b c), .t (u64T owner)] [] [] (.t (.agg (inlT (leaveP l peer a b c owner)))) [] [] := by
  have c1 := ownInlet_ l (by omega) hq
  refine lcalls_of Try.func15 rfl rfl Try.ntmps15 rfl ?_
  unfold inlT idT
  repeat' (first | (refine rg 0 ?_; refine sbx ?_; refine sbx ?_; refine sal str29 ?_; refine oN ?_) | refine gc ?_ | refine ct ?_ | refine cf ?_ | refine sc ?_ ?_ <;> intro hc | refine rq rfl (.cell rfl rfl (tyT rfl) (vc .nil) rfl .nil) ?_)
  refine rg 1 ?_
  refine sp (po_load_bx_agg rfl rfl (tyT rfl) rfl (vc .nil) rfl) ?_
  refine sops_ecall c1 (fun i => i) (fun i => i) (.free rfl rfl) rfl rfl rfl (.cons rfl rfl rfl .nil) .nil .nil rfl (fun _ => rfl) fun L => ?_
  obtain ⟨L, hl⟩ := L
  have hll : L.length = l.length := by have := congrArg List.length hl; rw [List.length_map] at this; exact this
  dsimp only
  refine oS ?_
  refine oN ?_
  have c2 := of_ L peer a b c owner (by omega)
  unfold idT at c2
  rw [← hll]
  repeat' (first | (refine rg 2 (aq66 ?_); refine sops_lcall (c2) (fun i => i) (fun i => bif Nat.beq i 2001 then 1001 else i) (fun i => Nat.beq i 2001) (.free rfl rfl) rfl rfl rfl (by ((repeat' (first | exact .nil | refine .cons rfl rfl rfl ?_)) <;> fail)) .nil (.cons rfl rfl .nil) rfl rfl (kp_id 2001 rfl rfl rfl (by rfl)) ?_; refine aq0 ?_) | refine gc ?_ | refine ct ?_ | refine cf ?_ | refine sc ?_ ?_ <;> intro hc | refine rq rfl (.cell rfl rfl (tyT rfl) (vc .nil) rfl .nil) ?_)
  rcases idxP_split (fun x : AIn => pOf peer a b c owner x.t) L with ⟨h1, h2⟩ | ⟨A, x, B, rfl, h1, h2, h3⟩
  · rw [h1]
    refine swp_weak (st' := SLv L.length 1001 (L.map inR) (famI L) [(9, .t (i64T (-1)))]) (weak_sub (.cons rfl rfl rfl (.cons rfl rfl rfl (.cons rfl rfl rfl .nil))) (.cons rfl rfl rfl (.cons rfl rfl rfl (.cons rfl rfl rfl .nil))) (.cons rfl rfl .nil)) ?_
    have hr : leaveP l peer a b c owner = l := by unfold leaveP; rw [in_miss hl h2]
    rw [hr]
    unfold SLv
    repeat' (first | refine rg 3 (aq32 ?_) | refine gc ?_ | refine ct ?_ | refine cf ?_ | refine sc ?_ ?_ <;> intro hc | refine rq rfl (.cell rfl rfl (tyT rfl) (vc .nil) rfl .nil) ?_)
    have hK : L.map (fun a => inT' a.t) = l.map inT' := by rw [← hl, List.map_map]; rfl
    have hKl : L.length = (l.map inT').length := by rw [← hK, List.length_map]
    refine swp_weak (weak_famshow 1100 1001 ((L).map fun a : AIn => inT' a.t) (fs := famI (L)) (o := inO (L)) rfl rfl (by show (List.map _ _).length = (List.map _ _).length; rw [List.length_map, List.length_map]) (by intro r hr; obtain ⟨a, _, rfl⟩ := List.mem_map.1 hr; rfl) (upl_in (L))) ?_
    rw [hK]
    refine swp_weak (weak_show 1001 101 rfl rfl rfl rfl) ?_
    repeat' (first | refine rg 5 (aq47 ?_) | refine gc ?_ | refine ct ?_ | refine cf ?_ | refine sc ?_ ?_ <;> intro hc | refine rq rfl (.cell rfl rfl (tyT rfl) (vc .nil) rfl .nil) ?_)
    exact retl1 (.inr rfl) rfl (.cellT rfl rfl (tyT rfl) (vc .nil) rfl .nil) rfl .nil .nil
  · rw [h1]
    refine swp_weak (st' := SLv (A ++ x :: B).length 1001 ((A ++ x :: B).map inR) (famI A ++ (x.u, takO x.t) :: famI B) [(9, .t (i64T ((A.length : Nat) : Int)))]) (by rw [← famI_split]; exact (weak_sub (.cons rfl rfl rfl (.cons rfl rfl rfl (.cons rfl rfl rfl .nil))) (.cons rfl rfl rfl (.cons rfl rfl rfl (.cons rfl rfl rfl .nil))) (.cons rfl rfl .nil))) ?_
    have hr : leaveP l peer a b c owner = A.map AIn.t ++ B.map AIn.t := by unfold leaveP; rw [in_split hl rfl h2 h3]
    rw [hr]
    have hge : (0 : Int) ≤ ((A.length : Nat) : Int) := by omega
    have hlt : A.length < (A ++ x :: B).length := by rw [List.length_append, List.length_cons]; omega
    have hml : ((A ++ x :: B).map inR).length = (A ++ x :: B).length := List.length_map _
    have c3 := delIs ((A ++ x :: B).map inR) A.length (A ++ x :: B).length hml.symm (by rw [hml]; exact hlt)
    rw [inO_del, show (A ++ x :: B).length - 1 = (A ++ B).length by rw [List.length_append, List.length_append, List.length_cons]; omega] at c3
    unfold SLv
    repeat' (first | refine rg 3 (aq32 ?_) | (refine rg 4 ?_; refine oFb ?_; refine oLb ?_; refine oMv ?_; refine oMv ?_; refine sp (xinc rfl) ?_; refine sops_lcall (c3) (fun i => i) (fun i => bif Nat.beq i 2001 then 1001 else 1002) (fun _ => false) (.free rfl rfl) rfl rfl rfl (by ((repeat' (first | exact .nil | refine .cons rfl rfl rfl ?_)) <;> fail)) .nil (.cons rfl rfl .nil) rfl rfl (fun _ h => Bool.noConfusion h) ?_; refine oFb ?_; refine oS ?_; refine oN ?_) | refine gc ?_ | refine ct ?_ | refine cf ?_ | refine sc ?_ ?_ <;> intro hc | refine rq rfl (.cell rfl rfl (tyT rfl) (vc .nil) rfl .nil) ?_)
    refine swp_weak (weak_dropF 1100 (famI A) (famI B) (x.u, takO x.t) rfl) ?_
    rw [← famI_app]
    refine swp_weak (st' := SLv (A ++ B).length 1002 ((A ++ B).map inR) (famI (A ++ B)) []) (weak_sub (.cons rfl rfl rfl (.cons rfl rfl rfl .nil)) (.cons rfl rfl rfl (.cons rfl rfl rfl (.cons rfl rfl rfl .nil))) (.cons rfl rfl .nil)) ?_
    unfold SLv
    have hK : (A ++ B).map (fun a => inT' a.t) = (A.map AIn.t ++ B.map AIn.t).map inT' := by simp; rfl
    have hKl : (A ++ B).length = ((A.map AIn.t ++ B.map AIn.t).map inT').length := by simp
    refine swp_weak (weak_famshow 1100 1002 ((A ++ B).map fun a : AIn => inT' a.t) (fs := famI (A ++ B)) (o := inO (A ++ B)) rfl rfl (by show (List.map _ _).length = (List.map _ _).length; rw [List.length_map, List.length_map]) (by intro r hr; obtain ⟨a, _, rfl⟩ := List.mem_map.1 hr; rfl) (upl_in (A ++ B))) ?_
    rw [hK]
    refine swp_weak (weak_show 1002 102 rfl rfl rfl rfl) ?_
    repeat' (first | refine rg 5 (aq47 ?_) | refine gc ?_ | refine ct ?_ | refine cf ?_ | refine sc ?_ ?_ <;> intro hc | refine rq rfl (.cell rfl rfl (tyT rfl) (vc .nil) rfl .nil) ?_)
    exact retl1 (.inr rfl) rfl (.cellT rfl rfl (tyT rfl) (vc .nil) rfl .nil) rfl .nil .nil
end Go.Proofs.Ytabejnjnkpdjbaa.Sim

/- long: how much there is of a pool. -/
namespace Go.Proofs.Ytabejnjnkpdjbaa.Sim
set_option linter.unusedVariables false
set_option linter.unusedSimpArgs false
open Go.RowKit Mem
theorem sum_take {α : Type} (f : α → Nat) (l : List α) (k : Nat) (h : k < l.length) : ((l.take (k + 1)).map f).sum = ((l.take k).map f).sum + f l[k] := by
  rw [List.take_succ_eq_append_getElem h, List.map_append, List.sum_append]; simp
theorem sum_take_le {α : Type} (f : α → Nat) (l : List α) (k : Nat) : ((l.take k).map f).sum ≤ (l.map f).sum := by
  conv => rhs; rw [← List.take_append_drop k l, List.map_append, List.sum_append]
  omega
theorem po_quo64 {P : Program} {bx : List (Nat × List A)} {ow : List (Nat × Own)} {o : Oper} {ρ : Operand → Option A} {t t2 : TypeId} {x y : Operand} {m : Nat} (ho : o.op = .binOp .quo t x y t2) (hx : ρ x = some (.t (.v (.int .i64 (m : Int))))) (hy : ρ y = some (.t (.v (.int .i64 64)))) (hm : m ≤ 9223372036854775807) : PureOp P bx ow o ρ (.t (.v (.int .i64 ((m / 64 : Nat) : Int)))) := by
  have h := po_quo (P := P) (bx := bx) (ow := ow) ho hx hy (by omega)
  have e : IntKind.i64.wrap ((m : Int).tdiv 64) = ((m / 64 : Nat) : Int) := by
    rw [show (64 : Int) = ((64 : Nat) : Int) from rfl, ← Int.ofNat_tdiv]
    exact wrap_i64 (by omega)
  rw [e] at h; exact h
theorem po_addn {P : Program} {bx : List (Nat × List A)} {ow : List (Nat × Own)} {o : Oper} {ρ : Operand → Option A} {t t2 : TypeId} {x y : Operand} {m n : Nat} (ho : o.op = .binOp .add t x y t2) (hx : ρ x = some (.t (.v (.int .i64 (m : Int))))) (hy : ρ y = some (.t (.v (.int .i64 (n : Int))))) (hm : m + n ≤ 9223372036854775807) : PureOp P bx ow o ρ (.t (.v (.int .i64 ((m + n : Nat) : Int)))) :=
  po_arith ho hx hy (ar_add (by refine wrap_i64 ?_; omega) (by omega))
theorem po_lens {P : Program} {bx : List (Nat × List A)} {ow : List (Nat × Own)} {o : Oper} {ρ : Operand → Option A} {t t2 : TypeId} {x y : Operand} {n : Nat} (ho : o.op = .binOp .add t x y t2) (hx : ρ x = some (.t (.v (.int .i64 1)))) (hy : ρ y = some (.t (.v (.int .i64 (n : Int))))) (hm : n ≤ 9223372036854775806) : PureOp P bx ow o ρ (.t (.v (.int .i64 ((1 + n : Nat) : Int)))) :=
  po_addn (m := 1) ho hx hy (by omega)
def cnt (n part all : Nat) : Prop := (n = part ∧ n ≤ all) ∨ (500 < n ∧ n ≤ all)
end Go.Proofs.Ytabejnjnkpdjbaa.Sim
