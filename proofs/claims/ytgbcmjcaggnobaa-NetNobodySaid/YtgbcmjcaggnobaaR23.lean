/- Merged by bundles.py: SimObd, Open0, Rel23. -/
import Derived.Test.YtgbcmjcaggnobaaR22
import Derived.Test.YtgbcmjcaggnobaaR13
import Derived.Test.YtgbcmjcaggnobaaR0
import Derived.Deep.Slices
import Derived.Test.YtgbcmjcaggnobaaR21
import Derived.OpenShut
/- does: any call on a net that is none. -/
namespace Go.Proofs.Ytgbcmjcaggnobaa.Sim
set_option linter.unusedVariables false
set_option linter.unusedSimpArgs false
open Go.RowKit Mem
theorem le_tu3b {m : Mm} {g : Gh} {v : Value} (h : AR m g (.tu [.t msg0, .t (.v (.int .i64 0)), .t (.v (.int .i64 1))]) v) : AR m g (.tu [.t (msgA msgZ), .t (.v (.int .i64 0)), .t (.v (.int .i64 1))]) v := by
  obtain ⟨vs, h1, h2, h3⟩ := h
  refine ⟨vs, h1, h2, fun j x u hj hu => ?_⟩
  match j, hj with
  | 0, hj => injection hj with hj; subst hj; exact le_msg0 m u (h3 0 _ u rfl hu)
  | 1, hj => exact h3 1 x u hj hu
  | 2, hj => exact h3 2 x u hj hu
theorem knd_small {k : Nat} (h : k < 7) : knd (k : Int) = k := by
  have key : ∀ k : Nat, k < 7 → knd (k : Int) = k := by decide +kernel
  exact key k h
section
variable {q : T} (hq : NobQ q)
include hq
def DoesOb (q : T) (h : PHop) : Prop := LCalls Try.prog 14 [.t q, .t (hopT h)] [] [] (.tu [.t (msgA msgZ), .t (.v (.int .i64 0)), .t (.v (.int .i64 1))]) [] []
set_option maxRecDepth 100000 in
set_option maxHeartbeats 2000000 in
theorem dob_send (h : PHop) (hl : h.load.length ≤ 4000000) (hk : knd h.kind = 0 ∨ knd h.kind = 1) : DoesOb q h := by
  unfold DoesOb
  refine LCalls.res (r := .tu [.t msg0, .t (.v (.int .i64 0)), .t (.v (.int .i64 1))]) ?_ (fun m g v hv => le_tu3b hv)
  have c1 := send_ob hq h.f h.t h.load
  have hm : (h.load.map byteT).length = h.load.length := List.length_map _
  have hmx : (h.load.map byteT).length ≤ maxLen := by unfold maxLen; omega
  unfold hopT bysT
  unfold bO at c1
  have hkeep := hk
  clear hk
  refine lcalls_of Try.func14 rfl rfl Try.ntmps14 rfl ?_
  by_cases k0 : knd h.kind = 0
  · repeat' (first | (refine rg 0 ?_; refine sbx ?_; refine sal str32 ?_; refine oAs ?_; refine oAs ?_; refine oN ?_) | (refine rg 1 ?_; refine sal str32 ?_; refine oN ?_) | (refine rg 2 ?_; refine oFb ?_; (first | refine sp (po_load_ntn rfl rfl (tyT rfl) rfl) ?_ | refine sp (po_load_ntk rfl rfl (tyT rfl) rfl (by first | assumption | omega) (by assumption) rfl) ?_ | refine oLb ?_); refine sp (po_knd rfl rfl rfl) ?_; refine oN ?_) | (refine rg 3 ?_; refine oCm ?_; refine oAs ?_; refine oN ?_) | (refine rg 5 ?_; refine sops_build0i 1001 (.free rfl rfl) rfl rfl rfl (tyE rfl) rfl ?_; refine oFb ?_; (first | refine sp (po_load_ntn rfl rfl (tyT rfl) rfl) ?_ | refine sp (po_load_ntk rfl rfl (tyT rfl) rfl (by first | assumption | omega) (by assumption) rfl) ?_ | refine oLb ?_); refine sap rfl (tyE rfl) ?_; refine oAs ?_; refine oN ?_) | (refine rg 6 ?_; refine oMv ?_; refine oFb ?_; (first | refine sp (po_load_ntn rfl rfl (tyT rfl) rfl) ?_ | refine sp (po_load_ntk rfl rfl (tyT rfl) rfl (by first | assumption | omega) (by assumption) rfl) ?_ | refine oLb ?_); refine oFb ?_; (first | refine sp (po_load_ntn rfl rfl (tyT rfl) rfl) ?_ | refine sp (po_load_ntk rfl rfl (tyT rfl) rfl (by first | assumption | omega) (by assumption) rfl) ?_ | refine oLb ?_); refine oMv ?_; refine sops_lcall (c1) (fun i => i) (fun i => 1001) (fun i => Nat.beq i 2000) (.free rfl rfl) rfl rfl rfl (by ((repeat' (first | exact .nil | refine .cons rfl rfl rfl ?_)) <;> fail)) .nil (.cons rfl rfl .nil) rfl rfl (kp_one rfl rfl rfl) ?_; refine oAs ?_; refine oN ?_) | refine gc ?_ | refine ct ?_ | refine cf ?_ | refine swp_cond rfl (fun hc => ?_) (fun hc => ?_) | refine rq rfl (.cell rfl rfl (tyT rfl) (vc (vc (vc .nil))) rfl (rt (rt .nil))) ?_)
    by_cases hn : h.load = []
    · refine rg 7 ?_
      refine oMv ?_
      refine sops_clear0 (i := 1001) (.free rfl rfl) rfl rfl rfl (.inl ⟨_, rfl, by rw [hn]; rfl⟩) (by kernel_rfl) ?_
      refine oN ?_
      repeat' (first | (refine rg 8 ?_; (refine sp (po_load_bx_agg rfl rfl (tyT rfl) rfl (vc (vc (vc .nil))) rfl) ?_); refine oMv ?_; refine oS ?_; refine oAs ?_; refine oAs ?_; refine oN ?_) | refine gc ?_ | refine ct ?_ | refine cf ?_ | refine swp_cond rfl (fun hc => ?_) (fun hc => ?_) | refine retl (by exact .inr rfl) rfl (.cellT rfl rfl (tyT rfl) (vc (vc (vc .nil))) rfl (.tmpT rfl (by first | exact .t _ | exact .own rfl (by rfl) | exact .nil _ | exact .emp _ | exact .fn _) (.tmpT rfl (by first | exact .t _ | exact .own rfl (by rfl) | exact .nil _ | exact .emp _ | exact .fn _) .nil))) ?_ rfl .nil .nil)
      rfl
    · have hpos := List.length_pos_iff.2 hn
      refine rg 7 ?_
      refine oMv ?_
      refine sops_weak (weak_own_sfx (s := 32) (sz := 1) rfl rfl rfl (by simp; omega)) ?_
      refine sops_clear (by rfl) (.free rfl rfl) rfl rfl rfl rfl rfl (by simp; omega) (tyE rfl) uz rfl ?_
      refine oN ?_
      repeat' (first | (refine rg 8 ?_; (refine sp (po_load_bx_agg rfl rfl (tyT rfl) rfl (vc (vc (vc .nil))) rfl) ?_); refine oMv ?_; refine oS ?_; refine oAs ?_; refine oAs ?_; refine oN ?_) | refine gc ?_ | refine ct ?_ | refine cf ?_ | refine swp_cond rfl (fun hc => ?_) (fun hc => ?_) | refine retl (by exact .inr rfl) rfl (.cellT rfl rfl (tyT rfl) (vc (vc (vc .nil))) rfl (.tmpT rfl (by first | exact .t _ | exact .own rfl (by rfl) | exact .nil _ | exact .emp _ | exact .fn _) (.tmpT rfl (by first | exact .t _ | exact .own rfl (by rfl) | exact .nil _ | exact .emp _ | exact .fn _) .nil))) ?_ rfl .nil .nil)
      rfl
  · have k1 : knd h.kind = 1 := hkeep.resolve_left k0
    repeat' (first | (refine rg 0 ?_; refine sbx ?_; refine sal str32 ?_; refine oAs ?_; refine oAs ?_; refine oN ?_) | (refine rg 1 ?_; refine sal str32 ?_; refine oN ?_) | (refine rg 2 ?_; refine oFb ?_; (first | refine sp (po_load_ntn rfl rfl (tyT rfl) rfl) ?_ | refine sp (po_load_ntk rfl rfl (tyT rfl) rfl (by first | assumption | omega) (by assumption) rfl) ?_ | refine oLb ?_); refine sp (po_knd rfl rfl rfl) ?_; refine oN ?_) | (refine rg 3 ?_; refine oCm ?_; refine oAs ?_; refine oN ?_) | (refine rg 4 ?_; refine oCm ?_; refine oAs ?_; refine oN ?_) | (refine rg 5 ?_; refine sops_build0i 1001 (.free rfl rfl) rfl rfl rfl (tyE rfl) rfl ?_; refine oFb ?_; (first | refine sp (po_load_ntn rfl rfl (tyT rfl) rfl) ?_ | refine sp (po_load_ntk rfl rfl (tyT rfl) rfl (by first | assumption | omega) (by assumption) rfl) ?_ | refine oLb ?_); refine sap rfl (tyE rfl) ?_; refine oAs ?_; refine oN ?_) | (refine rg 6 ?_; refine oMv ?_; refine oFb ?_; (first | refine sp (po_load_ntn rfl rfl (tyT rfl) rfl) ?_ | refine sp (po_load_ntk rfl rfl (tyT rfl) rfl (by first | assumption | omega) (by assumption) rfl) ?_ | refine oLb ?_); refine oFb ?_; (first | refine sp (po_load_ntn rfl rfl (tyT rfl) rfl) ?_ | refine sp (po_load_ntk rfl rfl (tyT rfl) rfl (by first | assumption | omega) (by assumption) rfl) ?_ | refine oLb ?_); refine oMv ?_; refine sops_lcall (c1) (fun i => i) (fun i => 1001) (fun i => Nat.beq i 2000) (.free rfl rfl) rfl rfl rfl (by ((repeat' (first | exact .nil | refine .cons rfl rfl rfl ?_)) <;> fail)) .nil (.cons rfl rfl .nil) rfl rfl (kp_one rfl rfl rfl) ?_; refine oAs ?_; refine oN ?_) | refine gc ?_ | refine ct ?_ | refine cf ?_ | refine swp_cond rfl (fun hc => ?_) (fun hc => ?_) | refine rq rfl (.cell rfl rfl (tyT rfl) (vc (vc (vc .nil))) rfl (rt (rt .nil))) ?_)
    by_cases hn : h.load = []
    · refine rg 7 ?_
      refine oMv ?_
      refine sops_clear0 (i := 1001) (.free rfl rfl) rfl rfl rfl (.inl ⟨_, rfl, by rw [hn]; rfl⟩) (by kernel_rfl) ?_
      refine oN ?_
      repeat' (first | (refine rg 8 ?_; (refine sp (po_load_bx_agg rfl rfl (tyT rfl) rfl (vc (vc (vc .nil))) rfl) ?_); refine oMv ?_; refine oS ?_; refine oAs ?_; refine oAs ?_; refine oN ?_) | refine gc ?_ | refine ct ?_ | refine cf ?_ | refine swp_cond rfl (fun hc => ?_) (fun hc => ?_) | refine retl (by exact .inr rfl) rfl (.cellT rfl rfl (tyT rfl) (vc (vc (vc .nil))) rfl (.tmpT rfl (by first | exact .t _ | exact .own rfl (by rfl) | exact .nil _ | exact .emp _ | exact .fn _) (.tmpT rfl (by first | exact .t _ | exact .own rfl (by rfl) | exact .nil _ | exact .emp _ | exact .fn _) .nil))) ?_ rfl .nil .nil)
      rfl
    · have hpos := List.length_pos_iff.2 hn
      refine rg 7 ?_
      refine oMv ?_
      refine sops_weak (weak_own_sfx (s := 32) (sz := 1) rfl rfl rfl (by simp; omega)) ?_
      refine sops_clear (by rfl) (.free rfl rfl) rfl rfl rfl rfl rfl (by simp; omega) (tyE rfl) uz rfl ?_
      refine oN ?_
      repeat' (first | (refine rg 8 ?_; (refine sp (po_load_bx_agg rfl rfl (tyT rfl) rfl (vc (vc (vc .nil))) rfl) ?_); refine oMv ?_; refine oS ?_; refine oAs ?_; refine oAs ?_; refine oN ?_) | refine gc ?_ | refine ct ?_ | refine cf ?_ | refine swp_cond rfl (fun hc => ?_) (fun hc => ?_) | refine retl (by exact .inr rfl) rfl (.cellT rfl rfl (tyT rfl) (vc (vc (vc .nil))) rfl (.tmpT rfl (by first | exact .t _ | exact .own rfl (by rfl) | exact .nil _ | exact .emp _ | exact .fn _) (.tmpT rfl (by first | exact .t _ | exact .own rfl (by rfl) | exact .nil _ | exact .emp _ | exact .fn _) .nil))) ?_ rfl .nil .nil)
      rfl
set_option maxRecDepth 100000 in
set_option maxHeartbeats 2000000 in
theorem dob_drop (h : PHop) (hk : knd h.kind = 3) : DoesOb q h := by
  unfold DoesOb
  refine LCalls.res (r := .tu [.t msg0, .t (.v (.int .i64 0)), .t (.v (.int .i64 1))]) ?_ (fun m g v hv => le_tu3b hv)
  have c1 := drop_ob hq h.f h.t h.no
  unfold hopT
  refine lcalls_of Try.func14 rfl rfl Try.ntmps14 rfl ?_
  repeat' (first | (refine rg 0 ?_; refine sbx ?_; refine sal str32 ?_; refine oAs ?_; refine oAs ?_; refine oN ?_) | (refine rg 1 ?_; refine sal str32 ?_; refine oN ?_) | (refine rg 2 ?_; refine oFb ?_; (first | refine sp (po_load_ntn rfl rfl (tyT rfl) rfl) ?_ | refine sp (po_load_ntk rfl rfl (tyT rfl) rfl (by first | assumption | omega) (by assumption) rfl) ?_ | refine oLb ?_); refine sp (po_knd rfl rfl rfl) ?_; refine oN ?_) | (refine rg 3 ?_; refine oCm ?_; refine oAs ?_; refine oN ?_) | (refine rg 4 ?_; refine oCm ?_; refine oAs ?_; refine oN ?_) | (refine rg 9 ?_; refine oCm ?_; refine oAs ?_; refine oN ?_) | (refine rg 12 ?_; refine oCm ?_; refine oAs ?_; refine oN ?_) | ((refine swp_any (id := 13) [[], [], [], [], [], [], [], [], [], [4], [], []] [[], [], [], [], [], [], [], [], [], [], [], []] mixed (by kernel_rfl) ?_) <;> (first | refine yp (fun _ _ => po_knd rfl rfl rfl) ?_ | refine yp (fun _ _ => po_load_bx_agg rfl rfl (tyT rfl) rfl (vc (vc (vc .nil))) rfl) ?_) <;> (first | refine yp (fun _ _ => po_knd rfl rfl rfl) ?_ | refine yp (fun _ _ => po_move rfl rfl) ?_) <;> (first | refine yp (fun _ _ => po_knd rfl rfl rfl) ?_ | refine yp (fun _ _ => po_field_bx rfl rfl (tyF rfl)) ?_) <;> (first | refine yp (fun _ _ => po_knd rfl rfl rfl) ?_ | refine yp (fun _ _ => po_load_ntn rfl rfl (tyT rfl) rfl) ?_ | refine yp (fun _ _ => po_load_ntk rfl rfl (tyT rfl) rfl (by first | assumption | omega) (by assumption) rfl) ?_ | refine yp (fun _ _ => po_load_bx rfl rfl (tyT rfl) rfl rfl) ?_) <;> (first | refine yp (fun _ _ => po_knd rfl rfl rfl) ?_ | refine yp (fun _ _ => po_field_bx rfl rfl (tyF rfl)) ?_) <;> (first | refine yp (fun _ _ => po_knd rfl rfl rfl) ?_ | refine yp (fun _ _ => po_load_ntn rfl rfl (tyT rfl) rfl) ?_ | refine yp (fun _ _ => po_load_ntk rfl rfl (tyT rfl) rfl (by first | assumption | omega) (by assumption) rfl) ?_ | refine yp (fun _ _ => po_load_bx rfl rfl (tyT rfl) rfl rfl) ?_) <;> (first | refine yp (fun _ _ => po_knd rfl rfl rfl) ?_ | refine yp (fun _ _ => po_field_bx rfl rfl (tyF rfl)) ?_) <;> (first | refine yp (fun _ _ => po_knd rfl rfl rfl) ?_ | refine yp (fun _ _ => po_load_ntn rfl rfl (tyT rfl) rfl) ?_ | refine yp (fun _ _ => po_load_ntk rfl rfl (tyT rfl) rfl (by first | assumption | omega) (by assumption) rfl) ?_ | refine yp (fun _ _ => po_load_bx rfl rfl (tyT rfl) rfl rfl) ?_) <;> (refine sany_eff [] [] (.free rfl rfl) rfl rfl (fun _ _ hb ho => (e_lcall (c1) (fun i => i) (fun i => i) rfl (by ((repeat' (first | exact .nil | refine .cons rfl rfl rfl ?_)) <;> fail)) .nil .nil rfl rfl (by ((repeat' (exact .nil)) <;> fail)) (by ((repeat' (exact .nil)) <;> fail)) .nil)) ?_) <;> refine sany_eff [(4, _)] [] (.free rfl rfl) rfl rfl (fun _ _ _ _ => e_store rfl rfl rfl rfl rfl rfl (tyT rfl) rfl rfl) ?_ <;> (first | refine yp (fun _ _ => po_knd rfl rfl rfl) ?_ | refine yp (fun _ _ => po_assign rfl rfl) ?_) <;> (first | refine yp (fun _ _ => po_knd rfl rfl rfl) ?_ | refine yp (fun _ _ => po_assign rfl rfl) ?_) <;> refine sany_nil ?_) | refine gc ?_ | refine ct ?_ | refine cf ?_ | refine swp_cond rfl (fun hc => ?_) (fun hc => ?_) | refine retl (by exact .inr rfl) rfl (.cellT rfl rfl (tyT rfl) (vc (vc (vc .nil))) rfl (.tmpT rfl (by first | exact .t _ | exact .own rfl (by rfl) | exact .nil _ | exact .emp _ | exact .fn _) (.tmpT rfl (by first | exact .t _ | exact .own rfl (by rfl) | exact .nil _ | exact .emp _ | exact .fn _) .nil))) ?_ rfl .nil .nil)
  rfl
set_option maxRecDepth 100000 in
set_option maxHeartbeats 2000000 in
theorem dob_double (h : PHop) (hk : knd h.kind = 4) : DoesOb q h := by
  unfold DoesOb
  refine LCalls.res (r := .tu [.t msg0, .t (.v (.int .i64 0)), .t (.v (.int .i64 1))]) ?_ (fun m g v hv => le_tu3b hv)
  have c1 := double_ob hq h.f h.t h.no
  unfold hopT
  refine lcalls_of Try.func14 rfl rfl Try.ntmps14 rfl ?_
  repeat' (first | (refine rg 0 ?_; refine sbx ?_; refine sal str32 ?_; refine oAs ?_; refine oAs ?_; refine oN ?_) | (refine rg 1 ?_; refine sal str32 ?_; refine oN ?_) | (refine rg 2 ?_; refine oFb ?_; (first | refine sp (po_load_ntn rfl rfl (tyT rfl) rfl) ?_ | refine sp (po_load_ntk rfl rfl (tyT rfl) rfl (by first | assumption | omega) (by assumption) rfl) ?_ | refine oLb ?_); refine sp (po_knd rfl rfl rfl) ?_; refine oN ?_) | (refine rg 3 ?_; refine oCm ?_; refine oAs ?_; refine oN ?_) | (refine rg 4 ?_; refine oCm ?_; refine oAs ?_; refine oN ?_) | (refine rg 9 ?_; refine oCm ?_; refine oAs ?_; refine oN ?_) | (refine rg 12 ?_; refine oCm ?_; refine oAs ?_; refine oN ?_) | (refine rg 14 ?_; refine oCm ?_; refine oAs ?_; refine oN ?_) | ((refine swp_any (id := 15) [[], [], [], [], [], [], [], [], [], [4], [], []] [[], [], [], [], [], [], [], [], [], [], [], []] mixed (by kernel_rfl) ?_) <;> (first | refine yp (fun _ _ => po_knd rfl rfl rfl) ?_ | refine yp (fun _ _ => po_load_bx_agg rfl rfl (tyT rfl) rfl (vc (vc (vc .nil))) rfl) ?_) <;> (first | refine yp (fun _ _ => po_knd rfl rfl rfl) ?_ | refine yp (fun _ _ => po_move rfl rfl) ?_) <;> (first | refine yp (fun _ _ => po_knd rfl rfl rfl) ?_ | refine yp (fun _ _ => po_field_bx rfl rfl (tyF rfl)) ?_) <;> (first | refine yp (fun _ _ => po_knd rfl rfl rfl) ?_ | refine yp (fun _ _ => po_load_ntn rfl rfl (tyT rfl) rfl) ?_ | refine yp (fun _ _ => po_load_ntk rfl rfl (tyT rfl) rfl (by first | assumption | omega) (by assumption) rfl) ?_ | refine yp (fun _ _ => po_load_bx rfl rfl (tyT rfl) rfl rfl) ?_) <;> (first | refine yp (fun _ _ => po_knd rfl rfl rfl) ?_ | refine yp (fun _ _ => po_field_bx rfl rfl (tyF rfl)) ?_) <;> (first | refine yp (fun _ _ => po_knd rfl rfl rfl) ?_ | refine yp (fun _ _ => po_load_ntn rfl rfl (tyT rfl) rfl) ?_ | refine yp (fun _ _ => po_load_ntk rfl rfl (tyT rfl) rfl (by first | assumption | omega) (by assumption) rfl) ?_ | refine yp (fun _ _ => po_load_bx rfl rfl (tyT rfl) rfl rfl) ?_) <;> (first | refine yp (fun _ _ => po_knd rfl rfl rfl) ?_ | refine yp (fun _ _ => po_field_bx rfl rfl (tyF rfl)) ?_) <;> (first | refine yp (fun _ _ => po_knd rfl rfl rfl) ?_ | refine yp (fun _ _ => po_load_ntn rfl rfl (tyT rfl) rfl) ?_ | refine yp (fun _ _ => po_load_ntk rfl rfl (tyT rfl) rfl (by first | assumption | omega) (by assumption) rfl) ?_ | refine yp (fun _ _ => po_load_bx rfl rfl (tyT rfl) rfl rfl) ?_) <;> (refine sany_eff [] [] (.free rfl rfl) rfl rfl (fun _ _ hb ho => (e_lcall (c1) (fun i => i) (fun i => i) rfl (by ((repeat' (first | exact .nil | refine .cons rfl rfl rfl ?_)) <;> fail)) .nil .nil rfl rfl (by ((repeat' (exact .nil)) <;> fail)) (by ((repeat' (exact .nil)) <;> fail)) .nil)) ?_) <;> refine sany_eff [(4, _)] [] (.free rfl rfl) rfl rfl (fun _ _ _ _ => e_store rfl rfl rfl rfl rfl rfl (tyT rfl) rfl rfl) ?_ <;> (first | refine yp (fun _ _ => po_knd rfl rfl rfl) ?_ | refine yp (fun _ _ => po_assign rfl rfl) ?_) <;> (first | refine yp (fun _ _ => po_knd rfl rfl rfl) ?_ | refine yp (fun _ _ => po_assign rfl rfl) ?_) <;> refine sany_nil ?_) | refine gc ?_ | refine ct ?_ | refine cf ?_ | refine swp_cond rfl (fun hc => ?_) (fun hc => ?_) | refine retl (by exact .inr rfl) rfl (.cellT rfl rfl (tyT rfl) (vc (vc (vc .nil))) rfl (.tmpT rfl (by first | exact .t _ | exact .own rfl (by rfl) | exact .nil _ | exact .emp _ | exact .fn _) (.tmpT rfl (by first | exact .t _ | exact .own rfl (by rfl) | exact .nil _ | exact .emp _ | exact .fn _) .nil))) ?_ rfl .nil .nil)
  rfl
set_option maxRecDepth 100000 in
set_option maxHeartbeats 2000000 in
theorem dob_front (h : PHop) (hk : knd h.kind = 5) : DoesOb q h := by
  unfold DoesOb
  refine LCalls.res (r := .tu [.t msg0, .t (.v (.int .i64 0)), .t (.v (.int .i64 1))]) ?_ (fun m g v hv => le_tu3b hv)
  have c1 := front_ob hq h.f h.t h.no
  unfold hopT
  refine lcalls_of Try.func14 rfl rfl Try.ntmps14 rfl ?_
  repeat' (first | (refine rg 0 ?_; refine sbx ?_; refine sal str32 ?_; refine oAs ?_; refine oAs ?_; refine oN ?_) | (refine rg 1 ?_; refine sal str32 ?_; refine oN ?_) | (refine rg 2 ?_; refine oFb ?_; (first | refine sp (po_load_ntn rfl rfl (tyT rfl) rfl) ?_ | refine sp (po_load_ntk rfl rfl (tyT rfl) rfl (by first | assumption | omega) (by assumption) rfl) ?_ | refine oLb ?_); refine sp (po_knd rfl rfl rfl) ?_; refine oN ?_) | (refine rg 3 ?_; refine oCm ?_; refine oAs ?_; refine oN ?_) | (refine rg 4 ?_; refine oCm ?_; refine oAs ?_; refine oN ?_) | (refine rg 9 ?_; refine oCm ?_; refine oAs ?_; refine oN ?_) | (refine rg 12 ?_; refine oCm ?_; refine oAs ?_; refine oN ?_) | (refine rg 14 ?_; refine oCm ?_; refine oAs ?_; refine oN ?_) | (refine rg 16 ?_; refine oCm ?_; refine oAs ?_; refine oN ?_) | ((refine swp_any (id := 17) [[], [], [], [], [], [], [], [], [], [4], [], []] [[], [], [], [], [], [], [], [], [], [], [], []] mixed (by kernel_rfl) ?_) <;> (first | refine yp (fun _ _ => po_knd rfl rfl rfl) ?_ | refine yp (fun _ _ => po_load_bx_agg rfl rfl (tyT rfl) rfl (vc (vc (vc .nil))) rfl) ?_) <;> (first | refine yp (fun _ _ => po_knd rfl rfl rfl) ?_ | refine yp (fun _ _ => po_move rfl rfl) ?_) <;> (first | refine yp (fun _ _ => po_knd rfl rfl rfl) ?_ | refine yp (fun _ _ => po_field_bx rfl rfl (tyF rfl)) ?_) <;> (first | refine yp (fun _ _ => po_knd rfl rfl rfl) ?_ | refine yp (fun _ _ => po_load_ntn rfl rfl (tyT rfl) rfl) ?_ | refine yp (fun _ _ => po_load_ntk rfl rfl (tyT rfl) rfl (by first | assumption | omega) (by assumption) rfl) ?_ | refine yp (fun _ _ => po_load_bx rfl rfl (tyT rfl) rfl rfl) ?_) <;> (first | refine yp (fun _ _ => po_knd rfl rfl rfl) ?_ | refine yp (fun _ _ => po_field_bx rfl rfl (tyF rfl)) ?_) <;> (first | refine yp (fun _ _ => po_knd rfl rfl rfl) ?_ | refine yp (fun _ _ => po_load_ntn rfl rfl (tyT rfl) rfl) ?_ | refine yp (fun _ _ => po_load_ntk rfl rfl (tyT rfl) rfl (by first | assumption | omega) (by assumption) rfl) ?_ | refine yp (fun _ _ => po_load_bx rfl rfl (tyT rfl) rfl rfl) ?_) <;> (first | refine yp (fun _ _ => po_knd rfl rfl rfl) ?_ | refine yp (fun _ _ => po_field_bx rfl rfl (tyF rfl)) ?_) <;> (first | refine yp (fun _ _ => po_knd rfl rfl rfl) ?_ | refine yp (fun _ _ => po_load_ntn rfl rfl (tyT rfl) rfl) ?_ | refine yp (fun _ _ => po_load_ntk rfl rfl (tyT rfl) rfl (by first | assumption | omega) (by assumption) rfl) ?_ | refine yp (fun _ _ => po_load_bx rfl rfl (tyT rfl) rfl rfl) ?_) <;> (refine sany_eff [] [] (.free rfl rfl) rfl rfl (fun _ _ hb ho => (e_lcall (c1) (fun i => i) (fun i => i) rfl (by ((repeat' (first | exact .nil | refine .cons rfl rfl rfl ?_)) <;> fail)) .nil .nil rfl rfl (by ((repeat' (exact .nil)) <;> fail)) (by ((repeat' (exact .nil)) <;> fail)) .nil)) ?_) <;> refine sany_eff [(4, _)] [] (.free rfl rfl) rfl rfl (fun _ _ _ _ => e_store rfl rfl rfl rfl rfl rfl (tyT rfl) rfl rfl) ?_ <;> (first | refine yp (fun _ _ => po_knd rfl rfl rfl) ?_ | refine yp (fun _ _ => po_assign rfl rfl) ?_) <;> (first | refine yp (fun _ _ => po_knd rfl rfl rfl) ?_ | refine yp (fun _ _ => po_assign rfl rfl) ?_) <;> refine sany_nil ?_) | refine gc ?_ | refine ct ?_ | refine cf ?_ | refine swp_cond rfl (fun hc => ?_) (fun hc => ?_) | refine retl (by exact .inr rfl) rfl (.cellT rfl rfl (tyT rfl) (vc (vc (vc .nil))) rfl (.tmpT rfl (by first | exact .t _ | exact .own rfl (by rfl) | exact .nil _ | exact .emp _ | exact .fn _) (.tmpT rfl (by first | exact .t _ | exact .own rfl (by rfl) | exact .nil _ | exact .emp _ | exact .fn _) .nil))) ?_ rfl .nil .nil)
  rfl
set_option maxRecDepth 100000 in
set_option maxHeartbeats 2000000 in
theorem dob_deliver (h : PHop) (hk : knd h.kind = 2) : DoesOb q h := by
  unfold DoesOb
  refine LCalls.res (r := .tu [.t msg0, .t (.v (.int .i64 0)), .t (.v (.int .i64 1))]) ?_ (fun m g v hv => le_tu3b hv)
  have c1 := deliver_ob hq h.f h.t h.no
  unfold hopT
  refine lcalls_of Try.func14 rfl rfl Try.ntmps14 rfl ?_
  repeat' (first | (refine rg 0 ?_; refine sbx ?_; refine sal str32 ?_; refine oAs ?_; refine oAs ?_; refine oN ?_) | (refine rg 1 ?_; refine sal str32 ?_; refine oN ?_) | (refine rg 2 ?_; refine oFb ?_; (first | refine sp (po_load_ntn rfl rfl (tyT rfl) rfl) ?_ | refine sp (po_load_ntk rfl rfl (tyT rfl) rfl (by first | assumption | omega) (by assumption) rfl) ?_ | refine oLb ?_); refine sp (po_knd rfl rfl rfl) ?_; refine oN ?_) | (refine rg 3 ?_; refine oCm ?_; refine oAs ?_; refine oN ?_) | (refine rg 4 ?_; refine oCm ?_; refine oAs ?_; refine oN ?_) | (refine rg 9 ?_; refine oCm ?_; refine oAs ?_; refine oN ?_) | (refine rg 10 ?_; refine oMv ?_; refine oFb ?_; (first | refine sp (po_load_ntn rfl rfl (tyT rfl) rfl) ?_ | refine sp (po_load_ntk rfl rfl (tyT rfl) rfl (by first | assumption | omega) (by assumption) rfl) ?_ | refine oLb ?_); refine oFb ?_; (first | refine sp (po_load_ntn rfl rfl (tyT rfl) rfl) ?_ | refine sp (po_load_ntk rfl rfl (tyT rfl) rfl (by first | assumption | omega) (by assumption) rfl) ?_ | refine oLb ?_); refine oFb ?_; (first | refine sp (po_load_ntn rfl rfl (tyT rfl) rfl) ?_ | refine sp (po_load_ntk rfl rfl (tyT rfl) rfl (by first | assumption | omega) (by assumption) rfl) ?_ | refine oLb ?_); refine sops_lcall (c1) (fun i => i) (fun i => i) (fun _ => false) (.free rfl rfl) rfl rfl rfl (by ((repeat' (first | exact .nil | refine .cons rfl rfl rfl ?_)) <;> fail)) .nil .nil rfl rfl (fun _ h => Bool.noConfusion h) ?_; refine oMv ?_; (first | refine oEx ?_ | refine sp (po_extract_tu rfl rfl rfl) ?_); (first | refine oEx ?_ | refine sp (po_extract_tu rfl rfl rfl) ?_); refine sal str32 ?_; refine oS ?_; refine oAs ?_; refine oN ?_) | (refine rg 11 ?_; (refine sp (po_load_bx_agg rfl rfl (tyT rfl) rfl (vc (vc (vc .nil))) rfl) ?_); refine oMv ?_; refine oS ?_; refine oAs ?_; refine oAs ?_; refine oN ?_) | refine gc ?_ | refine ct ?_ | refine cf ?_ | refine swp_cond rfl (fun hc => ?_) (fun hc => ?_) | refine retl (by exact .inr rfl) rfl (.cellT rfl rfl (tyT rfl) (vc (vc (vc .nil))) rfl (.tmpT rfl (by first | exact .t _ | exact .own rfl (by rfl) | exact .nil _ | exact .emp _ | exact .fn _) (.tmpT rfl (by first | exact .t _ | exact .own rfl (by rfl) | exact .nil _ | exact .emp _ | exact .fn _) .nil))) ?_ rfl .nil .nil)
  rfl
set_option maxRecDepth 100000 in
set_option maxHeartbeats 2000000 in
theorem dob_at (h : PHop) (hk : knd h.kind = 6) : DoesOb q h := by
  unfold DoesOb
  have c1 := at_ob hq h.f h.t h.no
  unfold hopT
  refine lcalls_of Try.func14 rfl rfl Try.ntmps14 rfl ?_
  repeat' (first | (refine rg 0 ?_; refine sbx ?_; refine sal str32 ?_; refine oAs ?_; refine oAs ?_; refine oN ?_) | (refine rg 1 ?_; refine sal str32 ?_; refine oN ?_) | (refine rg 2 ?_; refine oFb ?_; (first | refine sp (po_load_ntn rfl rfl (tyT rfl) rfl) ?_ | refine sp (po_load_ntk rfl rfl (tyT rfl) rfl (by first | assumption | omega) (by assumption) rfl) ?_ | refine oLb ?_); refine sp (po_knd rfl rfl rfl) ?_; refine oN ?_) | (refine rg 3 ?_; refine oCm ?_; refine oAs ?_; refine oN ?_) | (refine rg 4 ?_; refine oCm ?_; refine oAs ?_; refine oN ?_) | (refine rg 9 ?_; refine oCm ?_; refine oAs ?_; refine oN ?_) | (refine rg 12 ?_; refine oCm ?_; refine oAs ?_; refine oN ?_) | (refine rg 14 ?_; refine oCm ?_; refine oAs ?_; refine oN ?_) | (refine rg 16 ?_; refine oCm ?_; refine oAs ?_; refine oN ?_) | (refine rg 18 ?_; refine oCm ?_; refine oAs ?_; refine oN ?_) | (refine rg 19 ?_; refine oMv ?_; refine oFb ?_; (first | refine sp (po_load_ntn rfl rfl (tyT rfl) rfl) ?_ | refine sp (po_load_ntk rfl rfl (tyT rfl) rfl (by first | assumption | omega) (by assumption) rfl) ?_ | refine oLb ?_); refine oFb ?_; (first | refine sp (po_load_ntn rfl rfl (tyT rfl) rfl) ?_ | refine sp (po_load_ntk rfl rfl (tyT rfl) rfl (by first | assumption | omega) (by assumption) rfl) ?_ | refine oLb ?_); refine oFb ?_; (first | refine sp (po_load_ntn rfl rfl (tyT rfl) rfl) ?_ | refine sp (po_load_ntk rfl rfl (tyT rfl) rfl (by first | assumption | omega) (by assumption) rfl) ?_ | refine oLb ?_); refine sops_lcall (c1) (fun i => i) (fun i => i) (fun _ => false) (.free rfl rfl) rfl rfl rfl (by ((repeat' (first | exact .nil | refine .cons rfl rfl rfl ?_)) <;> fail)) .nil .nil rfl rfl (fun _ h => Bool.noConfusion h) ?_; refine oMv ?_; (first | refine oEx ?_ | refine sp (po_extract_tu rfl rfl rfl) ?_); (first | refine oEx ?_ | refine sp (po_extract_tu rfl rfl rfl) ?_); refine sal str32 ?_; refine oS ?_; refine oAs ?_; refine oN ?_) | refine gc ?_ | refine ct ?_ | refine cf ?_ | refine swp_cond rfl (fun hc => ?_) (fun hc => ?_) | refine rq rfl (.cell rfl rfl (tyT rfl) (vc (vc (vc .nil))) rfl (rt (rt .nil))) ?_)
  refine swp_any (id := 20) [[], [], [], [], [100], [], [], [100], [], [14], [14]] [[100, 14], [100, 14], [100, 14], [100, 14], [14], [100, 14], [100, 14], [14], [14], [100], []] mixed (by kernel_rfl) ?_
  refine yp (fun _ _ => po_field_bx rfl rfl (tyF rfl)) ?_
  refine yp (fun _ _ => po_load_bx rfl rfl (tyT rfl) rfl rfl) ?_
  refine yp (fun _ _ => po_field_bx rfl rfl (tyF rfl)) ?_
  refine yp (fun _ _ => po_load_bx rfl rfl (tyT rfl) rfl rfl) ?_
  refine sany_eff [] [(100, ⟨_, _, []⟩)] (.free rfl rfl) rfl rfl (fun _ _ _ ho => e_build0 rfl (tyE rfl) (ho 100 rfl rfl)) ?_
  refine yp (fun _ _ => po_field_bx rfl rfl (tyF rfl)) ?_
  refine yp (fun _ _ => po_load_bx rfl rfl (tyT rfl) rfl rfl) ?_
  refine sany_eff [] [(100, _)] (.free rfl rfl) rfl rfl (fun _ _ _ _ => e_append rfl rfl rfl rfl rfl (.nil _) (tyE rfl) (by simp) (by simp [maxLen])) ?_
  refine yp (fun _ _ => po_buildS str32 rfl (pc (pc (pc .nil))) rfl) ?_
  refine sany_eff [(14, _)] [] (.free rfl rfl) rfl rfl (fun _ _ hb _ => e_allocS str32 rfl (hb 14 rfl rfl)) ?_
  refine sany_eff [(14, _)] [] (.free rfl rfl) rfl rfl (fun _ _ _ _ => e_store rfl rfl rfl rfl rfl rfl (tyT rfl) rfl rfl) ?_
  refine sany_nil ?_
  refine gc ?_
  refine rg 21 ?_
  refine oFb ?_
  refine oLb ?_
  refine sops_clear0 (i := 100) (.free rfl rfl) rfl rfl rfl (.inr (.inl rfl)) (by kernel_rfl) ?_
  refine oN ?_
  repeat' (first | (refine rg 22 ?_; (refine sp (po_load_bx_agg rfl rfl (tyT rfl) rfl (vc (vc (vc .nil))) rfl) ?_); refine oMv ?_; refine oS ?_; refine oAs ?_; refine oAs ?_; refine oN ?_) | refine gc ?_ | refine ct ?_ | refine cf ?_ | refine swp_cond rfl (fun hc => ?_) (fun hc => ?_) | refine retl (by exact .inr rfl) rfl (.cellT rfl rfl (tyT rfl) (vc (vc (vc .nil))) rfl (.tmpT rfl (by first | exact .t _ | exact .own rfl (by rfl) | exact .nil _ | exact .emp _ | exact .fn _) (.tmpT rfl (by first | exact .t _ | exact .own rfl (by rfl) | exact .nil _ | exact .emp _ | exact .fn _) .nil))) ?_ rfl .nil .nil)
  rfl
theorem does_ob (h : PHop) (hl : h.load.length ≤ 4000000) (k : Nat) (hk : h.kind = k) (h7 : k < 7) : DoesOb q h := by
  have hs : knd h.kind = (k : Int) := by rw [hk]; exact knd_small h7
  match k, h7, hs with
  | 0, _, hs => exact dob_send hq h hl (.inl hs)
  | 1, _, hs => exact dob_send hq h hl (.inr hs)
  | 2, _, hs => exact dob_deliver hq h hs
  | 3, _, hs => exact dob_drop hq h hs
  | 4, _, hs => exact dob_double hq h hs
  | 5, _, hs => exact dob_front hq h hs
  | 6, _, hs => exact dob_at hq h hs
end
end Go.Proofs.Ytgbcmjcaggnobaa.Sim

/- Arguments opened: what a reading says of the cells, type by type. -/
namespace Go.Proofs.Ytgbcmjcaggnobaa.Mem
set_option linter.unusedVariables false
set_option linter.unusedSimpArgs false
open Go.RowKit
/-- one cell, a slice -/
def SliceC {α : Type} (R : Rel α) (sz : Nat) : Rel (List α) := fun B w xs cs => ∃ A cap, cs = [.slice A xs.length cap] ∧ SliceAt R sz B w A xs ∧ xs.length ≤ cap ∧ cap ≤ maxLen
theorem SliceC.kept {α : Type} {R : Rel α} {sz : Nat} (hR : Kept R) : Kept (SliceC R sz) := by
  rintro B B' w w' x cs ⟨A, cap, rfl, h, h1, h2⟩ hk hB
  exact ⟨A, cap, rfl, h.keep hR hk hB, h1, h2⟩
/-- one cell, a number -/
def IntC (k : IntKind) : Rel Int := fun _ _ x cs => cs = [.int k x] ∧ (Lit.int k x).wf = true
theorem IntC.kept (k : IntKind) : Kept (IntC k) := fun _ _ _ _ _ _ h _ _ => h
/-- one cell, a text -/
def StrC : Rel ByteArray := fun _ _ s cs => cs = [.string s] ∧ s.size ≤ maxLen
theorem StrC.kept : Kept StrC := fun _ _ _ _ _ _ h _ _ => h
end Go.Proofs.Ytgbcmjcaggnobaa.Mem
namespace Go.Proofs.Ytgbcmjcaggnobaa.Opn
set_option linter.unusedVariables false
set_option linter.unusedSimpArgs false
set_option maxRecDepth 100000
open Go.RowKit Go.WideShapes Go.ChangeShapes Go.Joins Mem

/-- a reading at type t gives R -/
def Opens {α : Type} (t : TypeId) (R : Rel α) : Prop :=
  ∀ (H : Type) (enc : TypeId × Value → H) (w : World) (base : Nat) (spare : Nat → Bool) (held : Bool) (fuel : Nat) (cs : List Value) (x : DataW H × List MemPlace), DataW.trod enc Try.prog w base spare held fuel t cs = some x → ∃ y, R w.heap.size w y cs

theorem slice_opens {α : Type} [Inhabited α] {t e sz : Nat} {R : Rel α} (ht : Try.prog.underlying t = some (.slice e)) (hC : Try.prog.cellsOf e = sz) (hsz : 0 < sz) (hR : Opens e R)
    {H : Type} {enc : TypeId × Value → H} {w : World} {base : Nat} {spare : Nat → Bool} {held : Bool} {fuel : Nat} {cs : List Value} {x : DataW H × List MemPlace} (h : DataW.trod enc Try.prog w base spare held fuel t cs = some x) :
    ∃ (A : Option Addr) (cap : Nat) (xs : List α), cs = [.slice A xs.length cap] ∧ SliceAt R sz w.heap.size w A xs ∧ xs.length ≤ cap ∧ cap ≤ maxLen := by
  rcases Go.Deep.open_slice ht h with ⟨hcs, _⟩ | ⟨a, len, cap, m, n, D, Pl, hcs, hb, hl, hm, hmm, hx, hi⟩
  · exact ⟨none, 0, [], hcs, SliceAt.nil, Nat.le_refl _, Nat.zero_le _⟩
  · have hlm : len ≤ m := by rw [hmm]; split <;> omega
    have hex : ∀ i, i < len → ∃ (y : α) (cs' : List Value), w.cells? base (a.add (i * sz)) sz = some cs' ∧ R w.heap.size w y cs' := by
      intro i hil
      obtain ⟨cs', hc, ht'⟩ := hi i (by omega)
      rw [hC] at hc
      obtain ⟨y, hy⟩ := hR H enc w base spare held n cs' _ ht'
      exact ⟨y, cs', hc, hy⟩
    have hf : ∃ f : Nat → α, ∀ i, i < len → ∃ cs', w.cells? base (a.add (i * sz)) sz = some cs' ∧ R w.heap.size w (f i) cs' := by
      refine ⟨fun i => if h : i < len then (hex i h).choose else default, fun i hil => ?_⟩
      simp only [dif_pos hil]
      exact (hex i hil).choose_spec
    obtain ⟨f, hf⟩ := hf
    refine ⟨some a, cap, (List.range len).map f, by simpa using hcs, ?_, by simpa using hl, hm⟩
    intro k y hk
    have hkl : k < len := by
      rcases Nat.lt_or_ge k len with h' | h'
      · exact h'
      · rw [List.getElem?_eq_none (by simpa using h')] at hk; cases hk
    rw [List.getElem?_map, List.getElem?_range hkl] at hk
    simp at hk; subst hk
    obtain ⟨cs', hc, hr⟩ := hf k hkl
    obtain ⟨_, hlen, hat⟩ := World.cells?_some hc
    have h0 : w.cell? ((a.add (k * sz)).add 0) = some (cs'[0]'(by omega)) := by rw [hat 0 hsz, List.getElem?_eq_getElem]
    obtain ⟨b, off, spot⟩ := a
    have hspot : k = 0 → spot = none := by
      intro hk0; subst hk0
      simp [Addr.add] at h0
      cases spot with
      | none => rfl
      | some q =>
        simp only [World.cell?] at h0
        split at h0
        · simp at h0
        · cases h0
    -- the row's address bears no spot: its first element shows it
    have hsp : spot = none := by
      rcases Nat.eq_zero_or_pos k with hk0 | hk0
      · exact hspot hk0
      · obtain ⟨cs0, hc0, _⟩ := hf 0 (by omega)
        obtain ⟨_, hlen0, hat0⟩ := World.cells?_some hc0
        have h00 : w.cell? (((⟨b, off, spot⟩ : Addr).add (0 * sz)).add 0) = some (cs0[0]'(by omega)) := by rw [hat0 0 hsz, List.getElem?_eq_getElem]
        simp [Addr.add] at h00
        cases spot with
        | none => rfl
        | some q =>
          simp only [World.cell?] at h00
          split at h00
          · simp at h00
          · cases h00
    subst hsp
    have hadd : ∀ j, ((⟨b, off, none⟩ : Addr).add (k * sz)).add j = ⟨b, off + (k * sz + j), none⟩ := by
      intro j
      rw [Go.Deep.add_add, addr_add]
    refine ⟨b, off, cs', rfl, ?_, hlen, ?_, hr⟩
    · have := World.block_lt_of_cell? w _ h0
      rw [hadd] at this
      exact this
    · intro j v hj
      have hjl : j < sz := by rw [← hlen]; exact (List.getElem?_eq_some_iff.1 hj).1
      rw [← hadd, hat j hjl, hj]
theorem opens_int {t : TypeId} {k : IntKind} (ht : Try.prog.underlying t = some (.int k)) : Opens t (IntC k) := by
  intro H enc w base spare held fuel cs x h
  obtain ⟨n, rfl, _, hw⟩ := DataW.trod_int ht h
  exact ⟨n, rfl, hw⟩
theorem opens_slice {α : Type} [Inhabited α] {t e sz : Nat} {R : Rel α} (ht : Try.prog.underlying t = some (.slice e)) (hC : Try.prog.cellsOf e = sz) (hsz : 0 < sz) (hR : Opens e R) : Opens t (SliceC R sz) := by
  intro H enc w base spare held fuel cs x h
  obtain ⟨A, cap, xs, rfl, hA, h1, h2⟩ := slice_opens ht hC hsz hR h
  exact ⟨xs, A, cap, rfl, hA, h1, h2⟩
/-- a struct handed in -/
theorem open_struct_arg {α : Type} {t : TypeId} {fs : Array Field} {R : Rel α} (ht : Try.prog.underlying t = some (.struct fs)) (hO : Opens t R) {H : Type} {enc : TypeId × Value → H} {w : World} {r : Reach} {b0 base : Nat} {spare : Nat → Bool} {held : Bool} {v : Value} {d : DataW H} {p : List MemPlace}
    (hv : Value.okWide Try.prog w r b0 t v) (h : DataW.Trod enc Try.prog w base spare held t v d p) :
    ∃ (cs : Array Value) (y : α), v = .agg cs ∧ R w.heap.size w y cs.toList := by
  obtain ⟨cs, rfl, _⟩ := okWide_struct ht hv
  obtain ⟨fuel, hf⟩ := h
  obtain ⟨y, hy⟩ := hO H enc w base spare held fuel _ _ hf
  exact ⟨cs, y, rfl, hy⟩
end Go.Proofs.Ytgbcmjcaggnobaa.Opn

/- Calls on links in memory: relations, opened, as trees of data. -/
namespace Go.Proofs.Ytgbcmjcaggnobaa.Hop
set_option linter.unusedVariables false
set_option linter.unusedSimpArgs false
open Go.RowKit Go.WideShapes Go.ChangeShapes Go.Joins Mem Sim Opn
def ByteC : Rel UInt8 := fun _ _ b cs => cs = [.int .u8 (b.toNat : Int)]
theorem one_byte : Try.prog.cellsOf 5 = 1 := by kernel_rfl
theorem one_bytes : Try.prog.cellsOf 28 = 1 := by kernel_rfl
theorem one_int : Try.prog.cellsOf 3 = 1 := by kernel_rfl
theorem byte_opens : Opens 5 ByteC := by
  intro H enc w base spare held fuel cs x h
  obtain ⟨n, rfl, _, hw⟩ := DataW.trod_int Try.underlying5 h
  have hb := bounds_u8 hw
  refine ⟨UInt8.ofNat n.toNat, ?_⟩
  unfold ByteC
  rw [UInt8.toNat_ofNat']
  congr 2; omega
theorem bytes_opens : Opens 28 (SliceC ByteC 1) := opens_slice (R := ByteC) Try.underlying28 one_byte (by omega) byte_opens
theorem cellsAre_nil (m : Mm) : CellsAre m [] [] := ⟨rfl, fun j t v h => by simp at h⟩
theorem cellsAre_cons {m : Mm} {t : T} {v : Value} {ts : List T} {vs : List Value} (h : TR m t v) (h1 : v.oneCell' = true) (hs : CellsAre m ts vs) : CellsAre m (t :: ts) (v :: vs) := by
  refine ⟨by simp [hs.1], fun j t' v' h2 h3 => ?_⟩
  cases j with
  | zero => simp at h2 h3; subst h2 h3; exact ⟨h, h1⟩
  | succ j => exact hs.2 j t' v' (by simpa using h2) (by simpa using h3)
theorem agg_bwd {m : Mm} {cs : List T} {vs : List Value} (h : CellsAre m cs vs) : TR m (.agg cs) (.agg vs.toArray) :=
  .agg cs vs.toArray (by simpa using h.1) (fun v hv => by
    obtain ⟨j, hj⟩ := List.getElem?_of_mem hv
    obtain ⟨t, ht⟩ : ∃ t, cs[j]? = some t := by
      have : j < cs.length := by rw [← h.1]; exact (List.getElem?_eq_some_iff.1 hj).1
      exact ⟨_, List.getElem?_eq_getElem this⟩
    exact (h.2 j t v ht hj).2) (fun j t v h1 h2 => (h.2 j t v h1 (by simpa using h2)).1)
theorem sl_bwd {α : Type} {R : Mem.Rel α} {enc : α → List T} {sz B : Nat} {w : World} {xs : List α} {c : Value} (hsz : ∀ x, (enc x).length = sz) (hR : ∀ x cs, R B w x cs → CellsAre (allm w) (enc x) cs) (h : SliceC R sz B w xs [c]) : TR (allm w) (.sl sz (xs.map enc)) c ∧ c.oneCell' = true := by
  obtain ⟨A, cap, e, hA, h1, h2⟩ := h
  injection e with e; subst e
  exact ⟨tr_rows_bwd (allm w) hA h1 h2 hsz (fun x _ cs hr => hR x cs hr) (fun b o v _ h => h), rfl⟩
theorem int_bwd {k : IntKind} {B : Nat} {w : World} {n : Int} {c : Value} (h : IntC k B w n [c]) : TR (allm w) (.v (.int k n)) c ∧ c.oneCell' = true := by
  obtain ⟨e, _⟩ := h; injection e with e; subst e; exact ⟨.v _, rfl⟩
theorem byte_bwd {B : Nat} {w : World} (x : UInt8) (cs : List Value) (h : ByteC B w x cs) : CellsAre (allm w) (byteT x) cs := by
  obtain rfl := h
  exact cellsAre_cons (.v _) rfl (cellsAre_nil _)
theorem bytes_bwdC {B : Nat} {w : World} {xs : List UInt8} {c : Value} (h : SliceC ByteC 1 B w xs [c]) : TR (allm w) (.sl 1 (xs.map byteT)) c ∧ c.oneCell' = true := sl_bwd (fun _ => rfl) byte_bwd h
instance : Inhabited PHop := ⟨⟨0, 0, 0, 0, []⟩⟩
def HopR : Rel PHop := fun B w x cs => ∃ c0 c1 c2 c3 c4, cs = [c0, c1, c2, c3, c4] ∧ IntC .i64 B w x.kind [c0] ∧ IntC .i64 B w x.f [c1] ∧ IntC .i64 B w x.t [c2] ∧ IntC .i64 B w x.no [c3] ∧ SliceC ByteC 1 B w x.load [c4]
theorem cells_Hop : Try.prog.cellsOf 30 = 5 := by kernel_rfl
set_option maxRecDepth 100000 in
theorem hop_opens : Opens 30 HopR := by
  intro H enc w base spare held fuel cs x h
  obtain ⟨xs, n, _, hx, hlen, hxl, hf⟩ := DataW.trod_struct Try.underlying30 h
  have hl := hlen.trans cells_Hop
  obtain ⟨c0, c1, c2, c3, c4, rfl⟩ : ∃ c0 c1 c2 c3 c4, cs = [c0, c1, c2, c3, c4] := by
    match cs, hl with
    | [c0, c1, c2, c3, c4], _ => exact ⟨c0, c1, c2, c3, c4, rfl⟩
  obtain ⟨y0, y1, y2, y3, y4, rfl⟩ : ∃ y0 y1 y2 y3 y4, xs = [y0, y1, y2, y3, y4] := by
    match xs, hxl with
    | [y0, y1, y2, y3, y4], _ => exact ⟨y0, y1, y2, y3, y4, rfl⟩
  have f0 : DataW.trod enc Try.prog w base spare held n 3 [c0] = some y0 := by
    have := hf 0 _ rfl
    simpa [one_bytes, one_int] using this
  obtain ⟨v0, r0⟩ := (opens_int Try.underlying3) H enc w base spare held n [c0] y0 f0
  have f1 : DataW.trod enc Try.prog w base spare held n 3 [c1] = some y1 := by
    have := hf 1 _ rfl
    simpa [one_bytes, one_int] using this
  obtain ⟨v1, r1⟩ := (opens_int Try.underlying3) H enc w base spare held n [c1] y1 f1
  have f2 : DataW.trod enc Try.prog w base spare held n 3 [c2] = some y2 := by
    have := hf 2 _ rfl
    simpa [one_bytes, one_int] using this
  obtain ⟨v2, r2⟩ := (opens_int Try.underlying3) H enc w base spare held n [c2] y2 f2
  have f3 : DataW.trod enc Try.prog w base spare held n 3 [c3] = some y3 := by
    have := hf 3 _ rfl
    simpa [one_bytes, one_int] using this
  obtain ⟨v3, r3⟩ := (opens_int Try.underlying3) H enc w base spare held n [c3] y3 f3
  have f4 : DataW.trod enc Try.prog w base spare held n 28 [c4] = some y4 := by
    have := hf 4 _ rfl
    simpa [one_bytes, one_int] using this
  obtain ⟨v4, r4⟩ := bytes_opens H enc w base spare held n [c4] y4 f4
  exact ⟨⟨v0, v1, v2, v3, v4⟩, c0, c1, c2, c3, c4, rfl, r0, r1, r2, r3, r4⟩
theorem hop_bwd {B : Nat} {w : World} (x : PHop) (cs : List Value) (h : HopR B w x cs) : CellsAre (allm w) (hopC x) cs := by
  obtain ⟨c0, c1, c2, c3, c4, rfl, h0, h1, h2, h3, h4⟩ := h
  exact cellsAre_cons (int_bwd h0).1 (int_bwd h0).2 (cellsAre_cons (int_bwd h1).1 (int_bwd h1).2 (cellsAre_cons (int_bwd h2).1 (int_bwd h2).2 (cellsAre_cons (int_bwd h3).1 (int_bwd h3).2 (cellsAre_cons (bytes_bwdC h4).1 (bytes_bwdC h4).2 (cellsAre_nil _)))))
theorem hop_bwdT {w : World} {x : PHop} {cs : Array Value} (h : HopR w.heap.size w x cs.toList) : TR (allm w) (.agg (hopC x)) (.agg cs) := by
  have := agg_bwd (hop_bwd x _ h)
  simpa using this
theorem hop_ok (B : Nat) (w : World) (x : PHop) (cs : List Value) (h : HopR B w x cs) : x.load.length ≤ 9223372036854775807 := by
  obtain ⟨c0, c1, c2, c3, c4, rfl, _, _, _, _, A, cap, e, hA, h1, h2⟩ := h
  unfold maxLen at h2; omega
end Go.Proofs.Ytgbcmjcaggnobaa.Hop
