/- For every row of policies, policy, place, rule, asker, port and request, the law AuthMore returns true. -/
import Derived.Test.YtnclifgiakmmoaaA14
import Derived.Test.YtnclifgiakmmoaaA7
import Derived.Test.YtnclifgiakmmoaaA5
import Derived.Laws.RangeAny
import Derived.Lib.ConvBytes
import Derived.Laws.BytesString
import Derived.Lib.Bytealg
import Derived.Test.YtnclifgiakmmoaaA8
namespace Go.Proofs.Ytnclifgiakmmoaa.AuthMore
set_option linter.unusedVariables false
set_option linter.unusedSimpArgs false
open Go.RowKit Mem Sim Opn WAddr WName WMatch WAuth Pol
theorem p_longPol (p : Pl.Policy) (hp : okPolicy p) : PCalls Try.prog 6 [.agg (polT p)] (.v (.bool (longPol p))) where
  ent := ent_of Try.func6 rfl rfl
  run := fun m w vals hm hvl hv _ => by
    obtain ⟨x0, rfl, h0⟩ := args1 hvl hv
    obtain ⟨vs, rfl, hc⟩ := agg_inv h0
    have hrr := policy_fwd hm p vs hp hc
    obtain ⟨c0, c1, c2, c3, c4, rfl⟩ : ∃ c0 c1 c2 c3 c4, vs = [c0, c1, c2, c3, c4] := by obtain ⟨c0, c1, c2, c3, c4, h, _⟩ := hrr; exact ⟨c0, c1, c2, c3, c4, h⟩
    refine (long12 p c0 c1 c2 c3 c4 w (Nat.le_refl _) hrr).mono fun e w' ⟨he, hlo⟩ => ?_
    rw [he]
    exact post_ex hm hlo (.v _)
theorem po_remc {P : Program} {bx : List (Nat × List A)} {ow : List (Nat × Own)} {o : Oper} {ρ : Operand → Option A} {t t2 : TypeId} {x y : Operand} {k : IntKind} {i j c : Int} (hc : i.tmod j = c) (ho : o.op = .binOp .rem t x y t2) (hx : ρ x = some (.t (.v (.int k i)))) (hy : ρ y = some (.t (.v (.int k j)))) (hj : j ≠ 0) : PureOp P bx ow o ρ (.t (.v (.int k c))) := by
  subst hc; exact po_rem ho hx hy hj

/-- the cells ahead of an element, behind it -/
def preA (l : List Pl.Policy) (k : Nat) : List A := ((l.take k).map polT).flatten.map .t
def pstA (l : List Pl.Policy) (k : Nat) : List A := ((l.drop (k + 1)).map polT).flatten.map .t
theorem pol_len (l : List Pl.Policy) : ((l.map polT).flatten).length = l.length * 5 := by
  induction l with
  | nil => rfl
  | cons p l ih => rw [List.map_cons, List.flatten_cons, List.length_append, ih]; show 5 + _ = _; simp; omega
theorem pre_len {l : List Pl.Policy} {k : Nat} (hk : k < l.length) : (preA l k).length = k * 5 := by
  unfold preA; rw [List.length_map, pol_len, List.length_take]; congr 1; omega
theorem cut_at {l : List Pl.Policy} {k : Nat} (hk : k < l.length) : l = l.take k ++ l[k] :: l.drop (k + 1) := by simp
theorem cells_at {l : List Pl.Policy} {k : Nat} (hk : k < l.length) : (l.map polT).flatten.map A.t = preA l k ++ ((polT l[k]).map .t ++ pstA l k) := by
  unfold preA pstA
  conv => lhs; rw [cut_at hk]
  rw [List.map_append, List.map_cons, List.flatten_append, List.flatten_cons, List.map_append, List.map_append]
theorem set_at {l : List Pl.Policy} {k : Nat} (hk : k < l.length) (p : Pl.Policy) : l.set k p = l.take k ++ p :: l.drop (k + 1) := by
  rw [List.set_eq_take_append_cons_drop, if_pos hk]
theorem vwl_t (ow : List (Nat × Own)) (ts : List T) : VwL ow (ts.map .t) ts := by
  induction ts with
  | nil => exact .nil
  | cons t ts ih => exact .cons (.t t) ih
theorem vwl_app {ow : List (Nat × Own)} {a b : List A} {s t : List T} (h : VwL ow a s) (k : VwL ow b t) : VwL ow (a ++ b) (s ++ t) := by
  induction h with
  | nil => exact k
  | cons h _ ih => exact .cons h ih
theorem vw_set (ow : List (Nat × Own)) {l : List Pl.Policy} {k : Nat} (hk : k < l.length) (p : Pl.Policy) {b : List A} (h : VwL ow b (polT p)) : VwL ow (preA l k ++ (b ++ pstA l k)) (((l.set k p).map polT).flatten) := by
  rw [set_at hk, List.map_append, List.flatten_append, List.map_cons, List.flatten_cons]
  exact vwl_app (vwl_t ow _) (vwl_app h (vwl_t ow _))
theorem live_t (bx : List (Nat × List A)) (ow : List (Nat × Own)) (ts : List T) : ((ts.map A.t).all fun x => x.live bx ow) = true := by
  rw [List.all_eq_true]; intro x hx
  obtain ⟨t, _, rfl⟩ := List.mem_map.1 hx
  rfl
theorem live_mid (bx : List (Nat × List A)) (ow : List (Nat × Own)) (l : List Pl.Policy) (k : Nat) {b : List A} (h : (b.all fun x => x.live bx ow) = true) : ((preA l k ++ (b ++ pstA l k)).all fun x => x.live bx ow) = true := by
  unfold preA pstA
  rw [List.all_append, List.all_append, live_t, h, live_t]; rfl
theorem map_t (f : A → A) (hf : ∀ t, f (.t t) = .t t) (ts : List T) : (ts.map A.t).map f = ts.map A.t := by
  rw [List.map_map]; exact List.map_congr_left fun t _ => hf t
theorem map_mid (f : A → A) (hf : ∀ t, f (.t t) = .t t) (l : List Pl.Policy) (k : Nat) (b : List A) : (preA l k ++ (b ++ pstA l k)).map f = preA l k ++ (b.map f ++ pstA l k) := by
  unfold preA pstA
  rw [List.map_append, List.map_append, map_t f hf, map_t f hf]
theorem tsb_own (i j n : Nat) : (A.own i n).tsb i j n = .sb j n := by
  show (bif Nat.beq i i then (bif Nat.beq n n then A.sb j n else .any) else .own i n) = _
  rw [show Nat.beq i i = true from Nat.beq_refl _, show Nat.beq n n = true from Nat.beq_refl _]; rfl
theorem fsb_sb (j n : Nat) (t : T) : (A.sb j n).fsb j n t = .t t := by
  show (bif Nat.beq j j then (bif Nat.beq n n then A.t t else .any) else .sb j n) = _
  rw [show Nat.beq j j = true from Nat.beq_refl _, show Nat.beq n n = true from Nat.beq_refl _]; rfl
section
variable (l : List Pl.Policy) (r : Pl.Rule) (a : Pl.Asker) (port : Int) (q : Pl.Req) (tg qu : ByteArray) (bd : Value) (k : Nat) (y0 : Bool) (pk : Pl.Policy) (x : T)
def tmM : List (Nat × A) := [(0, .t (.sl 5 (l.map polT))), (5, .t (.v (.int .i64 port))), (10, .bp 10 0), (11, .bp 11 0), (13, .bp 13 0), (15, .t (.v (.bool y0))), (19, .t (.v (.int .i64 (k : Int))))]
def bxM : List (Nat × List A) := [(10, rcells r), (11, askA a), (13, reqA q tg qu bd)]
/-- within region 10: the row is a box -/
def M1 : St := ⟨(92, .sb 1900 l.length) :: (93, .t (.v (.int .i64 (k : Int)))) :: (98, .ag (polL pk 1003)) :: (20, .sb 1900 l.length) :: tmM l port k y0, (1900, preA l k ++ ((polT pk).map .t ++ pstA l k)) :: bxM r a q tg qu bd, [(1003, ⟨31, 3, pk.rules.map ruleT⟩)]⟩
/-- behind region 11 -/
def M2 : St := ⟨(20, .sb 1900 l.length) :: tmM l port k y0, (1900, preA l k ++ ([.t (.v (.int .u64 pk.id)), .t (.v (.string pk.ns)), .t (.v (.int .u64 pk.service)), .t (.v (.int .i64 pk.deny)), .own 103 (pk.rules.map ruleT ++ [ruleT r]).length] ++ pstA l k)) :: bxM r a q tg qu bd, [(103, ⟨31, 3, pk.rules.map ruleT ++ [ruleT r]⟩)]⟩
/-- the row is data again -/
def M3 : St := ⟨(20, .t x) :: tmM l port k y0, bxM r a q tg qu bd, []⟩
end
abbrev params (l : List Pl.Policy) (p : Pl.Policy) (at_ : Int) (r : Pl.Rule) (a : Pl.Asker) (port : Int) (q : Pl.Req) (tg qu : ByteArray) (bd : Value) : List T := [.sl 5 (l.map polT), .agg (polT p), .v (.int .i64 at_), .agg (ruleT r), .agg (askT a), .v (.int .i64 port), .agg (reqT q tg qu bd)]
set_option maxRecDepth 100000 in
set_option maxHeartbeats 4000000 in
theorem law_ (l : List Pl.Policy) (hl : ∀ p ∈ l, okPolicy p) (p : Pl.Policy) (hp : okPolicy p) (at_ : Int) (r : Pl.Rule) (hr : okRule r) (a : Pl.Asker) (ha : OkAsk a) (port : Int) (q : Pl.Req) (hq : OkReq0 q) (tg qu : ByteArray) (bd : Value) : PCalls Try.prog 3 (params l p at_ r a port q tg qu bd) (.v (.bool true)) := by
  have hlong := p_long l hl a ha q hq tg qu bd
  have hlp := p_longPol p hp
  have hlr := p_longRule r hr
  have haw := p_awake13
  have hm1 : (l.map polT).length = l.length := List.length_map _
  cases hlo : long13 l a q with
  | true =>
    rw [hlo] at hlong
    refine pcalls_of Try.func3 rfl rfl Try.ntmps3 rfl ?_
    repeat' (first | (refine rg 0 ?_; refine sbx ?_; refine sbx ?_; refine sbx ?_; refine sbx ?_; refine oAs ?_; refine oN ?_) | (refine rg 1 ?_; refine oMv ?_; (refine sp (po_load_bx_agg rfl rfl (tyT rfl) rfl (vc (vc (vc .nil))) rfl) ?_); (refine sp (po_load_bx_agg rfl rfl (tyT rfl) rfl (vc (vc (vc (vc (vc (vc (vc .nil))))))) rfl) ?_); refine oC (hlong) rfl (ac (ac (ac .nil))) ?_; refine oMv ?_; (first | refine sp (po_load_bx_agg rfl rfl (tyT rfl) rfl (vc (vc (vc (vc (vc .nil))))) rfl) ?_ | refine sp (po_load_agg rfl rfl (tyT rfl) rfl rfl) ?_ | refine oK ?_) <;> (first | refine oC (hlong) rfl (ac .nil) ?_ | refine oC (hlp) rfl (ac .nil) ?_ | refine oC (hlr) rfl (ac .nil) ?_ | refine oC (haw) rfl (ac .nil) ?_ | refine oK ?_) <;> refine oPt ?_ <;> refine oMv ?_ <;> (first | refine sp (po_load_bx_agg rfl rfl (tyT rfl) rfl (vc (vc (vc .nil))) rfl) ?_ | refine sp (po_load_agg rfl rfl (tyT rfl) rfl rfl) ?_ | refine oK ?_) <;> (first | refine oC (hlong) rfl (ac .nil) ?_ | refine oC (hlp) rfl (ac .nil) ?_ | refine oC (hlr) rfl (ac .nil) ?_ | refine oC (haw) rfl (ac .nil) ?_ | refine oK ?_) <;> refine oPt ?_ <;> refine oN ?_) | (refine rg 2 ?_; (first | refine oC (hlong) rfl .nil ?_ | refine oC (hlp) rfl .nil ?_ | refine oC (hlr) rfl .nil ?_ | refine oC (haw) rfl .nil ?_); refine oAs ?_; refine oN ?_) | refine gc ?_ | refine ct ?_ | refine cf ?_ | refine swp_cond rfl (fun hc => ?_) (fun hc => ?_) | refine rq rfl (rt .nil) ?_)
    rfl
  | false =>
  rw [hlo] at hlong
  cases hlo2 : longPol p with
  | true =>
    rw [hlo2] at hlp
    refine pcalls_of Try.func3 rfl rfl Try.ntmps3 rfl ?_
    repeat' (first | (refine rg 0 ?_; refine sbx ?_; refine sbx ?_; refine sbx ?_; refine sbx ?_; refine oAs ?_; refine oN ?_) | (refine rg 1 ?_; refine oMv ?_; (refine sp (po_load_bx_agg rfl rfl (tyT rfl) rfl (vc (vc (vc .nil))) rfl) ?_); (refine sp (po_load_bx_agg rfl rfl (tyT rfl) rfl (vc (vc (vc (vc (vc (vc (vc .nil))))))) rfl) ?_); refine oC (hlong) rfl (ac (ac (ac .nil))) ?_; refine oMv ?_; (refine sp (po_load_bx_agg rfl rfl (tyT rfl) rfl (vc (vc (vc (vc (vc .nil))))) rfl) ?_) <;> (first | refine oC (hlong) rfl (ac .nil) ?_ | refine oC (hlp) rfl (ac .nil) ?_) <;> (first | refine oPt ?_ | refine oPf ?_) <;> refine oMv ?_ <;> (first | refine sp (po_load_bx_agg rfl rfl (tyT rfl) rfl (vc (vc (vc .nil))) rfl) ?_ | refine sp (po_load_agg rfl rfl (tyT rfl) rfl rfl) ?_ | refine oK ?_) <;> (first | refine oC (hlong) rfl (ac .nil) ?_ | refine oC (hlp) rfl (ac .nil) ?_ | refine oC (hlr) rfl (ac .nil) ?_ | refine oC (haw) rfl (ac .nil) ?_ | refine oK ?_) <;> refine oPt ?_ <;> refine oN ?_) | (refine rg 2 ?_; (first | refine oC (hlong) rfl .nil ?_ | refine oC (hlp) rfl .nil ?_ | refine oC (hlr) rfl .nil ?_ | refine oC (haw) rfl .nil ?_); refine oAs ?_; refine oN ?_) | refine gc ?_ | refine ct ?_ | refine cf ?_ | refine swp_cond rfl (fun hc => ?_) (fun hc => ?_) | refine rq rfl (rt .nil) ?_)
    rfl
  | false =>
  rw [hlo2] at hlp
  cases hlo3 : longRule r with
  | true =>
    rw [hlo3] at hlr
    refine pcalls_of Try.func3 rfl rfl Try.ntmps3 rfl ?_
    repeat' (first | (refine rg 0 ?_; refine sbx ?_; refine sbx ?_; refine sbx ?_; refine sbx ?_; refine oAs ?_; refine oN ?_) | (refine rg 1 ?_; refine oMv ?_; (refine sp (po_load_bx_agg rfl rfl (tyT rfl) rfl (vc (vc (vc .nil))) rfl) ?_); (refine sp (po_load_bx_agg rfl rfl (tyT rfl) rfl (vc (vc (vc (vc (vc (vc (vc .nil))))))) rfl) ?_); refine oC (hlong) rfl (ac (ac (ac .nil))) ?_; refine oMv ?_; (refine sp (po_load_bx_agg rfl rfl (tyT rfl) rfl (vc (vc (vc (vc (vc .nil))))) rfl) ?_) <;> (first | refine oC (hlong) rfl (ac .nil) ?_ | refine oC (hlp) rfl (ac .nil) ?_) <;> (first | refine oPt ?_ | refine oPf ?_) <;> refine oMv ?_ <;> (refine sp (po_load_bx_agg rfl rfl (tyT rfl) rfl (vc (vc (vc .nil))) rfl) ?_) <;> (first | refine oC (hlong) rfl (ac .nil) ?_ | refine oC (hlp) rfl (ac .nil) ?_ | refine oC (hlr) rfl (ac .nil) ?_) <;> (first | refine oPt ?_ | refine oPf ?_) <;> refine oN ?_) | (refine rg 2 ?_; (first | refine oC (hlong) rfl .nil ?_ | refine oC (hlp) rfl .nil ?_ | refine oC (hlr) rfl .nil ?_ | refine oC (haw) rfl .nil ?_); refine oAs ?_; refine oN ?_) | refine gc ?_ | refine ct ?_ | refine cf ?_ | refine swp_cond rfl (fun hc => ?_) (fun hc => ?_) | refine rq rfl (rt .nil) ?_)
    rfl
  | false =>
  rw [hlo3] at hlr
  obtain ⟨_, n30, n100, hfp⟩ := few_long hlo
  have fp := few_pol hlo2
  have fr := few_rule hlo3
  let p1 : Pl.Policy := { p with deny := 1 }
  have hp1 : okPolicy p1 := ⟨hp.1, hp.2.1, hp.2.2.1, (by decide : (Lit.int .i64 1).wf = true), hp.2.2.2.2⟩
  have olp : ∀ x ∈ l ++ [p1], okPolicy x := fun x hx => by
    rcases List.mem_append.1 hx with h | h
    · exact hl x h
    · simp at h; subst h; exact hp1
  have hj0 := p_judge l hl a ha port q hq (by omega) tg qu bd
  have hj1 := p_judge (l ++ [p1]) olp a ha port q hq (by omega) tg qu bd
  rw [List.map_append] at hj1
  have k1 := Pl.more_deny (matchP a port q) l p1 rfl
  have hnil : l = [] → (Pl.judgeP (matchP a port q) l).1 = true := fun h => by subst h; rfl
  have g0 : (([] : List (List T)).length + (l.map polT).length) * 64 ≤ 140737488355328 := by simp; omega
  have g1 : (([] : List (List T)).length + (l.map polT).length) ≤ maxLen := by unfold maxLen; simp; omega
  have g2 : ((([] : List (List T)) ++ l.map polT).length + 1) * 64 ≤ 140737488355328 := by simp; omega
  have g3 : ((([] : List (List T)) ++ l.map polT).length + 1) ≤ maxLen := by unfold maxLen; simp; omega
  refine pcalls_of Try.func3 rfl rfl Try.ntmps3 rfl ?_
  by_cases hl0 : l = []
  · have hn := hnil hl0
    subst hl0
    generalize Pl.judgeP (matchP a port q) [] = J0 at *
    generalize Pl.judgeP (matchP a port q) ([] ++ [p1]) = J1 at *
    obtain ⟨y0, i0⟩ := J0
    obtain ⟨y1, i1⟩ := J1
    dsimp only at *
    subst hn
    cases y1
    all_goals
      repeat' (first | (refine rg 0 ?_; refine sbx ?_; refine sbx ?_; refine sbx ?_; refine sbx ?_; refine oAs ?_; refine oN ?_) | (refine rg 1 ?_; refine oMv ?_; (refine sp (po_load_bx_agg rfl rfl (tyT rfl) rfl (vc (vc (vc .nil))) rfl) ?_); (refine sp (po_load_bx_agg rfl rfl (tyT rfl) rfl (vc (vc (vc (vc (vc (vc (vc .nil))))))) rfl) ?_); refine oC (hlong) rfl (ac (ac (ac .nil))) ?_; refine oMv ?_; (refine sp (po_load_bx_agg rfl rfl (tyT rfl) rfl (vc (vc (vc (vc (vc .nil))))) rfl) ?_) <;> (first | refine oC (hlong) rfl (ac .nil) ?_ | refine oC (hlp) rfl (ac .nil) ?_) <;> (first | refine oPt ?_ | refine oPf ?_) <;> refine oMv ?_ <;> (refine sp (po_load_bx_agg rfl rfl (tyT rfl) rfl (vc (vc (vc .nil))) rfl) ?_) <;> (first | refine oC (hlong) rfl (ac .nil) ?_ | refine oC (hlp) rfl (ac .nil) ?_ | refine oC (hlr) rfl (ac .nil) ?_) <;> (first | refine oPt ?_ | refine oPf ?_) <;> refine oN ?_) | (refine rg 3 ?_; refine oMv ?_; (refine sp (po_load_bx_agg rfl rfl (tyT rfl) rfl (vc (vc (vc .nil))) rfl) ?_); refine oMv ?_; (refine sp (po_load_bx_agg rfl rfl (tyT rfl) rfl (vc (vc (vc (vc (vc (vc (vc .nil))))))) rfl) ?_); (first | refine oC (hlong) rfl (ac (ac (ac (ac .nil)))) ?_ | refine oC (hlp) rfl (ac (ac (ac (ac .nil)))) ?_ | refine oC (hlr) rfl (ac (ac (ac (ac .nil)))) ?_ | refine oC (haw) rfl (ac (ac (ac (ac .nil)))) ?_ | refine oC (hj0) rfl (ac (ac (ac (ac .nil)))) ?_); refine oMv ?_; refine oEx ?_; refine oEx ?_; refine oAs ?_; refine oAs ?_; refine oN ?_) | (refine rg 4 ?_; refine oFb ?_; refine oS ?_; refine oN ?_) | ((refine swp_any (id := 5) [[46], [], [46], [], [], [46], [], [], [], [], [], [], [], [], []] [[], [46], [], [46], [46], [], [46], [46], [46], [], [], [], [], [], []] mixed (by kernel_rfl) ?_) <;> refine sany_eff [] [(46, ⟨_, _, []⟩)] (.free rfl rfl) rfl rfl (fun _ _ _ ho => e_build0 rfl (tyE rfl) (ho 46 rfl rfl)) ?_ <;> refine yp (fun _ _ => po_move rfl rfl) ?_ <;> refine sany_eff [] [(46, _)] (.free rfl rfl) rfl rfl (fun _ _ _ _ => e_append rfl rfl rfl (by rfl) rfl (by exact .t _) (tyE rfl) (by assumption) (by assumption)) ?_ <;> (refine yp (fun _ _ => po_load_bx_agg rfl rfl (tyT rfl) rfl (vc (vc (vc (vc (vc .nil))))) rfl) ?_) <;> refine yp (fun _ _ => po_buildSlice rfl (tyE rfl) (dc (.nil _)) rfl rfl rfl) ?_ <;> refine sany_eff [] [(46, _)] (.free rfl rfl) rfl rfl (fun _ _ _ _ => e_append rfl rfl rfl (by rfl) rfl (by exact .t _) (tyE rfl) (by assumption) (by assumption)) ?_ <;> (refine yp (fun _ _ => po_load_bx_agg rfl rfl (tyT rfl) rfl (vc (vc (vc .nil))) rfl) ?_) <;> refine yp (fun _ _ => po_move rfl rfl) ?_ <;> (refine yp (fun _ _ => po_load_bx_agg rfl rfl (tyT rfl) rfl (vc (vc (vc (vc (vc (vc (vc .nil))))))) rfl) ?_) <;> (first | refine yp (fun _ _ => po_call (hlong) rfl (ac (ac (ac (ac .nil))))) ?_ | refine yp (fun _ _ => po_call (hlp) rfl (ac (ac (ac (ac .nil))))) ?_ | refine yp (fun _ _ => po_call (hlr) rfl (ac (ac (ac (ac .nil))))) ?_ | refine yp (fun _ _ => po_call (haw) rfl (ac (ac (ac (ac .nil))))) ?_ | refine yp (fun _ _ => po_call (hj0) rfl (ac (ac (ac (ac .nil))))) ?_ | refine yp (fun _ _ => po_call (hj1) rfl (ac (ac (ac (ac .nil))))) ?_) <;> refine yp (fun _ _ => po_move rfl rfl) ?_ <;> refine yp (fun _ _ => po_extract rfl rfl rfl) ?_ <;> refine yp (fun _ _ => po_extract rfl rfl rfl) ?_ <;> refine yp (fun _ _ => po_assign rfl rfl) ?_ <;> refine yp (fun _ _ => po_assign rfl rfl) ?_ <;> refine sany_nil ?_) | (refine rg 6 ?_; refine oMv ?_; refine oMv ?_; (first | refine oMv ?_ | refine oK ?_) <;> (first | refine sp (po_not rfl rfl) ?_ | refine oK ?_) <;> (first | refine oPt ?_ | refine oPf ?_) <;> refine oMv ?_ <;> refine oMv ?_ <;> refine sp (pln rfl (tyS rfl)) ?_ <;> refine oCm ?_ <;> (first | refine oPt ?_ | refine oPf ?_) <;> refine oN ?_) | (refine rg 7 ?_; refine oMv ?_; refine sp (po_not rfl rfl) ?_; refine oMv ?_; (first | refine oC (hlong) rfl .nil ?_ | refine oC (hlp) rfl .nil ?_ | refine oC (hlr) rfl .nil ?_ | refine oC (haw) rfl .nil ?_ | refine oC (hj0) rfl .nil ?_ | refine oC (hj1) rfl .nil ?_ | refine oK ?_) <;> (first | refine oPt ?_ | refine oPf ?_) <;> refine oMv ?_ <;> (first | refine oMv ?_ | refine oK ?_) <;> (first | refine sp (pln rfl (tyS rfl)) ?_ | refine oK ?_) <;> (first | refine oCm ?_ | refine oK ?_) <;> (first | refine oMv ?_ | refine oK ?_) <;> (first | refine oMv ?_ | refine oK ?_) <;> (first | refine oPt ?_ | refine oPf ?_ | refine oK ?_) <;> (first | refine oMv ?_ | refine oK ?_) <;> (first | refine oC (hlong) rfl .nil ?_ | refine oC (hlp) rfl .nil ?_ | refine oC (hlr) rfl .nil ?_ | refine oC (haw) rfl .nil ?_ | refine oC (hj0) rfl .nil ?_ | refine oC (hj1) rfl .nil ?_ | refine oK ?_) <;> (first | refine oPt ?_ | refine oPf ?_ | refine oK ?_) <;> (first | refine oPt ?_ | refine oPf ?_) <;> refine oAs ?_ <;> refine oN ?_) | refine gc ?_ | refine ct ?_ | refine cf ?_ | refine swp_cond rfl (fun hc => ?_) (fun hc => ?_) | refine rq rfl (rt .nil) ?_)
      rfl
  obtain ⟨k, hk, hrem⟩ : ∃ k : Nat, k < l.length ∧ (max 0 at_).tmod ((l.map polT).length : Int) = (k : Int) := by
    have h0 : 0 < l.length := List.length_pos_iff.2 hl0
    refine ⟨(max 0 at_).toNat % l.length, Nat.mod_lt _ h0, ?_⟩
    rw [hm1, Int.tmod_eq_emod_of_nonneg (Int.le_max_left 0 at_), Int.natCast_emod, Int.toNat_of_nonneg (Int.le_max_left 0 at_)]
  have hlz : decide (((l.map polT).length : Int) = 0) = false := by
    have h0 : 0 < l.length := List.length_pos_iff.2 hl0
    rw [hm1]; simp; exact hl0
  have hpos : 0 < ([] ++ l.map polT).length := by rw [List.nil_append, hm1]; omega
  have cL := copyL_ l[k] (hfp _ (List.getElem_mem hk))
  let pk' : Pl.Policy := { l[k] with rules := l[k].rules ++ [r] }
  have hlk := hl _ (List.getElem_mem hk)
  have hpk' : okPolicy pk' := ⟨hlk.1, hlk.2.1, hlk.2.2.1, hlk.2.2.2.1, fun y hy => by
    rcases List.mem_append.1 hy with h | h
    · exact hlk.2.2.2.2 y h
    · simp at h; subst h; exact hr⟩
  have ols : ∀ x ∈ l.set k pk', okPolicy x := fun x hx => by
    rcases List.mem_or_eq_of_mem_set hx with h | h
    · exact hl x h
    · subst h; exact hpk'
  have hj2 := p_judge (l.set k pk') ols a ha port q hq (by omega) tg qu bd
  have k2 := Pl.more_rule (matchP a port q) (l.take k) (l.drop (k + 1)) l[k] pk' r rfl rfl
  rw [← cut_at hk, ← set_at hk] at k2
  have hrow : ((l.set k pk').map polT)[k]? = some (polT pk') := by simp [hk]
  have hkl : k < l.length := hk
  have hkn : k < ([] ++ l.map polT).length := by rw [List.nil_append, hm1]; exact hk
  have hk2 : k < (l.map polT).length := by rw [hm1]; exact hk
  have hX := pre_len hk
  have fk := hfp _ (List.getElem_mem hk)
  have g4 : ((l[k].rules.map ruleT).length + 1) * 72 ≤ 140737488355328 := by have := fk.n; rw [List.length_map]; omega
  have g5 : (l[k].rules.map ruleT).length + 1 ≤ maxLen := by have := fk.n; unfold maxLen; rw [List.length_map]; omega
  have hsl : ((l.set k pk').map polT).length = l.length := by rw [List.length_map, List.length_set]
  have hset := hsl
  generalize Pl.judgeP (matchP a port q) l = J0 at *
  generalize Pl.judgeP (matchP a port q) (l ++ [p1]) = J1 at *
  generalize Pl.judgeP (matchP a port q) (l.set k pk') = J2 at *
  obtain ⟨y0, i0⟩ := J0
  obtain ⟨y1, i1⟩ := J1
  obtain ⟨y2, i2⟩ := J2
  dsimp only at *
  have hb : y1 = false ∨ y1 = true ∧ (!y0) = false := by cases y1 <;> cases y0 <;> simp_all
  clear k1 hnil
  rcases hb with h1 | ⟨h1, h1'⟩
  all_goals
    repeat' (first | (refine rg 0 ?_; refine sbx ?_; refine sbx ?_; refine sbx ?_; refine sbx ?_; refine oAs ?_; refine oN ?_) | (refine rg 1 ?_; refine oMv ?_; (refine sp (po_load_bx_agg rfl rfl (tyT rfl) rfl (vc (vc (vc .nil))) rfl) ?_); (refine sp (po_load_bx_agg rfl rfl (tyT rfl) rfl (vc (vc (vc (vc (vc (vc (vc .nil))))))) rfl) ?_); refine oC (hlong) rfl (ac (ac (ac .nil))) ?_; refine oMv ?_; (refine sp (po_load_bx_agg rfl rfl (tyT rfl) rfl (vc (vc (vc (vc (vc .nil))))) rfl) ?_) <;> (first | refine oC (hlong) rfl (ac .nil) ?_ | refine oC (hlp) rfl (ac .nil) ?_) <;> (first | refine oPt ?_ | refine oPf ?_) <;> refine oMv ?_ <;> (refine sp (po_load_bx_agg rfl rfl (tyT rfl) rfl (vc (vc (vc .nil))) rfl) ?_) <;> (first | refine oC (hlong) rfl (ac .nil) ?_ | refine oC (hlp) rfl (ac .nil) ?_ | refine oC (hlr) rfl (ac .nil) ?_) <;> (first | refine oPt ?_ | refine oPf ?_) <;> refine oN ?_) | (refine rg 3 ?_; refine oMv ?_; (refine sp (po_load_bx_agg rfl rfl (tyT rfl) rfl (vc (vc (vc .nil))) rfl) ?_); refine oMv ?_; (refine sp (po_load_bx_agg rfl rfl (tyT rfl) rfl (vc (vc (vc (vc (vc (vc (vc .nil))))))) rfl) ?_); (first | refine oC (hlong) rfl (ac (ac (ac (ac .nil)))) ?_ | refine oC (hlp) rfl (ac (ac (ac (ac .nil)))) ?_ | refine oC (hlr) rfl (ac (ac (ac (ac .nil)))) ?_ | refine oC (haw) rfl (ac (ac (ac (ac .nil)))) ?_ | refine oC (hj0) rfl (ac (ac (ac (ac .nil)))) ?_); refine oMv ?_; refine oEx ?_; refine oEx ?_; refine oAs ?_; refine oAs ?_; refine oN ?_) | (refine rg 4 ?_; refine oFb ?_; refine oS ?_; refine oN ?_) | ((refine swp_any (id := 5) [[46], [], [46], [], [], [46], [], [], [], [], [], [], [], [], []] [[], [46], [], [46], [46], [], [46], [46], [46], [], [], [], [], [], []] mixed (by kernel_rfl) ?_) <;> refine sany_eff [] [(46, ⟨_, _, []⟩)] (.free rfl rfl) rfl rfl (fun _ _ _ ho => e_build0 rfl (tyE rfl) (ho 46 rfl rfl)) ?_ <;> (first | refine yp (fun _ _ => po_remc hrem rfl rfl rfl (by omega)) ?_ | refine yp (fun _ _ => po_move rfl rfl) ?_) <;> refine sany_eff [] [(46, _)] (.free rfl rfl) rfl rfl (fun _ _ _ _ => e_append rfl rfl rfl (by rfl) rfl (by exact .t _) (tyE rfl) (by assumption) (by assumption)) ?_ <;> (first | refine yp (fun _ _ => po_remc hrem rfl rfl rfl (by omega)) ?_ | refine yp (fun _ _ => po_load_bx_agg rfl rfl (tyT rfl) rfl (vc (vc (vc (vc (vc .nil))))) rfl) ?_) <;> (first | refine yp (fun _ _ => po_remc hrem rfl rfl rfl (by omega)) ?_ | refine yp (fun _ _ => po_buildSlice rfl (tyE rfl) (dc (.nil _)) rfl rfl rfl) ?_) <;> refine sany_eff [] [(46, _)] (.free rfl rfl) rfl rfl (fun _ _ _ _ => e_append rfl rfl rfl (by rfl) rfl (by exact .t _) (tyE rfl) (by assumption) (by assumption)) ?_ <;> (first | refine yp (fun _ _ => po_remc hrem rfl rfl rfl (by omega)) ?_ | refine yp (fun _ _ => po_load_bx_agg rfl rfl (tyT rfl) rfl (vc (vc (vc .nil))) rfl) ?_) <;> (first | refine yp (fun _ _ => po_remc hrem rfl rfl rfl (by omega)) ?_ | refine yp (fun _ _ => po_move rfl rfl) ?_) <;> (first | refine yp (fun _ _ => po_remc hrem rfl rfl rfl (by omega)) ?_ | refine yp (fun _ _ => po_load_bx_agg rfl rfl (tyT rfl) rfl (vc (vc (vc (vc (vc (vc (vc .nil))))))) rfl) ?_) <;> (first | refine yp (fun _ _ => po_remc hrem rfl rfl rfl (by omega)) ?_ | refine yp (fun _ _ => po_call (hlong) rfl (ac (ac (ac (ac .nil))))) ?_ | refine yp (fun _ _ => po_call (hlp) rfl (ac (ac (ac (ac .nil))))) ?_ | refine yp (fun _ _ => po_call (hlr) rfl (ac (ac (ac (ac .nil))))) ?_ | refine yp (fun _ _ => po_call (haw) rfl (ac (ac (ac (ac .nil))))) ?_ | refine yp (fun _ _ => po_call (hj0) rfl (ac (ac (ac (ac .nil))))) ?_ | refine yp (fun _ _ => po_call (hj1) rfl (ac (ac (ac (ac .nil))))) ?_) <;> (first | refine yp (fun _ _ => po_remc hrem rfl rfl rfl (by omega)) ?_ | refine yp (fun _ _ => po_move rfl rfl) ?_) <;> (first | refine yp (fun _ _ => po_remc hrem rfl rfl rfl (by omega)) ?_ | refine yp (fun _ _ => po_extract rfl rfl rfl) ?_) <;> (first | refine yp (fun _ _ => po_remc hrem rfl rfl rfl (by omega)) ?_ | refine yp (fun _ _ => po_extract rfl rfl rfl) ?_) <;> (first | refine yp (fun _ _ => po_remc hrem rfl rfl rfl (by omega)) ?_ | refine yp (fun _ _ => po_assign rfl rfl) ?_) <;> (first | refine yp (fun _ _ => po_remc hrem rfl rfl rfl (by omega)) ?_ | refine yp (fun _ _ => po_assign rfl rfl) ?_) <;> refine sany_nil ?_) | (refine rg 6 ?_; refine oMv ?_; refine oMv ?_; (first | refine oMv ?_ | refine oK ?_) <;> (first | refine sp (po_not rfl rfl) ?_ | refine oK ?_) <;> (first | refine oPt ?_ | refine oPf ?_) <;> refine oMv ?_ <;> refine oMv ?_ <;> refine sp (pln rfl (tyS rfl)) ?_ <;> refine oCm ?_ <;> (first | refine oPt ?_ | refine oPf ?_) <;> refine oN ?_) | (refine rg 8 ?_; refine oMv ?_; refine sp (po_max rfl rfl rfl) ?_; refine oMv ?_; refine sp (pln rfl (tyS rfl)) ?_; refine sp (po_remc hrem rfl rfl rfl (by omega)) ?_; refine oAs ?_; refine oN ?_) | (refine rg 9 ?_; refine sops_build0i 1001 (.free rfl rfl) rfl rfl rfl (tyE rfl) rfl ?_; refine oMv ?_; refine sap rfl (tyE rfl) ?_; refine oAs ?_; refine oN ?_) | refine gc ?_ | refine ct ?_ | refine cf ?_ | refine swp_cond rfl (fun hc => ?_) (fun hc => ?_) | refine rq rfl (rt .nil) ?_)
  all_goals
    refine rg 10 ?_
    refine oMv ?_; refine oMv ?_; refine oMv ?_; refine oMv ?_
    refine sp (po_index_own rfl rfl rfl rfl rfl (tyS rfl) rfl hkn) ?_
    refine sp (po_load_own_agg rfl rfl rfl rfl (tyT rfl) (row := polT l[k]) (by rw [List.nil_append]; exact map_at hk) rfl rfl) ?_
    refine sops_lcall cL (fun i => i) (fun i => i) (fun _ => false) (.free rfl rfl) rfl rfl rfl (by (repeat' (first | exact .nil | refine .cons rfl rfl rfl ?_))) .nil .nil rfl rfl (fun i h => by cases h) ?_
    refine sops_weak (st' := M1 l r a port q tg qu bd k y0 l[k]) (Weak.trans (weak_tobox 1001 1900 rfl hpos rfl) ?_) ?_
    · refine weak_sub ?_ ?_ ?_
      · have e9 : (A.own 1001 ([] ++ l.map polT).length).tsb 1001 1900 ([] ++ l.map polT).length = .sb 1900 l.length := (tsb_own _ _ _).trans (congrArg (A.sb 1900) hm1)
        exact .cons rfl e9 rfl (.cons rfl rfl rfl (.cons rfl rfl rfl (.cons rfl e9 rfl (.cons rfl rfl rfl (.cons rfl rfl rfl (.cons rfl rfl rfl (.cons rfl rfl rfl (.cons rfl rfl rfl (.cons rfl rfl rfl (.cons rfl rfl rfl .nil))))))))))
      · exact .cons rfl (cells_at hk) (live_mid _ _ _ _ rfl) (.cons rfl rfl rfl (.cons rfl rfl rfl (.cons rfl rfl rfl .nil)))
      · exact .cons rfl rfl .nil
    unfold M1 tmM bxM
    refine sp (po_index_mid hX rfl rfl rfl (tyS rfl) rfl hk) ?_
    refine sops_store_mid (.free rfl rfl) rfl rfl rfl rfl rfl rfl (tyT rfl) rfl rfl ?_
    refine oN ?_
    refine gc ?_
    refine swp_any (id := 11) [[], [], [], [], [], [], [], [], [], [1003], [], [], [1900]] [[1003], [1003], [], [], [], [], [], [], [], [], [], [], []] mixed (by kernel_rfl) ?_
    refine yp (fun _ _ => po_move rfl rfl) ?_; refine yp (fun _ _ => po_move rfl rfl) ?_; refine yp (fun _ _ => po_move rfl rfl) ?_; refine yp (fun _ _ => po_move rfl rfl) ?_
    refine yp (fun _ _ => po_index_mid hX rfl rfl rfl (tyS rfl) rfl hk) ?_
    refine yp (fun _ _ => po_field_bx rfl rfl (tyF rfl)) ?_
    refine yp (fun _ _ => po_load_mid rfl rfl (tyT rfl) rfl rfl) ?_
    refine yp (fun _ _ => po_load_bx_agg rfl rfl (tyT rfl) rfl (vc (vc (vc .nil))) rfl) ?_
    refine yp (fun _ _ => po_buildSlice rfl (tyE rfl) (dc (.nil _)) rfl rfl rfl) ?_
    refine sany_eff [] [(1003, _)] (.free rfl rfl) rfl rfl (fun _ _ _ _ => e_append rfl rfl rfl (by first | rfl | simp) rfl (.t _) (tyE rfl) g4 g5) ?_
    refine yp (fun _ _ => po_index_mid hX rfl rfl rfl (tyS rfl) rfl hk) ?_
    refine yp (fun _ _ => po_field_bx rfl rfl (tyF rfl)) ?_
    refine sany_eff [(1900, _)] [] (.free rfl rfl) rfl rfl (fun _ _ _ _ => e_store_mid rfl rfl rfl rfl rfl rfl (tyT rfl) rfl rfl) ?_
    refine sany_nil ?_
    refine gc ?_
    refine swp_weak (st' := M2 l r a port q tg qu bd k y0 l[k]) (Weak.trans (weak_show 1003 103 rfl rfl rfl rfl) ?_) ?_
    · refine weak_sub ?_ ?_ ?_
      · exact .cons rfl rfl rfl (.cons rfl rfl rfl (.cons rfl rfl rfl (.cons rfl rfl rfl (.cons rfl rfl rfl (.cons rfl rfl rfl (.cons rfl rfl rfl (.cons rfl rfl rfl .nil)))))))
      · refine .cons rfl ((map_mid _ (fun _ => rfl) _ _ _).trans ?_) (live_mid _ _ _ _ rfl) (.cons rfl rfl rfl (.cons rfl rfl rfl (.cons rfl rfl rfl .nil)))
        first | rfl | (rw [List.length_append]; rfl)
      · exact .cons rfl rfl .nil
    have hpe : polT pk' = [.v (.int .u64 l[k].id), .v (.string l[k].ns), .v (.int .u64 l[k].service), .v (.int .i64 l[k].deny), .sl 3 (l[k].rules.map ruleT ++ [ruleT r])] := by
      show [_, _, _, _, T.sl 3 ((l[k].rules ++ [r]).map ruleT)] = _
      rw [List.map_append]; rfl
    have hr5 : ∀ x ∈ (l.set k pk').map polT, x.length = 5 := fun x hx => by obtain ⟨y, _, rfl⟩ := List.mem_map.1 hx; rfl
    have e20 : (A.sb 1900 l.length).fsb 1900 ((l.set k pk').map polT).length (.sl 5 ((l.set k pk').map polT)) = .t (.sl 5 ((l.set k pk').map polT)) := by rw [hsl]; exact fsb_sb _ _ _
    refine swp_weak (st' := M3 l r a port q tg qu bd k y0 (.sl 5 ((l.set k pk').map polT))) (Weak.trans (weak_frombox 1900 5 ((l.set k pk').map polT) rfl hr5 (vw_set _ hk pk' (by rw [hpe]; exact vc (vc (vc (vc (vc .nil))))))) ?_) ?_
    · refine weak_sub ?_ ?_ ?_
      · exact .cons rfl e20 rfl (.cons rfl rfl rfl (.cons rfl rfl rfl (.cons rfl rfl rfl (.cons rfl rfl rfl (.cons rfl rfl rfl (.cons rfl rfl rfl (.cons rfl rfl rfl .nil)))))))
      · exact .cons rfl rfl rfl (.cons rfl rfl rfl (.cons rfl rfl rfl .nil))
      · exact .nil
    unfold M3 tmM bxM
    clear hj0 hj1 cL hlong hlp hlr
    by_cases hd : l[k].deny = 1
    · have hdd : decide (l[k].deny = 1) = true := decide_eq_true hd
      have hc : y0 = true ∨ y0 = false ∧ (!y2) = true := by have := k2.1 hd; cases y0 <;> cases y2 <;> simp_all
      clear k2
      rcases hc with h5 | ⟨h5, h6⟩
      all_goals
        repeat' (first | (refine rg 12 ?_; refine oMv ?_; (refine sp (po_load_bx_agg rfl rfl (tyT rfl) rfl (vc (vc (vc .nil))) rfl) ?_); refine oMv ?_; (refine sp (po_load_bx_agg rfl rfl (tyT rfl) rfl (vc (vc (vc (vc (vc (vc (vc .nil))))))) rfl) ?_); (refine oC (hj2) rfl (ac (ac (ac (ac .nil)))) ?_); refine oMv ?_; refine oEx ?_; refine oEx ?_; refine oAs ?_; refine oAs ?_; refine oN ?_) | (refine rg 13 ?_; refine oMv ?_; refine oMv ?_; refine sp (pix rfl (tyS rfl)) ?_; (first | refine oFb ?_ | refine oFd ?_); (first | refine oLb ?_ | refine oLd ?_); refine oCm ?_; refine oN ?_) | (refine rg 14 ?_; refine oMv ?_; refine oMv ?_; (first | refine oMv ?_ | refine oK ?_) <;> (first | refine sp (po_not rfl rfl) ?_ | refine oK ?_) <;> (first | refine oPt ?_ | refine oPf ?_) <;> refine oMv ?_ <;> (first | refine oC (hj2) rfl .nil ?_ | refine oC (haw) rfl .nil ?_) <;> refine oPt ?_ <;> refine oAs ?_ <;> refine oN ?_) | (refine rg 15 ?_; refine oMv ?_; refine oMv ?_; (first | refine oMv ?_ | refine oK ?_ | ((refine ssp (fun hc => ?_) (fun hc => ?_)) <;> first | refine oMv ?_ | refine oK ?_)) <;> (first | refine sp (po_not rfl rfl) ?_ | refine oK ?_) <;> (first | refine oPt ?_ | refine oPf ?_) <;> refine oMv ?_ <;> (first | refine oC (hj2) rfl .nil ?_ | refine oC (haw) rfl .nil ?_ | refine oK ?_ | ((refine ssp (fun hc => ?_) (fun hc => ?_)) <;> first | refine oC (hj2) rfl .nil ?_ | refine oC (haw) rfl .nil ?_ | refine oK ?_)) <;> (first | refine oPt ?_ | refine oPf ?_) <;> refine oAs ?_ <;> refine oN ?_) | refine gc ?_ | refine ct ?_ | refine cf ?_ | refine swp_cond rfl (fun hc => ?_) (fun hc => ?_) | refine rq rfl (rt .nil) ?_)
        rfl
    · have hdd : decide (l[k].deny = 1) = false := decide_eq_false hd
      have hc : y2 = true ∨ y2 = false ∧ (!y0) = true := by have := k2.2 hd; cases y0 <;> cases y2 <;> simp_all
      clear k2
      rcases hc with h5 | ⟨h5, h6⟩
      all_goals
        repeat' (first | (refine rg 12 ?_; refine oMv ?_; (refine sp (po_load_bx_agg rfl rfl (tyT rfl) rfl (vc (vc (vc .nil))) rfl) ?_); refine oMv ?_; (refine sp (po_load_bx_agg rfl rfl (tyT rfl) rfl (vc (vc (vc (vc (vc (vc (vc .nil))))))) rfl) ?_); (refine oC (hj2) rfl (ac (ac (ac (ac .nil)))) ?_); refine oMv ?_; refine oEx ?_; refine oEx ?_; refine oAs ?_; refine oAs ?_; refine oN ?_) | (refine rg 13 ?_; refine oMv ?_; refine oMv ?_; refine sp (pix rfl (tyS rfl)) ?_; (first | refine oFb ?_ | refine oFd ?_); (first | refine oLb ?_ | refine oLd ?_); refine oCm ?_; refine oN ?_) | (refine rg 14 ?_; refine oMv ?_; refine oMv ?_; (first | refine oMv ?_ | refine oK ?_ | ((refine ssp (fun hc => ?_) (fun hc => ?_)) <;> first | refine oMv ?_ | refine oK ?_)) <;> (first | refine sp (po_not rfl rfl) ?_ | refine oK ?_) <;> (first | refine oPt ?_ | refine oPf ?_) <;> refine oMv ?_ <;> (first | refine oC (hj2) rfl .nil ?_ | refine oC (haw) rfl .nil ?_ | refine oK ?_ | ((refine ssp (fun hc => ?_) (fun hc => ?_)) <;> first | refine oC (hj2) rfl .nil ?_ | refine oC (haw) rfl .nil ?_ | refine oK ?_)) <;> (first | refine oPt ?_ | refine oPf ?_) <;> refine oAs ?_ <;> refine oN ?_) | (refine rg 15 ?_; refine oMv ?_; refine oMv ?_; (first | refine oMv ?_ | refine oK ?_) <;> (first | refine sp (po_not rfl rfl) ?_ | refine oK ?_) <;> (first | refine oPt ?_ | refine oPf ?_) <;> refine oMv ?_ <;> (first | refine oC (hj2) rfl .nil ?_ | refine oC (haw) rfl .nil ?_) <;> refine oPt ?_ <;> refine oAs ?_ <;> refine oN ?_) | refine gc ?_ | refine ct ?_ | refine cf ?_ | refine swp_cond rfl (fun hc => ?_) (fun hc => ?_) | refine rq rfl (rt .nil) ?_)
        rfl
theorem walk (l : List Pl.Policy) (A0 : Option Addr) (cap0 : Nat) (p : Pl.Policy) (pcs : Array Value) (at_ : Int) (r : Pl.Rule) (rv : Array Value) (a : Pl.Asker) (port : Int) (q : Pl.Req) (A : Option Addr) (cap : Nat) (tg qu : ByteArray) (bd : Value) (hbd : bd.oneCell' = true) (w : World) (hA : SliceAt PolicyR 5 w.heap.size w A0 l) (hl1 : l.length ≤ cap0) (hl2 : cap0 ≤ maxLen) (hp : PolicyR w.heap.size w p pcs.toList) (hrr : RuleR w.heap.size w r rv.toList) (hadr : (Lit.int .u32 a.addr).wf = true) (hf : Fits0 w.heap.size w a q A) (hc1 : q.heads.length ≤ cap) (hc2 : cap ≤ maxLen) :
    Calls Try.prog 3 #[.slice A0 l.length cap0, .agg pcs, .int .i64 at_, .agg rv, .agg #[.string a.ns, .string a.sa, .int .u32 a.addr], .int .i64 port, .agg #[.string q.method, .string tg, .string q.path, .string qu, .string q.host, .slice A q.heads.length cap, bd]] w fun e w' => e = .returned (.bool true) ∧ Lo w w' := by
  have hpol : SliceC PolicyR 5 w.heap.size w l [.slice A0 l.length cap0] := ⟨A0, cap0, rfl, hA, hl1, hl2⟩
  have hhd : SliceC HeadR 2 w.heap.size w q.heads [.slice A q.heads.length cap] := ⟨A, cap, rfl, hf.heads, hc1, hc2⟩
  have hask : OkAsk a := ⟨hf.ns, hf.sa, hadr⟩
  have hreq : OkReq0 q := ⟨hf.method, hf.path, hf.host, sl_ok head_ok hhd⟩
  obtain ⟨tl⟩ := pcs
  obtain ⟨tr⟩ := rv
  have h := law_ l (sl_ok policy_ok hpol) p (policy_ok _ _ _ _ hp) at_ r (rule_ok _ _ _ _ hrr) a hask port q hreq tg qu bd
  refine h.law w _ rfl (fun i t v h1 h2 => ?_) (fun b o v h => absurd (show (none : Option Value) = some v from h) (by simp))
  · match i, h1, h2 with
    | 0, h1, h2 => simp at h1 h2; subst h1 h2; exact (sl_bwd (enc := polT) (fun _ => rfl) policy_bwd hpol).1
    | 1, h1, h2 => simp at h1 h2; subst h1 h2; exact agg_bwd (policy_bwd p _ hp)
    | 2, h1, h2 => simp at h1 h2; subst h1 h2; exact .v _
    | 3, h1, h2 => simp at h1 h2; subst h1 h2; exact agg_bwd (rule_bwd r _ hrr)
    | 4, h1, h2 => simp at h1 h2; subst h1 h2; exact agg_bwd (vs := [_, _, _]) (cellsAre_cons (.v _) rfl (cellsAre_cons (.v _) rfl (cellsAre_cons (.v _) rfl (cellsAre_nil _))))
    | 5, h1, h2 => simp at h1 h2; subst h1 h2; exact .v _
    | 6, h1, h2 => simp at h1 h2; subst h1 h2; exact agg_bwd (vs := [_, _, _, _, _, _, _]) (cellsAre_cons (.v _) rfl (cellsAre_cons (.v _) rfl (cellsAre_cons (.v _) rfl (cellsAre_cons (.v _) rfl (cellsAre_cons (.v _) rfl (cellsAre_cons (sl_bwd (enc := headT) (fun _ => rfl) head_bwd hhd).1 rfl (cellsAre_cons (.v _) hbd (cellsAre_nil _))))))))
end Go.Proofs.Ytnclifgiakmmoaa.AuthMore
