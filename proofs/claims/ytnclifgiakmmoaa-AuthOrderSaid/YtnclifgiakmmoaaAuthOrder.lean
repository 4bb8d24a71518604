/- For every row of policies, place, asker, port and request, the law AuthOrder returns true. -/
import Derived.Test.YtnclifgiakmmoaaC21
import Derived.Test.YtnclifgiakmmoaaC23
import Derived.Test.YtnclifgiakmmoaaC13
import Derived.Test.YtnclifgiakmmoaaC8
import Derived.Laws.RangeAny
import Derived.Test.YtnclifgiakmmoaaC9
import Derived.Lib.ConvBytes
import Derived.Laws.BytesString
import Derived.Lib.Bytealg
namespace Go.Proofs.Ytnclifgiakmmoaa.AuthOrder
set_option linter.unusedVariables false
set_option linter.unusedSimpArgs false
open Go.RowKit Mem Sim Opn WAddr WName WMatch WAuth Pol
theorem po_remc {P : Program} {bx : List (Nat × List A)} {ow : List (Nat × Own)} {o : Oper} {ρ : Operand → Option A} {t t2 : TypeId} {x y : Operand} {k : IntKind} {i j c : Int} (hc : i.tmod j = c) (ho : o.op = .binOp .rem t x y t2) (hx : ρ x = some (.t (.v (.int k i)))) (hy : ρ y = some (.t (.v (.int k j)))) (hj : j ≠ 0) : PureOp P bx ow o ρ (.t (.v (.int k c))) := by
  subst hc; exact po_rem ho hx hy hj
theorem po_beq {P : Program} {bx : List (Nat × List A)} {ow : List (Nat × Own)} {o : Oper} {ρ : Operand → Option A} {t t2 : TypeId} {x y : Operand} {i j : Bool} (c : Bool) (ho : o.op = .binOp .eql t x y t2) (hx : ρ x = some (.t (.v (.bool i)))) (hy : ρ y = some (.t (.v (.bool j)))) (hu : P.underlying t = some .bool) (hc : (i == j) = c) : PureOp P bx ow o ρ (.t (.v (.bool c))) := by
  have := po_boolq (bx := bx) (ow := ow) ho hx hy hu (.inl rfl)
  rw [if_pos rfl, hc] at this
  exact this
theorem po_sl {P : Program} {bx : List (Nat × List A)} {ow : List (Nat × Own)} {o : Oper} {ρ : Operand → Option A} {x y : List (List T)} {sz : Nat} (he : x = y) (h : PureOp P bx ow o ρ (.t (.sl sz x))) : PureOp P bx ow o ρ (.t (.sl sz y)) := he ▸ h
theorem po_quoN {P : Program} {bx : List (Nat × List A)} {ow : List (Nat × Own)} {o : Oper} {ρ : Operand → Option A} {t t2 : TypeId} {x y : Operand} {m d : Nat} (ho : o.op = .binOp .quo t x y t2) (hx : ρ x = some (.t (.v (.int .i64 (m : Int))))) (hy : ρ y = some (.t (.v (.int .i64 (d : Int))))) (hd : d ≠ 0) (hm : m ≤ 1000000) : PureOp P bx ow o ρ (.t (.v (.int .i64 ((m / d : Nat) : Int)))) := by
  have h := po_quo (P := P) (bx := bx) (ow := ow) ho hx hy (by omega)
  have e : IntKind.i64.wrap ((m : Int).tdiv (d : Int)) = ((m / d : Nat) : Int) := by
    rw [← Int.ofNat_tdiv]
    have := Nat.div_le_self m d
    generalize m / d = z at *
    exact wrap_i64 (by omega)
  rw [e] at h; exact h
/-- a row with its first i and last i turned -/
def swp {α : Type} (l : List α) (i : Nat) : List α := List.ofFn (n := l.length) fun j => if j.val < i ∨ l.length - i ≤ j.val then l[l.length - 1 - j.val]'(by have := j.isLt; omega) else l[j.val]
theorem swp_len {α : Type} (l : List α) (i : Nat) : (swp l i).length = l.length := by unfold swp; simp
theorem swp_at {α : Type} (l : List α) (i j : Nat) (h : j < l.length) : (swp l i)[j]'(by rw [swp_len]; exact h) = if j < i ∨ l.length - i ≤ j then l[l.length - 1 - j]'(by omega) else l[j] := by unfold swp; simp
theorem swp_zero {α : Type} (l : List α) : swp l 0 = l := by
  apply List.ext_getElem (swp_len l 0)
  intro j h1 h2
  rw [swp_at l 0 j h2, if_neg (by omega)]
theorem swp_half {α : Type} (l : List α) : swp l (l.length / 2) = l.reverse := by
  apply List.ext_getElem (by rw [swp_len]; simp)
  intro j h1 h2
  have h3 : j < l.length := by rw [swp_len] at h1; exact h1
  rw [swp_at l _ j h3, List.getElem_reverse]
  split
  · rfl
  · congr 1; omega
theorem swp_step {α : Type} (l : List α) (i : Nat) (hi : i < l.length / 2) : ((swp l i).set i (l[l.length - 1 - i]'(by omega))).set (l.length - 1 - i) (l[i]'(by omega)) = swp l (i + 1) := by
  apply List.ext_getElem (by simp [swp_len])
  intro j h1 h2
  have h3 : j < l.length := by rw [swp_len] at h2; exact h2
  rw [swp_at l _ j h3, List.getElem_set]
  split
  · rename_i h4
    subst h4
    rw [if_pos (by omega)]
    congr 1; omega
  · rw [List.getElem_set]
    split
    · rename_i h4 h5
      subst h5
      rw [if_pos (by omega)]
    · rw [swp_at l i j h3]
      by_cases h6 : j < i ∨ l.length - i ≤ j
      · rw [if_pos h6, if_pos (by omega)]
      · rw [if_neg h6, if_neg (by omega)]
theorem swp_lo {α : Type} (l : List α) (i : Nat) (hi : i < l.length / 2) : (swp l i)[i]'(by rw [swp_len]; omega) = l[i]'(by omega) := by
  rw [swp_at l i i (by omega), if_neg (by omega)]
theorem swp_hi {α : Type} (l : List α) (i : Nat) (hi : i < l.length / 2) : (swp l i)[l.length - 1 - i]'(by rw [swp_len]; omega) = l[l.length - 1 - i]'(by omega) := by
  rw [swp_at l i _ (by omega), if_neg (by omega)]
/-- the cells ahead of an element, behind it -/
def preA (l : List Pl.Policy) (k : Nat) : List A := ((l.take k).map polT).flatten.map .t
def pstA (l : List Pl.Policy) (k : Nat) : List A := ((l.drop (k + 1)).map polT).flatten.map .t
theorem pol_len (l : List Pl.Policy) : ((l.map polT).flatten).length = l.length * 5 := by
  induction l with
  | nil => rfl
  | cons p l ih => rw [List.map_cons, List.flatten_cons, List.length_append, ih]; show 5 + _ = _; simp; omega
theorem pre_len {l : List Pl.Policy} {k : Nat} (hk : k < l.length) : (preA l k).length = k * 5 := by
  unfold preA; rw [List.length_map, pol_len, List.length_take]; congr 1; omega
theorem cut_at {l : List Pl.Policy} {k : Nat} (hk : k < l.length) : l = l.take k ++ l[k] :: l.drop (k + 1) := by simp
theorem cells_at {l : List Pl.Policy} {k : Nat} (hk : k < l.length) : (l.map polT).flatten.map A.t = preA l k ++ ((polT l[k]).map .t ++ pstA l k) := by
  unfold preA pstA
  conv => lhs; rw [cut_at hk]
  rw [List.map_append, List.map_cons, List.flatten_append, List.flatten_cons, List.map_append, List.map_append]
theorem set_at {l : List Pl.Policy} {k : Nat} (hk : k < l.length) (p : Pl.Policy) : l.set k p = l.take k ++ p :: l.drop (k + 1) := by
  rw [List.set_eq_take_append_cons_drop, if_pos hk]
theorem vwl_t (ow : List (Nat × Own)) (ts : List T) : VwL ow (ts.map .t) ts := by
  induction ts with
  | nil => exact .nil
  | cons t ts ih => exact .cons (.t t) ih
theorem vwl_app {ow : List (Nat × Own)} {a b : List A} {s t : List T} (h : VwL ow a s) (k : VwL ow b t) : VwL ow (a ++ b) (s ++ t) := by
  induction h with
  | nil => exact k
  | cons h _ ih => exact .cons h ih
theorem vw_set (ow : List (Nat × Own)) {l : List Pl.Policy} {k : Nat} (hk : k < l.length) (p : Pl.Policy) {b : List A} (h : VwL ow b (polT p)) : VwL ow (preA l k ++ (b ++ pstA l k)) (((l.set k p).map polT).flatten) := by
  rw [set_at hk, List.map_append, List.flatten_append, List.map_cons, List.flatten_cons]
  exact vwl_app (vwl_t ow _) (vwl_app h (vwl_t ow _))
theorem live_t (bx : List (Nat × List A)) (ow : List (Nat × Own)) (ts : List T) : ((ts.map A.t).all fun x => x.live bx ow) = true := by
  rw [List.all_eq_true]; intro x hx
  obtain ⟨t, _, rfl⟩ := List.mem_map.1 hx
  rfl
theorem live_mid (bx : List (Nat × List A)) (ow : List (Nat × Own)) (l : List Pl.Policy) (k : Nat) {b : List A} (h : (b.all fun x => x.live bx ow) = true) : ((preA l k ++ (b ++ pstA l k)).all fun x => x.live bx ow) = true := by
  unfold preA pstA
  rw [List.all_append, List.all_append, live_t, h, live_t]; rfl
theorem map_t (f : A → A) (hf : ∀ t, f (.t t) = .t t) (ts : List T) : (ts.map A.t).map f = ts.map A.t := by
  rw [List.map_map]; exact List.map_congr_left fun t _ => hf t
theorem map_mid (f : A → A) (hf : ∀ t, f (.t t) = .t t) (l : List Pl.Policy) (k : Nat) (b : List A) : (preA l k ++ (b ++ pstA l k)).map f = preA l k ++ (b.map f ++ pstA l k) := by
  unfold preA pstA
  rw [List.map_append, List.map_append, map_t f hf, map_t f hf]
theorem tsb_own (i j n sz : Nat) (e : TypeId) : (A.own i n).tsb i j n sz e = .sb j n sz e := by
  show (bif Nat.beq i i then (bif Nat.beq n n then A.sb j n sz e else .any) else .own i n) = _
  rw [show Nat.beq i i = true from Nat.beq_refl _, show Nat.beq n n = true from Nat.beq_refl _]; rfl
theorem fsb_sb (j n sz : Nat) (e : TypeId) (t : T) : (A.sb j n sz e).fsb j n t = .t t := by
  show (bif Nat.beq j j then (bif Nat.beq n n then A.t t else .any) else .sb j n sz e) = _
  rw [show Nat.beq j j = true from Nat.beq_refl _, show Nat.beq n n = true from Nat.beq_refl _]; rfl
section
variable (l R : List Pl.Policy) (a : Pl.Asker) (port : Int) (q : Pl.Req) (tg qu : ByteArray) (bd : Value) (k : Nat) (y0 : Bool) (pk : Pl.Policy) (i : Nat)
def tmM : List (Nat × A) := [(0, .t (.sl 5 (l.map polT))), (3, .t (.v (.int .i64 port))), (7, .bp 7 0), (9, .bp 9 0), (11, .t (.v (.bool y0))), (13, .t (.v (.int .i64 (k : Int))))]
def bxM : List (Nat × List A) := [(7, askA a), (9, reqA q tg qu bd)]
def restA : List A := (R.map polT).flatten.map .t
/-- within region 8: the row is a box -/
def M1 : St := ⟨(55, .sb 1900 l.length 5 26) :: (59, .ag (polL pk 1003)) :: (14, .sb 1900 l.length 5 26) :: tmM l port k y0, (1900, [] ++ ((polT pk).map .t ++ restA R)) :: bxM a q tg qu bd, [(1003, ⟨31, 3, pk.rules.map ruleT⟩)]⟩
/-- behind the loop -/
def M2 : St := ⟨(14, .sb 1900 l.length 5 26) :: tmM l port k y0, (1900, [] ++ ([.t (.v (.int .u64 pk.id)), .t (.v (.string pk.ns)), .t (.v (.int .u64 pk.service)), .t (.v (.int .i64 pk.deny)), .own 103 (pk.rules.map ruleT).length] ++ restA R)) :: bxM a q tg qu bd, [(103, ⟨31, 3, pk.rules.reverse.map ruleT⟩)]⟩
/-- the row is a row again -/
def M3 (rows : List (List T)) : St := ⟨(14, .own 101 rows.length) :: tmM l port k y0, bxM a q tg qu bd, [(101, ⟨26, 5, rows⟩)]⟩
/-- round i of the loop -/
def SL : St := ⟨(14, .sb 1900 l.length 5 26) :: (15, .t (.v (.int .i64 (pk.rules.length : Int)))) :: (16, .t (.v (.int .i64 (i : Int)))) :: tmM l port k y0, (1900, [] ++ (polL pk 1003 ++ restA R)) :: bxM a q tg qu bd, [(1003, ⟨31, 3, (swp pk.rules i).map ruleT⟩)]⟩
end
abbrev params (l : List Pl.Policy) (at_ : Int) (a : Pl.Asker) (port : Int) (q : Pl.Req) (tg qu : ByteArray) (bd : Value) : List T := [.sl 5 (l.map polT), .v (.int .i64 at_), .agg (askT a), .v (.int .i64 port), .agg (reqT q tg qu bd)]
set_option maxRecDepth 100000 in
set_option maxHeartbeats 4000000 in
theorem law_ (l : List Pl.Policy) (hl : ∀ p ∈ l, okPolicy p) (at_ : Int) (a : Pl.Asker) (ha : OkAsk a) (port : Int) (q : Pl.Req) (hq : OkReq0 q) (tg qu : ByteArray) (bd : Value) : PCalls Try.prog 4 (params l at_ a port q tg qu bd) (.v (.bool true)) := by
  have hlong := p_long l hl a ha q hq tg qu bd
  have haw := p_awake13
  have hm1 : (l.map polT).length = l.length := List.length_map _
  cases hlo : long13 l a q with
  | true =>
    rw [hlo] at hlong
    refine pcalls_of Try.func4 rfl rfl Try.ntmps4 rfl ?_
    repeat' (first | (refine rg 0 ?_; refine sbx ?_; refine sbx ?_; refine oAs ?_; refine oN ?_) | (refine rg 1 ?_; refine oMv ?_; (first | refine sp (po_load_bx_agg rfl rfl (tyT rfl) rfl (vc (vc (vc .nil))) rfl) ?_ | refine sp (po_load_agg rfl rfl (tyT rfl) rfl rfl) ?_); (first | refine sp (po_load_bx_agg rfl rfl (tyT rfl) rfl (vc (vc (vc (vc (vc (vc (vc .nil))))))) rfl) ?_ | refine sp (po_load_agg rfl rfl (tyT rfl) rfl rfl) ?_); (first | refine oC (hlong) rfl (ac (ac (ac .nil))) ?_ | refine oC (haw) rfl (ac (ac (ac .nil))) ?_); refine oN ?_) | (refine rg 2 ?_; (first | refine oC (hlong) rfl .nil ?_ | refine oC (haw) rfl .nil ?_); refine oAs ?_; refine oN ?_) | refine gc ?_ | refine ct ?_ | refine cf ?_ | refine swp_cond rfl (fun hc => ?_) (fun hc => ?_) | refine rq rfl (rt .nil) ?_)
    rfl
  | false =>
  rw [hlo] at hlong
  obtain ⟨_, n30, n100, hfp⟩ := few_long hlo
  have hj0 := p_judge l hl a ha port q hq (by omega) tg qu bd
  by_cases hl0 : l = []
  · subst hl0
    have hn : (Pl.judgeP (matchP a port q) []).1 = true := rfl
    generalize Pl.judgeP (matchP a port q) [] = J0 at *
    obtain ⟨y0, i0⟩ := J0
    dsimp only at *
    subst hn
    refine pcalls_of Try.func4 rfl rfl Try.ntmps4 rfl ?_
    repeat' (first | (refine rg 0 ?_; refine sbx ?_; refine sbx ?_; refine oAs ?_; refine oN ?_) | (refine rg 1 ?_; refine oMv ?_; (first | refine sp (po_load_bx_agg rfl rfl (tyT rfl) rfl (vc (vc (vc .nil))) rfl) ?_ | refine sp (po_load_agg rfl rfl (tyT rfl) rfl rfl) ?_); (first | refine sp (po_load_bx_agg rfl rfl (tyT rfl) rfl (vc (vc (vc (vc (vc (vc (vc .nil))))))) rfl) ?_ | refine sp (po_load_agg rfl rfl (tyT rfl) rfl rfl) ?_); (first | refine oC (hlong) rfl (ac (ac (ac .nil))) ?_ | refine oC (haw) rfl (ac (ac (ac .nil))) ?_ | refine oC (hj0) rfl (ac (ac (ac .nil))) ?_); refine oN ?_) | (refine rg 3 ?_; refine oMv ?_; (first | refine sp (po_load_bx_agg rfl rfl (tyT rfl) rfl (vc (vc (vc .nil))) rfl) ?_ | refine sp (po_load_agg rfl rfl (tyT rfl) rfl rfl) ?_); refine oMv ?_; (first | refine sp (po_load_bx_agg rfl rfl (tyT rfl) rfl (vc (vc (vc (vc (vc (vc (vc .nil))))))) rfl) ?_ | refine sp (po_load_agg rfl rfl (tyT rfl) rfl rfl) ?_); (first | refine oC (hlong) rfl (ac (ac (ac (ac .nil)))) ?_ | refine oC (haw) rfl (ac (ac (ac (ac .nil)))) ?_ | refine oC (hj0) rfl (ac (ac (ac (ac .nil)))) ?_); refine oMv ?_; refine oEx ?_; refine oEx ?_; refine oAs ?_; refine oAs ?_; refine oN ?_) | (refine rg 4 ?_; refine oMv ?_; refine sp (pln rfl (tyS rfl)) ?_; refine oCm ?_; refine oN ?_) | (refine rg 5 ?_; refine oMv ?_; refine oMv ?_; (first | refine oC (hlong) rfl .nil ?_ | refine oC (haw) rfl .nil ?_ | refine oC (hj0) rfl .nil ?_ | refine oK ?_ | ((refine ssp (fun hc => ?_) (fun hc => ?_)) <;> first | refine oC (hlong) rfl .nil ?_ | refine oC (haw) rfl .nil ?_ | refine oC (hj0) rfl .nil ?_ | refine oK ?_)) <;> (first | refine oPt ?_ | refine oPf ?_) <;> (refine oAs ?_) <;> (refine oN ?_)) | refine gc ?_ | refine ct ?_ | refine cf ?_ | refine swp_cond rfl (fun hc => ?_) (fun hc => ?_) | refine rq rfl (rt .nil) ?_)
    rfl
  obtain ⟨k, hk, hrem⟩ : ∃ k : Nat, k < l.length ∧ (max 0 at_).tmod ((l.map polT).length : Int) = (k : Int) := by
    have h0 : 0 < l.length := List.length_pos_iff.2 hl0
    refine ⟨(max 0 at_).toNat % l.length, Nat.mod_lt _ h0, ?_⟩
    rw [hm1, Int.tmod_eq_emod_of_nonneg (Int.le_max_left 0 at_), Int.natCast_emod, Int.toNat_of_nonneg (Int.le_max_left 0 at_)]
  have hlz : decide (((l.map polT).length : Int) = 0) = false := by
    have h0 : 0 < l.length := List.length_pos_iff.2 hl0
    rw [hm1]; simp; exact hl0
  have hs1 : ((l.map polT).take (l.map polT).length).drop k = (l.drop k).map polT := by rw [List.take_length, List.map_drop]
  have hs2 : ((l.map polT).take k).drop 0 = (l.take k).map polT := by rw [List.drop_zero, List.map_take]
  have hd1 : ((l.drop k).map polT).length = l.length - k := by rw [List.length_map, List.length_drop]
  have hd2 : ((l.take k).map polT).length = k := by rw [List.length_map, List.length_take]; omega
  have g0 : (([] : List (List T)).length + ((l.drop k).map polT).length) * 64 ≤ 140737488355328 := by simp; omega
  have g1 : (([] : List (List T)).length + ((l.drop k).map polT).length) ≤ maxLen := by unfold maxLen; simp; omega
  have g2 : ((([] : List (List T)) ++ (l.drop k).map polT).length + ((l.take k).map polT).length) * 64 ≤ 140737488355328 := by simp; omega
  have g3 : ((([] : List (List T)) ++ (l.drop k).map polT).length + ((l.take k).map polT).length) ≤ maxLen := by unfold maxLen; simp; omega
  have hk2 : k ≤ (l.map polT).length := by rw [hm1]; omega
  generalize hJ0 : Pl.judgeP (matchP a port q) l = J0 at *
  obtain ⟨y0, i0⟩ := J0
  dsimp only at *
  refine pcalls_of Try.func4 rfl rfl Try.ntmps4 rfl ?_
  repeat' (first | (refine rg 0 ?_; refine sbx ?_; refine sbx ?_; refine oAs ?_; refine oN ?_) | (refine rg 1 ?_; refine oMv ?_; (first | refine sp (po_load_bx_agg rfl rfl (tyT rfl) rfl (vc (vc (vc .nil))) rfl) ?_ | refine sp (po_load_agg rfl rfl (tyT rfl) rfl rfl) ?_); (first | refine sp (po_load_bx_agg rfl rfl (tyT rfl) rfl (vc (vc (vc (vc (vc (vc (vc .nil))))))) rfl) ?_ | refine sp (po_load_agg rfl rfl (tyT rfl) rfl rfl) ?_); (first | refine oC (hlong) rfl (ac (ac (ac .nil))) ?_ | refine oC (haw) rfl (ac (ac (ac .nil))) ?_ | refine oC (hj0) rfl (ac (ac (ac .nil))) ?_); refine oN ?_) | (refine rg 3 ?_; refine oMv ?_; (first | refine sp (po_load_bx_agg rfl rfl (tyT rfl) rfl (vc (vc (vc .nil))) rfl) ?_ | refine sp (po_load_agg rfl rfl (tyT rfl) rfl rfl) ?_); refine oMv ?_; (first | refine sp (po_load_bx_agg rfl rfl (tyT rfl) rfl (vc (vc (vc (vc (vc (vc (vc .nil))))))) rfl) ?_ | refine sp (po_load_agg rfl rfl (tyT rfl) rfl rfl) ?_); (first | refine oC (hlong) rfl (ac (ac (ac (ac .nil)))) ?_ | refine oC (haw) rfl (ac (ac (ac (ac .nil)))) ?_ | refine oC (hj0) rfl (ac (ac (ac (ac .nil)))) ?_); refine oMv ?_; refine oEx ?_; refine oEx ?_; refine oAs ?_; refine oAs ?_; refine oN ?_) | (refine rg 4 ?_; refine oMv ?_; refine sp (pln rfl (tyS rfl)) ?_; refine oCm ?_; refine oN ?_) | (refine rg 6 ?_; refine oMv ?_; refine sp (po_max rfl rfl rfl) ?_; refine oMv ?_; refine sp (pln rfl (tyS rfl)) ?_; (first | refine sp (po_remc hrem rfl rfl rfl (by omega)) ?_ | refine sp (po_rem rfl rfl rfl (by omega)) ?_); refine oAs ?_; refine oN ?_) | ((refine swp_any (id := 7) [[1001], [], [], [], [1001], [], [], [], [1001], []] [[], [1001], [1001], [1001], [], [1001], [1001], [1001], [], []] mixed (by kernel_rfl) ?_) <;> (refine sany_eff [] [(1001, ⟨_, _, []⟩)] (.free rfl rfl) rfl rfl (fun _ _ _ ho => e_build0 rfl (tyE rfl) (ho 1001 rfl rfl)) ?_) <;> (first | refine yp (fun _ _ => po_remc hrem rfl rfl rfl (by omega)) ?_ | refine yp (fun _ _ => po_sl hs1 (po_slice rfl rfl (.t _) (tyS rfl) ⟨_, rfl⟩ rfl (by omega) (by omega))) ?_ | refine yp (fun _ _ => po_sl hs2 (po_slice rfl rfl (.t _) (tyS rfl) rfl ⟨_, rfl⟩ (by omega) (by omega))) ?_ | refine yp (fun _ _ => po_move rfl rfl) ?_) <;> (first | refine yp (fun _ _ => po_remc hrem rfl rfl rfl (by omega)) ?_ | refine yp (fun _ _ => po_sl hs1 (po_slice rfl rfl (.t _) (tyS rfl) ⟨_, rfl⟩ rfl (by omega) (by omega))) ?_ | refine yp (fun _ _ => po_sl hs2 (po_slice rfl rfl (.t _) (tyS rfl) rfl ⟨_, rfl⟩ (by omega) (by omega))) ?_ | refine yp (fun _ _ => po_move rfl rfl) ?_) <;> (first | refine yp (fun _ _ => po_remc hrem rfl rfl rfl (by omega)) ?_ | refine yp (fun _ _ => po_sl hs1 (po_slice rfl rfl (.t _) (tyS rfl) ⟨_, rfl⟩ rfl (by omega) (by omega))) ?_ | refine yp (fun _ _ => po_sl hs2 (po_slice rfl rfl (.t _) (tyS rfl) rfl ⟨_, rfl⟩ (by omega) (by omega))) ?_ | refine yp (fun _ _ => po_slice rfl rfl (by first | exact .t _ | exact .own rfl (by first | rfl | assumption | (simp; done) | (simp; omega)) | exact .nil _ | exact .emp _ | exact .fn _) (tyS rfl) (by first | rfl | exact ⟨_, rfl⟩) (by first | rfl | exact ⟨_, rfl⟩) (by omega) (by omega)) ?_) <;> (refine sany_eff [] [(1001, _)] (.free rfl rfl) rfl rfl (fun _ _ _ _ => e_append rfl rfl rfl (by first | rfl | simp) rfl (by first | exact .t _ | exact .own rfl (by first | rfl | assumption | (simp; done) | (simp; omega)) | exact .nil _ | exact .emp _ | exact .fn _) (tyE rfl) (by first | assumption | (simp at *; omega)) (by first | assumption | (simp [maxLen] at *; omega))) ?_) <;> (first | refine yp (fun _ _ => po_remc hrem rfl rfl rfl (by omega)) ?_ | refine yp (fun _ _ => po_sl hs1 (po_slice rfl rfl (.t _) (tyS rfl) ⟨_, rfl⟩ rfl (by omega) (by omega))) ?_ | refine yp (fun _ _ => po_sl hs2 (po_slice rfl rfl (.t _) (tyS rfl) rfl ⟨_, rfl⟩ (by omega) (by omega))) ?_ | refine yp (fun _ _ => po_move rfl rfl) ?_) <;> (first | refine yp (fun _ _ => po_remc hrem rfl rfl rfl (by omega)) ?_ | refine yp (fun _ _ => po_sl hs1 (po_slice rfl rfl (.t _) (tyS rfl) ⟨_, rfl⟩ rfl (by omega) (by omega))) ?_ | refine yp (fun _ _ => po_sl hs2 (po_slice rfl rfl (.t _) (tyS rfl) rfl ⟨_, rfl⟩ (by omega) (by omega))) ?_ | refine yp (fun _ _ => po_move rfl rfl) ?_) <;> (first | refine yp (fun _ _ => po_remc hrem rfl rfl rfl (by omega)) ?_ | refine yp (fun _ _ => po_sl hs1 (po_slice rfl rfl (.t _) (tyS rfl) ⟨_, rfl⟩ rfl (by omega) (by omega))) ?_ | refine yp (fun _ _ => po_sl hs2 (po_slice rfl rfl (.t _) (tyS rfl) rfl ⟨_, rfl⟩ (by omega) (by omega))) ?_ | refine yp (fun _ _ => po_slice rfl rfl (by first | exact .t _ | exact .own rfl (by first | rfl | assumption | (simp; done) | (simp; omega)) | exact .nil _ | exact .emp _ | exact .fn _) (tyS rfl) (by first | rfl | exact ⟨_, rfl⟩) (by first | rfl | exact ⟨_, rfl⟩) (by omega) (by omega)) ?_) <;> (refine sany_eff [] [(1001, _)] (.free rfl rfl) rfl rfl (fun _ _ _ _ => e_append rfl rfl rfl (by first | rfl | simp) rfl (by first | exact .t _ | exact .own rfl (by first | rfl | assumption | (simp; done) | (simp; omega)) | exact .nil _ | exact .emp _ | exact .fn _) (tyE rfl) (by first | assumption | (simp at *; omega)) (by first | assumption | (simp [maxLen] at *; omega))) ?_) <;> (first | refine yp (fun _ _ => po_remc hrem rfl rfl rfl (by omega)) ?_ | refine yp (fun _ _ => po_sl hs1 (po_slice rfl rfl (.t _) (tyS rfl) ⟨_, rfl⟩ rfl (by omega) (by omega))) ?_ | refine yp (fun _ _ => po_sl hs2 (po_slice rfl rfl (.t _) (tyS rfl) rfl ⟨_, rfl⟩ (by omega) (by omega))) ?_ | refine yp (fun _ _ => po_assign rfl rfl) ?_) <;> (refine sany_nil ?_)) | refine gc ?_ | refine ct ?_ | refine cf ?_ | refine swp_cond rfl (fun hc => ?_) (fun hc => ?_) | refine rq rfl (rt .nil) ?_)
  have hR : ([] ++ (l.drop k).map polT) ++ (l.take k).map polT = polT l[k] :: (l.drop (k + 1) ++ l.take k).map polT := by
    rw [List.nil_append, ← List.map_append, List.drop_eq_getElem_cons hk]; rfl
  generalize hRR : l.drop (k + 1) ++ l.take k = R at *
  have hRl : R.length + 1 = l.length := by rw [← hRR]; simp; omega
  have cL := copyL_ l[k] (hfp _ (List.getElem_mem hk))
  have fk := hfp _ (List.getElem_mem hk)
  have hrn := fk.n
  generalize hpk : l[k] = pk at *
  have hL0 : 0 < l.length := by omega
  have hn0 : 0 < (([] ++ (l.drop k).map polT) ++ (l.take k).map polT).length := by rw [hR]; simp
  have hr0 : (([] ++ (l.drop k).map polT) ++ (l.take k).map polT)[0]? = some (polT pk) := by rw [hR]; rfl
  have hml : (pk.rules.map ruleT).length = pk.rules.length := List.length_map _
  have e9 : (A.own 1001 (([] ++ (l.drop k).map polT) ++ (l.take k).map polT).length).tsb 1001 1900 (([] ++ (l.drop k).map polT) ++ (l.take k).map polT).length 5 26 = .sb 1900 l.length 5 26 := (tsb_own _ _ _ _ _).trans (congrArg (fun z => A.sb 1900 z 5 26) (by rw [hR]; simp; omega))
  have ec : ((([] ++ (l.drop k).map polT) ++ (l.take k).map polT).flatten).map A.t = [] ++ ((polT pk).map .t ++ restA R) := by
    rw [hR, List.flatten_cons, List.map_append]; rfl
  refine rg 8 ?_
  refine oMv ?_; refine oMv ?_
  refine sp (po_index_own (k := 0) rfl rfl rfl rfl rfl (tyS rfl) rfl hn0) ?_
  refine sp (po_load_own_agg rfl rfl rfl rfl (tyT rfl) (row := polT pk) hr0 rfl rfl) ?_
  refine sops_lcall cL (fun i => i) (fun i => i) (fun _ => false) (.free rfl rfl) rfl rfl rfl (by (repeat' (first | exact .nil | refine .cons rfl rfl rfl ?_ | refine .vw rfl (.t _) ?_))) .nil .nil rfl rfl (fun i h => by cases h) ?_
  refine sops_weak (st' := M1 l R a port q tg qu bd k y0 pk) (Weak.trans (weak_tobox 1001 1900 rfl hn0 rfl) ?_) ?_
  · refine weak_sub ?_ ?_ ?_
    · exact .cons rfl e9 rfl (.cons rfl rfl rfl (.cons rfl e9 rfl (.cons rfl rfl rfl (.cons rfl rfl rfl (.cons rfl rfl rfl (.cons rfl rfl rfl (.cons rfl rfl rfl (.cons rfl rfl rfl .nil))))))))
    · exact .cons rfl ec (by unfold restA; rw [List.nil_append, List.all_append, live_t, live_t]; rfl) (.cons rfl rfl rfl (.cons rfl rfl rfl .nil))
    · exact .cons rfl rfl .nil
  unfold M1 tmM bxM
  refine sp (po_index_mid (a := []) (k := 0) rfl rfl rfl rfl (tyS rfl) rfl hL0) ?_
  refine sops_store_mid (a := []) (.free rfl rfl) rfl rfl rfl rfl rfl rfl (tyT rfl) rfl rfl ?_
  refine oN ?_
  refine gc ?_
  refine rg 9 ?_
  refine oMv ?_
  refine sp (po_index_mid (a := []) (k := 0) rfl rfl rfl rfl (tyS rfl) rfl hL0) ?_
  refine oFb ?_
  refine sp (po_load_mid (a := []) (j := 4) rfl rfl (tyT rfl) rfl rfl) ?_
  refine sp (po_len_own rfl rfl (tyS rfl)) ?_
  refine oAs ?_; refine oN ?_
  refine gc ?_
  repeat' (first | (refine rg 10 ?_; refine oAs ?_; refine oN ?_) | refine gc ?_ | refine ct ?_ | refine cf ?_ | refine swp_cond rfl (fun hc => ?_) (fun hc => ?_) | refine rq rfl (rt .nil) ?_)
  refine swp_for (SL l R a port q tg qu bd k y0 pk) (fun _ => True) (pk.rules.length / 2) ?_ trivial ?_
  · refine weak_sub ?_ ?_ ?_
    · exact .cons rfl rfl rfl (.cons rfl (by rw [hml]) rfl (.cons rfl rfl rfl (.cons rfl rfl rfl (.cons rfl rfl rfl (.cons rfl rfl rfl (.cons rfl rfl rfl (.cons rfl rfl rfl (.cons rfl rfl rfl .nil))))))))
    · exact .cons rfl rfl (by unfold restA; rw [List.nil_append, List.all_append, live_t]; rfl) (.cons rfl rfl rfl (.cons rfl rfl rfl .nil))
    · exact .cons rfl (by rw [swp_zero]) .nil
  intro i hi _
  unfold SL tmM bxM
  by_cases hlt : i < pk.rules.length / 2
  · have hc1 : decide ((i : Int) < ((pk.rules.length / 2 : Nat) : Int)) = true := by simp; omega
    repeat' (first | (refine rg 11 ?_; refine oMv ?_; refine oMv ?_; (first | refine sp (po_quoN (d := 2) rfl rfl rfl (by omega) (by omega)) ?_ | refine sp (po_quo rfl rfl rfl (by omega)) ?_); refine oCm ?_; refine oN ?_) | (refine rg 12 ?_; refine oMv ?_; (first | refine sp (po_quoN (d := 2) rfl rfl rfl (by omega) (by omega)) ?_ | refine sp (xinc rfl) ?_ | refine sp (xadd rfl) ?_); refine oAs ?_; refine oN ?_) | refine gc ?_ | refine ct ?_ | refine cf ?_ | refine swp_cond rfl (fun hc => ?_) (fun hc => ?_) | refine rq rfl (rt .nil) ?_)
    have hi1 : i < pk.rules.length := by omega
    have hi2 : pk.rules.length - 1 - i < pk.rules.length := by omega
    have hnn : (pk.rules.map ruleT).length = ((swp pk.rules i).map ruleT).length := by rw [hml, List.length_map, swp_len]
    have hk1 : i < (pk.rules.map ruleT).length := by rw [hml]; exact hi1
    have hk3 : pk.rules.length - 1 - i < (pk.rules.map ruleT).length := by rw [hml]; exact hi2
    have hz : (pk.rules.length : Int) - 1 - (i : Int) = ((pk.rules.length - 1 - i : Nat) : Int) := by omega
    have r1 : ((swp pk.rules i).map ruleT)[i]? = some (ruleT pk.rules[i]) := by rw [List.getElem?_map, List.getElem?_eq_getElem (by rw [swp_len]; exact hi1), swp_lo _ _ hlt]; rfl
    have r2 : ((swp pk.rules i).map ruleT)[pk.rules.length - 1 - i]? = some (ruleT pk.rules[pk.rules.length - 1 - i]) := by rw [List.getElem?_map, List.getElem?_eq_getElem (by rw [swp_len]; exact hi2), swp_hi _ _ hlt]; rfl
    have r3 : (((swp pk.rules i).map ruleT).set i (ruleT pk.rules[pk.rules.length - 1 - i]))[pk.rules.length - 1 - i]? = some (ruleT pk.rules[pk.rules.length - 1 - i]) := by rw [List.getElem?_set_ne (by omega)]; exact r2
    have hnn2 : (pk.rules.map ruleT).length = (((swp pk.rules i).map ruleT).set i (ruleT pk.rules[pk.rules.length - 1 - i])).length := by rw [List.length_set]; exact hnn
    have r4 : (((swp pk.rules i).map ruleT).set i (ruleT pk.rules[pk.rules.length - 1 - i])).set (pk.rules.length - 1 - i) (ruleT pk.rules[i]) = (swp pk.rules (i + 1)).map ruleT := by
      rw [← swp_step pk.rules i hlt, List.map_set, List.map_set]
    refine swp_any (id := 13) [[], [], [], [], [], [], [], [], [], [], [], [], [], [], [], [], [], [], [], [], [], [], [], [], [], [], [], [], [], [], [], [1003], [], [1003]] [[], [], [], [], [], [], [], [], [], [1003], [1003], [1003], [1003], [], [], [], [], [], [], [], [], [], [], [], [], [], [], [], [], [], [], [], [], []] mixed (by kernel_rfl) ?_
    refine yp (fun _ _ => po_move rfl rfl) ?_
    refine yp (fun _ _ => po_index_mid (a := []) (k := 0) rfl rfl rfl rfl (tyS rfl) rfl hL0) ?_
    refine yp (fun _ _ => po_field_bx rfl rfl (tyF rfl)) ?_
    refine yp (fun _ _ => po_load_mid (a := []) (j := 4) rfl rfl (tyT rfl) rfl rfl) ?_
    refine yp (fun _ _ => po_move rfl rfl) ?_
    refine yp (fun _ _ => po_move rfl rfl) ?_
    refine yp (fun _ _ => po_index_mid (a := []) (k := 0) rfl rfl rfl rfl (tyS rfl) rfl hL0) ?_
    refine yp (fun _ _ => po_field_bx rfl rfl (tyF rfl)) ?_
    refine yp (fun _ _ => po_load_mid (a := []) (j := 4) rfl rfl (tyT rfl) rfl rfl) ?_
    refine yp (fun _ _ => po_move rfl rfl) ?_
    refine yp (fun _ _ => po_arith (c := (pk.rules.length : Int) - 1) rfl rfl rfl (ar_sub (wrap_i64 (by omega)) rfl)) ?_
    refine yp (fun _ _ => po_move rfl rfl) ?_
    refine yp (fun _ _ => po_arith (c := (pk.rules.length : Int) - 1 - (i : Int)) rfl rfl rfl (ar_sub (wrap_i64 (by omega)) rfl)) ?_
    refine yp (fun _ _ => po_move rfl rfl) ?_
    refine yp (fun _ _ => po_index_mid (a := []) (k := 0) rfl rfl rfl rfl (tyS rfl) rfl hL0) ?_
    refine yp (fun _ _ => po_field_bx rfl rfl (tyF rfl)) ?_
    refine yp (fun _ _ => po_load_mid (a := []) (j := 4) rfl rfl (tyT rfl) rfl rfl) ?_
    refine yp (fun _ _ => po_move rfl rfl) ?_
    refine yp (fun _ _ => po_arith (c := (pk.rules.length : Int) - 1) rfl rfl rfl (ar_sub (wrap_i64 (by omega)) rfl)) ?_
    refine yp (fun _ _ => po_move rfl rfl) ?_
    refine yp (fun _ _ => po_arith (c := (pk.rules.length : Int) - 1 - (i : Int)) rfl rfl rfl (ar_sub (wrap_i64 (by omega)) rfl)) ?_
    refine yp (fun _ _ => po_index_own (k := (pk.rules.length - 1 - i)) rfl rfl rfl hnn rfl (tyS rfl) hz hk3) ?_
    refine yp (fun _ _ => po_load_own_agg rfl rfl rfl hnn (tyT rfl) (row := ruleT pk.rules[pk.rules.length - 1 - i]) r2 rfl rfl) ?_
    refine yp (fun _ _ => po_move rfl rfl) ?_
    refine yp (fun _ _ => po_index_mid (a := []) (k := 0) rfl rfl rfl rfl (tyS rfl) rfl hL0) ?_
    refine yp (fun _ _ => po_field_bx rfl rfl (tyF rfl)) ?_
    refine yp (fun _ _ => po_load_mid (a := []) (j := 4) rfl rfl (tyT rfl) rfl rfl) ?_
    refine yp (fun _ _ => po_move rfl rfl) ?_
    refine yp (fun _ _ => po_index_own (k := i) rfl rfl rfl hnn rfl (tyS rfl) rfl hk1) ?_
    refine yp (fun _ _ => po_load_own_agg rfl rfl rfl hnn (tyT rfl) (row := ruleT pk.rules[i]) r1 rfl rfl) ?_
    refine yp (fun _ _ => po_index_own (k := i) rfl rfl rfl hnn rfl (tyS rfl) rfl hk1) ?_
    refine sany_eff [] [(1003, _)] (.free rfl rfl) rfl rfl (fun _ _ _ _ => e_store_own (by rfl) rfl rfl rfl rfl hnn rfl (.t _) rfl rfl (tyT rfl) rfl r1 rfl) ?_
    refine yp (fun _ _ => po_index_own (k := (pk.rules.length - 1 - i)) rfl rfl rfl hnn2 rfl (tyS rfl) hz hk3) ?_
    refine sany_eff [] [(1003, _)] (.free rfl rfl) rfl rfl (fun _ _ _ _ => e_store_own (by rfl) rfl rfl rfl rfl hnn2 rfl (.t _) rfl rfl (tyT rfl) rfl r3 rfl) ?_
    refine sany_nil ?_
    refine gc ?_
    have hlive : ∀ (b : List (Nat × List A)) (o : List (Nat × Own)), (get o 1003).isSome = true → (([] ++ (polL pk 1003 ++ restA R)).all fun x => x.live b o) = true := fun b o h => by
      unfold restA; rw [List.nil_append, List.all_append, live_t]
      show ((true && (true && (true && (true && ((get o 1003).isSome && true))))) && true) = true
      rw [h]; rfl
    repeat' (first | refine for_next hlt (weak_sub (.cons rfl rfl rfl (.cons rfl rfl rfl (.cons rfl rfl rfl (.cons rfl rfl rfl (.cons rfl rfl rfl (.cons rfl rfl rfl (.cons rfl rfl rfl (.cons rfl rfl rfl (.cons rfl rfl rfl .nil))))))))) (.cons rfl rfl (hlive _ _ rfl) (.cons rfl rfl rfl (.cons rfl rfl rfl .nil))) (.cons rfl (congrArg (Own.mk _ 3) r4) .nil)) trivial | (refine rg 12 ?_; refine oMv ?_; (first | refine sp (xinc rfl) ?_ | refine sp (xadd rfl) ?_); refine oAs ?_; refine oN ?_) | refine gc ?_ | refine ct ?_ | refine cf ?_ | refine swp_cond rfl (fun hc => ?_) (fun hc => ?_) | refine rq rfl (rt .nil) ?_)
  · obtain rfl : i = pk.rules.length / 2 := by omega
    have hc1 : decide (((pk.rules.length / 2 : Nat) : Int) < ((pk.rules.length / 2 : Nat) : Int)) = false := by simp
    repeat' (first | (refine rg 11 ?_; refine oMv ?_; refine oMv ?_; (first | refine sp (po_quoN (d := 2) rfl rfl rfl (by omega) (by omega)) ?_ | refine sp (po_quo rfl rfl rfl (by omega)) ?_); refine oCm ?_; refine oN ?_) | refine gc ?_ | refine ct ?_ | refine cf ?_ | refine swp_cond rfl (fun hc => ?_) (fun hc => ?_) | refine rq rfl (rt .nil) ?_)
    let pk' : Pl.Policy := { pk with rules := pk.rules.reverse }
    have hlp : okPolicy pk := by rw [← hpk]; exact hl _ (List.getElem_mem hk)
    have hpk' : okPolicy pk' := ⟨hlp.1, hlp.2.1, hlp.2.2.1, hlp.2.2.2.1, fun y hy => hlp.2.2.2.2 y (List.mem_reverse.1 hy)⟩
    have okR : ∀ x ∈ R, okPolicy x := fun x hx => by
      rw [← hRR] at hx
      rcases List.mem_append.1 hx with h | h
      · exact hl x (List.mem_of_mem_drop h)
      · exact hl x (List.mem_of_mem_take h)
    have ok1 : ∀ x ∈ pk' :: R, okPolicy x := fun x hx => by
      rcases List.mem_cons.1 hx with h | h
      · subst h; exact hpk'
      · exact okR x h
    have ok2 : ∀ x ∈ (pk' :: R) ++ [pk], okPolicy x := fun x hx => by
      rcases List.mem_append.1 hx with h | h
      · exact ok1 x h
      · simp at h; subst h; exact hlp
    have hj1 := p_judge (pk' :: R) ok1 a ha port q hq (by omega) tg qu bd
    have hj2 := p_judge ((pk' :: R) ++ [pk]) ok2 a ha port q hq (by omega) tg qu bd
    rw [List.map_append] at hj2
    have hlL : l.take k ++ pk :: l.drop (k + 1) = l := by rw [← hpk]; exact (cut_at hk).symm
    have e1 := Pl.order_turn (matchP a port q) (l.take k) (l.drop (k + 1)) pk pk' rfl rfl
    have e2 := Pl.order_twice (matchP a port q) (l.take k) (l.drop (k + 1)) pk pk' rfl rfl
    rw [hlL, hJ0, List.cons_append, hRR] at e1 e2
    generalize Pl.judgeP (matchP a port q) (pk' :: R) = J1 at *
    generalize Pl.judgeP (matchP a port q) ((pk' :: R) ++ [pk]) = J2 at *
    obtain ⟨y1, i1⟩ := J1
    obtain ⟨y2, i2⟩ := J2
    dsimp only at *
    replace e1 := e1.symm
    replace e2 := e2.symm
    subst e1 e2
    have hrow : (l.map polT)[k]? = some (polT pk) := by rw [List.getElem?_map, List.getElem?_eq_getElem hk, hpk]; rfl
    have hlr : ((pk' :: R).map polT).length = l.length := by rw [List.length_map, List.length_cons]; exact hRl
    have hr5 : ∀ x ∈ (pk' :: R).map polT, x.length = 5 := fun x hx => by obtain ⟨y, _, rfl⟩ := List.mem_map.1 hx; rfl
    have hrv : (pk.rules.map ruleT).length = (pk.rules.reverse.map ruleT).length := by simp
    refine swp_weak (st' := M2 l R a port q tg qu bd k y0 pk) (Weak.trans (weak_show 1003 103 rfl rfl rfl rfl) ?_) ?_
    · refine weak_sub ?_ ?_ ?_
      · exact .cons rfl rfl rfl (.cons rfl rfl rfl (.cons rfl rfl rfl (.cons rfl rfl rfl (.cons rfl rfl rfl (.cons rfl rfl rfl (.cons rfl rfl rfl .nil))))))
      · exact .cons rfl (by unfold restA; rw [List.nil_append, List.map_append, map_t _ (fun _ => rfl)]; rfl) (by unfold restA; rw [List.nil_append, List.all_append, live_t]; rfl) (.cons rfl rfl rfl (.cons rfl rfl rfl .nil))
      · exact .cons rfl (by rw [swp_half]) .nil
    unfold M2
    refine swp_weak (st' := M3 l a port q tg qu bd k y0 ((pk' :: R).map polT)) (Weak.trans (weak_torow 14 1900 1001 ((pk' :: R).map polT) (by rw [hlr]; rfl) rfl hr5 ?_ rfl) (Weak.trans (weak_show 1001 101 rfl rfl rfl rfl) ?_)) ?_
    · rw [List.nil_append, List.map_cons, List.flatten_cons]
      refine vwl_app ?_ (vwl_t _ _)
      exact .cons (.t _) (.cons (.t _) (.cons (.t _) (.cons (.t _) (.cons (.own rfl hrv) .nil))))
    · refine weak_sub ?_ ?_ ?_
      · exact .cons rfl rfl rfl (.cons rfl rfl rfl (.cons rfl rfl rfl (.cons rfl rfl rfl (.cons rfl rfl rfl (.cons rfl rfl rfl (.cons rfl rfl rfl .nil))))))
      · exact .cons rfl rfl rfl (.cons rfl rfl rfl .nil)
      · exact .cons rfl rfl .nil
    unfold M3 tmM bxM
    have g7 : (((pk' :: R).map polT).length + 1) * 64 ≤ 140737488355328 := by omega
    have g8 : ((pk' :: R).map polT).length + 1 ≤ maxLen := by unfold maxLen; omega
    have hkz : k < (l.map polT).length := by rw [hm1]; exact hk
    have hyy : (y0 == y0) = true := by simp
    clear hj0 hlong cL
    repeat' (first | (refine rg 14 ?_; refine oMv ?_; (first | refine sp (po_load_bx_agg rfl rfl (tyT rfl) rfl (vc (vc (vc .nil))) rfl) ?_ | refine sp (po_load_agg rfl rfl (tyT rfl) rfl rfl) ?_); refine oMv ?_; (first | refine sp (po_load_bx_agg rfl rfl (tyT rfl) rfl (vc (vc (vc (vc (vc (vc (vc .nil))))))) rfl) ?_ | refine sp (po_load_agg rfl rfl (tyT rfl) rfl rfl) ?_); (first | refine oC (hj1) rfl (ac (ac (ac (ac .nil)))) ?_ | refine oC (hj2) rfl (ac (ac (ac (ac .nil)))) ?_ | refine oC (haw) rfl (ac (ac (ac (ac .nil)))) ?_); refine oMv ?_; refine oEx ?_; refine oEx ?_; refine oAs ?_; refine oAs ?_; refine oN ?_) | ((refine swp_any (id := 15) [[], [], [], [], [], [], [101], [], [], [], [], [], [], [], [], []] [[], [], [], [], [], [], [], [101], [101], [101], [], [], [], [], [], []] mixed (by kernel_rfl) ?_) <;> (first | refine yp (fun _ _ => po_beq true rfl rfl rfl (by kernel_rfl) hyy) ?_ | refine yp (fun _ _ => po_move rfl rfl) ?_) <;> (first | refine yp (fun _ _ => po_beq true rfl rfl rfl (by kernel_rfl) hyy) ?_ | refine yp (fun _ _ => po_move rfl rfl) ?_) <;> (first | refine yp (fun _ _ => po_beq true rfl rfl rfl (by kernel_rfl) hyy) ?_ | refine yp (fun _ _ => po_move rfl rfl) ?_) <;> (first | refine yp (fun _ _ => po_beq true rfl rfl rfl (by kernel_rfl) hyy) ?_ | refine yp (fun _ _ => pix rfl (tyS rfl)) ?_) <;> (first | refine yp (fun _ _ => po_beq true rfl rfl rfl (by kernel_rfl) hyy) ?_ | refine yp (fun _ _ => po_load_bx_agg rfl rfl (tyT rfl) rfl (vc (vc (vc (vc (vc .nil))))) rfl) ?_ | refine yp (fun _ _ => po_load_agg rfl rfl (tyT rfl) rfl rfl) ?_) <;> (first | refine yp (fun _ _ => po_beq true rfl rfl rfl (by kernel_rfl) hyy) ?_ | refine yp (fun _ _ => po_buildSlice rfl (tyE rfl) (dc (.nil _)) rfl rfl rfl) ?_) <;> (refine sany_eff [] [(101, _)] (.free rfl rfl) rfl rfl (fun _ _ _ _ => e_append rfl rfl rfl (by first | rfl | simp) rfl (by first | exact .t _ | exact .own rfl (by first | rfl | assumption | (simp; done) | (simp; omega)) | exact .nil _ | exact .emp _ | exact .fn _) (tyE rfl) (by first | assumption | (simp at *; omega)) (by first | assumption | (simp [maxLen] at *; omega))) ?_) <;> (first | refine yp (fun _ _ => po_beq true rfl rfl rfl (by kernel_rfl) hyy) ?_ | refine yp (fun _ _ => po_load_bx_agg rfl rfl (tyT rfl) rfl (vc (vc (vc .nil))) rfl) ?_ | refine yp (fun _ _ => po_load_agg rfl rfl (tyT rfl) rfl rfl) ?_) <;> (first | refine yp (fun _ _ => po_beq true rfl rfl rfl (by kernel_rfl) hyy) ?_ | refine yp (fun _ _ => po_move rfl rfl) ?_) <;> (first | refine yp (fun _ _ => po_beq true rfl rfl rfl (by kernel_rfl) hyy) ?_ | refine yp (fun _ _ => po_load_bx_agg rfl rfl (tyT rfl) rfl (vc (vc (vc (vc (vc (vc (vc .nil))))))) rfl) ?_ | refine yp (fun _ _ => po_load_agg rfl rfl (tyT rfl) rfl rfl) ?_) <;> (first | refine yp (fun _ _ => po_beq true rfl rfl rfl (by kernel_rfl) hyy) ?_ | refine yp (fun _ _ => po_call (hj1) rfl (ac (ac (ac (ac .nil))))) ?_ | refine yp (fun _ _ => po_call (hj2) rfl (ac (ac (ac (ac .nil))))) ?_ | refine yp (fun _ _ => po_call (haw) rfl (ac (ac (ac (ac .nil))))) ?_) <;> (first | refine yp (fun _ _ => po_beq true rfl rfl rfl (by kernel_rfl) hyy) ?_ | refine yp (fun _ _ => po_move rfl rfl) ?_) <;> (first | refine yp (fun _ _ => po_beq true rfl rfl rfl (by kernel_rfl) hyy) ?_ | refine yp (fun _ _ => po_extract rfl rfl rfl) ?_) <;> (first | refine yp (fun _ _ => po_beq true rfl rfl rfl (by kernel_rfl) hyy) ?_ | refine yp (fun _ _ => po_extract rfl rfl rfl) ?_) <;> (first | refine yp (fun _ _ => po_beq true rfl rfl rfl (by kernel_rfl) hyy) ?_ | refine yp (fun _ _ => po_assign rfl rfl) ?_) <;> (first | refine yp (fun _ _ => po_beq true rfl rfl rfl (by kernel_rfl) hyy) ?_ | refine yp (fun _ _ => po_assign rfl rfl) ?_) <;> (refine sany_nil ?_)) | (refine rg 16 ?_; refine oMv ?_; refine oMv ?_; (first | refine sp (po_beq true rfl rfl rfl (by kernel_rfl) hyy) ?_ | refine sp (po_boolq rfl rfl rfl (by kernel_rfl) (by first | exact .inl rfl | exact .inr rfl)) ?_); refine oMv ?_; (first | refine oMv ?_ | refine oK ?_ | ((refine ssp (fun hc => ?_) (fun hc => ?_)) <;> first | refine oMv ?_ | refine oK ?_)) <;> (first | refine oMv ?_ | refine oK ?_) <;> (first | refine sp (po_beq true rfl rfl rfl (by kernel_rfl) hyy) ?_ | refine sp (po_boolq rfl rfl rfl (by kernel_rfl) (by first | exact .inl rfl | exact .inr rfl)) ?_ | refine oK ?_) <;> (first | refine oPt ?_ | refine oPf ?_) <;> (refine oMv ?_) <;> (first | refine oC (hj1) rfl .nil ?_ | refine oC (hj2) rfl .nil ?_ | refine oC (haw) rfl .nil ?_ | refine oK ?_ | ((refine ssp (fun hc => ?_) (fun hc => ?_)) <;> first | refine oC (hj1) rfl .nil ?_ | refine oC (hj2) rfl .nil ?_ | refine oC (haw) rfl .nil ?_ | refine oK ?_)) <;> (first | refine oPt ?_ | refine oPf ?_) <;> (refine oAs ?_) <;> (refine oN ?_)) | refine gc ?_ | refine ct ?_ | refine cf ?_ | refine swp_cond rfl (fun hc => ?_) (fun hc => ?_) | refine rq rfl (rt .nil) ?_)
    rfl
theorem walk (l : List Pl.Policy) (A0 : Option Addr) (cap0 : Nat) (at_ : Int) (a : Pl.Asker) (port : Int) (q : Pl.Req) (A : Option Addr) (cap : Nat) (tg qu : ByteArray) (bd : Value) (hbd : bd.oneCell' = true) (w : World) (hA : SliceAt PolicyR 5 w.heap.size w A0 l) (hl1 : l.length ≤ cap0) (hl2 : cap0 ≤ maxLen) (hadr : (Lit.int .u32 a.addr).wf = true) (hf : Fits0 w.heap.size w a q A) (hc1 : q.heads.length ≤ cap) (hc2 : cap ≤ maxLen) :
    Calls Try.prog 4 #[.slice A0 l.length cap0, .int .i64 at_, .agg #[.string a.ns, .string a.sa, .int .u32 a.addr], .int .i64 port, .agg #[.string q.method, .string tg, .string q.path, .string qu, .string q.host, .slice A q.heads.length cap, bd]] w fun e w' => e = .returned (.bool true) ∧ Lo w w' := by
  have hpol : SliceC PolicyR 5 w.heap.size w l [.slice A0 l.length cap0] := ⟨A0, cap0, rfl, hA, hl1, hl2⟩
  have hhd : SliceC HeadR 2 w.heap.size w q.heads [.slice A q.heads.length cap] := ⟨A, cap, rfl, hf.heads, hc1, hc2⟩
  have hask : OkAsk a := ⟨hf.ns, hf.sa, hadr⟩
  have hreq : OkReq0 q := ⟨hf.method, hf.path, hf.host, sl_ok head_ok hhd⟩
  have h := law_ l (sl_ok policy_ok hpol) at_ a hask port q hreq tg qu bd
  refine h.law w _ rfl (fun i t v h1 h2 => ?_) (fun b o v h => absurd (show (none : Option Value) = some v from h) (by simp))
  · match i, h1, h2 with
    | 0, h1, h2 => simp at h1 h2; subst h1 h2; exact (sl_bwd (enc := polT) (fun _ => rfl) policy_bwd hpol).1
    | 1, h1, h2 => simp at h1 h2; subst h1 h2; exact .v _
    | 2, h1, h2 => simp at h1 h2; subst h1 h2; exact agg_bwd (vs := [_, _, _]) (cellsAre_cons (.v _) rfl (cellsAre_cons (.v _) rfl (cellsAre_cons (.v _) rfl (cellsAre_nil _))))
    | 3, h1, h2 => simp at h1 h2; subst h1 h2; exact .v _
    | 4, h1, h2 => simp at h1 h2; subst h1 h2; exact agg_bwd (vs := [_, _, _, _, _, _, _]) (cellsAre_cons (.v _) rfl (cellsAre_cons (.v _) rfl (cellsAre_cons (.v _) rfl (cellsAre_cons (.v _) rfl (cellsAre_cons (.v _) rfl (cellsAre_cons (sl_bwd (enc := headT) (fun _ => rfl) head_bwd hhd).1 rfl (cellsAre_cons (.v _) hbd (cellsAre_nil _))))))))
end Go.Proofs.Ytnclifgiakmmoaa.AuthOrder
