/- Merged by bundles.py: SimSm, SimSn. -/
import Derived.Test.YtabejnjnkpdjbaaU28
import Derived.Test.YtabejnjnkpdjbaaU31
import Derived.Test.YtabejnjnkpdjbaaU15
/- symMerge: its searches. -/
namespace Go.Proofs.Ytabejnjnkpdjbaa.Sim
set_option linter.unusedVariables false
set_option linter.unusedSimpArgs false
open Go.RowKit Mem
theorem po_half {P : Program} {bx : List (Nat × List A)} {ow : List (Nat × Own)} {o : Oper} {ρ : Operand → Option A} {t t2 : TypeId} {x y : Operand} {m : Nat} (hm : m ≤ 1000000) (ho : o.op = .binOp .shr t x y t2) (hx : ρ x = some (.t (.v (.int .u64 (m : Int))))) (hy : ρ y = some (.t (.v (.int .u64 1)))) : PureOp P bx ow o ρ (.t (.v (.int .u64 ((m / 2 : Nat) : Int)))) := by
  exact po_ex2 ho hx hy (.v _) (.v _) (by
    intro w a b
    have : (m : Int).fdiv 2 = ((m / 2 : Nat) : Int) := by
      rw [show (2 : Int) = ((2 : Nat) : Int) from rfl, ← Int.ofNat_fdiv]
    simp [eqGuard, binOp, Op.shift, IntKind.bits, this])
def ltK (x y : PTk) : Bool := decide (cmpU x.n y.n < 0)
structure HalfX where
  i : Nat
  j : Nat
  f : Nat
structure HalfOk (p : Nat → Bool) (lo hi : Nat) (r : Nat) (z : HalfX) : Prop where
  lo : lo ≤ z.i
  ij : z.i ≤ z.j
  hi : z.j ≤ hi
  fu : z.j - z.i ≤ z.f
  eq : bsr p z.f z.i z.j = r
def SMa (N a m b : Nat) (l : List PTk) (z : HalfX) : St := ⟨[(0, .own 2000 N), (1, .t (i64T (a : Int))), (2, .t (i64T (m : Int))), (3, .t (i64T (b : Int))), (4, .t (.clo 57 [])), (10, .t (i64T (z.i : Int))), (11, .t (i64T (z.j : Int)))], [], [(2000, ⟨46, 4, l.map takR⟩)]⟩
def SM0 (N a m b : Nat) (l : List PTk) : St := ⟨[(0, .own 2000 N), (1, .t (i64T (a : Int))), (2, .t (i64T (m : Int))), (3, .t (i64T (b : Int))), (4, .t (.clo 57 []))], [], [(2000, ⟨46, 4, l.map takR⟩)]⟩
def SMu (N a e : Nat) (l : List PTk) (k : Nat) : St := ⟨[(0, .own 2000 N), (1, .t (i64T (a : Int))), (10, .t (i64T (e : Int))), (13, .t (i64T ((a + k : Nat) : Int)))], [], [(2000, ⟨46, 4, (mvU l a k).map takR⟩)]⟩
set_option maxRecDepth 100000 in
set_option maxHeartbeats 4000000 in
theorem symA_ {c0 d0 : Code} (hc0 : fS 1 (bodyOf Try.f124) = some (.seq c0 d0)) {Q : Exit → St → Prop} (N a m b : Nat) (l : List PTk) (hN : N = l.length) (hb : N ≤ 2000) (h1 : m - a = 1) (h2 : m < b) (h3 : b ≤ N)
    (hret : ∀ st, RetL Try.prog Try.f124 (resA []) [] [(2000, ⟨46, 4, (mvU l a (bsr (fun h => ltA ltK l h a) (b - m) m b - 1 - a)).map takR⟩)] .ret st → Q .ret st) : SWp Try.prog 220 c0 (Then Try.prog 220 d0 Q) (SM0 N a m b l) := by
  obtain ⟨rfl, rfl⟩ := Code.seq.inj (Option.some.inj hc0)
  clear hc0
  generalize hr : bsr (fun h => ltA ltK l h a) (b - m) m b = r at *
  have hrin := bsr_in (fun h => ltA ltK l h a) (b - m) m b (by omega)
  rw [hr] at hrin
  unfold SM0
  repeat' (first | refine rg 1 (aq8 ?_) | refine rg 2 (aq8 ?_) | refine gc ?_ | refine ct ?_ | refine cf ?_ | refine sc ?_ ?_ <;> intro hc | refine rq rfl .nil ?_)
  refine swp_fam (SMa N a m b l) (HalfOk (fun h => ltA ltK l h a) m b r) (fun z => z.j - z.i) ⟨m, b, b - m⟩ (weak_sub (.cons rfl rfl rfl (.cons rfl rfl rfl (.cons rfl rfl rfl (.cons rfl rfl rfl (.cons rfl rfl rfl (.cons rfl rfl rfl (.cons rfl rfl rfl .nil))))))) .nil (.cons rfl rfl .nil)) ⟨Nat.le_refl _, by show m ≤ b; omega, Nat.le_refl _, Nat.le_refl _, hr⟩ ?_
  rintro ⟨i, j, f⟩ ⟨g1, g2, g3, g4, g5⟩
  dsimp only at g1 g2 g3 g4 g5
  unfold SMa
  dsimp only
  by_cases hij : i < j
  · have hijI : ((i : Nat) : Int) < ((j : Nat) : Int) := by omega
    obtain ⟨f, rfl⟩ : ∃ f', f = f' + 1 := ⟨f - 1, by omega⟩
    have hh : (i + j) / 2 < N := by omega
    have haN : a < N := by omega
    have hx : l[(i + j) / 2]? = some (l[(i + j) / 2]'(by omega)) := List.getElem?_eq_getElem (by omega)
    have hy : l[a]? = some (l[a]'(by omega)) := List.getElem?_eq_getElem (by omega)
    generalize l[(i + j) / 2]'(by omega) = x at *
    generalize l[a]'(by omega) = y at *
    have hxr : (l.map takR)[(i + j) / 2]? = some (takR x) := by rw [List.getElem?_map, hx]; rfl
    have hyr : (l.map takR)[a]? = some (takR y) := by rw [List.getElem?_map, hy]; rfl
    have hNr : N = (l.map takR).length := by rw [List.length_map]; exact hN
    have hlt : ltA ltK l ((i + j) / 2) a = decide (cmpU x.n y.n < 0) := by unfold ltA; rw [hx, hy]; rfl
    have k1 := tk2_ x y
    have hcv : IntKind.u64.wrap ((i + j : Nat) : Int) = ((i + j : Nat) : Int) := by show ((i + j : Nat) : Int) % 18446744073709551616 = _; omega
    cases hd : decide (cmpU x.n y.n < 0) with
    | true =>
      rw [hd] at hlt
      rw [bsr_yes hij hlt] at g5
      repeat' (first | refine fam_next (HalfX.mk ((i + j) / 2 + 1) j f) (by show j - ((i + j) / 2 + 1) < j - i; omega) (weak_sub (.cons rfl rfl rfl (.cons rfl rfl rfl (.cons rfl rfl rfl (.cons rfl rfl rfl (.cons rfl rfl rfl (.cons rfl rfl rfl (.cons rfl rfl rfl .nil))))))) .nil (.cons rfl rfl .nil)) ⟨by show m ≤ (i + j) / 2 + 1; omega, by show (i + j) / 2 + 1 ≤ j; omega, g3, by show j - ((i + j) / 2 + 1) ≤ f; omega, g5⟩ | (refine rg 3 ?_; (first | refine sp (po_half (m := i + j) (by omega) rfl rfl rfl) ?_ | refine oMv ?_); (first | refine sp (po_half (m := i + j) (by omega) rfl rfl rfl) ?_ | refine oMv ?_); (first | refine sp (po_half (m := i + j) (by omega) rfl rfl rfl) ?_ | refine oCm ?_); refine oN ?_) | (refine rg 4 ?_; (first | refine sp (po_half (m := i + j) (by omega) rfl rfl rfl) ?_ | refine oMv ?_); (first | refine sp (po_half (m := i + j) (by omega) rfl rfl rfl) ?_ | refine oMv ?_); (refine sp (po_arith (c := ((i + j : Nat) : Int)) rfl rfl rfl (ar_add (by refine wrap_i64 ?_; omega) (by omega))) ?_); (refine sp (po_conv_int (c := ((i + j : Nat) : Int)) rfl rfl (tyK rfl) (tyK rfl) hcv) ?_); refine sp (po_half (m := i + j) (by omega) rfl rfl rfl) ?_; (first | refine sp (po_conv_int (c := ((i + j : Nat) : Int)) rfl rfl (tyK rfl) (tyK rfl) hcv) ?_ | refine sp (po_half (m := i + j) (by omega) rfl rfl rfl) ?_ | refine sp (po_conv_int (c := (((i + j) / 2 : Nat) : Int)) rfl rfl (tyK rfl) (tyK rfl) (by refine wrap_i64 ?_; omega)) ?_); (first | refine sp (po_half (m := i + j) (by omega) rfl rfl rfl) ?_ | refine oAs ?_); refine oN ?_) | (refine rd 5 ?_; (first | refine dp (po_half (m := i + j) (by omega) rfl rfl rfl) ?_ | refine dMv ?_); (first | refine dp (po_half (m := i + j) (by omega) rfl rfl rfl) ?_ | refine dMv ?_); (first | refine dp (po_half (m := i + j) (by omega) rfl rfl rfl) ?_ | refine dMv ?_); (first | refine dp (po_half (m := i + j) (by omega) rfl rfl rfl) ?_ | refine dp (po_index_own (k := (i + j) / 2) rfl rfl rfl hNr rfl (tyS rfl) rfl hh) ?_); (first | refine dp (po_half (m := i + j) (by omega) rfl rfl rfl) ?_ | refine dp (po_load_own_agg (ts := takR x) rfl rfl rfl hNr (tyT rfl) hxr rfl rfl) ?_); (first | refine dp (po_half (m := i + j) (by omega) rfl rfl rfl) ?_ | refine dMv ?_); (first | refine dp (po_half (m := i + j) (by omega) rfl rfl rfl) ?_ | refine dMv ?_); (first | refine dp (po_half (m := i + j) (by omega) rfl rfl rfl) ?_ | refine dp (po_index_own (k := (i + j) / 2) rfl rfl rfl hNr rfl (tyS rfl) rfl hh) ?_ | refine dp (po_index_own (k := a) rfl rfl rfl hNr rfl (tyS rfl) rfl haN) ?_); (first | refine dp (po_half (m := i + j) (by omega) rfl rfl rfl) ?_ | refine dp (po_load_own_agg (ts := takR x) rfl rfl rfl hNr (tyT rfl) hxr rfl rfl) ?_ | refine dp (po_load_own_agg (ts := takR y) rfl rfl rfl hNr (tyT rfl) hyr rfl rfl) ?_); (first | refine dp (po_half (m := i + j) (by omega) rfl rfl rfl) ?_ | refine dp (po_call_clo rfl rfl (ac (ac .nil)) (k1)) ?_); (first | refine dp (po_half (m := i + j) (by omega) rfl rfl rfl) ?_ | refine dCm ?_); refine aq41 ?_) | (refine rg 6 ?_; (first | refine sp (po_half (m := i + j) (by omega) rfl rfl rfl) ?_ | refine oMv ?_); (first | refine sp (po_arith (c := ((i + j : Nat) : Int)) rfl rfl rfl (ar_add (by refine wrap_i64 ?_; omega) (by omega))) ?_ | refine sp (po_half (m := i + j) (by omega) rfl rfl rfl) ?_ | refine sp (xinc rfl) ?_); (first | refine sp (po_half (m := i + j) (by omega) rfl rfl rfl) ?_ | refine oAs ?_); refine oN ?_) | refine gc ?_ | refine ct ?_)
    | false =>
      rw [hd] at hlt
      rw [bsr_no hij hlt] at g5
      repeat' (first | refine fam_next (HalfX.mk i ((i + j) / 2) f) (by show (i + j) / 2 - i < j - i; omega) (weak_sub (.cons rfl rfl rfl (.cons rfl rfl rfl (.cons rfl rfl rfl (.cons rfl rfl rfl (.cons rfl rfl rfl (.cons rfl rfl rfl (.cons rfl rfl rfl .nil))))))) .nil (.cons rfl rfl .nil)) ⟨g1, by show i ≤ (i + j) / 2; omega, by show (i + j) / 2 ≤ b; omega, by show (i + j) / 2 - i ≤ f; omega, g5⟩ | (refine rg 3 ?_; (first | refine sp (po_half (m := i + j) (by omega) rfl rfl rfl) ?_ | refine oMv ?_); (first | refine sp (po_half (m := i + j) (by omega) rfl rfl rfl) ?_ | refine oMv ?_); (first | refine sp (po_half (m := i + j) (by omega) rfl rfl rfl) ?_ | refine oCm ?_); refine oN ?_) | (refine rg 4 ?_; (first | refine sp (po_half (m := i + j) (by omega) rfl rfl rfl) ?_ | refine oMv ?_); (first | refine sp (po_half (m := i + j) (by omega) rfl rfl rfl) ?_ | refine oMv ?_); (refine sp (po_arith (c := ((i + j : Nat) : Int)) rfl rfl rfl (ar_add (by refine wrap_i64 ?_; omega) (by omega))) ?_); (refine sp (po_conv_int (c := ((i + j : Nat) : Int)) rfl rfl (tyK rfl) (tyK rfl) hcv) ?_); refine sp (po_half (m := i + j) (by omega) rfl rfl rfl) ?_; (first | refine sp (po_conv_int (c := ((i + j : Nat) : Int)) rfl rfl (tyK rfl) (tyK rfl) hcv) ?_ | refine sp (po_half (m := i + j) (by omega) rfl rfl rfl) ?_ | refine sp (po_conv_int (c := (((i + j) / 2 : Nat) : Int)) rfl rfl (tyK rfl) (tyK rfl) (by refine wrap_i64 ?_; omega)) ?_); (first | refine sp (po_half (m := i + j) (by omega) rfl rfl rfl) ?_ | refine oAs ?_); refine oN ?_) | (refine rd 5 ?_; (first | refine dp (po_half (m := i + j) (by omega) rfl rfl rfl) ?_ | refine dMv ?_); (first | refine dp (po_half (m := i + j) (by omega) rfl rfl rfl) ?_ | refine dMv ?_); (first | refine dp (po_half (m := i + j) (by omega) rfl rfl rfl) ?_ | refine dMv ?_); (first | refine dp (po_half (m := i + j) (by omega) rfl rfl rfl) ?_ | refine dp (po_index_own (k := (i + j) / 2) rfl rfl rfl hNr rfl (tyS rfl) rfl hh) ?_); (first | refine dp (po_half (m := i + j) (by omega) rfl rfl rfl) ?_ | refine dp (po_load_own_agg (ts := takR x) rfl rfl rfl hNr (tyT rfl) hxr rfl rfl) ?_); (first | refine dp (po_half (m := i + j) (by omega) rfl rfl rfl) ?_ | refine dMv ?_); (first | refine dp (po_half (m := i + j) (by omega) rfl rfl rfl) ?_ | refine dMv ?_); (first | refine dp (po_half (m := i + j) (by omega) rfl rfl rfl) ?_ | refine dp (po_index_own (k := (i + j) / 2) rfl rfl rfl hNr rfl (tyS rfl) rfl hh) ?_ | refine dp (po_index_own (k := a) rfl rfl rfl hNr rfl (tyS rfl) rfl haN) ?_); (first | refine dp (po_half (m := i + j) (by omega) rfl rfl rfl) ?_ | refine dp (po_load_own_agg (ts := takR x) rfl rfl rfl hNr (tyT rfl) hxr rfl rfl) ?_ | refine dp (po_load_own_agg (ts := takR y) rfl rfl rfl hNr (tyT rfl) hyr rfl rfl) ?_); (first | refine dp (po_half (m := i + j) (by omega) rfl rfl rfl) ?_ | refine dp (po_call_clo rfl rfl (ac (ac .nil)) (k1)) ?_); (first | refine dp (po_half (m := i + j) (by omega) rfl rfl rfl) ?_ | refine dCm ?_); refine aq41 ?_) | (refine rg 7 ?_; (first | refine sp (po_half (m := i + j) (by omega) rfl rfl rfl) ?_ | refine oMv ?_); (first | refine sp (po_half (m := i + j) (by omega) rfl rfl rfl) ?_ | refine oAs ?_); refine oN ?_) | refine gc ?_ | refine ct ?_ | refine cf ?_)
  · obtain rfl : i = j := by omega
    rw [bsr_end] at g5
    subst g5
    have hijI : ¬ ((i : Nat) : Int) < ((i : Nat) : Int) := by omega
    repeat' (first | refine fam_exit ?_ | refine rg 3 (aq42 ?_) | refine rg 8 (aq8 ?_) | refine gc ?_ | refine ct ?_ | refine cf ?_ | refine sc ?_ ?_ <;> intro hc | refine rq rfl .nil ?_)
    refine swp_for (SMu N a i l) (fun _ => True) (i - 1 - a) ?_ trivial ?_
    · exact (weak_sub (.cons rfl rfl rfl (.cons rfl rfl rfl (.cons rfl rfl rfl (.cons rfl rfl rfl .nil)))) .nil (.cons rfl rfl .nil))
    intro k hk _
    unfold SMu
    by_cases hlt : k < i - 1 - a
    · have hltI : ((a + k : Nat) : Int) < ((i - 1 : Nat) : Int) := by omega
      repeat' (first | (refine rg 9 ?_; refine oMv ?_; refine oMv ?_; refine sp (po_dec rfl rfl rfl (by omega)) ?_; refine oCm ?_; refine oN ?_) | refine gc ?_ | refine ct ?_ | refine cf ?_ | refine sc ?_ ?_ <;> intro hc | refine rq rfl .nil ?_)
      have hLl : (mvU l a k).length = N := (mvU_len l a k).trans hN.symm
      have hs : mvU l a (k + 1) = swpT (mvU l a k) (a + k) (a + k + 1) := rfl
      generalize mvU l a k = L at *
      have hx : L[a + k]? = some (L[a + k]'(by omega)) := List.getElem?_eq_getElem (by omega)
      have hy : L[a + k + 1]? = some (L[a + k + 1]'(by omega)) := List.getElem?_eq_getElem (by omega)
      generalize L[a + k]'(by omega) = x at *
      generalize L[a + k + 1]'(by omega) = y at *
      have hxr : (L.map takR)[a + k]? = some (takR x) := by rw [List.getElem?_map, hx]; rfl
      have hyr : (L.map takR)[a + k + 1]? = some (takR y) := by rw [List.getElem?_map, hy]; rfl
      have hNr : N = (L.map takR).length := by rw [List.length_map]; exact hLl.symm
      have hNr2 : N = ((L.map takR).set (a + k) (takR y)).length := by rw [List.length_set]; exact hNr
      have hyr2 : ((L.map takR).set (a + k) (takR y))[a + k + 1]? = some (takR y) := by rw [List.getElem?_set_ne (by omega)]; exact hyr
      have hsw : (⟨46, 4, ((L.map takR).set (a + k) (takR y)).set (a + k + 1) (takR x)⟩ : Own) = ⟨46, 4, (mvU l a (k + 1)).map takR⟩ := by
        rw [hs]
        unfold swpT
        rw [hx, hy]
        dsimp only
        rw [List.map_set, List.map_set]
      refine swp_any (id := 11) [[], [], [], [], [], [], [], [], [], [], [], [], [], [], [], [2000], [], [2000]] [[], [], [2000], [2000], [2000], [], [], [], [], [], [], [], [], [], [], [], [], []] mixed (by kernel_rfl) ?_
      refine yp (fun _ _ => po_move rfl rfl) ?_
      refine yp (fun _ _ => po_move rfl rfl) ?_
      refine yp (fun _ _ => po_move rfl rfl) ?_
      refine yp (fun _ _ => po_move rfl rfl) ?_
      refine yp (fun _ _ => po_inc rfl rfl rfl (by omega)) ?_
      refine yp (fun _ _ => po_move rfl rfl) ?_
      refine yp (fun _ _ => po_move rfl rfl) ?_
      refine yp (fun _ _ => po_inc rfl rfl rfl (by omega)) ?_
      refine yp (fun _ _ => po_index_own (k := a + k + 1) rfl rfl rfl hNr rfl (tyS rfl) rfl (by omega)) ?_
      refine yp (fun _ _ => po_load_own_agg (ts := takR y) rfl rfl rfl hNr (tyT rfl) hyr rfl rfl) ?_
      refine yp (fun _ _ => po_move rfl rfl) ?_
      refine yp (fun _ _ => po_move rfl rfl) ?_
      refine yp (fun _ _ => po_index_own (k := a + k) rfl rfl rfl hNr rfl (tyS rfl) rfl (by omega)) ?_
      refine yp (fun _ _ => po_load_own_agg (ts := takR x) rfl rfl rfl hNr (tyT rfl) hxr rfl rfl) ?_
      refine yp (fun _ _ => po_index_own (k := a + k) rfl rfl rfl hNr rfl (tyS rfl) rfl (by omega)) ?_
      refine sany_eff [] [(2000, _)] (.free rfl rfl) rfl rfl (fun _ _ _ _ => e_store_own (ts := takR y) (by rfl) rfl rfl rfl rfl hNr rfl (.t _) rfl rfl (tyT rfl) rfl hxr rfl) ?_
      refine yp (fun _ _ => po_index_own (k := a + k + 1) rfl rfl rfl hNr2 rfl (tyS rfl) rfl (by omega)) ?_
      refine sany_eff [] [(2000, _)] (.free rfl rfl) rfl rfl (fun _ _ _ _ => e_store_own (ts := takR x) (by rfl) rfl rfl rfl rfl hNr2 rfl (.t _) rfl rfl (tyT rfl) rfl hyr2 rfl) ?_
      refine sany_nil ?_
      refine gc ?_
      repeat' (first | refine rg 10 (aq18 ?_) | refine gc ?_ | refine ct ?_ | refine cf ?_ | refine sc ?_ ?_ <;> intro hc | refine rq rfl .nil ?_)
      refine for_next hlt ?_ trivial
      exact (weak_sub (.cons rfl (by first | rfl | (first | (exact hsw))) rfl (.cons rfl (by first | rfl | (first | (exact hsw))) rfl (.cons rfl (by first | rfl | (first | (exact hsw))) rfl (.cons rfl (by first | rfl | (first | (exact hsw))) rfl .nil)))) .nil (.cons rfl (by first | rfl | (first | (exact hsw))) .nil))
    · obtain rfl : k = i - 1 - a := by omega
      have hltI : ¬ ((a + (i - 1 - a) : Nat) : Int) < ((i - 1 : Nat) : Int) := by omega
      repeat' (first | (refine rg 9 ?_; refine oMv ?_; refine oMv ?_; refine sp (po_dec rfl rfl rfl (by omega)) ?_; refine oCm ?_; refine oN ?_) | refine gc ?_ | refine ct ?_ | refine cf ?_ | refine sc ?_ ?_ <;> intro hc | refine rq rfl .nil ?_)
      refine hret _ ?_
      exact retl (.inr rfl) rfl .nil rfl rfl .nil (.cons rfl rfl .nil)
def SMb (N a m b : Nat) (l : List PTk) (z : HalfX) : St := ⟨[(0, .own 2000 N), (1, .t (i64T (a : Int))), (2, .t (i64T (m : Int))), (3, .t (i64T (b : Int))), (4, .t (.clo 57 [])), (14, .t (i64T (z.i : Int))), (15, .t (i64T (z.j : Int)))], [], [(2000, ⟨46, 4, l.map takR⟩)]⟩
def SMd (N m e : Nat) (l : List PTk) (k : Nat) : St := ⟨[(0, .own 2000 N), (14, .t (i64T (e : Int))), (17, .t (i64T ((m - k : Nat) : Int)))], [], [(2000, ⟨46, 4, (mvD l m k).map takR⟩)]⟩
set_option maxRecDepth 100000 in
set_option maxHeartbeats 4000000 in
theorem symB_ {c0 d0 : Code} (hc0 : fS 13 (bodyOf Try.f124) = some (.seq c0 d0)) {Q : Exit → St → Prop} (N a m b : Nat) (l : List PTk) (hN : N = l.length) (hb : N ≤ 2000) (h1 : a < m) (h2 : m < b) (h3 : b ≤ N)
    (hret : ∀ st, RetL Try.prog Try.f124 (resA []) [] [(2000, ⟨46, 4, (mvD l m (m - bsr (fun h => !ltA ltK l m h) (m - a) a m)).map takR⟩)] .ret st → Q .ret st) : SWp Try.prog 220 c0 (Then Try.prog 220 d0 Q) (SM0 N a m b l) := by
  obtain ⟨rfl, rfl⟩ := Code.seq.inj (Option.some.inj hc0)
  clear hc0
  generalize hr : bsr (fun h => !ltA ltK l m h) (m - a) a m = r at *
  have hrin := bsr_in (fun h => !ltA ltK l m h) (m - a) a m (by omega)
  rw [hr] at hrin
  unfold SM0
  repeat' (first | refine rg 13 (aq8 ?_) | refine rg 14 (aq8 ?_) | refine gc ?_ | refine ct ?_ | refine cf ?_ | refine sc ?_ ?_ <;> intro hc | refine rq rfl .nil ?_)
  refine swp_fam (SMb N a m b l) (HalfOk (fun h => !ltA ltK l m h) a m r) (fun z => z.j - z.i) ⟨a, m, m - a⟩ (weak_sub (.cons rfl rfl rfl (.cons rfl rfl rfl (.cons rfl rfl rfl (.cons rfl rfl rfl (.cons rfl rfl rfl (.cons rfl rfl rfl (.cons rfl rfl rfl .nil))))))) .nil (.cons rfl rfl .nil)) ⟨Nat.le_refl _, by show a ≤ m; omega, Nat.le_refl _, Nat.le_refl _, hr⟩ ?_
  rintro ⟨i, j, f⟩ ⟨g1, g2, g3, g4, g5⟩
  dsimp only at g1 g2 g3 g4 g5
  unfold SMb
  dsimp only
  by_cases hij : i < j
  · have hijI : ((i : Nat) : Int) < ((j : Nat) : Int) := by omega
    obtain ⟨f, rfl⟩ : ∃ f', f = f' + 1 := ⟨f - 1, by omega⟩
    have hh : (i + j) / 2 < N := by omega
    have hmN : m < N := by omega
    have hx : l[(i + j) / 2]? = some (l[(i + j) / 2]'(by omega)) := List.getElem?_eq_getElem (by omega)
    have hy : l[m]? = some (l[m]'(by omega)) := List.getElem?_eq_getElem (by omega)
    generalize l[(i + j) / 2]'(by omega) = x at *
    generalize l[m]'(by omega) = y at *
    have hxr : (l.map takR)[(i + j) / 2]? = some (takR x) := by rw [List.getElem?_map, hx]; rfl
    have hyr : (l.map takR)[m]? = some (takR y) := by rw [List.getElem?_map, hy]; rfl
    have hNr : N = (l.map takR).length := by rw [List.length_map]; exact hN
    have hlt : ltA ltK l m ((i + j) / 2) = decide (cmpU y.n x.n < 0) := by unfold ltA; rw [hx, hy]; rfl
    have k1 := tk2_ y x
    have hcv : IntKind.u64.wrap ((i + j : Nat) : Int) = ((i + j : Nat) : Int) := by show ((i + j : Nat) : Int) % 18446744073709551616 = _; omega
    cases hd : decide (cmpU y.n x.n < 0) with
    | false =>
      have hnd : (!decide (cmpU y.n x.n < 0)) = true := by rw [hd]; rfl
      have hlt2 : (!ltA ltK l m ((i + j) / 2)) = true := by rw [hlt, hd]; rfl
      rw [bsr_yes hij hlt2] at g5
      repeat' (first | refine fam_next (HalfX.mk ((i + j) / 2 + 1) j f) (by show j - ((i + j) / 2 + 1) < j - i; omega) (weak_sub (.cons rfl rfl rfl (.cons rfl rfl rfl (.cons rfl rfl rfl (.cons rfl rfl rfl (.cons rfl rfl rfl (.cons rfl rfl rfl (.cons rfl rfl rfl .nil))))))) .nil (.cons rfl rfl .nil)) ⟨by show a ≤ (i + j) / 2 + 1; omega, by show (i + j) / 2 + 1 ≤ j; omega, g3, by show j - ((i + j) / 2 + 1) ≤ f; omega, g5⟩ | (refine rg 15 ?_; (first | refine sp (po_half (m := i + j) (by omega) rfl rfl rfl) ?_ | refine oMv ?_); (first | refine sp (po_half (m := i + j) (by omega) rfl rfl rfl) ?_ | refine oMv ?_); (first | refine sp (po_half (m := i + j) (by omega) rfl rfl rfl) ?_ | refine oCm ?_); refine oN ?_) | (refine rg 16 ?_; (first | refine sp (po_half (m := i + j) (by omega) rfl rfl rfl) ?_ | refine oMv ?_); (first | refine sp (po_half (m := i + j) (by omega) rfl rfl rfl) ?_ | refine oMv ?_); (refine sp (po_arith (c := ((i + j : Nat) : Int)) rfl rfl rfl (ar_add (by refine wrap_i64 ?_; omega) (by omega))) ?_); (refine sp (po_conv_int (c := ((i + j : Nat) : Int)) rfl rfl (tyK rfl) (tyK rfl) hcv) ?_); refine sp (po_half (m := i + j) (by omega) rfl rfl rfl) ?_; (first | refine sp (po_conv_int (c := ((i + j : Nat) : Int)) rfl rfl (tyK rfl) (tyK rfl) hcv) ?_ | refine sp (po_half (m := i + j) (by omega) rfl rfl rfl) ?_ | refine sp (po_conv_int (c := (((i + j) / 2 : Nat) : Int)) rfl rfl (tyK rfl) (tyK rfl) (by refine wrap_i64 ?_; omega)) ?_); (first | refine sp (po_half (m := i + j) (by omega) rfl rfl rfl) ?_ | refine oAs ?_); refine oN ?_) | (refine rd 17 ?_; (first | refine dp (po_half (m := i + j) (by omega) rfl rfl rfl) ?_ | refine dMv ?_); (first | refine dp (po_half (m := i + j) (by omega) rfl rfl rfl) ?_ | refine dMv ?_); (first | refine dp (po_half (m := i + j) (by omega) rfl rfl rfl) ?_ | refine dMv ?_); (first | refine dp (po_half (m := i + j) (by omega) rfl rfl rfl) ?_ | refine dp (po_index_own (k := m) rfl rfl rfl hNr rfl (tyS rfl) rfl hmN) ?_); (first | refine dp (po_half (m := i + j) (by omega) rfl rfl rfl) ?_ | refine dp (po_load_own_agg (ts := takR y) rfl rfl rfl hNr (tyT rfl) hyr rfl rfl) ?_); (first | refine dp (po_half (m := i + j) (by omega) rfl rfl rfl) ?_ | refine dMv ?_); (first | refine dp (po_half (m := i + j) (by omega) rfl rfl rfl) ?_ | refine dMv ?_); (first | refine dp (po_half (m := i + j) (by omega) rfl rfl rfl) ?_ | refine dp (po_index_own (k := m) rfl rfl rfl hNr rfl (tyS rfl) rfl hmN) ?_ | refine dp (po_index_own (k := (i + j) / 2) rfl rfl rfl hNr rfl (tyS rfl) rfl hh) ?_); (first | refine dp (po_half (m := i + j) (by omega) rfl rfl rfl) ?_ | refine dp (po_load_own_agg (ts := takR y) rfl rfl rfl hNr (tyT rfl) hyr rfl rfl) ?_ | refine dp (po_load_own_agg (ts := takR x) rfl rfl rfl hNr (tyT rfl) hxr rfl rfl) ?_); (first | refine dp (po_half (m := i + j) (by omega) rfl rfl rfl) ?_ | refine dp (po_call_clo rfl rfl (ac (ac .nil)) (k1)) ?_); (first | refine dp (po_half (m := i + j) (by omega) rfl rfl rfl) ?_ | refine dCm ?_); (first | refine dp (po_half (m := i + j) (by omega) rfl rfl rfl) ?_ | refine dp (po_not rfl rfl) ?_); refine aq41 ?_) | (refine rg 18 ?_; (first | refine sp (po_half (m := i + j) (by omega) rfl rfl rfl) ?_ | refine oMv ?_); (first | refine sp (po_arith (c := ((i + j : Nat) : Int)) rfl rfl rfl (ar_add (by refine wrap_i64 ?_; omega) (by omega))) ?_ | refine sp (po_half (m := i + j) (by omega) rfl rfl rfl) ?_ | refine sp (xinc rfl) ?_); (first | refine sp (po_half (m := i + j) (by omega) rfl rfl rfl) ?_ | refine oAs ?_); refine oN ?_) | refine gc ?_ | refine ct ?_)
    | true =>
      have hnd : (!decide (cmpU y.n x.n < 0)) = false := by rw [hd]; rfl
      have hlt2 : (!ltA ltK l m ((i + j) / 2)) = false := by rw [hlt, hd]; rfl
      rw [bsr_no hij hlt2] at g5
      repeat' (first | refine fam_next (HalfX.mk i ((i + j) / 2) f) (by show (i + j) / 2 - i < j - i; omega) (weak_sub (.cons rfl rfl rfl (.cons rfl rfl rfl (.cons rfl rfl rfl (.cons rfl rfl rfl (.cons rfl rfl rfl (.cons rfl rfl rfl (.cons rfl rfl rfl .nil))))))) .nil (.cons rfl rfl .nil)) ⟨g1, by show i ≤ (i + j) / 2; omega, by show (i + j) / 2 ≤ m; omega, by show (i + j) / 2 - i ≤ f; omega, g5⟩ | (refine rg 15 ?_; (first | refine sp (po_half (m := i + j) (by omega) rfl rfl rfl) ?_ | refine oMv ?_); (first | refine sp (po_half (m := i + j) (by omega) rfl rfl rfl) ?_ | refine oMv ?_); (first | refine sp (po_half (m := i + j) (by omega) rfl rfl rfl) ?_ | refine oCm ?_); refine oN ?_) | (refine rg 16 ?_; (first | refine sp (po_half (m := i + j) (by omega) rfl rfl rfl) ?_ | refine oMv ?_); (first | refine sp (po_half (m := i + j) (by omega) rfl rfl rfl) ?_ | refine oMv ?_); (refine sp (po_arith (c := ((i + j : Nat) : Int)) rfl rfl rfl (ar_add (by refine wrap_i64 ?_; omega) (by omega))) ?_); (refine sp (po_conv_int (c := ((i + j : Nat) : Int)) rfl rfl (tyK rfl) (tyK rfl) hcv) ?_); refine sp (po_half (m := i + j) (by omega) rfl rfl rfl) ?_; (first | refine sp (po_conv_int (c := ((i + j : Nat) : Int)) rfl rfl (tyK rfl) (tyK rfl) hcv) ?_ | refine sp (po_half (m := i + j) (by omega) rfl rfl rfl) ?_ | refine sp (po_conv_int (c := (((i + j) / 2 : Nat) : Int)) rfl rfl (tyK rfl) (tyK rfl) (by refine wrap_i64 ?_; omega)) ?_); (first | refine sp (po_half (m := i + j) (by omega) rfl rfl rfl) ?_ | refine oAs ?_); refine oN ?_) | (refine rd 17 ?_; (first | refine dp (po_half (m := i + j) (by omega) rfl rfl rfl) ?_ | refine dMv ?_); (first | refine dp (po_half (m := i + j) (by omega) rfl rfl rfl) ?_ | refine dMv ?_); (first | refine dp (po_half (m := i + j) (by omega) rfl rfl rfl) ?_ | refine dMv ?_); (first | refine dp (po_half (m := i + j) (by omega) rfl rfl rfl) ?_ | refine dp (po_index_own (k := m) rfl rfl rfl hNr rfl (tyS rfl) rfl hmN) ?_); (first | refine dp (po_half (m := i + j) (by omega) rfl rfl rfl) ?_ | refine dp (po_load_own_agg (ts := takR y) rfl rfl rfl hNr (tyT rfl) hyr rfl rfl) ?_); (first | refine dp (po_half (m := i + j) (by omega) rfl rfl rfl) ?_ | refine dMv ?_); (first | refine dp (po_half (m := i + j) (by omega) rfl rfl rfl) ?_ | refine dMv ?_); (first | refine dp (po_half (m := i + j) (by omega) rfl rfl rfl) ?_ | refine dp (po_index_own (k := m) rfl rfl rfl hNr rfl (tyS rfl) rfl hmN) ?_ | refine dp (po_index_own (k := (i + j) / 2) rfl rfl rfl hNr rfl (tyS rfl) rfl hh) ?_); (first | refine dp (po_half (m := i + j) (by omega) rfl rfl rfl) ?_ | refine dp (po_load_own_agg (ts := takR y) rfl rfl rfl hNr (tyT rfl) hyr rfl rfl) ?_ | refine dp (po_load_own_agg (ts := takR x) rfl rfl rfl hNr (tyT rfl) hxr rfl rfl) ?_); (first | refine dp (po_half (m := i + j) (by omega) rfl rfl rfl) ?_ | refine dp (po_call_clo rfl rfl (ac (ac .nil)) (k1)) ?_); (first | refine dp (po_half (m := i + j) (by omega) rfl rfl rfl) ?_ | refine dCm ?_); (first | refine dp (po_half (m := i + j) (by omega) rfl rfl rfl) ?_ | refine dp (po_not rfl rfl) ?_); refine aq41 ?_) | (refine rg 19 ?_; (first | refine sp (po_half (m := i + j) (by omega) rfl rfl rfl) ?_ | refine oMv ?_); (first | refine sp (po_half (m := i + j) (by omega) rfl rfl rfl) ?_ | refine oAs ?_); refine oN ?_) | refine gc ?_ | refine ct ?_ | refine cf ?_)
  · obtain rfl : i = j := by omega
    rw [bsr_end] at g5
    subst g5
    have hijI : ¬ ((i : Nat) : Int) < ((i : Nat) : Int) := by omega
    repeat' (first | refine fam_exit ?_ | refine rg 15 (aq42 ?_) | refine rg 20 (aq8 ?_) | refine gc ?_ | refine ct ?_ | refine cf ?_ | refine sc ?_ ?_ <;> intro hc | refine rq rfl .nil ?_)
    refine swp_for (SMd N m i l) (fun _ => True) (m - i) ?_ trivial ?_
    · exact (weak_sub (.cons rfl rfl rfl (.cons rfl rfl rfl (.cons rfl rfl rfl .nil))) .nil (.cons rfl rfl .nil))
    intro k hk _
    unfold SMd
    by_cases hlt : k < m - i
    · have hltI : ((i : Nat) : Int) < ((m - k : Nat) : Int) := by omega
      repeat' (first | refine rg 21 (aq42 ?_) | refine gc ?_ | refine ct ?_ | refine cf ?_ | refine sc ?_ ?_ <;> intro hc | refine rq rfl .nil ?_)
      have hLl : (mvD l m k).length = N := (mvD_len l m k).trans hN.symm
      have hs : mvD l m (k + 1) = swpT (mvD l m k) (m - k - 1) (m - k) := rfl
      generalize mvD l m k = L at *
      have hx : L[m - k - 1]? = some (L[m - k - 1]'(by omega)) := List.getElem?_eq_getElem (by omega)
      have hy : L[m - k]? = some (L[m - k]'(by omega)) := List.getElem?_eq_getElem (by omega)
      generalize L[m - k - 1]'(by omega) = x at *
      generalize L[m - k]'(by omega) = y at *
      have hxr : (L.map takR)[m - k - 1]? = some (takR x) := by rw [List.getElem?_map, hx]; rfl
      have hyr : (L.map takR)[m - k]? = some (takR y) := by rw [List.getElem?_map, hy]; rfl
      have hNr : N = (L.map takR).length := by rw [List.length_map]; exact hLl.symm
      have hNr2 : N = ((L.map takR).set (m - k) (takR x)).length := by rw [List.length_set]; exact hNr
      have hxr2 : ((L.map takR).set (m - k) (takR x))[m - k - 1]? = some (takR x) := by rw [List.getElem?_set_ne (by omega)]; exact hxr
      have hsw : (⟨46, 4, ((L.map takR).set (m - k) (takR x)).set (m - k - 1) (takR y)⟩ : Own) = ⟨46, 4, (mvD l m (k + 1)).map takR⟩ := by
        rw [hs]
        unfold swpT
        rw [hx, hy]
        dsimp only
        rw [List.map_set, List.map_set, List.set_comm _ _ (by omega)]
      refine swp_any (id := 23) [[], [], [], [], [], [], [], [], [], [], [], [], [], [], [], [2000], [], [2000]] [[], [], [2000], [2000], [2000], [], [], [], [], [], [], [], [], [], [], [], [], []] mixed (by kernel_rfl) ?_
      refine yp (fun _ _ => po_move rfl rfl) ?_
      refine yp (fun _ _ => po_move rfl rfl) ?_
      refine yp (fun _ _ => po_move rfl rfl) ?_
      refine yp (fun _ _ => po_move rfl rfl) ?_
      refine yp (fun _ _ => po_dec rfl rfl rfl (by omega)) ?_
      refine yp (fun _ _ => po_move rfl rfl) ?_
      refine yp (fun _ _ => po_move rfl rfl) ?_
      refine yp (fun _ _ => po_dec rfl rfl rfl (by omega)) ?_
      refine yp (fun _ _ => po_index_own (k := m - k - 1) rfl rfl rfl hNr rfl (tyS rfl) rfl (by omega)) ?_
      refine yp (fun _ _ => po_load_own_agg (ts := takR x) rfl rfl rfl hNr (tyT rfl) hxr rfl rfl) ?_
      refine yp (fun _ _ => po_move rfl rfl) ?_
      refine yp (fun _ _ => po_move rfl rfl) ?_
      refine yp (fun _ _ => po_index_own (k := m - k) rfl rfl rfl hNr rfl (tyS rfl) rfl (by omega)) ?_
      refine yp (fun _ _ => po_load_own_agg (ts := takR y) rfl rfl rfl hNr (tyT rfl) hyr rfl rfl) ?_
      refine yp (fun _ _ => po_index_own (k := m - k) rfl rfl rfl hNr rfl (tyS rfl) rfl (by omega)) ?_
      refine sany_eff [] [(2000, _)] (.free rfl rfl) rfl rfl (fun _ _ _ _ => e_store_own (ts := takR x) (by rfl) rfl rfl rfl rfl hNr rfl (.t _) rfl rfl (tyT rfl) rfl hyr rfl) ?_
      refine yp (fun _ _ => po_index_own (k := m - k - 1) rfl rfl rfl hNr2 rfl (tyS rfl) rfl (by omega)) ?_
      refine sany_eff [] [(2000, _)] (.free rfl rfl) rfl rfl (fun _ _ _ _ => e_store_own (ts := takR y) (by rfl) rfl rfl rfl rfl hNr2 rfl (.t _) rfl rfl (tyT rfl) rfl hxr2 rfl) ?_
      refine sany_nil ?_
      refine gc ?_
      repeat' (first | refine rg 22 (aq44 ?_) | refine gc ?_ | refine ct ?_ | refine cf ?_ | refine sc ?_ ?_ <;> intro hc | refine rq rfl .nil ?_)
      refine for_next hlt ?_ trivial
      exact (weak_sub (.cons rfl (by first | rfl | (first | (exact hsw))) rfl (.cons rfl (by first | rfl | (first | (exact hsw))) rfl (.cons rfl (by first | rfl | (first | (exact hsw))) rfl .nil))) .nil (.cons rfl (by first | rfl | (first | (exact hsw))) .nil))
    · obtain rfl : k = m - i := by omega
      have hltI : ¬ ((i : Nat) : Int) < ((m - (m - i) : Nat) : Int) := by omega
      repeat' (first | refine rg 21 (aq42 ?_) | refine gc ?_ | refine ct ?_ | refine cf ?_ | refine sc ?_ ?_ <;> intro hc | refine rq rfl .nil ?_)
      refine hret _ ?_
      exact retl (.inr rfl) rfl .nil rfl rfl .nil (.cons rfl rfl .nil)
end Go.Proofs.Ytabejnjnkpdjbaa.Sim

/- symMerge: the search of the long way. -/
namespace Go.Proofs.Ytabejnjnkpdjbaa.Sim
set_option linter.unusedVariables false
set_option linter.unusedSimpArgs false
open Go.RowKit Mem
def smT (N a m b mid n : Nat) (tm : List (Nat × A)) : List (Nat × A) := (0, .own 2000 N) :: (1, .t (i64T (a : Int))) :: (2, .t (i64T (m : Int))) :: (3, .t (i64T (b : Int))) :: (4, .t (.clo 57 [])) :: (18, .t (i64T (mid : Int))) :: (19, .t (i64T (n : Int))) :: tm
def SM32 (N a m b mid n lo hi : Nat) (l : List PTk) : St := ⟨smT N a m b mid n [(20, .t (i64T (lo : Int))), (21, .t (i64T (hi : Int)))], [], [(2000, ⟨46, 4, l.map takR⟩)]⟩
def SMc (N a m b mid n : Nat) (l : List PTk) (z : HalfX) : St := ⟨smT N a m b mid n [(20, .t (i64T (z.i : Int))), (21, .t (i64T (z.j : Int))), (22, .t (i64T ((n - 1 : Nat) : Int)))], [], [(2000, ⟨46, 4, l.map takR⟩)]⟩
def SM38 (N a m b mid n s : Nat) (l : List PTk) : St := ⟨smT N a m b mid n [(20, .t (i64T (s : Int)))], [], [(2000, ⟨46, 4, l.map takR⟩)]⟩
set_option maxRecDepth 100000 in
set_option maxHeartbeats 4000000 in
theorem symD_ {c0 d0 : Code} (hc0 : fS 32 (bodyOf Try.f124) = some (.seq c0 d0)) {Q : Exit → St → Prop} (N a m b mid n lo hi : Nat) (l : List PTk) (hN : N = l.length) (hb : N ≤ 2000) (hlo : lo ≤ hi) (hhi : hi ≤ 10000) (hn : 0 < n) (hn2 : n ≤ 10000)
    (hin : ∀ c, lo ≤ c → c < hi → c < N ∧ n - 1 - c < N ∧ c ≤ n - 1)
    (h : ∀ c1 d1, fS 38 (bodyOf Try.f124) = some (.seq c1 d1) → SWp Try.prog 220 c1 (Then Try.prog 220 d1 Q) (SM38 N a m b mid n (bsr (fun c => !ltA ltK l (n - 1 - c) c) (hi - lo) lo hi) l)) : SWp Try.prog 220 c0 (Then Try.prog 220 d0 Q) (SM32 N a m b mid n lo hi l) := by
  obtain ⟨rfl, rfl⟩ := Code.seq.inj (Option.some.inj hc0)
  clear hc0
  generalize hr : bsr (fun c => !ltA ltK l (n - 1 - c) c) (hi - lo) lo hi = r at *
  unfold SM32 smT
  repeat' (first | refine rg 32 (aq44 ?_) | refine gc ?_ | refine ct ?_ | refine cf ?_ | refine sc ?_ ?_ <;> intro hc | refine rq rfl .nil ?_)
  refine swp_fam (SMc N a m b mid n l) (HalfOk (fun c => !ltA ltK l (n - 1 - c) c) lo hi r) (fun z => z.j - z.i) ⟨lo, hi, hi - lo⟩ (weak_sub (.cons rfl rfl rfl (.cons rfl rfl rfl (.cons rfl rfl rfl (.cons rfl rfl rfl (.cons rfl rfl rfl (.cons rfl rfl rfl (.cons rfl rfl rfl (.cons rfl rfl rfl (.cons rfl rfl rfl (.cons rfl rfl rfl .nil)))))))))) .nil (.cons rfl rfl .nil)) ⟨Nat.le_refl _, hlo, Nat.le_refl _, Nat.le_refl _, hr⟩ ?_
  rintro ⟨i, j, f⟩ ⟨g1, g2, g3, g4, g5⟩
  dsimp only at g1 g2 g3 g4 g5
  unfold SMc smT
  dsimp only
  by_cases hij : i < j
  · have hijI : ((i : Nat) : Int) < ((j : Nat) : Int) := by omega
    obtain ⟨f, rfl⟩ : ∃ f', f = f' + 1 := ⟨f - 1, by omega⟩
    obtain ⟨hh, hpN, hcn⟩ := hin ((i + j) / 2) (by omega) (by omega)
    have hx : l[(i + j) / 2]? = some (l[(i + j) / 2]'(by omega)) := List.getElem?_eq_getElem (by omega)
    have hy : l[n - 1 - (i + j) / 2]? = some (l[n - 1 - (i + j) / 2]'(by omega)) := List.getElem?_eq_getElem (by omega)
    generalize l[(i + j) / 2]'(by omega) = x at *
    generalize l[n - 1 - (i + j) / 2]'(by omega) = y at *
    have hxr : (l.map takR)[(i + j) / 2]? = some (takR x) := by rw [List.getElem?_map, hx]; rfl
    have hyr : (l.map takR)[n - 1 - (i + j) / 2]? = some (takR y) := by rw [List.getElem?_map, hy]; rfl
    have hNr : N = (l.map takR).length := by rw [List.length_map]; exact hN
    have hlt : ltA ltK l (n - 1 - (i + j) / 2) ((i + j) / 2) = decide (cmpU y.n x.n < 0) := by unfold ltA; rw [hx, hy]; rfl
    have k1 := tk2_ y x
    have hcv : IntKind.u64.wrap ((i + j : Nat) : Int) = ((i + j : Nat) : Int) := by show ((i + j : Nat) : Int) % 18446744073709551616 = _; omega
    cases hd : decide (cmpU y.n x.n < 0) with
    | false =>
      have hnd : (!decide (cmpU y.n x.n < 0)) = true := by rw [hd]; rfl
      have hlt2 : (!ltA ltK l (n - 1 - (i + j) / 2) ((i + j) / 2)) = true := by rw [hlt, hd]; rfl
      rw [bsr_yes hij hlt2] at g5
      repeat' (first | refine fam_next (HalfX.mk ((i + j) / 2 + 1) j f) (by show j - ((i + j) / 2 + 1) < j - i; omega) (weak_sub (.cons rfl rfl rfl (.cons rfl rfl rfl (.cons rfl rfl rfl (.cons rfl rfl rfl (.cons rfl rfl rfl (.cons rfl rfl rfl (.cons rfl rfl rfl (.cons rfl rfl rfl (.cons rfl rfl rfl (.cons rfl rfl rfl .nil)))))))))) .nil (.cons rfl rfl .nil)) ⟨by show lo ≤ (i + j) / 2 + 1; omega, by show (i + j) / 2 + 1 ≤ j; omega, g3, by show j - ((i + j) / 2 + 1) ≤ f; omega, g5⟩ | (refine rg 33 ?_; (first | refine sp (po_half (m := i + j) (by omega) rfl rfl rfl) ?_ | refine oMv ?_); (first | refine sp (po_half (m := i + j) (by omega) rfl rfl rfl) ?_ | refine oMv ?_); (first | refine sp (po_half (m := i + j) (by omega) rfl rfl rfl) ?_ | refine oCm ?_); refine oN ?_) | (refine rg 34 ?_; (first | refine sp (po_half (m := i + j) (by omega) rfl rfl rfl) ?_ | refine oMv ?_); (first | refine sp (po_half (m := i + j) (by omega) rfl rfl rfl) ?_ | refine oMv ?_); (refine sp (po_arith (c := ((i + j : Nat) : Int)) rfl rfl rfl (ar_add (by refine wrap_i64 ?_; omega) (by omega))) ?_); (refine sp (po_conv_int (c := ((i + j : Nat) : Int)) rfl rfl (tyK rfl) (tyK rfl) hcv) ?_); refine sp (po_half (m := i + j) (by omega) rfl rfl rfl) ?_; (first | refine sp (po_conv_int (c := ((i + j : Nat) : Int)) rfl rfl (tyK rfl) (tyK rfl) hcv) ?_ | refine sp (po_half (m := i + j) (by omega) rfl rfl rfl) ?_ | refine sp (po_conv_int (c := (((i + j) / 2 : Nat) : Int)) rfl rfl (tyK rfl) (tyK rfl) (by refine wrap_i64 ?_; omega)) ?_); (first | refine sp (po_half (m := i + j) (by omega) rfl rfl rfl) ?_ | refine oAs ?_); refine oN ?_) | (refine rd 35 ?_; (first | refine dp (po_half (m := i + j) (by omega) rfl rfl rfl) ?_ | refine dMv ?_); (first | refine dp (po_half (m := i + j) (by omega) rfl rfl rfl) ?_ | refine dMv ?_); (first | refine dp (po_half (m := i + j) (by omega) rfl rfl rfl) ?_ | refine dMv ?_); (first | refine dp (po_half (m := i + j) (by omega) rfl rfl rfl) ?_ | refine dMv ?_); (first | refine dp (po_arith (c := ((i + j : Nat) : Int)) rfl rfl rfl (ar_add (by refine wrap_i64 ?_; omega) (by omega))) ?_ | refine dp (po_arith (c := ((n - 1 - (i + j) / 2 : Nat) : Int)) rfl rfl rfl (ar_sub (by refine wrap_i64 ?_; omega) (by omega))) ?_); (first | refine dp (po_half (m := i + j) (by omega) rfl rfl rfl) ?_ | refine dp (po_index_own (k := n - 1 - (i + j) / 2) rfl rfl rfl hNr rfl (tyS rfl) rfl hpN) ?_); (first | refine dp (po_half (m := i + j) (by omega) rfl rfl rfl) ?_ | refine dp (po_load_own_agg (ts := takR y) rfl rfl rfl hNr (tyT rfl) hyr rfl rfl) ?_); (first | refine dp (po_half (m := i + j) (by omega) rfl rfl rfl) ?_ | refine dMv ?_); (first | refine dp (po_half (m := i + j) (by omega) rfl rfl rfl) ?_ | refine dMv ?_); (first | refine dp (po_half (m := i + j) (by omega) rfl rfl rfl) ?_ | refine dp (po_index_own (k := n - 1 - (i + j) / 2) rfl rfl rfl hNr rfl (tyS rfl) rfl hpN) ?_ | refine dp (po_index_own (k := (i + j) / 2) rfl rfl rfl hNr rfl (tyS rfl) rfl hh) ?_); (first | refine dp (po_half (m := i + j) (by omega) rfl rfl rfl) ?_ | refine dp (po_load_own_agg (ts := takR y) rfl rfl rfl hNr (tyT rfl) hyr rfl rfl) ?_ | refine dp (po_load_own_agg (ts := takR x) rfl rfl rfl hNr (tyT rfl) hxr rfl rfl) ?_); (first | refine dp (po_half (m := i + j) (by omega) rfl rfl rfl) ?_ | refine dp (po_call_clo rfl rfl (ac (ac .nil)) (k1)) ?_); (first | refine dp (po_half (m := i + j) (by omega) rfl rfl rfl) ?_ | refine dCm ?_); (first | refine dp (po_half (m := i + j) (by omega) rfl rfl rfl) ?_ | refine dp (po_not rfl rfl) ?_); refine aq41 ?_) | (refine rg 36 ?_; (first | refine sp (po_half (m := i + j) (by omega) rfl rfl rfl) ?_ | refine oMv ?_); (first | refine sp (po_arith (c := ((i + j : Nat) : Int)) rfl rfl rfl (ar_add (by refine wrap_i64 ?_; omega) (by omega))) ?_ | refine sp (po_arith (c := ((n - 1 - (i + j) / 2 : Nat) : Int)) rfl rfl rfl (ar_sub (by refine wrap_i64 ?_; omega) (by omega))) ?_ | refine sp (po_half (m := i + j) (by omega) rfl rfl rfl) ?_ | refine sp (xinc rfl) ?_); (first | refine sp (po_half (m := i + j) (by omega) rfl rfl rfl) ?_ | refine oAs ?_); refine oN ?_) | refine gc ?_ | refine ct ?_)
    | true =>
      have hnd : (!decide (cmpU y.n x.n < 0)) = false := by rw [hd]; rfl
      have hlt2 : (!ltA ltK l (n - 1 - (i + j) / 2) ((i + j) / 2)) = false := by rw [hlt, hd]; rfl
      rw [bsr_no hij hlt2] at g5
      repeat' (first | refine fam_next (HalfX.mk i ((i + j) / 2) f) (by show (i + j) / 2 - i < j - i; omega) (weak_sub (.cons rfl rfl rfl (.cons rfl rfl rfl (.cons rfl rfl rfl (.cons rfl rfl rfl (.cons rfl rfl rfl (.cons rfl rfl rfl (.cons rfl rfl rfl (.cons rfl rfl rfl (.cons rfl rfl rfl (.cons rfl rfl rfl .nil)))))))))) .nil (.cons rfl rfl .nil)) ⟨g1, by show i ≤ (i + j) / 2; omega, by show (i + j) / 2 ≤ hi; omega, by show (i + j) / 2 - i ≤ f; omega, g5⟩ | (refine rg 33 ?_; (first | refine sp (po_half (m := i + j) (by omega) rfl rfl rfl) ?_ | refine oMv ?_); (first | refine sp (po_half (m := i + j) (by omega) rfl rfl rfl) ?_ | refine oMv ?_); (first | refine sp (po_half (m := i + j) (by omega) rfl rfl rfl) ?_ | refine oCm ?_); refine oN ?_) | (refine rg 34 ?_; (first | refine sp (po_half (m := i + j) (by omega) rfl rfl rfl) ?_ | refine oMv ?_); (first | refine sp (po_half (m := i + j) (by omega) rfl rfl rfl) ?_ | refine oMv ?_); (refine sp (po_arith (c := ((i + j : Nat) : Int)) rfl rfl rfl (ar_add (by refine wrap_i64 ?_; omega) (by omega))) ?_); (refine sp (po_conv_int (c := ((i + j : Nat) : Int)) rfl rfl (tyK rfl) (tyK rfl) hcv) ?_); refine sp (po_half (m := i + j) (by omega) rfl rfl rfl) ?_; (first | refine sp (po_conv_int (c := ((i + j : Nat) : Int)) rfl rfl (tyK rfl) (tyK rfl) hcv) ?_ | refine sp (po_half (m := i + j) (by omega) rfl rfl rfl) ?_ | refine sp (po_conv_int (c := (((i + j) / 2 : Nat) : Int)) rfl rfl (tyK rfl) (tyK rfl) (by refine wrap_i64 ?_; omega)) ?_); (first | refine sp (po_half (m := i + j) (by omega) rfl rfl rfl) ?_ | refine oAs ?_); refine oN ?_) | (refine rd 35 ?_; (first | refine dp (po_half (m := i + j) (by omega) rfl rfl rfl) ?_ | refine dMv ?_); (first | refine dp (po_half (m := i + j) (by omega) rfl rfl rfl) ?_ | refine dMv ?_); (first | refine dp (po_half (m := i + j) (by omega) rfl rfl rfl) ?_ | refine dMv ?_); (first | refine dp (po_half (m := i + j) (by omega) rfl rfl rfl) ?_ | refine dMv ?_); (first | refine dp (po_arith (c := ((i + j : Nat) : Int)) rfl rfl rfl (ar_add (by refine wrap_i64 ?_; omega) (by omega))) ?_ | refine dp (po_arith (c := ((n - 1 - (i + j) / 2 : Nat) : Int)) rfl rfl rfl (ar_sub (by refine wrap_i64 ?_; omega) (by omega))) ?_); (first | refine dp (po_half (m := i + j) (by omega) rfl rfl rfl) ?_ | refine dp (po_index_own (k := n - 1 - (i + j) / 2) rfl rfl rfl hNr rfl (tyS rfl) rfl hpN) ?_); (first | refine dp (po_half (m := i + j) (by omega) rfl rfl rfl) ?_ | refine dp (po_load_own_agg (ts := takR y) rfl rfl rfl hNr (tyT rfl) hyr rfl rfl) ?_); (first | refine dp (po_half (m := i + j) (by omega) rfl rfl rfl) ?_ | refine dMv ?_); (first | refine dp (po_half (m := i + j) (by omega) rfl rfl rfl) ?_ | refine dMv ?_); (first | refine dp (po_half (m := i + j) (by omega) rfl rfl rfl) ?_ | refine dp (po_index_own (k := n - 1 - (i + j) / 2) rfl rfl rfl hNr rfl (tyS rfl) rfl hpN) ?_ | refine dp (po_index_own (k := (i + j) / 2) rfl rfl rfl hNr rfl (tyS rfl) rfl hh) ?_); (first | refine dp (po_half (m := i + j) (by omega) rfl rfl rfl) ?_ | refine dp (po_load_own_agg (ts := takR y) rfl rfl rfl hNr (tyT rfl) hyr rfl rfl) ?_ | refine dp (po_load_own_agg (ts := takR x) rfl rfl rfl hNr (tyT rfl) hxr rfl rfl) ?_); (first | refine dp (po_half (m := i + j) (by omega) rfl rfl rfl) ?_ | refine dp (po_call_clo rfl rfl (ac (ac .nil)) (k1)) ?_); (first | refine dp (po_half (m := i + j) (by omega) rfl rfl rfl) ?_ | refine dCm ?_); (first | refine dp (po_half (m := i + j) (by omega) rfl rfl rfl) ?_ | refine dp (po_not rfl rfl) ?_); refine aq41 ?_) | (refine rg 37 ?_; (first | refine sp (po_half (m := i + j) (by omega) rfl rfl rfl) ?_ | refine oMv ?_); (first | refine sp (po_half (m := i + j) (by omega) rfl rfl rfl) ?_ | refine oAs ?_); refine oN ?_) | refine gc ?_ | refine ct ?_ | refine cf ?_)
  · obtain rfl : i = j := by omega
    rw [bsr_end] at g5
    subst g5
    have hijI : ¬ ((i : Nat) : Int) < ((i : Nat) : Int) := by omega
    repeat' (first | refine fam_exit ?_ | refine rg 33 (aq42 ?_) | refine gc ?_ | refine ct ?_ | refine cf ?_ | refine sc ?_ ?_ <;> intro hc | refine rq rfl .nil ?_)
    refine swp_weak (st' := SM38 N a m b mid n i l) (weak_sub (.cons rfl rfl rfl (.cons rfl rfl rfl (.cons rfl rfl rfl (.cons rfl rfl rfl (.cons rfl rfl rfl (.cons rfl rfl rfl (.cons rfl rfl rfl (.cons rfl rfl rfl .nil)))))))) .nil (.cons rfl rfl .nil)) ?_
    exact h _ _ rfl
end Go.Proofs.Ytabejnjnkpdjbaa.Sim
