/- Merged by bundles.py: SimNld. -/
import Derived.Test.YtabejnjnkpdjbaaT29
import Derived.Test.YtabejnjnkpdjbaaT30
import Derived.Test.YtabejnjnkpdjbaaT15
/- PoolOnce: what comes behind a call. -/
namespace Go.Proofs.Ytabejnjnkpdjbaa.Sim
set_option linter.unusedVariables false
set_option linter.unusedSimpArgs false
open Go.RowKit Mem R21
structure Hold (p : Prop) : Prop where
  go : p
structure JoinE {α : Type} (N : Nat) (S : α → St) (I : α → Prop) (Q : Exit → St → Prop) (e : Exit) (s : St) : Prop where
  go : match e with
    | .normal => ∃ x, I x ∧ Weak N s (S x)
    | e => Q e s
theorem swp_joinE {α : Type} {P : Program} {N : Nat} {Q : Exit → St → Prop} {st : St} {c : Code} (S : α → St) (I : α → Prop) (h : Hold (SWp P N c (JoinE N S I Q) st)) (k : ∀ x, I x → Q .normal (S x)) : SWp P N c Q st := .mk fun C a w hr =>
  wk_mono (fun e a' w' ⟨s, hr', hq⟩ => by
    cases e with
    | normal =>
      obtain ⟨x, hi, hw⟩ := hq.go
      exact ⟨S x, hw.go _ _ _ hr', k x hi⟩
    | _ => exact ⟨s, hr', hq.go⟩) (h.go.go C a w hr)
theorem joinE_go {α : Type} {N : Nat} {S : α → St} {I : α → Prop} {Q : Exit → St → Prop} {s : St} (x : α) (hw : Weak N s (S x)) (hi : I x) : JoinE N S I Q .normal s := ⟨⟨x, hi, hw⟩⟩
abbrev TId := Int × Int × Int
def tidL (x : TId) : List T := [i64T x.1, u64T x.2.1, u64T x.2.2]
def pT (n : Int) : List T := [i64T n]
structure OnX where
  i : Nat
  p : PPool
  ids : List TId
  peers : List Int
  taken : List Int
  told : List Int
  now : Int
def onT (l : List PAct) (x : OnX) (tm : List (Nat × A)) : List (Nat × A) := (1, .t (.sl 9 (l.map actL))) :: (5, .bp 5 0) :: (7, .own 100 x.ids.length) :: (8, .own 101 x.peers.length) :: (9, .own 102 x.taken.length) :: (10, .own 103 x.told.length) :: (11, .t (u64T x.now)) :: (12, .t (i64T (x.i : Int))) :: tm
def onO (x : OnX) : List (Nat × Own) := [(100, ⟨26, 3, x.ids.map tidL⟩), (101, ⟨3, 1, x.peers.map pT⟩), (102, ⟨24, 1, x.taken.map nT⟩), (103, ⟨24, 1, x.told.map nT⟩)]
def SOn (l : List PAct) (x : OnX) : St := ⟨onT l x [], [(5, (poolT x.p).map .t)], onO x⟩
def SOj (l : List PAct) (x : OnX) (D : List PDo) (F : List PFail) : St := ⟨onT l x [(14, .t (.sl 18 (D.map doR))), (15, .t (.sl 2 (F.map failR)))], [(5, (poolT x.p).map .t)], onO x⟩
def SOf (l : List PAct) (x : OnX) (D : List PDo) (F : List PFail) (k : Nat) : St := ⟨onT l { x with told := x.told ++ (F.map PFail.id).take k } [(14, .t (.sl 18 (D.map doR))), (15, .t (.sl 2 (F.map failR))), (23, .t (i64T (k : Int)))], [(5, (poolT x.p).map .t)], onO { x with told := x.told ++ (F.map PFail.id).take k }⟩
def SOd (l : List PAct) (x : OnX) (D : List PDo) : St := ⟨onT l x [(14, .t (.sl 18 (D.map doR)))], [(5, (poolT x.p).map .t)], onO x⟩
set_option maxRecDepth 100000 in
set_option maxHeartbeats 4000000 in
theorem fails_ {c : Code} (hc : fS 38 (bodyOf Try.f5) = some c) {Q : Exit → St → Prop} (l : List PAct) (x : OnX) (D : List PDo) (F : List PFail) (hF : F.length ≤ 100000) (ht : x.told.length ≤ 100000) (h : Q .normal (SOd l { x with told := x.told ++ F.map PFail.id } D)) : SWp Try.prog 320 c Q (SOj l x D F) := by
  obtain rfl := Option.some.inj hc
  refine swp_joinE (fun _ : Unit => SOd l { x with told := x.told ++ F.map PFail.id } D) (fun _ => True) ⟨?_⟩ fun _ _ => h
  have hml : (F.map failR).length = F.length := List.length_map _
  unfold SOj SOd onT onO
  try dsimp only
  repeat' (first | refine rg 38 (aq0 ?_) | refine gc ?_ | refine ct ?_ | refine cf ?_ | refine sc ?_ ?_ <;> intro hc | refine rq rfl (rt .nil) ?_)
  refine swp_for (SOf l x D F) (fun _ => True) F.length ?_ trivial ?_
  · exact (weak_sub (.cons rfl (by first | rfl | (first | (rw [List.take_zero, List.append_nil]))) rfl (.cons rfl (by first | rfl | (first | (rw [List.take_zero, List.append_nil]))) rfl (.cons rfl (by first | rfl | (first | (rw [List.take_zero, List.append_nil]))) rfl (.cons rfl (by first | rfl | (first | (rw [List.take_zero, List.append_nil]))) rfl (.cons rfl (by first | rfl | (first | (rw [List.take_zero, List.append_nil]))) rfl (.cons rfl (by first | rfl | (first | (rw [List.take_zero, List.append_nil]))) rfl (.cons rfl (by first | rfl | (first | (rw [List.take_zero, List.append_nil]))) rfl (.cons rfl (by first | rfl | (first | (rw [List.take_zero, List.append_nil]))) rfl (.cons rfl (by first | rfl | (first | (rw [List.take_zero, List.append_nil]))) rfl (.cons rfl (by first | rfl | (first | (rw [List.take_zero, List.append_nil]))) rfl (.cons rfl (by first | rfl | (first | (rw [List.take_zero, List.append_nil]))) rfl .nil))))))))))) (.cons rfl (by first | rfl | (first | (rw [List.take_zero, List.append_nil]))) rfl .nil) (.cons rfl (by first | rfl | (first | (rw [List.take_zero, List.append_nil]))) (.cons rfl (by first | rfl | (first | (rw [List.take_zero, List.append_nil]))) (.cons rfl (by first | rfl | (first | (rw [List.take_zero, List.append_nil]))) (.cons rfl (by first | rfl | (first | (rw [List.take_zero, List.append_nil]))) .nil)))))
  intro k hk _
  unfold SOf onT onO
  try dsimp only
  by_cases hlt : k < F.length
  · have hltI : (k : Int) < ((F.map failR).length : Int) := by omega
    have hlt2 : k < (F.map failR).length := by omega
    have hrow : (F.map failR)[k]? = some (failR F[k]) := map_at_some hlt
    have hidl : (F.map PFail.id).length = F.length := List.length_map _
    have htk : x.told ++ (F.map PFail.id).take (k + 1) = (x.told ++ (F.map PFail.id).take k) ++ [(F[k]).id] := by
      rw [List.take_succ_eq_append_getElem (by omega), List.getElem_map, List.append_assoc]
    have hll : (x.told ++ (F.map PFail.id).take k).length ≤ 200000 := by rw [List.length_append, List.length_take]; omega
    have hst3 : (x.told ++ (F.map PFail.id).take k).map nT ++ [[u64T (F[k]).id]] = (x.told ++ (F.map PFail.id).take (k + 1)).map nT := by rw [htk]; exact (List.map_append (l₂ := [(F[k]).id])).symm
    have hfo : Own.mk 24 1 ((x.told ++ (F.map PFail.id).take k).map nT ++ [[u64T (F[k]).id]]) = Own.mk 24 1 ((x.told ++ (F.map PFail.id).take (k + 1)).map nT) := by rw [hst3]
    have hfl : Sim.A.own 103 ((x.told ++ (F.map PFail.id).take k).map nT ++ [[u64T (F[k]).id]]).length = Sim.A.own 103 (x.told ++ (F.map PFail.id).take (k + 1)).length := by rw [hst3, List.length_map]
    have hll2 : ((x.told ++ (F.map PFail.id).take k).map nT).length = (x.told ++ (F.map PFail.id).take k).length := List.length_map _
    unfold failR at hrow
    generalize F[k] = f at *
    repeat' (first | refine for_next hlt (weak_sub (.cons rfl (by rfl) rfl (.cons rfl (by rfl) rfl (.cons rfl (by rfl) rfl (.cons rfl (by rfl) rfl (.cons rfl (by rfl) rfl (.cons rfl (by first | rfl | (first | (exact hfo) | (exact hfl))) rfl (.cons rfl (by rfl) rfl (.cons rfl (by rfl) rfl (.cons rfl (by rfl) rfl (.cons rfl (by rfl) rfl (.cons rfl (by rfl) rfl .nil))))))))))) (.cons rfl (by rfl) rfl .nil) (.cons rfl (by rfl) (.cons rfl (by rfl) (.cons rfl (by rfl) (.cons rfl (by first | rfl | ((exact hfo))) .nil))))) trivial | refine rg 39 (aq54 ?_) | refine rg 41 (aq55 ?_) | refine rg 40 (aq17 ?_) | refine gc ?_ | refine ct ?_)
  · obtain rfl : k = F.length := by omega
    have hltI : ¬ ((F.length : Nat) : Int) < ((F.map failR).length : Int) := by omega
    have hfull : (F.map PFail.id).take F.length = F.map PFail.id := List.take_of_length_le (by rw [List.length_map]; omega)
    rw [hfull]
    repeat' (first | refine gc ?_ | refine joinE_go () (weak_sub (.cons rfl rfl rfl (.cons rfl rfl rfl (.cons rfl rfl rfl (.cons rfl rfl rfl (.cons rfl rfl rfl (.cons rfl rfl rfl (.cons rfl rfl rfl (.cons rfl rfl rfl (.cons rfl rfl rfl .nil))))))))) (.cons rfl rfl rfl .nil) (.cons rfl rfl (.cons rfl rfl (.cons rfl rfl (.cons rfl rfl .nil))))) trivial | refine rg 39 (aq54 ?_) | refine ct ?_ | refine cf ?_)
structure DoX where
  k : Nat
  ids : List TId
  peers : List Int
structure DoOk (x : OnX) (D : List PDo) (y : DoX) : Prop where
  hk : y.k ≤ D.length
  len : y.ids.length = y.peers.length
  few : y.ids.length ≤ x.ids.length + y.k
def OnX.w (x : OnX) (y : DoX) : OnX := { x with ids := y.ids, peers := y.peers }
def SOe (l : List PAct) (x : OnX) (D : List PDo) (y : DoX) : St := ⟨onT l (x.w y) [(14, .t (.sl 18 (D.map doR))), (24, .t (i64T (y.k : Int)))], [(5, (poolT x.p).map .t)], onO (x.w y)⟩
def seenB (ids : List TId) (d : PDo) (j : Nat) : Bool := (ids.take j).any fun x => (x.1 == d.node && (x.2.1 == d.inc && x.2.2 == d.num))
def SOs (l : List PAct) (x : OnX) (D : List PDo) (y : DoX) (d : PDo) (j : Nat) : St := ⟨onT l (x.w y) [(14, .t (.sl 18 (D.map doR))), (24, .t (i64T (y.k : Int))), (25, .t (.v (.bool (seenB y.ids d j)))), (26, .t (i64T (j : Int)))], [(5, (poolT x.p).map .t)], onO (x.w y)⟩
set_option maxRecDepth 100000 in
set_option maxHeartbeats 4000000 in
theorem dos_ {c : Code} (hc : fS 42 (bodyOf Try.f5) = some c) {Q : Exit → St → Prop} (l : List PAct) (x : OnX) (D : List PDo) (hD : D.length ≤ 1000) (hx : x.ids.length = x.peers.length) (hi : x.ids.length ≤ 100000) (h : ∀ y : DoX, DoOk x D y → Q .normal (SOn l (x.w y))) : SWp Try.prog 320 c Q (SOd l x D) := by
  obtain rfl := Option.some.inj hc
  refine swp_joinE (fun y => SOn l (x.w y)) (DoOk x D) ⟨?_⟩ h
  have hml : (D.map doR).length = D.length := List.length_map _
  unfold SOd SOn onT onO OnX.w
  try dsimp only
  repeat' (first | refine rg 42 (aq0 ?_) | refine gc ?_ | refine ct ?_ | refine cf ?_ | refine sc ?_ ?_ <;> intro hc | refine rq rfl (rt .nil) ?_)
  refine swp_fam (SOe l x D) (DoOk x D) (fun y => D.length - y.k) ⟨0, x.ids, x.peers⟩ (weak_sub (.cons rfl rfl rfl (.cons rfl rfl rfl (.cons rfl rfl rfl (.cons rfl rfl rfl (.cons rfl rfl rfl (.cons rfl rfl rfl (.cons rfl rfl rfl (.cons rfl rfl rfl (.cons rfl rfl rfl (.cons rfl rfl rfl .nil)))))))))) (.cons rfl rfl rfl .nil) (.cons rfl rfl (.cons rfl rfl (.cons rfl rfl (.cons rfl rfl .nil))))) ⟨Nat.zero_le _, hx, Nat.le_refl _⟩ ?_
  rintro ⟨k, ids, peers⟩ ⟨hk, hlen, hfew⟩
  dsimp only at hk hlen hfew
  unfold SOe onT onO OnX.w
  try dsimp only
  by_cases hlt : k < D.length
  · have hltI : (k : Int) < ((D.map doR).length : Int) := by omega
    have hlt2 : k < (D.map doR).length := by omega
    have hrow : (D.map doR)[k]? = some (doR D[k]) := map_at_some hlt
    generalize D[k] = d at *
    unfold doR at hrow
    by_cases h1 : d.kind = 1
    · have hb : (!decide (d.kind = 1)) = false := by simp [h1]
      have him : (ids.map tidL).length = ids.length := List.length_map _
      have hpm : (peers.map pT).length = peers.length := List.length_map _
      repeat' (first | refine rg 43 (aq54 ?_) | refine rg 45 (aq56 ?_) | refine rg 46 (aq0 ?_) | refine rg 47 (aq0 ?_) | refine gc ?_ | refine ct ?_ | refine cf ?_ | refine sc ?_ ?_ <;> intro hc | refine rq rfl (rt .nil) ?_)
      refine swp_for (SOs l x D ⟨k, ids, peers⟩ d) (fun _ => True) ids.length ?_ trivial ?_
      · exact (weak_sub (.cons rfl rfl rfl (.cons rfl rfl rfl (.cons rfl rfl rfl (.cons rfl rfl rfl (.cons rfl rfl rfl (.cons rfl rfl rfl (.cons rfl rfl rfl (.cons rfl rfl rfl (.cons rfl rfl rfl (.cons rfl rfl rfl (.cons rfl rfl rfl (.cons rfl rfl rfl .nil)))))))))))) (.cons rfl rfl rfl .nil) (.cons rfl rfl (.cons rfl rfl (.cons rfl rfl (.cons rfl rfl .nil)))))
      · intro j hj _
        unfold SOs onT onO OnX.w
        try dsimp only
        by_cases hj2 : j < ids.length
        · have hjI : (j : Int) < ((ids.map tidL).length : Int) := by omega
          have hj3 : j < (ids.map tidL).length := by omega
          have hrj : (ids.map tidL)[j]? = some (tidL ids[j]) := map_at_some hj2
          have hs : seenB ids d (j + 1) = (seenB ids d j || ((ids[j]).1 == d.node && ((ids[j]).2.1 == d.inc && (ids[j]).2.2 == d.num))) := by
            unfold seenB; rw [List.take_succ_eq_append_getElem hj2, List.any_append]; simp
          unfold tidL at hrj
          generalize ids[j] = z at *
          cases hb2 : seenB ids d j with
          | true =>
            rw [hb2, Bool.true_or] at hs
            repeat' (first | refine for_next hj2 (weak_sub (.cons rfl (by rfl) rfl (.cons rfl (by rfl) rfl (.cons rfl (by rfl) rfl (.cons rfl (by rfl) rfl (.cons rfl (by rfl) rfl (.cons rfl (by rfl) rfl (.cons rfl (by rfl) rfl (.cons rfl (by rfl) rfl (.cons rfl (by rfl) rfl (.cons rfl (by rfl) rfl (.cons rfl (by first | rfl | ((rw [hs]))) rfl (.cons rfl (by rfl) rfl .nil)))))))))))) (.cons rfl (by rfl) rfl .nil) (.cons rfl (by rfl) (.cons rfl (by rfl) (.cons rfl (by rfl) (.cons rfl (by rfl) .nil))))) trivial | refine rg 48 (aq54 ?_) | (refine swp_draw (id := 50) 13 mixed (by kernel_rfl) (by kernel_rfl) ?_; refine dMv ?_; refine dMv ?_; (first | refine dMv ?_ | refine dK ?_) <;> (first | refine dMv ?_ | refine dK ?_) <;> (first | refine dp (pix rfl (tyS rfl)) ?_ | refine dK ?_) <;> (first | refine dp (po_load_bx_agg rfl rfl (tyT rfl) rfl (vc (vc (vc .nil))) rfl) ?_ | refine dp (po_load_agg rfl rfl (tyT rfl) rfl rfl) ?_ | refine dK ?_) <;> (first | refine dMv ?_ | refine dK ?_) <;> (first | refine dMv ?_ | refine dK ?_) <;> (first | refine dp (pix rfl (tyS rfl)) ?_ | refine dK ?_) <;> (first | refine dFb ?_ | refine dFd ?_ | refine dK ?_) <;> (first | refine dp (po_load_bx_agg rfl rfl (tyT rfl) rfl (vc (vc (vc .nil))) rfl) ?_ | refine dp (po_load_agg rfl rfl (tyT rfl) rfl rfl) ?_ | refine dK ?_) <;> (first | refine dp (po_boolq rfl rfl rfl (by kernel_rfl) (by exact .inl rfl)) ?_ | refine dK ?_) <;> refine dPt ?_ <;> refine dN ?_ <;> refine oAs ?_ <;> refine oN ?_) | refine rg 49 (aq17 ?_) | refine gc ?_ | refine ct ?_)
          | false =>
            rw [hb2, Bool.false_or] at hs
            repeat' (first | refine for_next hj2 (weak_sub (.cons rfl (by rfl) rfl (.cons rfl (by rfl) rfl (.cons rfl (by rfl) rfl (.cons rfl (by rfl) rfl (.cons rfl (by rfl) rfl (.cons rfl (by rfl) rfl (.cons rfl (by rfl) rfl (.cons rfl (by rfl) rfl (.cons rfl (by rfl) rfl (.cons rfl (by rfl) rfl (.cons rfl (by first | rfl | ((rw [hs]))) rfl (.cons rfl (by rfl) rfl .nil)))))))))))) (.cons rfl (by rfl) rfl .nil) (.cons rfl (by rfl) (.cons rfl (by rfl) (.cons rfl (by rfl) (.cons rfl (by rfl) .nil))))) trivial | (refine rg 48 ?_; refine oMv ?_; refine oMv ?_; refine sp (pln rfl (tyS rfl)) ?_; (first | refine sp (po_eqid rfl rfl rfl) ?_ | refine oCm ?_); refine oN ?_) | (refine swp_draw (id := 50) 13 mixed (by kernel_rfl) (by kernel_rfl) ?_; refine dMv ?_; refine dMv ?_; refine dMv ?_ <;> refine dMv ?_ <;> refine dp (pix rfl (tyS rfl)) ?_ <;> (first | refine dp (po_load_bx_agg rfl rfl (tyT rfl) rfl (vc (vc (vc .nil))) rfl) ?_ | refine dp (po_load_agg rfl rfl (tyT rfl) rfl rfl) ?_) <;> refine dMv ?_ <;> refine dMv ?_ <;> refine dp (pix rfl (tyS rfl)) ?_ <;> (first | refine dFb ?_ | refine dFd ?_) <;> (first | refine dp (po_load_bx_agg rfl rfl (tyT rfl) rfl (vc (vc (vc .nil))) rfl) ?_ | refine dp (po_load_agg rfl rfl (tyT rfl) rfl rfl) ?_) <;> refine dp (po_eqid rfl rfl rfl) ?_ <;> (first | refine dPt ?_ | refine dPf ?_) <;> refine dN ?_ <;> refine oAs ?_ <;> refine oN ?_) | refine rg 49 (aq17 ?_) | refine gc ?_ | refine ct ?_)
        · obtain rfl : j = ids.length := by omega
          have hjI : ¬ ((ids.length : Nat) : Int) < ((ids.map tidL).length : Int) := by omega
          cases hb2 : seenB ids d ids.length with
          | true =>
            repeat' (first | refine fam_next (DoX.mk (k + 1) ids peers) (by show D.length - (k + 1) < D.length - k; omega) (weak_sub (.cons rfl rfl rfl (.cons rfl rfl rfl (.cons rfl rfl rfl (.cons rfl rfl rfl (.cons rfl rfl rfl (.cons rfl rfl rfl (.cons rfl rfl rfl (.cons rfl rfl rfl (.cons rfl rfl rfl (.cons rfl rfl rfl .nil)))))))))) (.cons rfl rfl rfl .nil) (.cons rfl rfl (.cons rfl rfl (.cons rfl rfl (.cons rfl rfl .nil))))) (DoOk.mk (by show k + 1 ≤ D.length; omega) hlen (by show ids.length ≤ x.ids.length + (k + 1); omega)) | refine rg 48 (aq54 ?_) | (refine rg 51 ?_; refine oMv ?_; refine sp (po_not rfl rfl) ?_; refine oN ?_) | refine rg 44 (aq17 ?_) | refine gc ?_ | refine ct ?_ | refine cf ?_)
          | false =>
            have hio : Own.mk 26 3 (ids.map tidL ++ [[i64T d.node, u64T d.inc, u64T d.num]]) = Own.mk 26 3 ((ids ++ [(d.node, d.inc, d.num)]).map tidL) := by rw [List.map_append]; rfl
            have hil : Sim.A.own 100 (ids.map tidL ++ [[i64T d.node, u64T d.inc, u64T d.num]]).length = Sim.A.own 100 (ids ++ [(d.node, d.inc, d.num)]).length := by rw [List.length_append, List.length_append, him]; rfl
            have hpo : Own.mk 3 1 (peers.map pT ++ [[i64T d.peer]]) = Own.mk 3 1 ((peers ++ [d.peer]).map pT) := by rw [List.map_append]; rfl
            have hpl : Sim.A.own 101 (peers.map pT ++ [[i64T d.peer]]).length = Sim.A.own 101 (peers ++ [d.peer]).length := by rw [List.length_append, List.length_append, hpm]; rfl
            have hmx : (ids.map tidL).length ≤ 200000 := by omega
            have hmp : (peers.map pT).length ≤ 200000 := by omega
            repeat' (first | refine fam_next (DoX.mk (k + 1) (ids ++ [(d.node, d.inc, d.num)]) (peers ++ [d.peer])) (by show D.length - (k + 1) < D.length - k; omega) (weak_sub (.cons rfl (by rfl) rfl (.cons rfl (by rfl) rfl (.cons rfl (by first | rfl | (first | (exact hio) | (exact hil))) rfl (.cons rfl (by first | rfl | (first | (exact hio) | (exact hil) | (exact hpo) | (exact hpl))) rfl (.cons rfl (by rfl) rfl (.cons rfl (by rfl) rfl (.cons rfl (by rfl) rfl (.cons rfl (by rfl) rfl (.cons rfl (by rfl) rfl (.cons rfl (by rfl) rfl .nil)))))))))) (.cons rfl (by rfl) rfl .nil) (.cons rfl (by first | rfl | ((exact hio))) (.cons rfl (by first | rfl | (first | (exact hio) | (exact hil) | (exact hpo))) (.cons rfl (by rfl) (.cons rfl (by rfl) .nil))))) (DoOk.mk (by show k + 1 ≤ D.length; omega) (by show (ids ++ _).length = (peers ++ _).length; rw [List.length_append, List.length_append, hlen]; rfl) (by show (ids ++ _).length ≤ x.ids.length + (k + 1); rw [List.length_append]; show ids.length + 1 ≤ x.ids.length + (k + 1); omega)) | refine rg 48 (aq54 ?_) | (refine rg 51 ?_; refine oMv ?_; refine sp (po_not rfl rfl) ?_; refine oN ?_) | (refine rg 52 ?_; refine oMv ?_; refine oMv ?_; refine oMv ?_; refine sp (pix rfl (tyS rfl)) ?_; (first | refine oFb ?_ | refine oFd ?_); (first | refine sp (po_load_bx_agg rfl rfl (tyT rfl) rfl (vc (vc (vc .nil))) rfl) ?_ | refine sp (po_load_agg rfl rfl (tyT rfl) rfl rfl) ?_); refine sp (po_buildSlice rfl (tyE rfl) (dc (.nil _)) rfl rfl rfl) ?_; refine sap rfl (tyE rfl) ?_; refine oAs ?_; refine oN ?_) | refine rg 53 (aq55 ?_) | refine rg 44 (aq17 ?_) | refine gc ?_ | refine ct ?_ | refine cf ?_)
    · have hb : (!decide (d.kind = 1)) = true := by simp [h1]
      repeat' (first | refine fam_next (DoX.mk (k + 1) ids peers) (by show D.length - (k + 1) < D.length - k; omega) (weak_sub (.cons rfl rfl rfl (.cons rfl rfl rfl (.cons rfl rfl rfl (.cons rfl rfl rfl (.cons rfl rfl rfl (.cons rfl rfl rfl (.cons rfl rfl rfl (.cons rfl rfl rfl (.cons rfl rfl rfl (.cons rfl rfl rfl .nil)))))))))) (.cons rfl rfl rfl .nil) (.cons rfl rfl (.cons rfl rfl (.cons rfl rfl (.cons rfl rfl .nil))))) (DoOk.mk (by show k + 1 ≤ D.length; omega) hlen (by show ids.length ≤ x.ids.length + (k + 1); omega)) | refine rg 43 (aq54 ?_) | refine rg 45 (aq56 ?_) | refine rg 44 (aq17 ?_) | refine gc ?_ | refine ct ?_)
  · obtain rfl : k = D.length := by omega
    have hltI : ¬ ((D.length : Nat) : Int) < ((D.map doR).length : Int) := by omega
    repeat' (first | refine gc ?_ | refine fam_exit ?_ | refine joinE_go (DoX.mk D.length ids peers) (weak_sub (.cons rfl rfl rfl (.cons rfl rfl rfl (.cons rfl rfl rfl (.cons rfl rfl rfl (.cons rfl rfl rfl (.cons rfl rfl rfl (.cons rfl rfl rfl (.cons rfl rfl rfl .nil)))))))) (.cons rfl rfl rfl .nil) (.cons rfl rfl (.cons rfl rfl (.cons rfl rfl (.cons rfl rfl .nil))))) (DoOk.mk (Nat.le_refl _) hlen hfew) | refine rg 43 (aq54 ?_) | refine ct ?_ | refine cf ?_)
def cntN (l : List Int) (n : Int) : Nat := l.countP fun x => decide (x = n)
theorem cntN_snoc (l : List Int) (n x : Int) : cntN (l ++ [x]) n = cntN l n + if x = n then 1 else 0 := by
  unfold cntN
  rw [List.countP_append, List.countP_cons, List.countP_nil]
  by_cases h : x = n <;> simp [h]
theorem cntN_le (l : List Int) (n : Int) : cntN l n ≤ l.length := List.countP_le_length
theorem cntN_eq (l : List Int) (n : Int) : cntN l n = l.count n := by
  unfold cntN List.count
  refine congrArg (fun f => List.countP f l) (funext fun x => ?_)
  by_cases h : x = n <;> simp [h]
set_option maxRecDepth 100000 in
set_option maxHeartbeats 2000000 in
theorem count_ (l : List Int) (n : Int) (hl : l.length ≤ 1000000) : PCalls Try.prog 12 [.sl 1 (l.map nT), u64T n] (i64T ((cntN l n : Nat) : Int)) := by
  have hm : (l.map nT).length = l.length := List.length_map _
  refine pcalls_of Try.func12 rfl rfl Try.ntmps12 rfl ?_
  repeat' (first | refine rg 0 (aq0 ?_) | refine rg 1 (aq0 ?_) | refine rg 2 (aq0 ?_) | refine gc ?_ | refine ct ?_ | refine cf ?_ | refine sc ?_ ?_ <;> intro hc | refine rq rfl (rt .nil) ?_)
  refine swp_for (fun k => ⟨[(0, .t (.sl 1 (l.map nT))), (1, .t (u64T n)), (5, .t (i64T ((cntN (l.take k) n : Nat) : Int))), (6, .t (i64T (k : Int)))], [], []⟩) (fun _ => True) l.length ?_ trivial ?_
  · exact (weak_sub (.cons rfl rfl rfl (.cons rfl rfl rfl (.cons rfl rfl rfl (.cons rfl rfl rfl .nil)))) .nil .nil)
  intro k hk _
  by_cases hlt : k < l.length
  · have hltI : (k : Int) < ((l.map nT).length : Int) := by omega
    have hrow : (l.map nT)[k]? = some (nT l[k]) := map_at_some hlt
    have hlt2 : k < (l.map nT).length := by omega
    have hst : cntN (l.take (k + 1)) n = cntN (l.take k) n + if l[k] = n then 1 else 0 := by rw [List.take_succ_eq_append_getElem hlt, cntN_snoc]
    have hcb := cntN_le (l.take k) n
    have htl : (l.take k).length ≤ l.length := by rw [List.length_take]; omega
    generalize l[k] = x at *
    generalize cntN (l.take k) n = c at *
    by_cases he : x = n
    · have hd : decide (x = n) = true := decide_eq_true he
      rw [if_pos he] at hst
      repeat' (first | refine for_next hlt (weak_sub (.cons rfl (by rfl) rfl (.cons rfl (by rfl) rfl (.cons rfl (by first | rfl | ((rw [hst]))) rfl (.cons rfl (by rfl) rfl .nil)))) .nil .nil) trivial | refine rg 3 (aq54 ?_) | refine rg 5 (aq57 ?_) | refine rg 6 (aq17 ?_) | refine rg 4 (aq17 ?_) | refine gc ?_ | refine ct ?_)
    · have hd : decide (x = n) = false := decide_eq_false he
      rw [if_neg he] at hst
      repeat' (first | refine for_next hlt (weak_sub (.cons rfl (by rfl) rfl (.cons rfl (by rfl) rfl (.cons rfl (by first | rfl | ((rw [hst]; rfl))) rfl (.cons rfl (by rfl) rfl .nil)))) .nil .nil) trivial | refine rg 3 (aq54 ?_) | refine rg 5 (aq57 ?_) | refine rg 4 (aq17 ?_) | refine gc ?_ | refine ct ?_ | refine cf ?_)
  · obtain rfl : k = l.length := by omega
    have hltI : ¬ ((l.length : Nat) : Int) < ((l.map nT).length : Int) := by omega
    rw [List.take_length]
    repeat' (first | refine rg 3 (aq54 ?_) | refine rg 7 (aq7 ?_) | refine gc ?_ | refine ct ?_ | refine cf ?_ | refine sc ?_ ?_ <;> intro hc | refine rq rfl (rt .nil) ?_)
    all_goals rfl
def SOz (l : List PAct) (x : OnX) (still : List Int) (k : Nat) : St := ⟨onT l x [(27, .t (.sl 1 (still.map nT))), (29, .t (i64T (k : Int)))], [(5, (poolT x.p).map .t)], onO x⟩
set_option maxRecDepth 100000 in
set_option maxHeartbeats 4000000 in
theorem still_ {c : Code} (hc : fS 54 (bodyOf Try.f5) = some c) {Q : Exit → St → Prop} (l : List PAct) (x : OnX) (hx : OnI x.p x.taken x.told (x.i + 1)) (ht : x.taken.length ≤ 1000) (h : Q .normal (SOn l x)) : SWp Try.prog 320 c Q (SOn l x) := by
  obtain rfl := Option.some.inj hc
  refine swp_joinE (fun _ : Unit => SOn l x) (fun _ => True) ⟨?_⟩ fun _ _ => h
  have ca := asked_ x.p hx.ok
  have hlen := hx.len
  have honce : ∀ n ∈ x.taken, cntN (stillP x.p.tuns) n + cntN x.told n = 1 := fun n hn => by rw [cntN_eq, cntN_eq]; exact hx.once hn
  generalize stillP x.p.tuns = st at *
  have hsm : (st.map nT).length = st.length := List.length_map _
  have htm : (x.taken.map nT).length = x.taken.length := List.length_map _
  have hom : (x.told.map nT).length = x.told.length := List.length_map _
  have hne : (!decide (((x.taken.length : Nat) : Int) = ((st.map nT).length : Int) + ((x.told.length : Nat) : Int))) = false := by rw [hsm, hlen]; simp
  unfold SOn onT onO
  try dsimp only
  repeat' (first | (refine rg 54 (aq58 ?_); refine oC (ca) rfl (ac .nil) ?_; refine oMv ?_; refine oEx ?_; refine oEx ?_; refine oAs ?_; refine oAs ?_; refine oN ?_) | (refine rg 55 ?_; refine oMv ?_; refine sp (po_not rfl rfl) ?_; refine oMv ?_; refine oMv ?_ <;> refine sp (pln rfl (tyS rfl)) ?_ <;> refine oMv ?_ <;> refine sp (pln rfl (tyS rfl)) ?_ <;> refine oMv ?_ <;> refine sp (pln rfl (tyS rfl)) ?_ <;> (first | refine sp (xinc rfl) ?_ | refine sp (xadd rfl) ?_) <;> refine oCm ?_ <;> (first | refine oPt ?_ | refine oPf ?_) <;> refine oN ?_) | refine rg 57 (aq0 ?_) | refine gc ?_ | refine ct ?_ | refine cf ?_ | refine sc ?_ ?_ <;> intro hc | refine rq rfl (rt .nil) ?_)
  refine swp_for (SOz l x st) (fun _ => True) x.taken.length ?_ trivial ?_
  · exact (weak_sub (.cons rfl rfl rfl (.cons rfl rfl rfl (.cons rfl rfl rfl (.cons rfl rfl rfl (.cons rfl rfl rfl (.cons rfl rfl rfl (.cons rfl rfl rfl (.cons rfl rfl rfl (.cons rfl rfl rfl (.cons rfl rfl rfl .nil)))))))))) (.cons rfl rfl rfl .nil) (.cons rfl rfl (.cons rfl rfl (.cons rfl rfl (.cons rfl rfl .nil)))))
  intro k hk _
  unfold SOz onT onO
  try dsimp only
  by_cases hlt : k < x.taken.length
  · have hltI : (k : Int) < ((x.taken.map nT).length : Int) := by omega
    have hlt2 : k < (x.taken.map nT).length := by omega
    have hrow : (x.taken.map nT)[k]? = some (nT x.taken[k]) := map_at_some hlt
    have ho := honce _ (List.getElem_mem hlt)
    have kst := count_ st x.taken[k] (by omega)
    have ktl := count_ x.told x.taken[k] (by omega)
    unfold nT at hrow
    generalize x.taken[k] = n at *
    have e1 : (!decide (((cntN st n : Nat) : Int) + ((cntN x.told n : Nat) : Int) = 1)) = false := by
      have : ((cntN st n : Nat) : Int) + ((cntN x.told n : Nat) : Int) = 1 := by omega
      simp [this]
    repeat' (first | refine for_next hlt (weak_sub (.cons rfl rfl rfl (.cons rfl rfl rfl (.cons rfl rfl rfl (.cons rfl rfl rfl (.cons rfl rfl rfl (.cons rfl rfl rfl (.cons rfl rfl rfl (.cons rfl rfl rfl (.cons rfl rfl rfl (.cons rfl rfl rfl .nil)))))))))) (.cons rfl rfl rfl .nil) (.cons rfl rfl (.cons rfl rfl (.cons rfl rfl (.cons rfl rfl .nil))))) trivial | refine rg 58 (aq54 ?_) | (refine rd 60 ?_; refine dMv ?_; refine dMv ?_; refine dMv ?_; refine dp (pix rfl (tyS rfl)) ?_; (first | refine dLb ?_ | refine dLd ?_); refine dC (kst) rfl (ac (ac .nil)) ?_; refine dMv ?_; refine dMv ?_; refine dMv ?_; refine dp (pix rfl (tyS rfl)) ?_; (first | refine dLb ?_ | refine dLd ?_); (first | refine dC (kst) rfl (ac (ac .nil)) ?_ | refine dC (ktl) rfl (ac (ac .nil)) ?_); (first | refine dp (xinc rfl) ?_ | refine dp (xadd rfl) ?_); refine dCm ?_; refine dN ?_; refine oN ?_) | refine rg 59 (aq17 ?_) | refine gc ?_ | refine ct ?_ | refine cf ?_)
  · obtain rfl : k = x.taken.length := by omega
    have hltI : ¬ ((x.taken.length : Nat) : Int) < ((x.taken.map nT).length : Int) := by omega
    repeat' (first | refine gc ?_ | refine joinE_go () (weak_sub (.cons rfl rfl rfl (.cons rfl rfl rfl (.cons rfl rfl rfl (.cons rfl rfl rfl (.cons rfl rfl rfl (.cons rfl rfl rfl (.cons rfl rfl rfl (.cons rfl rfl rfl .nil)))))))) (.cons rfl rfl rfl .nil) (.cons rfl rfl (.cons rfl rfl (.cons rfl rfl (.cons rfl rfl .nil))))) trivial | refine rg 58 (aq54 ?_) | refine ct ?_ | refine cf ?_)
end Go.Proofs.Ytabejnjnkpdjbaa.Sim
