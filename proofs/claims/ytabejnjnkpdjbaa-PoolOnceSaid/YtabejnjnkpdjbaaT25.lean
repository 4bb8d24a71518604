/- Merged by bundles.py: SimPf, SimPg, SimPh. -/
import Derived.Test.YtabejnjnkpdjbaaT24
import Derived.Test.YtabejnjnkpdjbaaT15
/- room. -/
namespace Go.Proofs.Ytabejnjnkpdjbaa.Sim
set_option linter.unusedVariables false
set_option linter.unusedSimpArgs false
open Go.RowKit Mem
section
variable {P : Program} {bx : List (Nat × List A)} {ow : List (Nat × Own)} {o : Oper} {ρ : Operand → Option A}
theorem po_len_fam {x : Operand} {t i sz : Nat} {u : Value} {fs a b : List (Value × Own)} {o' : Own} (ho : o.op = .call { callee := .builtin .len, args := #[x], argTypes := #[t] }) (hx : ρ x = some (.t (.v u))) (hb : get bx i = some [.rs (FamR fs)]) (hfs : fs = a ++ (u, o') :: b) (hT : sliceSz P t = some sz) (hc : chB i = true := by rfl) : PureOp P bx ow o ρ (.t (.v (.int .i64 (o'.rows.length : Int)))) := pure_run fun C m g w ac he h => by
  subst hfs
  have h1 : ac.eval x = u := tr_v (show TR m (.v u) _ from h x (by simp [ho, Op.operands, Call.operands]) _ hx)
  obtain ⟨⟨_, f2, _⟩, _⟩ := he.rs.1 i _ hc hb
  obtain ⟨⟨vs, k1, _⟩, _⟩ := f2 a.length (u, o') ins_at
  obtain ⟨e, ii, hu, _⟩ := sliceSz_spec hT
  have hu2 : ∃ A c, u = .slice A o'.rows.length c := by
    rcases k1.2 with ⟨h5, h6⟩ | ⟨g5, cap, cur, h5, _⟩
    · dsimp only at h5 h6; exact ⟨none, 0, by rw [h5, h6]⟩
    · dsimp only at h5; exact ⟨some ⟨g5, 0, none⟩, cap, h5⟩
  obtain ⟨A0, c0, hu3⟩ := hu2
  refine ⟨.int .i64 o'.rows.length, ?_, .v _⟩
  simp [execOp, ho, resolve, invoke, builtin, h1, hu3, Builtin.len_, Builtin.lenOf, run_underlying hu, goInt]
end
def lruI (l : List PTun) : Nat → Option (Nat × Int)
  | 0 => none
  | j + 1 => match l[j]? with
    | none => lruI l j
    | some t => if t.asks.length = 0 then (match lruI l j with
      | none => some (j, t.used)
      | some (k, u) => if t.used < u then some (j, t.used) else some (k, u)) else lruI l j
def kOf : Option (Nat × Int) → Int
  | none => -1
  | some (k, _) => (k : Int)
theorem lruI_ok (l : List PTun) : ∀ j k u, lruI l j = some (k, u) → k < j ∧ ∃ t, l[k]? = some t ∧ t.used = u ∧ t.asks.length = 0
  | 0, k, u, h => by cases h
  | j + 1, k, u, h => by
    unfold lruI at h
    cases hj : l[j]? with
    | none => rw [hj] at h; obtain ⟨h1, h2⟩ := lruI_ok l j k u h; exact ⟨by omega, h2⟩
    | some t =>
      rw [hj] at h
      dsimp only at h
      split at h
      · rename_i ha
        cases hl : lruI l j with
        | none => rw [hl] at h; injection h with h; injection h with h1 h2; subst h1 h2; exact ⟨by omega, t, hj, rfl, ha⟩
        | some x =>
          obtain ⟨k0, u0⟩ := x
          rw [hl] at h
          dsimp only at h
          split at h
          · injection h with h; injection h with h1 h2; subst h1 h2; exact ⟨by omega, t, hj, rfl, ha⟩
          · injection h with h; injection h with h1 h2; subst h1 h2
            obtain ⟨h1, h2⟩ := lruI_ok l j k0 u0 hl; exact ⟨by omega, h2⟩
      · obtain ⟨h1, h2⟩ := lruI_ok l j k u h; exact ⟨by omega, h2⟩
theorem lruI_skip {l : List PTun} {j : Nat} {t : PTun} (h : l[j]? = some t) (ha : ¬ t.asks.length = 0) : lruI l (j + 1) = lruI l j := by
  show (match l[j]? with | none => _ | some t => _) = _
  rw [h]; dsimp only; rw [if_neg ha]
theorem lruI_first {l : List PTun} {j : Nat} {t : PTun} (h : l[j]? = some t) (ha : t.asks.length = 0) (hl : lruI l j = none) : lruI l (j + 1) = some (j, t.used) := by
  show (match l[j]? with | none => _ | some t => _) = _
  rw [h]; dsimp only; rw [if_pos ha, hl]
theorem lruI_less {l : List PTun} {j : Nat} {t : PTun} {k : Nat} {u : Int} (h : l[j]? = some t) (ha : t.asks.length = 0) (hl : lruI l j = some (k, u)) (hu : t.used < u) : lruI l (j + 1) = some (j, t.used) := by
  show (match l[j]? with | none => _ | some t => _) = _
  rw [h]; dsimp only; rw [if_pos ha, hl]; dsimp only; rw [if_pos hu]
theorem lruI_more {l : List PTun} {j : Nat} {t : PTun} {k : Nat} {u : Int} (h : l[j]? = some t) (ha : t.asks.length = 0) (hl : lruI l j = some (k, u)) (hu : ¬ t.used < u) : lruI l (j + 1) = lruI l j := by
  show (match l[j]? with | none => _ | some t => _) = _
  rw [h, hl]; dsimp only; rw [if_pos ha, if_neg hu]
def SRm (W : PWk) (j : Nat) : St := ⟨[(0, .bp 2000 0), (2, .t (.v (.bool false))), (3, .t (.v (.int .i64 (kOf (lruI (W.tuns.map ATun.t) j))))), (10, .own 2001 W.tuns.length), (11, .t (.v (.int .i64 (W.tuns.length : Int)))), (12, .t (.v (.int .i64 (j : Int))))], wB 2000 3000 2001 2002 2003 W, wO 2001 2002 2003 W⟩
def roomX (W : PWk) : List (Nat × List A) × List (Nat × Own) := match lruI (W.tuns.map ATun.t) W.tuns.length with
  | none => (wB 2000 3000 2001 2002 2003 W, wO 2001 2002 2003 W)
  | some (k, _) => match W.tuns[k]? with
    | none => (wB 2000 3000 2001 2002 2003 W, wO 2001 2002 2003 W)
    | some a => (wB 2000 3000 1001 1002 1003 (goW W (W.tuns.take k) (W.tuns.drop (k + 1)) a 0), wO 1001 1002 1003 (goW W (W.tuns.take k) (W.tuns.drop (k + 1)) a 0))
theorem split_at {α : Type} {l : List α} {k : Nat} {a : α} (h : l[k]? = some a) : l = l.take k ++ a :: l.drop (k + 1) := by
  obtain ⟨h1, h2⟩ := List.getElem?_eq_some_iff.1 h
  rw [← h2, ← List.drop_eq_getElem_cons h1, List.take_append_drop]
set_option maxRecDepth 100000 in
set_option maxHeartbeats 4000000 in
theorem room_ (W : PWk) (hn : W.tuns.length ≤ 1000) (hf : W.fails.length ≤ 1000000) (hd : W.dos.length ≤ 1000000) : LCalls Try.prog 70 [.bp 2000 0] (wB 2000 3000 2001 2002 2003 W) (wO 2001 2002 2003 W) (.t (.v (.bool (lruI (W.tuns.map ATun.t) W.tuns.length).isSome))) (roomX W).1 (roomX W).2 := by
  refine lcalls_of Try.func70 rfl rfl Try.ntmps70 rfl ?_
  unfold wB wO wC
  repeat' (first | refine rg 0 (aq0 ?_) | refine rg 1 (aq0 ?_) | (refine rg 2 ?_; refine oMv ?_; refine sp (po_nilcheck rfl rfl) ?_; refine oFb ?_; refine oFb ?_; refine oLb ?_; refine sp (po_len_own rfl rfl (tyS rfl)) ?_; refine oMv ?_; refine oN ?_) | refine gc ?_ | refine ct ?_ | refine cf ?_ | refine sc ?_ ?_ <;> intro hc | refine rq rfl (rt .nil) ?_)
  refine swp_for (SRm W) (fun _ => True) W.tuns.length ?_ trivial ?_
  · exact (weak_sub (.cons rfl rfl rfl (.cons rfl rfl rfl (.cons rfl rfl rfl (.cons rfl rfl rfl (.cons rfl rfl rfl (.cons rfl rfl rfl .nil)))))) (.cons rfl rfl rfl (.cons rfl rfl rfl .nil)) (.cons rfl rfl (.cons rfl rfl (.cons rfl rfl .nil))))
  intro j hj _
  unfold SRm wB wO wC
  by_cases hlt : j < W.tuns.length
  · have hltI : (j : Int) < (W.tuns.length : Int) := by omega
    have hx : W.tuns[j]? = some W.tuns[j] := List.getElem?_eq_getElem hlt
    have hxt : (W.tuns.map ATun.t)[j]? = some (W.tuns[j]).t := by rw [List.getElem?_map, hx]; rfl
    have hat : (W.tuns.map tunR)[j]? = some (tunR W.tuns[j]) := by rw [List.getElem?_map, hx]; rfl
    have hfs : famT W.tuns = famT (W.tuns.take j) ++ ((W.tuns[j]).u, askO (W.tuns[j]).t) :: famT (W.tuns.drop (j + 1)) := by
      have h0 := congrArg famT (split_at hx)
      rw [famT_open] at h0; exact h0
    have hml : W.tuns.length = (W.tuns.map tunR).length := (List.length_map _).symm
    have hla : (askO (W.tuns[j]).t).rows.length = (W.tuns[j]).t.asks.length := List.length_map _
    generalize W.tuns[j] = x at *
    by_cases he : x.t.asks.length = 0
    · have heI : (((askO x.t).rows.length : Nat) : Int) = 0 := by rw [hla]; omega
      cases hl : lruI (W.tuns.map ATun.t) j with
      | none =>
        have hs := lruI_first hxt he hl
        dsimp only [kOf]
        repeat' (first | refine for_next hlt (weak_sub (.cons rfl (by rfl) rfl (.cons rfl (by rfl) rfl (.cons rfl (by first | rfl | ((exact congrArg (fun z => Sim.A.t (T.v (Value.int .i64 (kOf z)))) hs.symm))) rfl (.cons rfl (by rfl) rfl (.cons rfl (by rfl) rfl (.cons rfl (by rfl) rfl .nil)))))) (.cons rfl (by rfl) rfl (.cons rfl (by rfl) rfl .nil)) (.cons rfl (by rfl) (.cons rfl (by rfl) (.cons rfl (by rfl) .nil)))) trivial | refine rg 3 (aq3 ?_) | (refine rg 4 (aq4 ?_); refine sp (po_load_own_agg (ts := tunR x) rfl rfl rfl hml (tyT rfl) hat rfl rfl) ?_; refine sal str118 ?_; refine aq5 ?_) | (refine rd 5 ?_; refine dFb ?_; (first | refine dp (po_load_own_agg (ts := tunR x) rfl rfl rfl hml (tyT rfl) hat rfl rfl) ?_ | refine dLb ?_); refine dp (po_len_fam (i := 3000) rfl rfl rfl hfs (tyS rfl)) ?_; refine dCm ?_; refine dMv ?_; refine dMv ?_; refine dCm ?_; refine dMv ?_; (first | refine dFb ?_ | refine dFd ?_ | refine dp (fdo rfl) ?_ | refine dK ?_) <;> (first | refine dp (po_load_own_agg (ts := tunR x) rfl rfl rfl hml (tyT rfl) hat rfl rfl) ?_ | refine dLb ?_ | refine dLd ?_ | refine dp (ldo rfl) ?_ | refine dK ?_) <;> (first | refine dMv ?_ | refine dK ?_) <;> (first | refine dp (po_nilcheck rfl rfl) ?_ | refine dp (po_nilcheck_oe rfl rfl rfl (by rfl)) ?_ | refine dK ?_) <;> refine aq35 ?_ <;> (first | refine dp (po_load_own_agg (ts := tunR x) rfl rfl rfl hml (tyT rfl) hat rfl rfl) ?_ | refine dLb ?_ | refine dLd ?_ | refine dp (ldo rfl) ?_ | refine dK ?_) <;> refine aq36 ?_ <;> (first | refine dp (po_load_own_agg (ts := tunR x) rfl rfl rfl hml (tyT rfl) hat rfl rfl) ?_ | refine dLb ?_ | refine dLd ?_ | refine dp (ldo rfl) ?_ | refine dK ?_) <;> (first | refine dCm ?_ | refine dK ?_) <;> refine dPt ?_ <;> refine dPt ?_ <;> refine dN ?_ <;> refine oN ?_) | refine rg 6 (aq7 ?_) | refine rg 7 (aq6 ?_) | refine gc ?_ | refine ct ?_)
      | some ku =>
        obtain ⟨k, u⟩ := ku
        obtain ⟨hk1, b, hb1, hb2, hb3⟩ := lruI_ok _ _ _ _ hl
        rw [List.getElem?_map] at hb1
        cases hy : W.tuns[k]? with
        | none => rw [hy] at hb1; cases hb1
        | some y =>
          rw [hy] at hb1
          injection hb1 with hb1
          subst hb1
          subst hb2
          have hatk : (W.tuns.map tunR)[k]? = some (tunR y) := by rw [List.getElem?_map, hy]; rfl
          have hkI : ¬ ((k : Int) < 0) := by omega
          have hkn : k < W.tuns.length := by omega
          dsimp only [kOf]
          by_cases hu : x.t.used < y.t.used
          · have hs := lruI_less hxt he hl hu
            repeat' (first | refine for_next hlt (weak_sub (.cons rfl (by rfl) rfl (.cons rfl (by rfl) rfl (.cons rfl (by first | rfl | ((exact congrArg (fun z => Sim.A.t (T.v (Value.int .i64 (kOf z)))) hs.symm))) rfl (.cons rfl (by rfl) rfl (.cons rfl (by rfl) rfl (.cons rfl (by rfl) rfl .nil)))))) (.cons rfl (by rfl) rfl (.cons rfl (by rfl) rfl .nil)) (.cons rfl (by rfl) (.cons rfl (by rfl) (.cons rfl (by rfl) .nil)))) trivial | refine rg 3 (aq3 ?_) | (refine rg 4 (aq4 ?_); refine sp (po_load_own_agg (ts := tunR x) rfl rfl rfl hml (tyT rfl) hat rfl rfl) ?_; refine sal str118 ?_; refine aq5 ?_) | (refine rd 5 ?_; refine dFb ?_; (first | refine dp (po_load_own_agg (ts := tunR x) rfl rfl rfl hml (tyT rfl) hat rfl rfl) ?_ | refine dLb ?_); refine dp (po_len_fam (i := 3000) rfl rfl rfl hfs (tyS rfl)) ?_; refine dCm ?_; refine dMv ?_; refine dMv ?_ <;> refine dCm ?_ <;> refine dMv ?_ <;> refine dFb ?_ <;> (first | refine dp (po_load_own_agg (ts := tunR x) rfl rfl rfl hml (tyT rfl) hat rfl rfl) ?_ | refine dLb ?_) <;> refine dMv ?_ <;> refine dp (po_nilcheck rfl rfl) ?_ <;> refine dFb ?_ <;> refine dFb ?_ <;> (first | refine dp (po_load_own_agg (ts := tunR x) rfl rfl rfl hml (tyT rfl) hat rfl rfl) ?_ | refine dLb ?_) <;> refine dMv ?_ <;> refine dp (ixo rfl) ?_ <;> (first | refine dFb ?_ | refine dFd ?_ | refine dp (fdo rfl) ?_) <;> (first | refine dp (po_load_own_agg (ts := tunR x) rfl rfl rfl hml (tyT rfl) hat rfl rfl) ?_ | refine dLb ?_ | refine dLd ?_ | refine dp (ldo rfl) ?_) <;> refine dCm ?_ <;> (first | refine dPt ?_ | refine dPf ?_) <;> refine dPt ?_ <;> refine dN ?_ <;> refine oN ?_) | refine rg 6 (aq7 ?_) | refine rg 7 (aq6 ?_) | refine gc ?_ | refine ct ?_)
          · have hs := (lruI_more hxt he hl hu).trans hl
            repeat' (first | refine for_next hlt (weak_sub (.cons rfl (by rfl) rfl (.cons rfl (by rfl) rfl (.cons rfl (by first | rfl | ((exact congrArg (fun z => Sim.A.t (T.v (Value.int .i64 (kOf z)))) hs.symm))) rfl (.cons rfl (by rfl) rfl (.cons rfl (by rfl) rfl (.cons rfl (by rfl) rfl .nil)))))) (.cons rfl (by rfl) rfl (.cons rfl (by rfl) rfl .nil)) (.cons rfl (by rfl) (.cons rfl (by rfl) (.cons rfl (by rfl) .nil)))) trivial | refine rg 3 (aq3 ?_) | (refine rg 4 (aq4 ?_); refine sp (po_load_own_agg (ts := tunR x) rfl rfl rfl hml (tyT rfl) hat rfl rfl) ?_; refine sal str118 ?_; refine aq5 ?_) | (refine rd 5 ?_; refine dFb ?_; (first | refine dp (po_load_own_agg (ts := tunR x) rfl rfl rfl hml (tyT rfl) hat rfl rfl) ?_ | refine dLb ?_); refine dp (po_len_fam (i := 3000) rfl rfl rfl hfs (tyS rfl)) ?_; refine dCm ?_; refine dMv ?_; refine dMv ?_ <;> refine dCm ?_ <;> refine dMv ?_ <;> refine dFb ?_ <;> (first | refine dp (po_load_own_agg (ts := tunR x) rfl rfl rfl hml (tyT rfl) hat rfl rfl) ?_ | refine dLb ?_) <;> refine dMv ?_ <;> refine dp (po_nilcheck rfl rfl) ?_ <;> refine dFb ?_ <;> refine dFb ?_ <;> (first | refine dp (po_load_own_agg (ts := tunR x) rfl rfl rfl hml (tyT rfl) hat rfl rfl) ?_ | refine dLb ?_) <;> refine dMv ?_ <;> refine dp (ixo rfl) ?_ <;> (first | refine dFb ?_ | refine dFd ?_ | refine dp (fdo rfl) ?_) <;> (first | refine dp (po_load_own_agg (ts := tunR x) rfl rfl rfl hml (tyT rfl) hat rfl rfl) ?_ | refine dLb ?_ | refine dLd ?_ | refine dp (ldo rfl) ?_) <;> refine dCm ?_ <;> (first | refine dPt ?_ | refine dPf ?_) <;> refine dPt ?_ <;> refine dN ?_ <;> refine oN ?_) | refine rg 7 (aq6 ?_) | refine gc ?_ | refine ct ?_ | refine cf ?_)
    · have hs := lruI_skip hxt he
      have heI : ¬ ((((askO x.t).rows.length : Nat) : Int) = 0) := by rw [hla]; omega
      repeat' (first | refine for_next hlt (weak_sub (.cons rfl (by rfl) rfl (.cons rfl (by rfl) rfl (.cons rfl (by first | rfl | ((rw [hs]))) rfl (.cons rfl (by rfl) rfl (.cons rfl (by rfl) rfl (.cons rfl (by rfl) rfl .nil)))))) (.cons rfl (by rfl) rfl (.cons rfl (by rfl) rfl .nil)) (.cons rfl (by rfl) (.cons rfl (by rfl) (.cons rfl (by rfl) .nil)))) trivial | refine rg 3 (aq3 ?_) | (refine rg 4 (aq4 ?_); refine sp (po_load_own_agg (ts := tunR x) rfl rfl rfl hml (tyT rfl) hat rfl rfl) ?_; refine sal str118 ?_; refine aq5 ?_) | (refine rd 5 ?_; refine dFb ?_; (first | refine dp (po_load_own_agg (ts := tunR x) rfl rfl rfl hml (tyT rfl) hat rfl rfl) ?_ | refine dLb ?_); refine dp (po_len_fam (i := 3000) rfl rfl rfl hfs (tyS rfl)) ?_; refine dCm ?_; refine dMv ?_; (first | refine dMv ?_ | refine dK ?_); (first | refine dCm ?_ | refine dK ?_); (first | refine dMv ?_ | refine dK ?_); (first | refine dFb ?_ | refine dFd ?_ | refine dp (fdo rfl) ?_ | refine dK ?_) <;> (first | refine dp (po_load_own_agg (ts := tunR x) rfl rfl rfl hml (tyT rfl) hat rfl rfl) ?_ | refine dLb ?_ | refine dLd ?_ | refine dp (ldo rfl) ?_ | refine dK ?_) <;> (first | refine dMv ?_ | refine dK ?_) <;> (first | refine dp (po_nilcheck rfl rfl) ?_ | refine dp (po_nilcheck_oe rfl rfl rfl (by rfl)) ?_ | refine dK ?_) <;> refine aq35 ?_ <;> (first | refine dp (po_load_own_agg (ts := tunR x) rfl rfl rfl hml (tyT rfl) hat rfl rfl) ?_ | refine dLb ?_ | refine dLd ?_ | refine dp (ldo rfl) ?_ | refine dK ?_) <;> refine aq36 ?_ <;> (first | refine dp (po_load_own_agg (ts := tunR x) rfl rfl rfl hml (tyT rfl) hat rfl rfl) ?_ | refine dLb ?_ | refine dLd ?_ | refine dp (ldo rfl) ?_ | refine dK ?_) <;> (first | refine dCm ?_ | refine dK ?_) <;> (first | refine dPt ?_ | refine dPf ?_ | refine dK ?_) <;> (first | refine dPt ?_ | refine dPf ?_) <;> refine dN ?_ <;> refine oN ?_) | refine rg 7 (aq6 ?_) | refine gc ?_ | refine ct ?_ | refine cf ?_)
  · obtain rfl : j = W.tuns.length := by omega
    have hnI : ¬ ((W.tuns.length : Int) < (W.tuns.length : Int)) := by omega
    unfold roomX
    cases hl : lruI (W.tuns.map ATun.t) W.tuns.length with
    | none =>
      dsimp only [kOf]
      repeat' (first | refine rg 3 (aq3 ?_) | refine rg 8 (aq27 ?_) | refine rg 10 (aq37 ?_) | refine gc ?_ | refine ct ?_ | refine cf ?_ | refine sc ?_ ?_ <;> intro hc | refine retl (by exact .inr rfl) rfl (.tmp rfl rfl .nil) ?_ rfl (.cons rfl (by rfl) rfl (.cons rfl (by rfl) rfl .nil)) (.cons rfl (by rfl) (.cons rfl (by rfl) (.cons rfl (by rfl) .nil))))
      rfl
    | some ku =>
      obtain ⟨k, u⟩ := ku
      obtain ⟨hk1, b, hb1, hb2, hb3⟩ := lruI_ok _ _ _ _ hl
      rw [List.getElem?_map] at hb1
      dsimp only [kOf]
      cases hy : W.tuns[k]? with
      | none => rw [hy] at hb1; cases hb1
      | some y =>
        rw [hy] at hb1
        injection hb1 with hb1
        subst hb1
        have c4 := goes_ W (W.tuns.take k) (W.tuns.drop (k + 1)) y 0 (split_at hy) (by omega) hf hn hd
        rw [List.length_take, Nat.min_eq_left (by omega)] at c4
        unfold wB wO wC at c4
        have hkI : (0 : Int) ≤ (k : Int) := by omega
        dsimp only
        unfold wB wO wC
        repeat' (first | refine rg 3 (aq3 ?_) | refine rg 8 (aq27 ?_) | (refine rg 9 (aq15 ?_); refine sops_lcall (c4) (fun i => i) (fun i => i) (fun _ => false) (.free rfl rfl) rfl rfl rfl (by ((repeat' (first | exact .nil | refine .cons rfl rfl rfl ?_)) <;> fail)) (.cons rfl rfl (.cons rfl rfl .nil)) (.cons rfl rfl (.cons rfl rfl (.cons rfl rfl .nil))) rfl rfl (fun _ h => Bool.noConfusion h) ?_; refine oN ?_) | refine rg 10 (aq37 ?_) | refine gc ?_ | refine ct ?_ | refine cf ?_ | refine sc ?_ ?_ <;> intro hc | refine retl (by exact .inr rfl) rfl (.tmp rfl rfl .nil) ?_ rfl (.cons rfl (by rfl) rfl (.cons rfl (by rfl) rfl .nil)) (.cons rfl (by rfl) (.cons rfl (by rfl) (.cons rfl (by rfl) .nil))))
        rw [show decide ((0 : Int) ≤ (k : Int)) = true from decide_eq_true hkI]
        rfl
end Go.Proofs.Ytabejnjnkpdjbaa.Sim

/- open of a new tunnel. -/
namespace Go.Proofs.Ytabejnjnkpdjbaa.Sim
set_option linter.unusedVariables false
set_option linter.unusedSimpArgs false
open Go.RowKit Mem
def wXb (b c : Nat) (W : PWk) (x : ATun) : List (Nat × List A) := [(2000, wC 2001 b c W), (2010, (tunR x).map .t)]
set_option maxRecDepth 100000 in
set_option maxHeartbeats 2000000 in
theorem openb_ (W : PWk) (x : ATun) (hd : W.dos.length ≤ 1000000) : LCalls Try.prog 72 [.bp 2000 0, .bp 2010 0] (wXb 2002 2003 W x) (wO 2001 2002 2003 W) (resA []) (wXb 1002 2003 (addD W (opnD x.t)) ⟨sinT W.now x.t, x.u⟩) (wO 2001 1002 2003 (addD W (opnD x.t))) := by
  obtain ⟨wn, wi, wx, now, tuns, dos, fails⟩ := W
  dsimp only at hd
  refine lcalls_of Try.func72 rfl rfl Try.ntmps72 rfl ?_
  unfold wXb wO wC
  refine swp_weak (weak_ren 2002 1002 rfl rfl rfl rfl rfl rfl rfl) ?_
  repeat' (first | (refine rg 0 ?_; refine oMv ?_; refine oMv ?_; refine sp (po_nilcheck rfl rfl) ?_; refine oFb ?_; refine oLb ?_; refine sp (po_nilcheck rfl rfl) ?_; refine oFb ?_; refine oS ?_; refine oN ?_) | refine gc ?_ | refine ct ?_ | refine cf ?_ | refine sc ?_ ?_ <;> intro hc | refine rq rfl .nil ?_)
  refine swp_weak (st' := ⟨[(0, .bp 2000 0), (1, .bp 2010 0)], wXb 1002 2003 ⟨wn, wi, wx, now, tuns, dos, fails⟩ ⟨sinT now x.t, x.u⟩, wO 2001 1002 2003 ⟨wn, wi, wx, now, tuns, dos, fails⟩⟩) (weak_sub (.cons rfl rfl rfl (.cons rfl rfl rfl .nil)) (.cons rfl rfl rfl (.cons rfl rfl rfl .nil)) (.cons rfl rfl (.cons rfl rfl (.cons rfl rfl .nil)))) ?_
  unfold wXb wO wC
  repeat' (first | ((refine swp_any (id := 1) [[], [], [], [], [], [], [], [], [], [], [], [], [], [], [], [], [], [], [], [], [], [], [], [1002], [], [], [2000]] [[1002], [], [], [], [], [], [], [], [], [], [], [], [], [], [], [], [], [], [], [], [], [], [], [], [], [], []] mixed (by kernel_rfl) ?_) <;> refine yp (fun _ _ => po_move rfl rfl) ?_ <;> refine yp (fun _ _ => po_move rfl rfl) ?_ <;> refine yp (fun _ _ => po_nilcheck rfl rfl) ?_ <;> refine yp (fun _ _ => po_field_bx rfl rfl (tyF rfl)) ?_ <;> refine yp (fun _ _ => po_load_bx rfl rfl (tyT rfl) rfl rfl) ?_ <;> refine yp (fun _ _ => po_move rfl rfl) ?_ <;> refine yp (fun _ _ => po_nilcheck rfl rfl) ?_ <;> refine yp (fun _ _ => po_field_bx rfl rfl (tyF rfl)) ?_ <;> refine yp (fun _ _ => po_load_bx rfl rfl (tyT rfl) rfl rfl) ?_ <;> refine yp (fun _ _ => po_move rfl rfl) ?_ <;> refine yp (fun _ _ => po_nilcheck rfl rfl) ?_ <;> refine yp (fun _ _ => po_field_bx rfl rfl (tyF rfl)) ?_ <;> (refine yp (fun _ _ => po_load_bx_agg rfl rfl (tyT rfl) rfl (vc (vc (vc .nil))) rfl) ?_) <;> refine yp (fun _ _ => po_move rfl rfl) ?_ <;> refine yp (fun _ _ => po_nilcheck rfl rfl) ?_ <;> refine yp (fun _ _ => po_field_bx rfl rfl (tyF rfl)) ?_ <;> refine yp (fun _ _ => po_load_bx rfl rfl (tyT rfl) rfl rfl) ?_ <;> refine yp (fun _ _ => po_move rfl rfl) ?_ <;> refine yp (fun _ _ => po_nilcheck rfl rfl) ?_ <;> refine yp (fun _ _ => po_field_bx rfl rfl (tyF rfl)) ?_ <;> (refine yp (fun _ _ => po_load_bx_agg rfl rfl (tyT rfl) rfl (vc (vc (vc .nil))) rfl) ?_) <;> (refine yp (fun _ _ => po_buildS str84 rfl (pc (pc (pc (pc (pc .nil))))) rfl) ?_) <;> refine yp (fun _ _ => po_buildSlice rfl (tyE rfl) (dc (.nil _)) rfl rfl rfl) ?_ <;> refine sany_eff [] [(1002, _)] (.free rfl rfl) rfl rfl (fun _ _ _ _ => e_append rfl rfl rfl (by first | rfl | simp) rfl (by exact .t _) (tyE rfl) (by first | assumption | (simp only [List.length_map, List.length_cons, List.length_nil]; omega)) (by first | assumption | (unfold maxLen; simp only [List.length_map, List.length_cons, List.length_nil]; omega))) ?_ <;> refine yp (fun _ _ => po_nilcheck rfl rfl) ?_ <;> refine yp (fun _ _ => po_field_bx rfl rfl (tyF rfl)) ?_ <;> refine sany_eff [(2000, _)] [] (.free rfl rfl) rfl rfl (fun _ _ _ _ => e_store rfl rfl rfl rfl rfl rfl (tyT rfl) rfl rfl) ?_ <;> refine sany_nil ?_) | refine gc ?_ | refine ct ?_ | refine cf ?_ | refine sc ?_ ?_ <;> intro hc | refine rq rfl .nil ?_)
  refine retl (.inl rfl) rfl .nil rfl rfl (.cons rfl ?_ rfl (.cons rfl rfl rfl .nil)) (.cons rfl rfl (.cons rfl ?_ (.cons rfl rfl .nil)))
  · exact congrArg (fun n => [Sim.A.t (i64T wn), Sim.A.t (u64T wi), Sim.A.t (u64T wx), Sim.A.own 2001 tuns.length, Sim.A.t (u64T now), Sim.A.own 1002 n, Sim.A.own 2003 fails.length]) (doN_app dos (opnD x.t))
  · exact doO_app dos (opnD x.t)
end Go.Proofs.Ytabejnjnkpdjbaa.Sim

/- Ask's closures. -/
namespace Go.Proofs.Ytabejnjnkpdjbaa.Sim
set_option linter.unusedVariables false
set_option linter.unusedSimpArgs false
open Go.RowKit Mem
def pAsk (peer src a b c : Int) (t : PTun) : Bool := (decide (t.peer = peer) && decide (t.src = src)) && (t.duid == a && (t.daddr == b && t.dport == c))
set_option maxRecDepth 100000 in
theorem ask2_ (peer src a b c : Int) (x : ATun) : LCalls Try.prog 68 [.t (.agg (tunR x)), .bp 2000 0, .bp 2001 0, .bp 2002 0] [(2000, [.t (i64T peer)]), (2001, [.t (u64T src)]), (2002, [.t (u64T a), .t (u32T b), .t (i64T c)])] [] (.t (.v (.bool (pAsk peer src a b c x.t)))) [(2000, [.t (i64T peer)]), (2001, [.t (u64T src)]), (2002, [.t (u64T a), .t (u32T b), .t (i64T c)])] [] := by
  refine lcalls_of Try.func68 rfl rfl Try.ntmps68 rfl ?_
  unfold pAsk
  by_cases h : x.t.peer = peer
  · have hd : decide (x.t.peer = peer) = true := decide_eq_true h
    by_cases h2 : x.t.src = src
    · have hd2 : decide (x.t.src = src) = true := decide_eq_true h2
      rw [hd, hd2, Bool.true_and, Bool.true_and]
      repeat' (first | refine rg 0 (aq9 ?_) | (refine rg 1 (aq21 ?_); (first | refine sp (po_eqdst rfl rfl rfl) ?_ | refine oCm ?_); refine aq38 ?_ <;> (first | refine sp (po_eqdst rfl rfl rfl) ?_ | refine oCm ?_) <;> refine oPt ?_ <;> refine oMv ?_ <;> refine oFb ?_ <;> refine sp (po_load_bx_agg rfl rfl (tyT rfl) rfl (vc (vc (vc .nil))) rfl) ?_ <;> refine sp (po_load_bx_agg rfl rfl (tyT rfl) rfl (vc (vc (vc .nil))) rfl) ?_ <;> refine sp (po_eqdst rfl rfl rfl) ?_ <;> refine aq22 ?_) | refine gc ?_ | refine ct ?_ | refine cf ?_ | refine sc ?_ ?_ <;> intro hc | refine retl (by exact .inr rfl) rfl (.tmp rfl rfl .nil) ?_ rfl (.cons rfl (by rfl) rfl (.cons rfl (by rfl) rfl (.cons rfl (by rfl) rfl .nil))) .nil)
      all_goals first | rfl | (rw [hd] at hc; cases hc) | (rw [hd2] at hc; cases hc) | (exact absurd hc (by simp [hd, hd2]))
    · have hd2 : decide (x.t.src = src) = false := decide_eq_false h2
      rw [hd, hd2, Bool.true_and, Bool.false_and]
      repeat' (first | refine rg 0 (aq9 ?_) | (refine rg 1 (aq21 ?_); (first | refine sp (po_eqdst rfl rfl rfl) ?_ | refine oCm ?_); refine aq38 ?_ <;> (first | refine sp (po_eqdst rfl rfl rfl) ?_ | refine oCm ?_) <;> refine oPt ?_ <;> refine oMv ?_ <;> (first | refine oFb ?_ | refine oFd ?_ | refine sp (fdo rfl) ?_ | refine oK ?_) <;> (first | refine sp (po_load_bx_agg rfl rfl (tyT rfl) rfl (vc (vc (vc .nil))) rfl) ?_ | refine sp (po_load_agg rfl rfl (tyT rfl) rfl rfl) ?_ | refine sp (lda rfl) ?_ | refine sp (po_load_bx_ag rfl rfl (tyT rfl) rfl rfl rfl rfl) ?_ | refine oK ?_) <;> (first | refine sp (po_load_bx_agg rfl rfl (tyT rfl) rfl (vc (vc (vc .nil))) rfl) ?_ | refine sp (po_load_agg rfl rfl (tyT rfl) rfl rfl) ?_ | refine sp (lda rfl) ?_ | refine sp (po_load_bx_ag rfl rfl (tyT rfl) rfl rfl rfl rfl) ?_ | refine oK ?_) <;> (first | refine sp (po_eqdst rfl rfl rfl) ?_ | refine sp (po_boolq rfl rfl rfl (by kernel_rfl) (by exact .inl rfl)) ?_ | refine oK ?_) <;> refine aq23 ?_) | refine gc ?_ | refine ct ?_ | refine cf ?_ | refine sc ?_ ?_ <;> intro hc | refine retl (by exact .inr rfl) rfl (.tmp rfl rfl .nil) ?_ rfl (.cons rfl (by rfl) rfl (.cons rfl (by rfl) rfl (.cons rfl (by rfl) rfl .nil))) .nil)
      all_goals first | rfl | (rw [hd] at hc; cases hc) | (rw [hd2] at hc; cases hc) | (exact absurd hc (by simp [hd, hd2]))
  · have hd : decide (x.t.peer = peer) = false := decide_eq_false h
    rw [hd, Bool.false_and, Bool.false_and]
    repeat' (first | refine rg 0 (aq9 ?_) | (refine rg 1 (aq21 ?_); (first | refine sp (po_eqdst rfl rfl rfl) ?_ | refine oCm ?_); refine aq39 ?_ <;> (first | refine sp (po_eqdst rfl rfl rfl) ?_ | refine oCm ?_ | refine oK ?_) <;> (first | refine oPt ?_ | refine oPf ?_) <;> refine oMv ?_ <;> (first | refine oFb ?_ | refine oFd ?_ | refine sp (fdo rfl) ?_ | refine oK ?_) <;> (first | refine sp (po_load_bx_agg rfl rfl (tyT rfl) rfl (vc (vc (vc .nil))) rfl) ?_ | refine sp (po_load_agg rfl rfl (tyT rfl) rfl rfl) ?_ | refine sp (lda rfl) ?_ | refine sp (po_load_bx_ag rfl rfl (tyT rfl) rfl rfl rfl rfl) ?_ | refine oK ?_) <;> (first | refine sp (po_load_bx_agg rfl rfl (tyT rfl) rfl (vc (vc (vc .nil))) rfl) ?_ | refine sp (po_load_agg rfl rfl (tyT rfl) rfl rfl) ?_ | refine sp (lda rfl) ?_ | refine sp (po_load_bx_ag rfl rfl (tyT rfl) rfl rfl rfl rfl) ?_ | refine oK ?_) <;> (first | refine sp (po_eqdst rfl rfl rfl) ?_ | refine sp (po_boolq rfl rfl rfl (by kernel_rfl) (by exact .inl rfl)) ?_ | refine oK ?_) <;> refine aq23 ?_) | refine gc ?_ | refine ct ?_ | refine cf ?_ | refine sc ?_ ?_ <;> intro hc | refine retl (by exact .inr rfl) rfl (.tmp rfl rfl .nil) ?_ rfl (.cons rfl (by rfl) rfl (.cons rfl (by rfl) rfl (.cons rfl (by rfl) rfl .nil))) .nil)
    all_goals first | rfl | (rw [hd] at hc; cases hc)
def SidxAsk (peer src a b c : Int) (xs : List ATun) (k : Nat) : St := ⟨[(0, .own 2000 (xs.map tunR).length), (1, .cl 68 [.bp 2000 0, .bp 2001 0, .bp 2002 0]), (7, .t (.v (.int .i64 ((xs.map tunR).length : Int)))), (8, .t (.v (.int .i64 (k : Int))))], [(2000, [.t (i64T peer)]), (2001, [.t (u64T src)]), (2002, [.t (u64T a), .t (u32T b), .t (i64T c)])], [(2000, ⟨118, 14, xs.map tunR⟩)]⟩
set_option maxRecDepth 100000 in
set_option maxHeartbeats 2000000 in
theorem idxAsk (peer src a b c : Int) (xs : List ATun) (hn : xs.length ≤ 1000) : LCalls Try.prog 67 [.own 2000 (xs.map tunR).length, .cl 68 [.bp 2000 0, .bp 2001 0, .bp 2002 0]] [(2000, [.t (i64T peer)]), (2001, [.t (u64T src)]), (2002, [.t (u64T a), .t (u32T b), .t (i64T c)])] [(2000, ⟨118, 14, xs.map tunR⟩)] (.t (.v (.int .i64 (idxP (fun x : ATun => pAsk peer src a b c x.t) xs)))) [(2000, [.t (i64T peer)]), (2001, [.t (u64T src)]), (2002, [.t (u64T a), .t (u32T b), .t (i64T c)])] [(2000, ⟨118, 14, xs.map tunR⟩)] := by
  have hm1 : (xs.map tunR).length = xs.length := List.length_map _
  refine lcalls_of Try.func67 rfl rfl Try.ntmps67 rfl ?_
  repeat' (first | refine rg 0 (aq0 ?_) | refine rg 1 (aq2 ?_) | refine gc ?_ | refine ct ?_ | refine cf ?_ | refine sc ?_ ?_ <;> intro hc | refine rq rfl (rt .nil) ?_)
  refine swp_for (SidxAsk peer src a b c xs) (fun k => ∀ j, j < k → ∀ x, xs[j]? = some x → (fun x : ATun => pAsk peer src a b c x.t) x = false) xs.length ?_ (fun j hj => by omega) ?_
  · exact (weak_sub (.cons rfl rfl rfl (.cons rfl rfl rfl (.cons rfl rfl rfl (.cons rfl rfl rfl .nil)))) (.cons rfl rfl rfl (.cons rfl rfl rfl (.cons rfl rfl rfl .nil))) (.cons rfl rfl .nil))
  intro k hk hI
  unfold SidxAsk
  by_cases hlt : k < xs.length
  · have c1 := ask2_ peer src a b c xs[k]
    have hrow : (xs.map tunR)[k]? = some (tunR xs[k]) := by rw [List.getElem?_map, List.getElem?_eq_getElem hlt]; rfl
    have hlt2 : k < (xs.map tunR).length := by omega
    have hstep : (fun x : ATun => pAsk peer src a b c x.t) xs[k] = false → ∀ j, j < k + 1 → ∀ x, xs[j]? = some x → (fun x : ATun => pAsk peer src a b c x.t) x = false := fun hp j hj x hx => by
      by_cases h : j = k
      · subst h; rw [List.getElem?_eq_getElem hlt] at hx; injection hx with hx; subst hx; exact hp
      · exact hI j (by omega) x hx
    cases hp : (fun x : ATun => pAsk peer src a b c x.t) xs[k] with
    | true =>
      have hr := idxP_hit (fun x : ATun => pAsk peer src a b c x.t) xs k hlt hI hp
      have hp2 := hp
      dsimp only at hp2
      rw [hp2] at c1
      rw [hr]
      generalize xs[k] = x at *
      repeat' (first | refine rg 2 (aq3 ?_) | refine rg 3 (aq7 ?_) | (refine rg 4 (aq24 ?_); refine sp (po_load_own_agg (ts := tunR x) rfl rfl rfl rfl (tyT rfl) hrow rfl rfl) ?_; (first | refine sops_lcall_tclo (args := [_]) (caps := [_, _, _]) (c1) (fun i => i) (fun i => i) (fun _ => false) (.free rfl rfl) rfl rfl rfl rfl (by ((repeat' (first | exact .nil | refine .cons rfl rfl rfl ?_ | refine .vw rfl (by exact .t _) ?_)) <;> fail)) (.cons rfl rfl (.cons rfl rfl (.cons rfl rfl .nil))) .nil rfl rfl (fun _ h => Bool.noConfusion h) ?_ | refine sops_lcall_clo (args := [_]) (caps0 := [_, _, _]) (c1) (fun i => i) (fun i => i) (fun _ => false) (.free rfl rfl) rfl rfl rfl rfl rfl rfl (by ((repeat' (first | exact .nil | refine .cons rfl rfl rfl ?_)) <;> fail)) (.cons rfl rfl (.cons rfl rfl (.cons rfl rfl .nil))) .nil rfl rfl (fun _ h => Bool.noConfusion h) ?_); refine oN ?_) | refine rg 5 (aq7 ?_) | refine gc ?_ | refine ct ?_ | refine cf ?_ | refine sc ?_ ?_ <;> intro hc | refine retl (by exact .inr rfl) rfl (.tmp rfl rfl .nil) ?_ rfl (.cons rfl (by rfl) rfl (.cons rfl (by rfl) rfl (.cons rfl (by rfl) rfl .nil))) (.cons rfl (by rfl) .nil))
      rfl
    | false =>
      have hp2 := hp
      dsimp only at hp2
      rw [hp2] at c1
      have hst := hstep hp
      generalize xs[k] = x at *
      repeat' (first | refine for_next hlt (weak_sub (.cons rfl rfl rfl (.cons rfl rfl rfl (.cons rfl rfl rfl (.cons rfl rfl rfl .nil)))) (.cons rfl rfl rfl (.cons rfl rfl rfl (.cons rfl rfl rfl .nil))) (.cons rfl rfl .nil)) hst | refine rg 2 (aq3 ?_) | refine rg 3 (aq7 ?_) | (refine rg 4 (aq24 ?_); refine sp (po_load_own_agg (ts := tunR x) rfl rfl rfl rfl (tyT rfl) hrow rfl rfl) ?_; (first | refine sops_lcall_tclo (args := [_]) (caps := [_, _, _]) (c1) (fun i => i) (fun i => i) (fun _ => false) (.free rfl rfl) rfl rfl rfl rfl (by ((repeat' (first | exact .nil | refine .cons rfl rfl rfl ?_ | refine .vw rfl (by exact .t _) ?_)) <;> fail)) (.cons rfl rfl (.cons rfl rfl (.cons rfl rfl .nil))) .nil rfl rfl (fun _ h => Bool.noConfusion h) ?_ | refine sops_lcall_clo (args := [_]) (caps0 := [_, _, _]) (c1) (fun i => i) (fun i => i) (fun _ => false) (.free rfl rfl) rfl rfl rfl rfl rfl rfl (by ((repeat' (first | exact .nil | refine .cons rfl rfl rfl ?_)) <;> fail)) (.cons rfl rfl (.cons rfl rfl (.cons rfl rfl .nil))) .nil rfl rfl (fun _ h => Bool.noConfusion h) ?_); refine oN ?_) | refine rg 6 (aq6 ?_) | refine gc ?_ | refine ct ?_ | refine cf ?_)
  · obtain rfl : k = xs.length := by omega
    have hr := idxP_miss (fun x : ATun => pAsk peer src a b c x.t) xs fun x hx => by obtain ⟨j, hj⟩ := List.getElem?_of_mem hx; exact hI j (List.getElem?_eq_some_iff.1 hj).1 x hj
    rw [hr]
    repeat' (first | refine rg 2 (aq3 ?_) | refine rg 7 (aq0 ?_) | refine gc ?_ | refine ct ?_ | refine cf ?_ | refine sc ?_ ?_ <;> intro hc | refine retl (by exact .inr rfl) rfl (.tmp rfl rfl .nil) ?_ rfl (.cons rfl (by rfl) rfl (.cons rfl (by rfl) rfl (.cons rfl (by rfl) rfl .nil))) (.cons rfl (by rfl) .nil))
    rfl
set_option maxRecDepth 100000 in
theorem ask11_ (q : PQ) (x : PQ) : LCalls Try.prog 66 [.t (.agg (askR x)), .bp 2000 0] [(2000, (askR q).map .t)] [] (.t (.v (.bool (decide (x.id = q.id))))) [(2000, (askR q).map .t)] [] := by
  refine lcalls_of Try.func66 rfl rfl Try.ntmps66 rfl ?_
  repeat' (first | refine rg 0 (aq9 ?_) | (refine rg 1 ?_; refine oFb ?_; refine oLb ?_; refine oFb ?_; refine oLb ?_; refine oCm ?_; refine oAs ?_; refine oN ?_) | refine gc ?_ | refine ct ?_ | refine cf ?_ | refine sc ?_ ?_ <;> intro hc | refine retl (by exact .inr rfl) rfl (.tmp rfl rfl .nil) ?_ rfl (.cons rfl (by rfl) rfl .nil) .nil)
  rfl
end Go.Proofs.Ytabejnjnkpdjbaa.Sim
