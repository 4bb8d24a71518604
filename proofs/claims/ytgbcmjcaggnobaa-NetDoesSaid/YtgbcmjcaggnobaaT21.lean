/- Merged by bundles.py: SimNub, PlNet2, SimNuc. -/
import Derived.Test.YtgbcmjcaggnobaaT20
import Derived.Test.YtgbcmjcaggnobaaT19
/- does: At of a net; any call. -/
namespace Go.Proofs.Ytgbcmjcaggnobaa.Sim
set_option linter.unusedVariables false
set_option linter.unusedSimpArgs false
open Go.RowKit Mem
section
variable {P : Program} {bx bx' : List (Nat × List A)} {ow ow' : List (Nat × Own)} {o : Oper} {ρ : Operand → Option A} {r : A}
theorem e_append_see {t e sz by_ : Nat} {x z : Operand} {i n : Nat} {y' : A} {rows rows2 : List (List T)} (ho : o.op = .call { callee := .builtin .append, args := #[x, z], argTypes := #[t, t] })
    (hx : ρ x = some (.own i n)) (hi : get ow i = some ⟨e, sz, rows⟩) (hn : n = rows.length) (hz : ρ z = some y') (hz' : VwS ow y' (.sl sz rows2)) (hpv : ∀ t ∈ rows2.flatten, ∃ x, t = T.v x) (hT : sliceE P t = some (e, sz, by_))
    (hb : (rows.length + rows2.length) * by_ ≤ 140737488355328) (hm : rows.length + rows2.length ≤ maxLen) (hp : Nat.ble 2000 i = false := by rfl) : EStep P bx ow o ρ (.own i (rows ++ rows2).length) bx ((i, ⟨e, sz, rows ++ rows2⟩) :: ow) := e_run fun C m g w a he hop => by
  obtain ⟨i', zv, hu, hi', hzz, h4, h5, h6, h7⟩ := sliceE_spec hT
  have hop1 := hop x (by simp [ho, Op.operands, Call.operands]) _ hx
  obtain ⟨hlw, _, hAx, hgo⟩ := hop1
  have hln := he.ln i _ hi
  have hvx := hgo (by rw [hln]; exact hn)
  have hvz : TR (allw w) (.sl sz rows2) (a.eval z) := hz'.ok he (hop z (by simp [ho, Op.operands, Call.operands]) _ hz)
  obtain ⟨vs, ho1, hrl, hc, hbk⟩ := he.owns i _ hi
  dsimp only at ho1 hrl hc hbk
  have hrl2 : ∀ r ∈ rows2, r.length = sz := by generalize a.eval z = vz at hvz; cases hvz with | sl _ _ A b off cap u hc hm' hA hr hu' ht => exact hr
  have hform : ∃ A cap, a.eval z = .slice A rows2.length cap := by generalize a.eval z = vz at hvz; cases hvz with | sl _ _ A b off cap => exact ⟨A, cap, rfl⟩
  obtain ⟨Az, capz, hvv⟩ := hform
  have hexec : ∀ v' w', (Builtin.append_ #[t, t] o.type #[a.eval x, a.eval z]).run P w = .ok v' w' → (execOp a.eval o).run P w = .ok (.value v') w' := fun v' w' hh => by
    simp only [execOp, ho, resolve, invoke, builtin, Sem.run_bind, Sem.run_pure, Result.andThen_ok, List.map_toArray, List.map_cons, List.map_nil, hh]
  rcases Nat.eq_zero_or_pos rows2.length with h0 | h0
  · have hr0 : rows2 = [] := List.eq_nil_of_length_eq_zero h0
    subst hr0
    obtain ⟨A, c, hA⟩ := hAx
    have hnc : n ≤ c := by
      obtain ⟨_, hcase⟩ := ho1
      rcases hcase with ⟨e1, e2⟩ | ⟨q, cap, cur, e1, _, _, e2, _⟩
      · omega
      · rw [← hvx, hA] at e1; injection e1 with e3 e4 e5; omega
    refine ⟨a.eval x, w, m, g, hexec _ _ (by rw [hvv, hA]; exact run_append_nothing (P := P) (w := w) t o.type e i' hu hi' A Az n c capz hnc), ?_, ?_, fun x u h => h⟩
    · rw [List.append_nil]
      refine he.same (fun j => rfl) fun j => ?_
      rw [get_cons]
      split
      · rename_i e'; subst e'; exact hi.symm
      · rfl
    · rw [List.append_nil, ← hn]
      exact hop x (by simp [ho, Op.operands, Call.operands]) _ hx
  · obtain ⟨b, off, us, rfl, hcu', hlu, hcell⟩ := TR.flat (hvv ▸ hvz) h0 h7
    have hcu : CellsAre m rows2.flatten us := ⟨hcu'.1, fun j t u hj hu => by
      obtain ⟨h1, h2⟩ := hcu'.2 j t u hj hu
      obtain ⟨x, rfl⟩ := hpv t (List.mem_of_getElem? hj)
      rw [tr_v h1]
      exact ⟨.v _, by rw [← tr_v h1]; exact h2⟩⟩
    obtain ⟨v', w', hrun, hown, hcase⟩ := run_append_own3 (P := P) w 0 t o.type e i' zv sz by_ hu hi' hzz h4 h5 h6 h7 (g.go i) rows.length vs ho1 ⟨b, off, none⟩ rows2.length capz us hlu (fun j u hj => by rw [addr_add]; exact hcell j u hj) hcu.one hm hb (Nat.zero_le _)
    obtain ⟨h8, h9⟩ := he.setO (hp := hp) (i := i) (v := v') (e := e) (sz := sz) (rows := rows ++ rows2) (vs := vs ++ us) (by rw [List.length_append]; exact hown) (fun r hr' => by
        rcases List.mem_append.1 hr' with hr' | hr'
        · exact hrl r hr'
        · exact hrl2 r hr') (by rw [List.flatten_append]; exact hc.app hcu) (.inl ⟨_, hi, by simp; omega⟩) (by
        rcases hcase with ⟨e1, e2⟩ | hf
        · exact .inl ⟨_, vis i vs, hi, e1, e2, vis_pre fun k u hk => by rw [List.getElem?_append_left (List.getElem?_eq_some_iff.1 hk).1]; exact hk, fun b hb k => (hbk b hb).1 k⟩
        · exact .inr hf)
    refine ⟨v', w', _, _, hexec _ _ (by rw [hvv, hvx]; exact hrun), h8, ?_, fun x u h => h.setO h9 (.inr (by rw [hln]; simp; omega))⟩
    refine ⟨by simp [Gh.setO], by simp [Gh.setO], ?_, fun _ => by simp [Gh.setO]⟩
    obtain ⟨_, hq⟩ := hown
    rcases hq with ⟨rfl, e2⟩ | ⟨q, cap, cur, rfl, _⟩
    · omega
    · exact ⟨some ⟨q, 0, none⟩, cap, by rw [List.length_append]⟩
end
set_option maxRecDepth 100000 in
set_option maxHeartbeats 4000000 in
theorem does_at (d : PNet) (hd : NetOk d) (h : PHop) (hk : knd h.kind = 6) : LCalls Try.prog 14 [.bp 3000 0, .t (hopT h)] (netN d) [] (doesA d h) (netN (doesN d h)) [] := by
  have hr : doesR d h = ((atP d h.f h.t h.no).1, 0, (atP d h.f h.t h.no).2) := by unfold doesR; rw [hk]; rfl
  have hN : doesN d h = d := by unfold doesN; rw [hk]; rfl
  unfold doesA
  rw [hr, hN]
  clear hr hN
  have herr : ∀ e : Int, LCalls Try.prog 12 (xyi h.f h.t h.no) (netN d) [] (.tu [.t msg0, .t (.v (.int .i64 e))]) (netN d) [] → LCalls Try.prog 14 [.bp 3000 0, .t (hopT h)] (netN d) [] (.tu [.t (msgA msgZ), .t (.v (.int .i64 0)), .t (.v (.int .i64 e))]) (netN d) [] := fun e c1 => by
    unfold hopT
    refine lcalls_of Try.func14 rfl rfl Try.ntmps14 rfl ?_
    repeat' (first | (refine rg 0 ?_; refine sbx ?_; refine sal str32 ?_; refine oAs ?_; refine oAs ?_; refine oN ?_) | (refine rg 1 ?_; refine sal str32 ?_; refine oN ?_) | (refine rg 2 ?_; refine oFb ?_; (first | refine sp (po_load_ntn rfl rfl (tyT rfl) rfl) ?_ | refine sp (po_load_ntk rfl rfl (tyT rfl) rfl (by first | assumption | omega) (by assumption) rfl) ?_ | refine oLb ?_); refine sp (po_knd rfl rfl rfl) ?_; refine oN ?_) | (refine rg 3 ?_; refine oCm ?_; refine oAs ?_; refine oN ?_) | (refine rg 4 ?_; refine oCm ?_; refine oAs ?_; refine oN ?_) | (refine rg 9 ?_; refine oCm ?_; refine oAs ?_; refine oN ?_) | (refine rg 12 ?_; refine oCm ?_; refine oAs ?_; refine oN ?_) | (refine rg 14 ?_; refine oCm ?_; refine oAs ?_; refine oN ?_) | (refine rg 16 ?_; refine oCm ?_; refine oAs ?_; refine oN ?_) | (refine rg 18 ?_; refine oCm ?_; refine oAs ?_; refine oN ?_) | (refine rg 19 ?_; refine oMv ?_; refine oFb ?_; (first | refine sp (po_load_ntn rfl rfl (tyT rfl) rfl) ?_ | refine sp (po_load_ntk rfl rfl (tyT rfl) rfl (by first | assumption | omega) (by assumption) rfl) ?_ | refine oLb ?_); refine oFb ?_; (first | refine sp (po_load_ntn rfl rfl (tyT rfl) rfl) ?_ | refine sp (po_load_ntk rfl rfl (tyT rfl) rfl (by first | assumption | omega) (by assumption) rfl) ?_ | refine oLb ?_); refine oFb ?_; (first | refine sp (po_load_ntn rfl rfl (tyT rfl) rfl) ?_ | refine sp (po_load_ntk rfl rfl (tyT rfl) rfl (by first | assumption | omega) (by assumption) rfl) ?_ | refine oLb ?_); refine sops_lcall (c1) (fun i => i) (fun i => i) (fun _ => false) (.free rfl rfl) rfl rfl rfl (by ((repeat' (first | exact .nil | refine .cons rfl rfl rfl ?_)) <;> fail)) (.cons rfl rfl .nil) .nil rfl rfl (fun _ h => Bool.noConfusion h) ?_; refine oMv ?_; (first | refine oEx ?_ | refine sp (po_extract_tu rfl rfl rfl) ?_); (first | refine oEx ?_ | refine sp (po_extract_tu rfl rfl rfl) ?_); refine sal str32 ?_; refine oS ?_; refine oAs ?_; refine oN ?_) | refine gc ?_ | refine ct ?_ | refine cf ?_ | refine swp_cond rfl (fun hc => ?_) (fun hc => ?_) | refine rq rfl (.cell rfl rfl (tyT rfl) (vc (vc (vc .nil))) rfl (rt (rt .nil))) ?_)
    refine swp_any (id := 20) [[], [], [], [], [100], [], [], [100], [], [14], [14]] [[100, 14], [100, 14], [100, 14], [100, 14], [14], [100, 14], [100, 14], [14], [14], [100], []] mixed (by kernel_rfl) ?_
    refine yp (fun _ _ => po_field_bx rfl rfl (tyF rfl)) ?_
    refine yp (fun _ _ => po_load_bx rfl rfl (tyT rfl) rfl rfl) ?_
    refine yp (fun _ _ => po_field_bx rfl rfl (tyF rfl)) ?_
    refine yp (fun _ _ => po_load_bx rfl rfl (tyT rfl) rfl rfl) ?_
    refine sany_eff [] [(100, ⟨_, _, []⟩)] (.free rfl rfl) rfl rfl (fun _ _ _ ho => e_build0 rfl (tyE rfl) (ho 100 rfl rfl)) ?_
    refine yp (fun _ _ => po_field_bx rfl rfl (tyF rfl)) ?_
    refine yp (fun _ _ => po_load_bx rfl rfl (tyT rfl) rfl rfl) ?_
    refine sany_eff [] [(100, _)] (.free rfl rfl) rfl rfl (fun _ _ _ _ => e_append rfl rfl rfl rfl rfl (.nil _) (tyE rfl) (by simp) (by simp [maxLen])) ?_
    refine yp (fun _ _ => po_buildS str32 rfl (pc (pc (pc .nil))) rfl) ?_
    refine sany_eff [(14, _)] [] (.free rfl rfl) rfl rfl (fun _ _ hb _ => e_allocS str32 rfl (hb 14 rfl rfl)) ?_
    refine sany_eff [(14, _)] [] (.free rfl rfl) rfl rfl (fun _ _ _ _ => e_store rfl rfl rfl rfl rfl rfl (tyT rfl) rfl rfl) ?_
    refine sany_nil ?_
    refine gc ?_
    refine rg 21 ?_
    refine oFb ?_
    refine oLb ?_
    refine sops_clear0 (i := 100) (.free rfl rfl) rfl rfl rfl (.inr (.inl rfl)) (by kernel_rfl) ?_
    refine oN ?_
    repeat' (first | (refine rg 22 ?_; (refine sp (po_load_bx_agg rfl rfl (tyT rfl) rfl (vc (vc (vc .nil))) rfl) ?_); refine oMv ?_; refine oS ?_; refine oAs ?_; refine oAs ?_; refine oN ?_) | refine gc ?_ | refine ct ?_ | refine cf ?_ | refine swp_cond rfl (fun hc => ?_) (fun hc => ?_) | refine retl (by exact .inr rfl) rfl (.cellT rfl rfl (tyT rfl) (vc (vc (vc .nil))) rfl (.tmpT rfl (by first | exact .t _ | exact .own rfl (by rfl) | exact .nil _ | exact .emp _ | exact .fn _) (.tmpT rfl (by first | exact .t _ | exact .own rfl (by rfl) | exact .nil _ | exact .emp _ | exact .fn _) .nil))) ?_ rfl (.cons rfl (by rfl) rfl .nil) .nil)
    rfl
  unfold atP
  cases hl : isL d.n h.f h.t with
  | false => exact herr 1 (at_no d h.f h.t h.no (isL_no hl))
  | true =>
    obtain ⟨a, b, ea, eb, hkk, hL⟩ := isL_spec hl
    cases hg : getP (d.row (kOf h.f h.t)) h.no with
    | none =>
      rw [hkk] at hg
      have c1 := at_none d hd a b h.no hL (getP_none hg)
      rw [← ea, ← eb] at c1
      exact herr 4 c1
    | some c =>
      obtain ⟨k, h1, h2, h3, h4⟩ := getP_some hg
      simp only [hkk] at h1 h4
      subst h4
      have c1 := at_own d hd a b k hL h1
      rw [← ea, ← eb, ← h2] at c1
      show LCalls _ _ _ _ _ (.tu [.t (msgA ⟨h.f, h.t, (d.row (a * 10 + b))[k]⟩), .t (.v (.int .i64 0)), .t (.v (.int .i64 0))]) _ _
      have hbig := hd.big _ _ (List.getElem_mem h1)
      generalize (d.row (a * 10 + b))[k] = l at *
      have hm : (l.map byteT).length = l.length := List.length_map _
      have hmx : (l.map byteT).length ≤ maxLen := by unfold maxLen; omega
      unfold hopT
      unfold bO at c1
      refine lcalls_of Try.func14 rfl rfl Try.ntmps14 rfl ?_
      repeat' (first | (refine rg 0 ?_; refine sbx ?_; refine sal str32 ?_; refine oAs ?_; refine oAs ?_; refine oN ?_) | (refine rg 1 ?_; refine sal str32 ?_; refine oN ?_) | (refine rg 2 ?_; refine oFb ?_; (first | refine sp (po_load_ntn rfl rfl (tyT rfl) rfl) ?_ | refine sp (po_load_ntk rfl rfl (tyT rfl) rfl (by first | assumption | omega) (by assumption) rfl) ?_ | refine oLb ?_); refine sp (po_knd rfl rfl rfl) ?_; refine oN ?_) | (refine rg 3 ?_; refine oCm ?_; refine oAs ?_; refine oN ?_) | (refine rg 4 ?_; refine oCm ?_; refine oAs ?_; refine oN ?_) | (refine rg 9 ?_; refine oCm ?_; refine oAs ?_; refine oN ?_) | (refine rg 12 ?_; refine oCm ?_; refine oAs ?_; refine oN ?_) | (refine rg 14 ?_; refine oCm ?_; refine oAs ?_; refine oN ?_) | (refine rg 16 ?_; refine oCm ?_; refine oAs ?_; refine oN ?_) | (refine rg 18 ?_; refine oCm ?_; refine oAs ?_; refine oN ?_) | (refine rg 19 ?_; refine oMv ?_; refine oFb ?_; (first | refine sp (po_load_ntn rfl rfl (tyT rfl) rfl) ?_ | refine sp (po_load_ntk rfl rfl (tyT rfl) rfl (by first | assumption | omega) (by assumption) rfl) ?_ | refine oLb ?_); refine oFb ?_; (first | refine sp (po_load_ntn rfl rfl (tyT rfl) rfl) ?_ | refine sp (po_load_ntk rfl rfl (tyT rfl) rfl (by first | assumption | omega) (by assumption) rfl) ?_ | refine oLb ?_); refine oFb ?_; (first | refine sp (po_load_ntn rfl rfl (tyT rfl) rfl) ?_ | refine sp (po_load_ntk rfl rfl (tyT rfl) rfl (by first | assumption | omega) (by assumption) rfl) ?_ | refine oLb ?_); refine sops_lcall (c1) (fun i => i) (fun i => i) (fun _ => false) (.free rfl rfl) rfl rfl rfl (by ((repeat' (first | exact .nil | refine .cons rfl rfl rfl ?_)) <;> fail)) (.cons rfl rfl .nil) .nil rfl rfl (fun _ h => Bool.noConfusion h) ?_; refine oMv ?_; (first | refine oEx ?_ | refine sp (po_extract_tu rfl rfl rfl) ?_); (first | refine oEx ?_ | refine sp (po_extract_tu rfl rfl rfl) ?_); refine sal str32 ?_; refine oS ?_; refine oAs ?_; refine oN ?_) | refine gc ?_ | refine ct ?_ | refine cf ?_ | refine swp_cond rfl (fun hc => ?_) (fun hc => ?_) | refine rq rfl (.cell rfl rfl (tyT rfl) (vc (vc (vc .nil))) rfl (rt (rt .nil))) ?_)
      refine swp_any (id := 20) [[], [], [], [], [100], [], [], [100], [], [14], [14]] [[100, 14], [100, 14], [100, 14], [100, 14], [14], [100, 14], [100, 14], [14], [14], [100], []] mixed (by kernel_rfl) ?_
      refine yp (fun _ _ => po_field_bx rfl rfl (tyF rfl)) ?_
      refine yp (fun _ _ => po_load_bx rfl rfl (tyT rfl) rfl rfl) ?_
      refine yp (fun _ _ => po_field_bx rfl rfl (tyF rfl)) ?_
      refine yp (fun _ _ => po_load_bx rfl rfl (tyT rfl) rfl rfl) ?_
      refine sany_eff [] [(100, ⟨_, _, []⟩)] (.free rfl rfl) rfl rfl (fun _ _ _ ho => e_build0 rfl (tyE rfl) (ho 100 rfl rfl)) ?_
      refine yp (fun _ _ => po_field_bx rfl rfl (tyF rfl)) ?_
      refine yp (fun _ _ => po_load_bx rfl rfl (tyT rfl) rfl rfl) ?_
      refine sany_eff [] [(100, _)] (.free rfl rfl) rfl rfl (fun _ _ _ _ => e_append_see rfl rfl rfl rfl rfl (.own rfl rfl) (bytes_pv l) (tyE rfl) (by simp; omega) (by simpa using hmx)) ?_
      refine yp (fun _ _ => po_buildS str32 rfl (pc (pc (pc .nil))) rfl) ?_
      refine sany_eff [(14, _)] [] (.free rfl rfl) rfl rfl (fun _ _ hb _ => e_allocS str32 rfl (hb 14 rfl rfl)) ?_
      refine sany_eff [(14, _)] [] (.free rfl rfl) rfl rfl (fun _ _ _ _ => e_store rfl rfl rfl rfl rfl rfl (tyT rfl) rfl rfl) ?_
      refine sany_nil ?_
      refine gc ?_
      by_cases hn : l = []
      · refine rg 21 ?_
        refine oFb ?_
        refine oLb ?_
        refine sops_clear0 (i := 1001) (.free rfl rfl) rfl rfl rfl (.inl ⟨_, rfl, by rw [hn]; rfl⟩) (by kernel_rfl) ?_
        refine oN ?_
        repeat' (first | (refine rg 22 ?_; (refine sp (po_load_bx_agg rfl rfl (tyT rfl) rfl (vc (vc (vc .nil))) rfl) ?_); refine oMv ?_; refine oS ?_; refine oAs ?_; refine oAs ?_; refine oN ?_) | refine gc ?_ | refine ct ?_ | refine cf ?_ | refine swp_cond rfl (fun hc => ?_) (fun hc => ?_) | refine retl (by exact .inr rfl) rfl (.cellT rfl rfl (tyT rfl) (vc (vc (vc .nil))) rfl (.tmpT rfl (by first | exact .t _ | exact .own rfl (by rfl) | exact .nil _ | exact .emp _ | exact .fn _) (.tmpT rfl (by first | exact .t _ | exact .own rfl (by rfl) | exact .nil _ | exact .emp _ | exact .fn _) .nil))) ?_ rfl (.cons rfl (by rfl) rfl .nil) .nil)
        rfl
      · have hpos := List.length_pos_iff.2 hn
        refine rg 21 ?_
        refine oFb ?_
        refine oLb ?_
        refine sops_weak (weak_own_sfx (s := 106) (sz := 1) rfl rfl rfl (by omega)) ?_
        refine sops_clear (by rfl) (.free rfl rfl) rfl rfl rfl rfl rfl (by omega) (tyE rfl) uz rfl ?_
        refine oN ?_
        repeat' (first | (refine rg 22 ?_; (refine sp (po_load_bx_agg rfl rfl (tyT rfl) rfl (vc (vc (vc .nil))) rfl) ?_); refine oMv ?_; refine oS ?_; refine oAs ?_; refine oAs ?_; refine oN ?_) | refine gc ?_ | refine ct ?_ | refine cf ?_ | refine swp_cond rfl (fun hc => ?_) (fun hc => ?_) | refine retl (by exact .inr rfl) rfl (.cellT rfl rfl (tyT rfl) (vc (vc (vc .nil))) rfl (.tmpT rfl (by first | exact .t _ | exact .own rfl (by rfl) | exact .nil _ | exact .emp _ | exact .fn _) (.tmpT rfl (by first | exact .t _ | exact .own rfl (by rfl) | exact .nil _ | exact .emp _ | exact .fn _) .nil))) ?_ rfl (.cons rfl (by rfl) rfl .nil) .nil)
        rfl
end Go.Proofs.Ytgbcmjcaggnobaa.Sim

/- A net's links, in plain Lean. -/
namespace Go.Proofs.Ytgbcmjcaggnobaa.Sim
set_option linter.unusedVariables false
set_option linter.unusedSimpArgs false
def keyP (p : Nat × Nat) : Nat := p.1 * 10 + p.2
def lkP (d : PNet) (p : Nat × Nat) : Bool := decide (0 < lenP d p.1 p.2)
def inL (d : PNet) (a b : Nat) : List (Nat × Nat) := ((List.range b).map fun b => (a + 1, b + 1)).filter (lkP d)
def outL (d : PNet) (a : Nat) : List (Nat × Nat) := (List.range a).flatMap fun a => inL d a d.n
def linksP (d : PNet) : List (Nat × Nat) := outL d d.n
theorem inL_s (d : PNet) (a b : Nat) : inL d a (b + 1) = inL d a b ++ (if lkP d (a + 1, b + 1) = true then [(a + 1, b + 1)] else []) := by
  unfold inL
  rw [List.range_succ, List.map_append, List.filter_append]
  congr 1
  show List.filter (lkP d) [(a + 1, b + 1)] = _
  rw [List.filter_cons]; rfl
theorem outL_s (d : PNet) (a : Nat) : outL d (a + 1) = outL d a ++ inL d a d.n := by
  unfold outL
  rw [List.range_succ, List.flatMap_append]; simp
theorem lkP_spec {d : PNet} {p : Nat × Nat} (h : lkP d p = true) : IsL d.n p.1 p.2 ∧ d.row (keyP p) ≠ [] := by
  unfold lkP lenP at h
  rw [decide_eq_true_eq] at h
  cases hl : isL d.n p.1 p.2 with
  | false => rw [hl] at h; simp at h
  | true =>
    rw [hl] at h
    obtain ⟨a, b, e1, e2, e3, e4⟩ := isL_spec hl
    have e1 : p.1 = a := by omega
    have e2 : p.2 = b := by omega
    refine ⟨by rw [e1, e2]; exact e4, fun e => ?_⟩
    have hk : kOf p.1 p.2 = keyP p := by rw [e3]; unfold keyP; rw [e1, e2]
    rw [hk, e] at h; simp at h
theorem isL_of {n a b : Nat} (h : IsL n a b) : isL n a b = true ∧ kOf a b = a * 10 + b := by
  obtain ⟨h1, h2, h3, h4, h5⟩ := h
  exact ⟨by unfold isL; rw [decide_eq_true_eq]; omega, rfl⟩
theorem lkP_of {d : PNet} {p : Nat × Nat} (h : IsL d.n p.1 p.2) (hr : d.row (keyP p) ≠ []) : lkP d p = true := by
  unfold lkP lenP
  obtain ⟨e1, e2⟩ := isL_of h
  rw [e1, decide_eq_true_eq, e2]
  have := List.length_pos_iff.2 hr
  show (0 : Int) < ((d.row (keyP p)).length : Int)
  omega
theorem mem_inL {d : PNet} {a b : Nat} {p : Nat × Nat} : p ∈ inL d a b ↔ lkP d p = true ∧ p.1 = a + 1 ∧ 1 ≤ p.2 ∧ p.2 ≤ b := by
  unfold inL
  rw [List.mem_filter, List.mem_map]
  constructor
  · rintro ⟨⟨c, hc, rfl⟩, h⟩
    rw [List.mem_range] at hc
    exact ⟨h, rfl, by dsimp only; omega, by dsimp only; omega⟩
  · rintro ⟨h, h1, h2, h3⟩
    refine ⟨⟨p.2 - 1, by rw [List.mem_range]; omega, ?_⟩, h⟩
    obtain ⟨x, y⟩ := p
    dsimp only at h1 h2 h3 ⊢
    rw [h1, show y - 1 + 1 = y by omega]
theorem mem_outL {d : PNet} {a : Nat} {p : Nat × Nat} : p ∈ outL d a ↔ lkP d p = true ∧ 1 ≤ p.1 ∧ p.1 ≤ a := by
  unfold outL
  rw [List.mem_flatMap]
  constructor
  · rintro ⟨c, hc, h⟩
    rw [List.mem_range] at hc
    obtain ⟨h1, h2, _⟩ := mem_inL.1 h
    exact ⟨h1, by omega, by omega⟩
  · rintro ⟨h, h1, h2⟩
    refine ⟨p.1 - 1, by rw [List.mem_range]; omega, mem_inL.2 ⟨h, by omega, ?_, ?_⟩⟩
    · exact (lkP_spec h).1.hy
    · exact (lkP_spec h).1.hy2
theorem mem_links {d : PNet} {p : Nat × Nat} : p ∈ linksP d ↔ IsL d.n p.1 p.2 ∧ d.row (keyP p) ≠ [] := by
  unfold linksP
  rw [mem_outL]
  constructor
  · exact fun h => lkP_spec h.1
  · exact fun h => ⟨lkP_of h.1 h.2, h.1.hx, h.1.hx2⟩
theorem pw_inL (d : PNet) (a b : Nat) : (inL d a b).Pairwise fun p q => keyP p < keyP q := by
  induction b with
  | zero => exact .nil
  | succ b ih =>
    rw [inL_s]
    refine List.pairwise_append.2 ⟨ih, ?_, fun p hp q hq => ?_⟩
    · split
      · exact List.pairwise_singleton _ _
      · exact .nil
    · obtain ⟨_, h1, h2, h3⟩ := mem_inL.1 hp
      split at hq
      · rw [List.mem_singleton] at hq; subst hq
        unfold keyP; dsimp only; omega
      · cases hq
theorem pw_outL (d : PNet) (hn : d.n ≤ 9) (a : Nat) : (outL d a).Pairwise fun p q => keyP p < keyP q := by
  induction a with
  | zero => exact .nil
  | succ a ih =>
    rw [outL_s]
    refine List.pairwise_append.2 ⟨ih, pw_inL d a d.n, fun p hp q hq => ?_⟩
    obtain ⟨h0, h1, h2⟩ := mem_outL.1 hp
    obtain ⟨_, h3, h4, h5⟩ := mem_inL.1 hq
    have := (lkP_spec h0).1.hy2
    unfold keyP; omega
/-- a copy, behind some of its links -/
def copN (d : PNet) (l : List (Nat × Nat)) : PNet := ⟨d.n, fun k => if l.any (fun p => Nat.beq (keyP p) k) = true then d.row k else []⟩
theorem any_key {l : List (Nat × Nat)} {k : Nat} : l.any (fun p => Nat.beq (keyP p) k) = true ↔ ∃ p ∈ l, keyP p = k := by
  rw [List.any_eq_true]
  constructor
  · rintro ⟨p, h1, h2⟩; exact ⟨p, h1, Nat.eq_of_beq_eq_true h2⟩
  · rintro ⟨p, h1, h2⟩; exact ⟨p, h1, by rw [h2]; exact Nat.beq_refl _⟩
theorem copN_all {d : PNet} (h : NetOk d) : copN d (linksP d) = d := by
  cases hd : d with
  | mk n row =>
    rw [← hd]
    have : (fun k => if (linksP d).any (fun p => Nat.beq (keyP p) k) = true then d.row k else []) = d.row := by
      funext k
      by_cases hk : (linksP d).any (fun p => Nat.beq (keyP p) k) = true
      · rw [if_pos hk]
      · rw [if_neg hk]
        rw [any_key] at hk
        symm
        by_cases he : ∃ x y, IsL d.n x y ∧ k = x * 10 + y
        · obtain ⟨x, y, h1, h2⟩ := he
          cases hr : d.row k with
          | nil => rfl
          | cons z zs => exact absurd ⟨(x, y), mem_links.2 ⟨h1, by show d.row (x * 10 + y) ≠ []; rw [← h2, hr]; simp⟩, h2.symm⟩ hk
        · exact h.zero k fun x y hxy e => he ⟨x, y, hxy, e⟩
    unfold copN
    rw [this]
theorem copN_row_new {d : PNet} {l : List (Nat × Nat)} {p : Nat × Nat} (h : ∀ q ∈ l, keyP q < keyP p) : (copN d l).row (keyP p) = [] := by
  unfold copN
  dsimp only
  rw [if_neg]
  rw [any_key]
  rintro ⟨q, h1, h2⟩
  have := h q h1; omega
theorem copN_snoc (d : PNet) (l : List (Nat × Nat)) (p : Nat × Nat) : copN d (l ++ [p]) = (copN d l).put (keyP p) (d.row (keyP p)) := by
  unfold copN PNet.put
  congr 1
  funext k
  dsimp only
  rw [List.any_append]
  by_cases hk : k = keyP p
  · subst hk
    rw [if_pos rfl, if_pos]
    simp [Nat.beq_refl]
  · rw [if_neg hk]
    have : ([p].any fun p => Nat.beq (keyP p) k) = false := by
      simp only [List.any_cons, List.any_nil, Bool.or_false]
      cases hb : Nat.beq (keyP p) k with
      | false => rfl
      | true => exact absurd (Nat.eq_of_beq_eq_true hb).symm hk
    rw [this, Bool.or_false]
end Go.Proofs.Ytgbcmjcaggnobaa.Sim

/- A net's links, counted; a copy; any call. -/
namespace Go.Proofs.Ytgbcmjcaggnobaa.Sim
set_option linter.unusedVariables false
set_option linter.unusedSimpArgs false
open Go.RowKit Mem
theorem does_ (d : PNet) (hd : NetOk d) (h : PHop) (hl : h.load.length ≤ 4000000) : LCalls Try.prog 14 [.bp 3000 0, .t (hopT h)] (netN d) [] (doesA d h) (netN (doesN d h)) [] := by
  by_cases h0 : knd h.kind = 0
  · exact does_send d hd h hl (.inl h0)
  by_cases h1 : knd h.kind = 1
  · exact does_send d hd h hl (.inr h1)
  by_cases h2 : knd h.kind = 2
  · exact does_deliver d hd h h2
  by_cases h3 : knd h.kind = 3
  · exact does_drop d hd h h3
  by_cases h4 : knd h.kind = 4
  · exact does_double d hd h h4
  by_cases h5 : knd h.kind = 5
  · exact does_front d hd h h5
  by_cases h6 : knd h.kind = 6
  · exact does_at d hd h h6
  exact does_len d hd h h0 h1 h2 h3 h4 h5 h6
def linkT (d : PNet) (p : Nat × Nat) : List T := [.v (.int .i64 (p.1 : Int)), .v (.int .i64 (p.2 : Int)), .v (.int .i64 (lenP d p.1 p.2))]
def SL1 (d : PNet) (a : Nat) : St := ⟨[(0, .bp 3000 0), (3, .own 100 ((outL d a).map (linkT d)).length), (8, .t (.v (.int .i64 (d.n : Int)))), (9, .t (.v (.int .i64 (a : Int))))], netN d, [(100, ⟨61, 3, (outL d a).map (linkT d)⟩)]⟩
def SL2 (d : PNet) (a b : Nat) : St := ⟨[(0, .bp 3000 0), (3, .own 100 ((outL d a ++ inL d a b).map (linkT d)).length), (4, .t (.v (.int .i64 (a : Int)))), (8, .t (.v (.int .i64 (d.n : Int)))), (9, .t (.v (.int .i64 (a : Int)))), (13, .t (.v (.int .i64 (d.n : Int)))), (14, .t (.v (.int .i64 (b : Int))))], netN d, [(100, ⟨61, 3, (outL d a ++ inL d a b).map (linkT d)⟩)]⟩
theorem inL_len (d : PNet) (a b : Nat) : (inL d a b).length ≤ b := by
  unfold inL
  refine Nat.le_trans (List.length_filter_le _ _) ?_
  rw [List.length_map, List.length_range]; exact Nat.le_refl _
theorem outL_len (d : PNet) (hn : d.n ≤ 9) (a : Nat) : (outL d a).length ≤ 9 * a := by
  induction a with
  | zero => exact Nat.le_refl _
  | succ a ih =>
    rw [outL_s, List.length_append]
    have := inL_len d a d.n
    omega
set_option maxRecDepth 100000 in
set_option maxHeartbeats 2000000 in
theorem links_ (d : PNet) (hd : NetOk d) : LCalls Try.prog 26 [.bp 3000 0] (netN d) [] (.t (.sl 3 ((linksP d).map (linkT d)))) (netN d) [] := by
  have hn := hd.n
  have c1 := nodes_ (lnk d.n) d
  refine lcalls_of Try.func26 rfl rfl Try.ntmps26 rfl ?_
  repeat' (first | (refine rg 0 ?_; refine oAs ?_; refine oN ?_) | (refine rg 1 ?_; refine oAs ?_; refine oN ?_) | (refine rg 2 ?_; refine oMv ?_; refine sops_lcall (c1) (fun i => i) (fun i => i) (fun _ => false) (.free rfl rfl) rfl rfl rfl (by ((repeat' (first | exact .nil | refine .cons rfl rfl rfl ?_)) <;> fail)) (.cons rfl rfl .nil) .nil rfl rfl (fun _ h => Bool.noConfusion h) ?_; refine oMv ?_; refine oN ?_) | refine gc ?_ | refine ct ?_ | refine cf ?_ | refine swp_cond rfl (fun hc => ?_) (fun hc => ?_) | refine rq rfl (rt .nil) ?_)
  refine swp_for (SL1 d) (fun _ => True) d.n ?_ trivial ?_
  · refine Weak.trans (weak_own0 (i := 100) 61 3 (s := 3) rfl rfl) ?_
    exact (weak_sub (.cons rfl rfl rfl (.cons rfl rfl rfl (.cons rfl rfl rfl (.cons rfl rfl rfl .nil)))) (.cons rfl rfl rfl .nil) (.cons rfl rfl .nil))
  intro a ha _
  unfold SL1
  by_cases hlt : a < d.n
  · have hlt' : (a : Int) < d.n := by omega
    repeat' (first | (refine rg 3 ?_; refine oCm ?_; refine oN ?_) | (refine rg 4 ?_; refine oMv ?_; refine oAs ?_; refine oN ?_) | (refine rg 5 ?_; refine oMv ?_; refine sops_lcall (c1) (fun i => i) (fun i => i) (fun _ => false) (.free rfl rfl) rfl rfl rfl (by ((repeat' (first | exact .nil | refine .cons rfl rfl rfl ?_)) <;> fail)) (.cons rfl rfl .nil) .nil rfl rfl (fun _ h => Bool.noConfusion h) ?_; refine oMv ?_; refine oN ?_) | refine gc ?_ | refine ct ?_ | refine cf ?_ | refine swp_cond rfl (fun hc => ?_) (fun hc => ?_) | refine rq rfl (rt .nil) ?_)
    refine swp_for (SL2 d a) (fun _ => True) d.n ?_ trivial ?_
    · have e0 : outL d a ++ inL d a 0 = outL d a := by unfold inL; simp
      exact (weak_sub (.cons rfl (by first | rfl | ((rw [e0]; try rfl))) rfl (.cons rfl (by first | rfl | ((rw [e0]; try rfl))) rfl (.cons rfl (by first | rfl | ((rw [e0]; try rfl))) rfl (.cons rfl (by first | rfl | ((rw [e0]; try rfl))) rfl (.cons rfl (by first | rfl | ((rw [e0]; try rfl))) rfl (.cons rfl (by first | rfl | ((rw [e0]; try rfl))) rfl (.cons rfl (by first | rfl | ((rw [e0]; try rfl))) rfl .nil))))))) (.cons rfl (by first | rfl | ((rw [e0]; try rfl))) rfl .nil) (.cons rfl (by first | rfl | ((rw [e0]; try rfl))) .nil))
    intro b hb _
    unfold SL2
    by_cases hlb : b < d.n
    · have hlb' : (b : Int) < d.n := by omega
      have q1 : IntKind.i64.wrap ((a : Int) + 1) = (a : Int) + 1 := wrap1 (by unfold maxLen; omega)
      have c2 := len_ d hd ((a + 1 : Nat) : Int) ((b + 1 : Nat) : Int)
      have hlen : ((outL d a ++ inL d a b).map (linkT d)).length ≤ 200 := by
        rw [List.length_map, List.length_append]
        have h1 := outL_len d hn a
        have h2 := inL_len d a b
        omega
      have hs := inL_s d a b
      by_cases hp : 0 < lenP d ((a + 1 : Nat) : Int) ((b + 1 : Nat) : Int)
      · rw [if_pos (show lkP d (a + 1, b + 1) = true from decide_eq_true hp)] at hs
        have hs' : (outL d a ++ inL d a (b + 1)).map (linkT d) = (outL d a ++ inL d a b).map (linkT d) ++ [linkT d (a + 1, b + 1)] := by rw [hs, ← List.append_assoc, List.map_append]; rfl
        repeat' (first | refine for_next hlb (weak_sub (.cons rfl (by rfl) rfl (.cons rfl (by first | rfl | ((rw [hs']; try rfl))) rfl (.cons rfl (by rfl) rfl (.cons rfl (by rfl) rfl (.cons rfl (by rfl) rfl (.cons rfl (by rfl) rfl (.cons rfl (by rfl) rfl .nil))))))) (.cons rfl (by rfl) rfl .nil) (.cons rfl (by first | rfl | ((rw [hs']; try rfl))) .nil)) trivial | (refine rg 6 ?_; refine oCm ?_; refine oN ?_) | (refine rg 7 ?_; refine oMv ?_; refine oAs ?_; refine oN ?_) | (refine rg 8 ?_; refine oMv ?_; refine oMv ?_; refine sp (xinc rfl) ?_; refine oMv ?_; refine sp (xinc rfl) ?_; refine sops_lcall (c2) (fun i => i) (fun i => i) (fun _ => false) (.free rfl rfl) rfl rfl rfl (by ((repeat' (first | exact .nil | refine .cons rfl rfl rfl ?_)) <;> fail)) (.cons rfl rfl .nil) .nil rfl rfl (fun _ h => Bool.noConfusion h) ?_; refine oAs ?_; refine oN ?_) | (refine rg 9 ?_; refine oMv ?_; refine oCm ?_; refine oN ?_) | (refine rg 10 ?_; refine oMv ?_; refine oMv ?_; refine sp (xinc rfl) ?_; refine oMv ?_; refine sp (xinc rfl) ?_; refine oMv ?_; refine sp (po_buildS str61 rfl (pc (pc (pc .nil))) rfl) ?_; refine sp (po_buildSlice rfl (tyE rfl) (dc (.nil _)) rfl rfl rfl) ?_; refine sap rfl (tyE rfl) ?_; refine oAs ?_; refine oN ?_) | (refine rg 11 ?_; refine sp (xinc rfl) ?_; refine oMv ?_; refine oN ?_) | refine gc ?_ | refine ct ?_)
      · rw [if_neg (show ¬ lkP d (a + 1, b + 1) = true by unfold lkP; simpa using hp), List.append_nil] at hs
        repeat' (first | refine for_next hlb (weak_sub (.cons rfl (by rfl) rfl (.cons rfl (by first | rfl | ((rw [hs]; try rfl))) rfl (.cons rfl (by rfl) rfl (.cons rfl (by rfl) rfl (.cons rfl (by rfl) rfl (.cons rfl (by rfl) rfl (.cons rfl (by rfl) rfl .nil))))))) (.cons rfl (by rfl) rfl .nil) (.cons rfl (by first | rfl | ((rw [hs]; try rfl))) .nil)) trivial | (refine rg 6 ?_; refine oCm ?_; refine oN ?_) | (refine rg 7 ?_; refine oMv ?_; refine oAs ?_; refine oN ?_) | (refine rg 8 ?_; refine oMv ?_; refine oMv ?_; refine sp (xinc rfl) ?_; refine oMv ?_; refine sp (xinc rfl) ?_; refine sops_lcall (c2) (fun i => i) (fun i => i) (fun _ => false) (.free rfl rfl) rfl rfl rfl (by ((repeat' (first | exact .nil | refine .cons rfl rfl rfl ?_)) <;> fail)) (.cons rfl rfl .nil) .nil rfl rfl (fun _ h => Bool.noConfusion h) ?_; refine oAs ?_; refine oN ?_) | (refine rg 9 ?_; refine oMv ?_; refine oCm ?_; refine oN ?_) | (refine rg 11 ?_; refine sp (xinc rfl) ?_; refine oMv ?_; refine oN ?_) | refine gc ?_ | refine ct ?_ | refine cf ?_)
    · obtain rfl : b = d.n := by omega
      have hs := outL_s d a
      repeat' (first | refine for_next hlt (weak_sub (.cons rfl (by rfl) rfl (.cons rfl (by first | rfl | ((rw [hs]; try rfl))) rfl (.cons rfl (by rfl) rfl (.cons rfl (by rfl) rfl .nil)))) (.cons rfl (by rfl) rfl .nil) (.cons rfl (by first | rfl | ((rw [hs]; try rfl))) .nil)) trivial | (refine rg 6 ?_; refine oCm ?_; refine oN ?_) | (refine rg 12 ?_; refine sp (xinc rfl) ?_; refine oMv ?_; refine oN ?_) | refine gc ?_ | refine ct ?_ | refine cf ?_)
  · obtain rfl : a = d.n := by omega
    repeat' (first | (refine rg 3 ?_; refine oCm ?_; refine oN ?_) | (refine rg 13 ?_; refine oMv ?_; refine oAs ?_; refine oN ?_) | refine gc ?_ | refine ct ?_ | refine cf ?_ | refine swp_cond rfl (fun hc => ?_) (fun hc => ?_) | refine retl (by exact .inr rfl) rfl (.tmpT rfl (by first | exact .t _ | exact .own rfl (by rfl) | exact .nil _ | exact .emp _ | exact .fn _) .nil) ?_ rfl (.cons rfl (by rfl) rfl .nil) .nil)
    rfl
end Go.Proofs.Ytgbcmjcaggnobaa.Sim
